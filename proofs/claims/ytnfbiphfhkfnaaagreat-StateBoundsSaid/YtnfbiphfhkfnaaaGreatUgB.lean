/-
  The statement StateBounds: of a state that may be, of no line more is authorised, received or paid back than was shipped and paid, without any condition.
-/
import Derived.Test.YtnfbiphfhkfnaaaGreatUgA
import Derived.Test.YtnfbiphfhkfnaaaGreatAwJ
import Derived.Test.YtnfbiphfhkfnaaaGreatAwH
set_option linter.unusedSimpArgs false
set_option linter.unusedVariables false
set_option linter.unusedSimpArgs false
set_option linter.unusedVariables false
set_option maxHeartbeats 2000000
namespace Go.Aw.U1
open Go Go.Proofs

theorem cntT_ge (s : ByteArray) : ∀ (n pos : Nat) (k : Int), k ≤ cntT s n pos k
  | 0, _, k => Int.le_refl _
  | n + 1, pos, k => by
    rw [cntT]
    split
    · have := cntT_ge s n (pos + (Utf8.decode s pos).2) (k + 1); omega
    · exact Int.le_refl _
def eS : ByteArray := ⟨#[]⟩
/-- what is folded of what is left -/
def foldT (s : ByteArray) : Nat → Nat → Int → List Int → ByteArray × Int
  | 0, _, _, out => (runesBytes out, 0)
  | n + 1, pos, last, out => if pos < s.size then (if okR (Utf8.decode s pos).1 last = true then foldT s n (pos + (Utf8.decode s pos).2) (clsF (Utf8.decode s pos).1) (out ++ [foldR (Utf8.decode s pos).1]) else (eS, 9)) else (runesBytes out, 0)
def dashS : ByteArray := ⟨#[45]⟩
def foldF (s : ByteArray) : ByteArray × Int :=
  if cntT s s.size 0 0 < 1 ∨ 16 < cntT s s.size 0 0 ∨ sufB s dashS = true then (eS, 9) else foldT s s.size 0 3 []
theorem rI_ren (ρ : Nat → Nat) : ∀ l : List Int, renL ρ (l.map rI) = l.map rI
  | [] => rfl
  | x :: l => by rw [List.map_cons, renL, rI_ren ρ l]; rfl
def txtE (p : ByteArray × Int) : AV := .tup [sV p.1, nV p.2]
theorem f166 (s : ByteArray) (hs : s.size ≤ 9223372036854775807) : Fun P 166 [sV s] (txtE (foldF s)) := by
  refine spec_of hT (f := 166) (fn := Go.Proofs.Tryz.f166) (c := body Go.Proofs.Tryz.f166) (by kernel_rfl) (by kernel_rfl) ?_
  conv => whnf
  repeat refine go ?_
  refine ACall.val (by kernel_rfl) (f188 s hs) rfl rfl ?_
  conv => whnf
  repeat refine go ?_
  unfold foldF
  generalize hN : cntT s s.size 0 0 = N
  have hN0 : 0 ≤ N := by rw [← hN]; exact cntT_ge s s.size 0 0
  refine ASplit.dec (fun h1 => ?_) (fun h1 => ?_)
  · rw [if_pos (.inl h1)]
    conv => whnf
    repeat refine ru ?_
    exact AFin.val rfl ⟨rfl, rfl⟩
  conv => whnf
  repeat refine ru ?_
  refine ASplit.dec (fun h2 => ?_) (fun h2 => ?_)
  · rw [if_pos (.inr (.inl h2))]
    conv => whnf
    repeat refine ru ?_
    exact AFin.val rfl ⟨rfl, rfl⟩
  conv => whnf
  repeat refine ru ?_
  refine ACall.val (by kernel_rfl) (f189 s dashS hs) rfl rfl ?_
  rcases Bool.eq_false_or_eq_true (sufB s dashS) with g | g
  · rw [if_pos (.inr (.inr g)), g]
    conv => whnf
    repeat refine ru ?_
    exact AFin.val rfl ⟨rfl, rfl⟩
  rw [if_neg (by rw [g]; exact fun h => h.elim h1 (fun h => h.elim h2 (fun h => Bool.noConfusion h))), g]
  conv => whnf
  repeat refine ru ?_
  refine ACall.spec (by kernel_rfl) f190 rfl ?_
  rintro _ _ ⟨rfl, rfl⟩
  have hb21 : (T 21).bytes = 4 := by kernel_rfl
  conv => whnf
  repeat refine go ?_
  refine AReq.mk (by rw [hb21]; omega) ?_
  conv => whnf
  repeat refine go ?_
  refine AOp.rangeS und9 rfl ?_
  conv => whnf
  repeat refine go ?_
  generalize hR : foldT s s.size 0 3 [] = R
  refine ALoop.mk (fun n E H => ∃ (pos : Nat) (last : Int) (out : List Int), s.size - pos ≤ n ∧ cntT s n pos out.length = N ∧ foldT s n pos last out = R ∧
      E = pad [sV s, .any, sV eS, nV 0, nV N, .fn 208 [] [.ptr 0 0], .ms 1 1 0 out.length, .any, .any, .any, .any, .any, .any, .any, .any, .any, .any, .any, .any, .any, .any, .any, .any, .any, .any, .ptr 2 0] 40 ∧
      H = [.cells 3 [nV last], .cells 21 (out.map rI), sIt s pos]) (n := s.size) _ _
    ⟨0, 3, [], by omega, hN, hR, rfl, rfl⟩ (Conv.fit (by repeat' (first | exact Fit.nil | refine Fit.any ?_ | refine Fit.same ?_))) ?_
  rintro n _ _ ⟨pos, last, out, hpn, hC, hI, rfl, rfl⟩
  conv => whnf
  repeat refine go ?_
  refine AOp.nextS (li := 2) (s := s) (pos := pos) rfl rfl (fun h0 => ?_) (fun h0 => ?_)
  · have hR2 : (runesBytes out, (0 : Int)) = R := by
      rw [← hI]
      cases n with
      | zero => rfl
      | succ n => rw [foldT, if_neg h0]
    conv => whnf
    repeat refine ru ?_
    refine AOut.stay ?_
    conv => whnf
    refine AW.seq ?_
    conv => whnf
    refine AW.region ?_
    conv => whnf
    refine AO.cons hT ?_
    conv => whnf
    refine AO.consA rfl ?_
    refine AOp.runes (l := 1) (ns := out) (t' := 21) und256 und21 und9 ?_ ?_ ?_
    · rfl
    · rfl
    conv => whnf
    repeat refine go ?_
    exact AFin.val rfl ⟨congrArg txtE hR2, rfl⟩
  · obtain ⟨n, rfl⟩ : ∃ m, n = m + 1 := ⟨n - 1, by omega⟩
    have hw := dec_pos s pos
    rw [foldT, if_pos h0] at hI
    rw [cntT, if_pos h0] at hC
    have hge := cntT_ge s n (pos + (Utf8.decode s pos).2) (out.length + 1)
    conv => whnf
    repeat refine ru ?_
    refine ACall.of (by kernel_rfl) (f208 (Utf8.decode s pos).1 last) [0] [] (by simp) (.same rfl .nil) (by simp) (by simp) (LendL.same [rI (Utf8.decode s pos).1, .ptr 0 0]) (.inl rfl) ?_
    rintro _ _ ⟨rfl, rfl⟩
    rcases Bool.eq_false_or_eq_true (okR (Utf8.decode s pos).1 last) with g | g
    case inr =>
      rw [g, if_neg (by decide)] at hI
      rw [g]
      conv => whnf
      repeat refine ru ?_
      refine AOut.stay ?_
      conv => whnf
      repeat refine ru ?_
      exact AFin.val rfl ⟨congrArg txtE hI, rfl⟩
    rw [g, if_pos rfl] at hI
    rw [g]
    conv => whnf
    repeat refine ru ?_
    refine ACall.val (by kernel_rfl) (f191 (Utf8.decode s pos).1) rfl rfl ?_
    conv => whnf
    repeat (first | refine ru ?_ | (refine AReq.mk (by rw [hb21]; simp; omega) ?_; conv => whnf))
    refine AHead.mk n _ _ (by omega) ⟨pos + (Utf8.decode s pos).2, _, out ++ [foldR (Utf8.decode s pos).1], by omega, ?_, hI, rfl, rfl⟩ ?_
    · rw [List.length_append]; exact hC
    · rw [show (out ++ [foldR (Utf8.decode s pos).1]).length = out.length + 1 by simp, show (out ++ [foldR (Utf8.decode s pos).1]).map rI = out.map rI ++ [rI (foldR (Utf8.decode s pos).1)] by simp]
      exact Conv.ren [0, 3, 2] _ (by simp) (by decide) (by repeat' (first | exact Fit.nil | refine Fit.any ?_ | refine Fit.same ?_)) (.same rfl (.same (by simp only [ABlk.ren, renL_append, rI_ren]; rfl) (.same rfl .nil)))
def serC (s : ByteArray) : Int := if !decide ((foldF s).2 = 0) || !((foldF s).1.toList == s.toList) then 9 else 0
theorem f128 (s : ByteArray) (hs : s.size ≤ 9223372036854775807) : Fun P 128 [sV s] (nV (serC s)) := by
  refine spec_of hT (f := 128) (fn := Go.Proofs.Tryz.f128) (c := body Go.Proofs.Tryz.f128) (by kernel_rfl) (by kernel_rfl) ?_
  conv => whnf
  repeat' (first | refine go ?_ | ((first | refine ASplit.yes rfl ?_ | refine ASplit.no rfl ?_ | refine ACond.yes rfl ?_ | refine ACond.no rfl ?_ | refine ASplit.dec (fun _ => ?_) (fun _ => ?_) | refine ASplit.ndec (fun _ => ?_) (fun _ => ?_) | refine ACond.dec (fun _ => ?_) (fun _ => ?_) | refine ACond.ndec (fun _ => ?_) (fun _ => ?_) | refine ACall.val (by kernel_rfl) (f166 s hs) rfl rfl ?_ | (refine ASplit.mk (fun _ => ?_) (fun _ => ?_)) | (refine ACond.mk (fun _ => ?_) (fun _ => ?_))) <;> conv => whnf))
  all_goals refine AFin.val rfl ⟨congrArg nV ?_, rfl⟩
  all_goals simp_all [serC]
end Go.Aw.U1

set_option linter.unusedSimpArgs false
set_option linter.unusedVariables false
set_option maxHeartbeats 2000000
namespace Go.Aw.U1
open Go Go.Proofs

def ssOk (l : List ByteArray) : Prop := l.length ≤ 9223372036854775807 ∧ ∀ s ∈ l, s.size ≤ 9223372036854775807
def ltB : Option ByteArray → ByteArray → Bool
  | none, _ => true
  | some p, s => Op.bytesLess p.toList s.toList
def rowT : Option ByteArray → List ByteArray → Int
  | _, [] => 0
  | p, s :: l => if serC s = 0 then if ltB p s = true then rowT (some s) l else 32 else serC s
def rowF (l : List ByteArray) : Int := rowT none l
theorem rowT_drop {l : List ByteArray} {i : Nat} {p : Option ByteArray} (h : i < l.length) : rowT p (l.drop i) = if serC l[i] = 0 then if ltB p l[i] = true then rowT (some l[i]) (l.drop (i + 1)) else 32 else serC l[i] := by
  rw [List.drop_eq_getElem_cons h, rowT]
theorem f63 (l : List ByteArray) (hl : ssOk l) : Fun P 63 [ssV l] (nV (rowF l)) := by
  refine spec_of hT (f := 63) (fn := Go.Proofs.Tryz.f63) (c := body Go.Proofs.Tryz.f63) (by kernel_rfl) (by kernel_rfl) ?_
  have hl1 := hl.1
  unfold rowF
  generalize hR : rowT none l = R
  conv => whnf
  repeat refine go ?_
  refine ALoop.mk (fun n E H => ∃ (i : Nat) (p : Option ByteArray), n = l.length - i ∧ i ≤ l.length ∧ (i = 0 ∧ p = none ∨ 0 < i ∧ p = l[i - 1]?) ∧ rowT p (l.drop i) = R ∧
      E = pad [ssV l, .any, nV 0, .any, .any, .any, ssV l, nV l.length, nV i] 30 ∧ H = []) (n := l.length) _ _
    ⟨0, none, rfl, Nat.zero_le _, .inl ⟨rfl, rfl⟩, hR, rfl, rfl⟩ (Conv.fit (by repeat' (first | exact Fit.nil | refine Fit.any ?_ | refine Fit.same ?_))) ?_
  rintro _ _ _ ⟨i, p, rfl, hi, hp, hI, rfl, rfl⟩
  conv => whnf
  repeat refine go ?_
  refine ACond.dec (fun h => ?_) (fun h => ?_)
  · have hil : i < l.length := by omega
    have w1 : IntKind.wrap .i64 ((i : Int) + 1) = ((i + 1 : Nat) : Int) := by rw [wrap_i64 _ (by omega) (by omega)]; omega
    rw [rowT_drop hil] at hI
    conv => whnf
    repeat (first | refine go ?_ | ((first | refine AReq.mk (by omega) ?_ | refine AIdx.flat (enc := sC) sC_len (xs := l) (i := i) hil ?_ | refine ACall.val (by kernel_rfl) (f128 l[i] (hl.2 _ (List.getElem_mem hil))) rfl rfl ?_); conv => whnf))
    refine ACond.ndec (fun h4 => ?_) (fun h4 => ?_)
    · rw [if_neg h4] at hI
      conv => whnf
      repeat (first | refine go ?_ | ((first | refine AReq.mk (by omega) ?_ | refine AIdx.flat (enc := sC) sC_len (xs := l) (i := i) hil ?_ | refine ACall.val (by kernel_rfl) (f128 l[i] (hl.2 _ (List.getElem_mem hil))) rfl rfl ?_); conv => whnf))
      refine AOut.stay ?_
      conv => whnf
      repeat (first | refine go ?_ | ((first | refine AReq.mk (by omega) ?_ | refine AIdx.flat (enc := sC) sC_len (xs := l) (i := i) hil ?_ | refine ACall.val (by kernel_rfl) (f128 l[i] (hl.2 _ (List.getElem_mem hil))) rfl rfl ?_); conv => whnf))
      exact AFin.val rfl ⟨congrArg nV hI, rfl⟩
    rw [if_pos h4] at hI
    conv => whnf
    repeat (first | refine go ?_ | ((first | refine AReq.mk (by omega) ?_ | refine AIdx.flat (enc := sC) sC_len (xs := l) (i := i) hil ?_ | refine ACall.val (by kernel_rfl) (f128 l[i] (hl.2 _ (List.getElem_mem hil))) rfl rfl ?_); conv => whnf))
    refine ASplit.dec (fun h5 => ?_) (fun h5 => ?_)
    · rcases hp with ⟨rfl, _⟩ | ⟨h0, hp⟩
      · exact absurd h5 (by simp)
      have hlt : i - 1 < l.length := by clear hp; omega
      rw [List.getElem?_eq_getElem hlt] at hp
      subst hp
      have w2 : IntKind.wrap .i64 ((i : Int) - 1) = ((i - 1 : Nat) : Int) := by rw [wrap_i64 _ (by omega) (by omega)]; omega
      conv => whnf
      repeat (first | refine go ?_ | (refine AReq.mk (by omega) ?_; conv => whnf))
      rw [w2]
      conv => whnf
      repeat (first | refine go ?_ | (refine AReq.mk (by omega) ?_; conv => whnf))
      refine AIdx.flat (enc := sC) sC_len (xs := l) (i := i - 1) (by omega) ?_
      conv => whnf
      repeat (first | refine go ?_ | (refine AReq.mk (by omega) ?_; conv => whnf))
      refine ACond.mk (fun h6 => ?_) (fun h6 => ?_)
      · rw [if_neg (show ¬ (ltB (some l[i - 1]) l[i] = true) by have := nb1 h6; exact fun e => Bool.noConfusion (e.symm.trans this))] at hI
        conv => whnf
        repeat (first | refine go ?_ | (refine AReq.mk (by omega) ?_; conv => whnf))
        refine AOut.stay ?_
        conv => whnf
        repeat (first | refine go ?_ | (refine AReq.mk (by omega) ?_; conv => whnf))
        exact AFin.val rfl ⟨congrArg nV hI, rfl⟩
      · rw [if_pos (show ltB (some l[i - 1]) l[i] = true from nb0 h6)] at hI
        conv => whnf
        repeat (first | refine go ?_ | (refine AReq.mk (by omega) ?_; conv => whnf))
        rw [w1]
        exact AHead.mk (l.length - (i + 1)) _ _ (by omega) ⟨i + 1, _, rfl, by omega, .inr ⟨by omega, by simp [hil]⟩, hI, rfl, rfl⟩ (Conv.fit (by repeat' (first | exact Fit.nil | refine Fit.any ?_ | refine Fit.same ?_)))
    · rcases hp with ⟨rfl, rfl⟩ | ⟨h0, hp⟩
      · rw [if_pos (show ltB none l[0] = true from rfl)] at hI
        conv => whnf
        repeat refine go ?_
        refine ACond.no rfl ?_
        conv => whnf
        repeat refine go ?_
        rw [w1]
        exact AHead.mk (l.length - (0 + 1)) _ _ (by omega) ⟨0 + 1, _, rfl, by omega, .inr ⟨by omega, by simp [hil]⟩, hI, rfl, rfl⟩ (Conv.fit (by repeat' (first | exact Fit.nil | refine Fit.any ?_ | refine Fit.same ?_)))
      · omega
  · rw [List.drop_of_length_le (by omega)] at hI
    conv => whnf
    repeat refine go ?_
    refine AOut.stay ?_
    conv => whnf
    repeat refine go ?_
    exact AFin.val rfl ⟨congrArg nV hI, rfl⟩
def lineC (l : Ln) : Int := if l.item < 1 ∨ 999999 < l.item then 2 else if mayB l = true then if (l.ss.length : Int) < 1 ∨ 20 < (l.ss.length : Int) ∨ rowF l.ss ≠ 0 then 9 else 0 else 8
def lnOk (l : Ln) : Prop := ssOk l.ss ∧ l.ss.length ≤ 1000000
theorem f41 (l : Ln) (hl : lnOk l) : Fun P 41 [lnA l] (nV (lineC l)) := by
  refine spec_of hT (f := 41) (fn := Go.Proofs.Tryz.f41) (c := body Go.Proofs.Tryz.f41) (by kernel_rfl) (by kernel_rfl) ?_
  unfold lineC
  conv => whnf
  repeat' (first | refine go ?_ | ((first | refine ASplit.yes rfl ?_ | refine ASplit.no rfl ?_ | refine ACond.yes rfl ?_ | refine ACond.no rfl ?_ | refine ASplit.dec (fun _ => ?_) (fun _ => ?_) | refine ASplit.ndec (fun _ => ?_) (fun _ => ?_) | refine ACond.dec (fun _ => ?_) (fun _ => ?_) | refine ACond.ndec (fun _ => ?_) (fun _ => ?_) | refine ACall.val (by kernel_rfl) (f63 l.ss hl.1) (by (first | rfl | (simp only [renL, AV.ren, List.nil_append, List.cons_append, rens]; try rfl))) rfl ?_ | refine ACall.val (by kernel_rfl) (f121 l) (by (first | rfl | (simp only [renL, AV.ren, List.nil_append, List.cons_append, rens]; try rfl))) rfl ?_ | (refine ASplit.mk (fun _ => ?_) (fun _ => ?_)) | (refine ACond.mk (fun _ => ?_) (fun _ => ?_))) <;> conv => whnf))
  all_goals refine AFin.val rfl ⟨congrArg nV ?_, rfl⟩
  all_goals (simp_all <;> omega)
end Go.Aw.U1

set_option linter.unusedSimpArgs false
set_option linter.unusedVariables false
set_option maxHeartbeats 2000000
namespace Go.Aw.U1
open Go Go.Proofs

theorem und3 : P.underlying 3 = some (.int .i64) := by kernel_rfl
def nOk (n : Int) : Prop := (Lit.int .i64 n).wf = true
theorem nOk_of {n : Int} (h1 : -9223372036854775808 ≤ n) (h2 : n ≤ 9223372036854775807) : nOk n := by
  simp [nOk, Lit.wf, IntKind.min, IntKind.max, IntKind.signed, IntKind.bits]; omega
theorem nK : KEnc P 3 (fun n : Int => Value.int .i64 n) nV nOk where
  keyed := Go.Maps.int_keyed und3
  lit := fun a h => ⟨_, Go.Maps.keyOf_int_mk und3 h⟩
  inj := by intro a b h; simpa using h
  rep := by intro w m I a y h; simp only [nV, Rep] at h; exact h
def sOk (s : ByteArray) : Prop := s.size ≤ 9223372036854775807
theorem sK : KEnc P 9 (fun s : ByteArray => Value.string s) sV sOk where
  keyed := Go.Maps.string_keyed und9
  lit := by
    intro a h
    refine ⟨.string a.data.toList, ?_⟩
    simp only [keyOf, und9, mapKey]
    exact if_pos h
  inj := by intro a b h; simpa using h
  rep := by intro w m I a y h; simp only [sV, Rep] at h; exact h
theorem und126 : P.underlying 126 = some (.map 9 4) := by kernel_rfl

theorem hne4 : (T 4).u ≠ .other := by simp [show (T 4).u = .bool from rfl]
theorem hne3 : (T 3).u ≠ .other := by simp [show (T 3).u = .int .i64 from rfl]
theorem ren_emS (ρ : Nat → Nat) (L : List (ByteArray × Bool)) : (em sV bV L).map (fun x => (x.1.ren ρ, x.2.ren ρ)) = em sV bV L := by
  simp [em, AV.ren, Function.comp_def]
theorem ren_emB (ρ : Nat → Nat) (L : List (Int × Bool)) : (em nV bV L).map (fun x => (x.1.ren ρ, x.2.ren ρ)) = em nV bV L := by
  simp [em, AV.ren, Function.comp_def]
theorem ren_emI (ρ : Nat → Nat) (L : List (Int × Int)) : (em nV nV L).map (fun x => (x.1.ren ρ, x.2.ren ρ)) = em nV nV L := by
  simp [em, AV.ren, Function.comp_def]
def lnsOk (l : List Ln) : Prop := l.length ≤ 1000000 ∧ ∀ x ∈ l, lnOk x
def odOk (o : Od) : Prop := lnsOk o.ls
def totT : List Ln → Int → Int × Int
  | [], n => (n, 0)
  | l :: ls, n => if (addT [n, l.net, l.tax] 0).2 = 0 then totT ls (addT [n, l.net, l.tax] 0).1 else (0, (addT [n, l.net, l.tax] 0).2)
theorem f42 (l : List Ln) (hl : l.length ≤ 1000000) : Fun P 42 [lnsV l] (numE (totT l 0)) := by
  refine spec_of hT (f := 42) (fn := Go.Proofs.Tryz.f42) (c := body Go.Proofs.Tryz.f42) (by kernel_rfl) (by kernel_rfl) ?_
  generalize hR : totT l 0 = R
  conv => whnf
  repeat refine go ?_
  refine ALoop.mk (fun n E H => ∃ (i : Nat) (s : Int), n = l.length - i ∧ i ≤ l.length ∧ totT (l.drop i) s = R ∧
      E = pad [lnsV l, .any, nV 0, nV 0, nV s, .any, .any, .any, .any, lnsV l, nV l.length, nV i] 31 ∧ H = []) (n := l.length) _ _
    ⟨0, 0, rfl, Nat.zero_le _, hR, rfl, rfl⟩ (Conv.fit (by repeat' (first | exact Fit.nil | refine Fit.any ?_ | refine Fit.same ?_))) ?_
  rintro _ _ _ ⟨i, s, rfl, hi, hI, rfl, rfl⟩
  conv => whnf
  repeat refine go ?_
  refine ACond.dec (fun h => ?_) (fun h => ?_)
  · have hil : i < l.length := by omega
    have w1 : IntKind.wrap .i64 ((i : Int) + 1) = ((i + 1 : Nat) : Int) := by rw [wrap_i64 _ (by omega) (by omega)]; omega
    rw [List.drop_eq_getElem_cons hil, totT] at hI
    conv => whnf
    repeat (first | refine go ?_ | ((first | refine AReq.mk (by omega) ?_ | refine AIdx.flat (enc := lnC) lnC_len (xs := l) (i := i) hil ?_ | refine ACall.fun (args0 := [isV [s, l[i].net, l[i].tax]]) (by kernel_rfl) (f122 [s, l[i].net, l[i].tax] (by simp)) [] (by simp) (.cons (.vx rfl) .nil) (.inl rfl) rfl ?_); conv => whnf))
    refine ACond.ndec (fun h4 => ?_) (fun h4 => ?_)
    · rw [if_neg h4] at hI
      conv => whnf
      repeat (first | refine go ?_ | ((first | refine AReq.mk (by omega) ?_ | refine AIdx.flat (enc := lnC) lnC_len (xs := l) (i := i) hil ?_ | refine ACall.fun (args0 := [isV [s, l[i].net, l[i].tax]]) (by kernel_rfl) (f122 [s, l[i].net, l[i].tax] (by simp)) [] (by simp) (.cons (.vx rfl) .nil) (.inl rfl) rfl ?_); conv => whnf))
      refine AOut.stay ?_
      conv => whnf
      repeat (first | refine go ?_ | ((first | refine AReq.mk (by omega) ?_ | refine AIdx.flat (enc := lnC) lnC_len (xs := l) (i := i) hil ?_ | refine ACall.fun (args0 := [isV [s, l[i].net, l[i].tax]]) (by kernel_rfl) (f122 [s, l[i].net, l[i].tax] (by simp)) [] (by simp) (.cons (.vx rfl) .nil) (.inl rfl) rfl ?_); conv => whnf))
      exact AFin.val rfl ⟨congrArg numE hI, rfl⟩
    · rw [if_pos h4] at hI
      conv => whnf
      repeat (first | refine go ?_ | ((first | refine AReq.mk (by omega) ?_ | refine AIdx.flat (enc := lnC) lnC_len (xs := l) (i := i) hil ?_ | refine ACall.fun (args0 := [isV [s, l[i].net, l[i].tax]]) (by kernel_rfl) (f122 [s, l[i].net, l[i].tax] (by simp)) [] (by simp) (.cons (.vx rfl) .nil) (.inl rfl) rfl ?_); conv => whnf))
      rw [w1]
      exact AHead.mk (l.length - (i + 1)) _ _ (by omega) ⟨i + 1, _, rfl, by omega, hI, rfl, rfl⟩ (Conv.ren [] _ (by simp) (by simp) (by simp only [pad, renL, AV.ren, rens]; repeat' (first | exact Fit.nil | refine Fit.any ?_ | refine Fit.same ?_)) .nil)
  · rw [List.drop_of_length_le (by omega)] at hI
    conv => whnf
    repeat refine go ?_
    refine AOut.stay ?_
    conv => whnf
    repeat refine go ?_
    exact AFin.val rfl ⟨congrArg numE hI, rfl⟩

/-- texts that were seen, one by one: none, when one comes again -/
def twS : List ByteArray → (ByteArray → Bool) → Option (ByteArray → Bool)
  | [], g => some g
  | s :: l, g => if g s = true then none else twS l (upd g s true)
def twL : List Ln → (ByteArray → Bool) → Bool
  | [], _ => false
  | l :: ls, g => match twS l.ss g with
    | none => true
    | some g => twL ls g
def twM (o : Option (ByteArray → Bool)) (ls : List Ln) : Bool :=
  match o with
  | none => true
  | some g => twL ls g
theorem f43 (l : List Ln) (hl : lnsOk l) : Fun P 43 [lnsV l] (bV (twL l (fun _ => false))) := by
  refine spec_of hT (f := 43) (fn := Go.Proofs.Tryz.f43) (c := body Go.Proofs.Tryz.f43) (by kernel_rfl) (by kernel_rfl) ?_
  generalize hR : twL l (fun _ => false) = R
  have hl1 := hl.1
  conv => whnf
  repeat refine go ?_
  refine AOp.makeMap ?_
  conv => whnf
  repeat refine go ?_
  refine ALoop.mk (fun n E H => ∃ (i : Nat) (g : ByteArray → Bool) (L : List (ByteArray × Bool)) (bs : List Nat) (clk : Nat), n = l.length - i ∧ i ≤ l.length ∧ MapIs sOk L false g ∧ twL (l.drop i) g = R ∧
      E = pad [lnsV l, .any, bV false, .mp 0, .any, .any, .any, .any, .any, lnsV l, nV l.length, nV i] 29 ∧ H = [.map (em sV bV L) bs clk]) (n := l.length) _ _
    ⟨0, _, [], [], 0, rfl, Nat.zero_le _, MapIs.nil, hR, rfl, rfl⟩ (Conv.fit (by repeat' (first | exact Fit.nil | refine Fit.any ?_ | refine Fit.same ?_))) ?_
  rintro _ _ _ ⟨i, g, L, bs, clk, rfl, hi, hM, hI, rfl, rfl⟩
  conv => whnf
  repeat refine go ?_
  refine ACond.dec (fun h => ?_) (fun h => ?_)
  · have hil : i < l.length := by omega
    have w1 : IntKind.wrap .i64 ((i : Int) + 1) = ((i + 1 : Nat) : Int) := by rw [wrap_i64 _ (by omega) (by omega)]; omega
    have hss : ssOk l[i].ss := (hl.2 _ (List.getElem_mem hil)).1
    have hs1 := hss.1
    rw [List.drop_eq_getElem_cons hil, twL] at hI
    have hI' : twM (twS l[i].ss g) (l.drop (i + 1)) = R := hI
    clear hI
    conv => whnf
    repeat (first | refine go ?_ | ((first | refine AReq.mk (by omega) ?_ | refine AIdx.flat (enc := lnC) lnC_len (xs := l) (i := i) hil ?_); conv => whnf))
    generalize hss2 : l[i].ss = ss at hss hs1 hI'
    refine ALoop.mk (fun n E H => ∃ (k : Nat) (g : ByteArray → Bool) (L : List (ByteArray × Bool)) (bs : List Nat) (clk : Nat) (x : ABlk), n = ss.length - k ∧ k ≤ ss.length ∧ MapIs sOk L false g ∧ twM (twS (ss.drop k) g) (l.drop (i + 1)) = R ∧
        E = pad [lnsV l, .any, bV false, .mp 0, .any, .any, .any, .any, .any, lnsV l, nV l.length, nV i, .any, .any, .any, .any, ssV ss, nV ss.length, nV k] 29 ∧ H = [.map (em sV bV L) bs clk, x]) (n := ss.length) _ _
      ⟨0, _, L, bs, clk, _, rfl, Nat.zero_le _, hM, hI', rfl, rfl⟩ (Conv.fit (by simp only [lnC, hss2]; repeat' (first | exact Fit.nil | refine Fit.any ?_ | refine Fit.same ?_))) ?_
    rintro _ _ _ ⟨k, g, L, bs, clk, x, rfl, hk, hM, hI, rfl, rfl⟩
    conv => whnf
    repeat refine go ?_
    refine ACond.dec (fun h2 => ?_) (fun h2 => ?_)
    · have hkl : k < ss.length := by omega
      have w2 : IntKind.wrap .i64 ((k : Int) + 1) = ((k + 1 : Nat) : Int) := by rw [wrap_i64 _ (by omega) (by omega)]; omega
      rw [List.drop_eq_getElem_cons hkl, twS] at hI
      conv => whnf
      repeat refine go ?_
      refine AReq.mk (by omega) ?_
      conv => whnf
      repeat refine go ?_
      refine AIdx.flat (enc := sC) sC_len (xs := ss) (i := k) hkl ?_
      conv => whnf
      repeat refine go ?_
      refine AOp.getM 0 ss[k] hT sK und126 hne4 (eb := bV) rfl hM (hss.2 _ (List.getElem_mem hkl)) rfl rfl rfl ?_
      conv => whnf
      repeat refine go ?_
      refine ACond.mk (fun h4 => ?_) (fun h4 => ?_)
      · rw [if_pos h4] at hI
        conv => whnf
        repeat refine go ?_
        refine AOut.stay ?_
        conv => whnf
        repeat refine go ?_
        refine AOut.stay ?_
        conv => whnf
        repeat refine go ?_
        exact AFin.val rfl ⟨congrArg bV hI, rfl⟩
      · rw [if_neg (by rw [h4]; decide)] at hI
        conv => whnf
        repeat refine go ?_
        refine AOp.putM 0 ss[k] true sK und126 hM (hss.2 _ (List.getElem_mem hkl)) rfl rfl rfl rfl ?_
        intro L' bs' clk' hM'
        conv => whnf
        repeat refine go ?_
        rw [w2]
        exact AHead.mk (ss.length - (k + 1)) _ _ (by omega) ⟨k + 1, _, L', bs', clk', _, rfl, by omega, hM', hI, rfl, rfl⟩ (Conv.fit (by repeat' (first | exact Fit.nil | refine Fit.any ?_ | refine Fit.same ?_)))
    · rw [List.drop_of_length_le (by omega)] at hI
      conv => whnf
      repeat refine go ?_
      refine AOut.stay ?_
      conv => whnf
      repeat refine go ?_
      rw [w1]
      exact AHead.mk (l.length - (i + 1)) _ _ (by omega) ⟨i + 1, g, L, bs, clk, rfl, by omega, hM, hI, rfl, rfl⟩ (Conv.ren [0] _ (by simp) (by simp) (by simp only [pad, renL, AV.ren, rens]; repeat' (first | exact Fit.nil | refine Fit.any ?_ | refine Fit.same ?_)) (.same (by simp only [ABlk.ren, ren_emS]; rfl) .nil))
  · rw [List.drop_of_length_le (by omega)] at hI
    conv => whnf
    repeat refine go ?_
    refine AOut.stay ?_
    conv => whnf
    repeat refine go ?_
    exact AFin.val rfl ⟨congrArg bV hI, rfl⟩
end Go.Aw.U1

set_option linter.unusedSimpArgs false
set_option linter.unusedVariables false
set_option maxHeartbeats 2000000
namespace Go.Aw.U1
open Go Go.Proofs

def headB (o : Od) : Bool := decide (1 ≤ o.id) && decide (o.id ≤ 999999) && timeB o.at_ && decide (1 ≤ (o.ls.length : Int)) && decide ((o.ls.length : Int) ≤ 8)
def ordB (o : Od) : Bool := headB o && o.ls.all (fun l => decide (lineC l = 0)) && decide ((totT o.ls 0).2 = 0) && !twL o.ls (fun _ => false)
def ordC (o : Od) : Int := if ordB o then 0 else 40
theorem all_get {α : Type} {p : α → Bool} {l : List α} {i : Nat} (h : i < l.length) (hb : p l[i] = false) : l.all p = false := by
  cases h2 : l.all p with
  | false => rfl
  | true => rw [List.all_eq_true] at h2; rw [h2 _ (List.getElem_mem h)] at hb; cases hb
theorem f11 (o : Od) (ho : odOk o) : Fun P 11 [odA o] (nV (ordC o)) := by
  refine spec_of hT (f := 11) (fn := Go.Proofs.Tryz.f11) (c := body Go.Proofs.Tryz.f11) (by kernel_rfl) (by kernel_rfl) ?_
  have hlen := ho.1
  have hC : ∀ b, ordB o = b → ordC o = if b = true then 0 else 40 := fun b h => by rw [ordC, h]
  generalize ordC o = R at hC
  have hhead : headB o = true ↔ 1 ≤ o.id ∧ o.id ≤ 999999 ∧ timeB o.at_ = true ∧ 1 ≤ (o.ls.length : Int) ∧ (o.ls.length : Int) ≤ 8 := by simp [headB, and_assoc]
  have hno : headB o = false → R = 40 := fun h => by rw [hC false (by simp [ordB, h])]; rfl
  have hnh : ∀ {q : Prop}, q → (q → headB o = true → False) → headB o = false := fun q h => by
    cases e : headB o with
    | false => rfl
    | true => exact (h q e).elim
  conv => whnf
  repeat refine go ?_
  refine ASplit.dec (fun h1 => ?_) (fun h1 => ?_)
  · conv => whnf
    repeat refine ru ?_
    exact AFin.val rfl ⟨congrArg nV (hno (hnh h1 fun h1 e => by have := hhead.1 e; omega)).symm, rfl⟩
  conv => whnf
  repeat refine ru ?_
  refine ASplit.dec (fun h2 => ?_) (fun h2 => ?_)
  · conv => whnf
    repeat refine ru ?_
    exact AFin.val rfl ⟨congrArg nV (hno (hnh h2 fun h1 e => by have := hhead.1 e; omega)).symm, rfl⟩
  conv => whnf
  repeat refine ru ?_
  refine ACall.val (by kernel_rfl) (f40 o.at_) rfl rfl ?_
  rcases Bool.eq_false_or_eq_true (timeB o.at_) with g | g
  case inr =>
    rw [g]
    conv => whnf
    repeat refine ru ?_
    exact AFin.val rfl ⟨congrArg nV (hno (hnh g fun h1 e => by have := hhead.1 e; rw [h1] at this; exact Bool.noConfusion this.2.2.1)).symm, rfl⟩
  rw [g]
  conv => whnf
  repeat refine ru ?_
  refine ASplit.dec (fun h3 => ?_) (fun h3 => ?_)
  · conv => whnf
    repeat refine ru ?_
    exact AFin.val rfl ⟨congrArg nV (hno (hnh h3 fun h1 e => by have := hhead.1 e; omega)).symm, rfl⟩
  conv => whnf
  repeat refine ru ?_
  refine ACond.dec (fun h4 => ?_) (fun h4 => ?_)
  · conv => whnf
    repeat refine ru ?_
    exact AFin.val rfl ⟨congrArg nV (hno (hnh h4 fun h1 e => by have := hhead.1 e; omega)).symm, rfl⟩
  have hh : headB o = true := hhead.2 ⟨by omega, by omega, g, by omega, by omega⟩
  conv => whnf
  repeat refine ru ?_
  refine ALoop.mk (fun n E H => ∃ (i : Nat), n = o.ls.length - i ∧ i ≤ o.ls.length ∧ (∀ k (h : k < o.ls.length), k < i → lineC o.ls[k] = 0) ∧
      E = pad [odA o, .ptr 0 0, nV 0, .any, .any, .any, .any, .any, .any, .any, .any, .any, .any, .any, .any, .any, .any, .any, .any, .any, .any, .any, .any, .any, .any, .any, .any, .any, .any, .any, .any, .any, .any, .any, lnsV o.ls, nV o.ls.length, nV i] 57 ∧ H = [.cells 46 (odC o)]) (n := o.ls.length) _ _
    ⟨0, rfl, Nat.zero_le _, fun k _ h => absurd h (Nat.not_lt_zero _), rfl, rfl⟩ (Conv.fit (by repeat' (first | exact Fit.nil | refine Fit.any ?_ | refine Fit.same ?_))) ?_
  rintro _ _ _ ⟨i, rfl, hi, hI, rfl, rfl⟩
  conv => whnf
  repeat refine go ?_
  refine ACond.dec (fun h => ?_) (fun h => ?_)
  · have hil : i < o.ls.length := by omega
    have w1 : IntKind.wrap .i64 ((i : Int) + 1) = ((i + 1 : Nat) : Int) := by rw [wrap_i64 _ (by omega) (by omega)]; omega
    conv => whnf
    repeat (first | refine go ?_ | ((first | refine AReq.mk (by omega) ?_ | refine AIdx.flat (enc := lnC) lnC_len (xs := o.ls) (i := i) hil ?_ | refine ACall.val (by kernel_rfl) (f41 o.ls[i] (ho.2 _ (List.getElem_mem hil))) (by (first | rfl | (simp only [renL, AV.ren, List.nil_append, List.cons_append, rens]; try rfl))) rfl ?_); conv => whnf))
    refine ACond.ndec (fun h4 => ?_) (fun h4 => ?_)
    · conv => whnf
      repeat (first | refine go ?_ | ((first | refine AReq.mk (by omega) ?_ | refine AIdx.flat (enc := lnC) lnC_len (xs := o.ls) (i := i) hil ?_ | refine ACall.val (by kernel_rfl) (f41 o.ls[i] (ho.2 _ (List.getElem_mem hil))) (by (first | rfl | (simp only [renL, AV.ren, List.nil_append, List.cons_append, rens]; try rfl))) rfl ?_); conv => whnf))
      refine AOut.stay ?_
      conv => whnf
      repeat (first | refine go ?_ | ((first | refine AReq.mk (by omega) ?_ | refine AIdx.flat (enc := lnC) lnC_len (xs := o.ls) (i := i) hil ?_ | refine ACall.val (by kernel_rfl) (f41 o.ls[i] (ho.2 _ (List.getElem_mem hil))) (by (first | rfl | (simp only [renL, AV.ren, List.nil_append, List.cons_append, rens]; try rfl))) rfl ?_); conv => whnf))
      refine AFin.val rfl ⟨congrArg nV ?_, rfl⟩
      rw [hC false ?_]; rfl
      rw [ordB, all_get hil (by rw [decide_eq_false h4])]
      simp
    · conv => whnf
      repeat (first | refine go ?_ | ((first | refine AReq.mk (by omega) ?_ | refine AIdx.flat (enc := lnC) lnC_len (xs := o.ls) (i := i) hil ?_ | refine ACall.val (by kernel_rfl) (f41 o.ls[i] (ho.2 _ (List.getElem_mem hil))) (by (first | rfl | (simp only [renL, AV.ren, List.nil_append, List.cons_append, rens]; try rfl))) rfl ?_); conv => whnf))
      rw [w1]
      refine AHead.mk (o.ls.length - (i + 1)) _ _ (by omega) ⟨i + 1, rfl, by omega, ?_, rfl, rfl⟩ (Conv.ren [0] _ (by simp) (by simp) (by simp only [pad, renL, AV.ren, rens]; repeat' (first | exact Fit.nil | refine Fit.any ?_ | refine Fit.same ?_)) (.same (by simp only [ABlk.ren, odC_ren]; rfl) .nil))
      intro k hk hki
      rcases Nat.lt_or_ge k i with g | g
      · exact hI k hk g
      · obtain rfl : k = i := by omega
        exact h4
  · have hall : o.ls.all (fun l => decide (lineC l = 0)) = true := by
      rw [List.all_eq_true]
      intro r hr
      obtain ⟨k, hk, rfl⟩ := List.mem_iff_getElem.1 hr
      exact decide_eq_true (hI k hk (by omega))
    conv => whnf
    repeat refine go ?_
    refine AOut.stay ?_
    conv => whnf
    repeat (first | refine go ?_ | ((first | refine ACall.val (by kernel_rfl) (f42 o.ls hlen) (by (first | rfl | (simp only [renL, AV.ren, List.nil_append, List.cons_append, rens]; try rfl))) rfl ?_ | refine ACall.val (by kernel_rfl) (f43 o.ls ho) (by (first | rfl | (simp only [renL, AV.ren, List.nil_append, List.cons_append, rens]; try rfl))) rfl ?_); conv => whnf))
    refine ASplit.ndec (fun h4 => ?_) (fun h4 => ?_)
    · conv => whnf
      repeat (first | refine ru ?_ | ((first | refine ACall.val (by kernel_rfl) (f42 o.ls hlen) (by (first | rfl | (simp only [renL, AV.ren, List.nil_append, List.cons_append, rens]; try rfl))) rfl ?_ | refine ACall.val (by kernel_rfl) (f43 o.ls ho) (by (first | rfl | (simp only [renL, AV.ren, List.nil_append, List.cons_append, rens]; try rfl))) rfl ?_); conv => whnf))
      refine AFin.val rfl ⟨congrArg nV ?_, rfl⟩
      rw [hC false (by rw [ordB, decide_eq_false h4]; simp)]; rfl
    · conv => whnf
      repeat (first | refine ru ?_ | ((first | refine ACall.val (by kernel_rfl) (f42 o.ls hlen) (by (first | rfl | (simp only [renL, AV.ren, List.nil_append, List.cons_append, rens]; try rfl))) rfl ?_ | refine ACall.val (by kernel_rfl) (f43 o.ls ho) (by (first | rfl | (simp only [renL, AV.ren, List.nil_append, List.cons_append, rens]; try rfl))) rfl ?_); conv => whnf))
      rcases Bool.eq_false_or_eq_true (twL o.ls (fun _ => false)) with g2 | g2
      · rw [g2]
        conv => whnf
        repeat (first | refine ru ?_ | ((first | refine ACall.val (by kernel_rfl) (f42 o.ls hlen) (by (first | rfl | (simp only [renL, AV.ren, List.nil_append, List.cons_append, rens]; try rfl))) rfl ?_ | refine ACall.val (by kernel_rfl) (f43 o.ls ho) (by (first | rfl | (simp only [renL, AV.ren, List.nil_append, List.cons_append, rens]; try rfl))) rfl ?_); conv => whnf))
        refine AFin.val rfl ⟨congrArg nV ?_, rfl⟩
        rw [hC false (by rw [ordB, g2]; simp)]; rfl
      · rw [g2]
        conv => whnf
        repeat (first | refine ru ?_ | ((first | refine ACall.val (by kernel_rfl) (f42 o.ls hlen) (by (first | rfl | (simp only [renL, AV.ren, List.nil_append, List.cons_append, rens]; try rfl))) rfl ?_ | refine ACall.val (by kernel_rfl) (f43 o.ls ho) (by (first | rfl | (simp only [renL, AV.ren, List.nil_append, List.cons_append, rens]; try rfl))) rfl ?_); conv => whnf))
        refine AFin.val rfl ⟨congrArg nV ?_, rfl⟩
        rw [hC true (by rw [ordB, g2, hall, hh, decide_eq_true h4]; rfl)]; rfl
theorem f76 (l : List ByteArray) (s0 : ByteArray) (hl : l.length ≤ 1000000) : Fun P 76 [ssV l, sV s0] (nV (idxF (fun x => s0.toList == x.toList) l 0)) := by
  refine spec_of hT (f := 76) (fn := Go.Proofs.Tryz.f76) (c := body Go.Proofs.Tryz.f76) (by kernel_rfl) (by kernel_rfl) ?_
  generalize hR : idxF (fun x => s0.toList == x.toList) l 0 = R
  conv => whnf
  repeat refine go ?_
  refine ALoop.mk (fun n E H => ∃ i : Nat, n = l.length - i ∧ i ≤ l.length ∧ idxF (fun x => s0.toList == x.toList) (l.drop i) i = R ∧
      E = pad [ssV l, sV s0, .any, .any, nV 0, .any, .any, nV l.length, nV i] 19 ∧ H = []) (n := l.length) _ _
    ⟨0, rfl, Nat.zero_le _, hR, rfl, rfl⟩ (Conv.fit (by repeat' (first | exact Fit.nil | refine Fit.any ?_ | refine Fit.same ?_))) ?_
  rintro _ _ _ ⟨i, rfl, hi, hI, rfl, rfl⟩
  conv => whnf
  repeat refine go ?_
  refine ACond.dec (fun h => ?_) (fun h => ?_)
  · have hil : i < l.length := by omega
    have w1 : IntKind.wrap .i64 ((i : Int) + 1) = ((i + 1 : Nat) : Int) := by rw [wrap_i64 _ (by omega) (by omega)]; omega
    rw [idxF_drop hil] at hI
    conv => whnf
    repeat (first | refine go ?_ | ((first | refine AReq.mk (by omega) ?_ | refine AIdx.flat (enc := sC) sC_len (xs := l) (i := i) hil ?_); conv => whnf))
    refine ACond.mk (fun h4 => ?_) (fun h4 => ?_)
    · conv => whnf
      repeat (first | refine go ?_ | ((first | refine AReq.mk (by omega) ?_ | refine AIdx.flat (enc := sC) sC_len (xs := l) (i := i) hil ?_); conv => whnf))
      refine AOut.stay ?_
      refine AFin.val rfl ⟨?_, rfl⟩
      rw [if_pos h4] at hI
      rw [hI]
    · conv => whnf
      repeat (first | refine go ?_ | ((first | refine AReq.mk (by omega) ?_ | refine AIdx.flat (enc := sC) sC_len (xs := l) (i := i) hil ?_); conv => whnf))
      rw [w1]
      exact AHead.mk (l.length - (i + 1)) _ _ (by omega) ⟨i + 1, rfl, by omega, by rw [← hI]; exact (if_neg (fun h5 => Bool.noConfusion (h5.symm.trans h4))).symm, rfl, rfl⟩ (Conv.fit (by repeat' (first | exact Fit.nil | refine Fit.any ?_ | refine Fit.same ?_)))
  · rw [idxF_end (by omega)] at hI
    conv => whnf
    repeat refine go ?_
    refine AOut.stay ?_
    conv => whnf
    repeat refine go ?_
    exact AFin.val rfl ⟨congrArg nV hI, rfl⟩
end Go.Aw.U1

