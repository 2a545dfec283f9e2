/-
  The statement AuditMoney: what was paid back is from nothing to what was paid, units that are left and that are done are all, and no more units are there than were shipped, without any condition.
-/
import Derived.Test.YtgpnhbekepoebaaGreatQ06
import Derived.Test.YtgpnhbekepoebaaGreatQ05
import Derived.Test.YtgpnhbekepoebaaGreatQ03
import Derived.Test.YtgpnhbekepoebaaGreatQ00
set_option linter.unusedSimpArgs false
set_option linter.unusedVariables false
set_option linter.unusedSimpArgs false
set_option linter.unusedVariables false
set_option maxRecDepth 30000
namespace Go.Aw.U1
open Go Go.Proofs
theorem und4 : P.underlying 4 = some .bool := by kernel_rfl
theorem maxLen_eq : maxLen = 9223372036854775807 := by decide
theorem o_i : Opens P 3 iC nOk := (opens_int und3).map iC nOk id (fun _ _ => rfl) (fun _ h => h)
theorem o_s : Opens P 9 sC sOk := (opens_string und9).map sC sOk id (fun _ _ => rfl) (fun _ h => by rw [maxLen_eq] at h; exact h)
theorem o_b : Opens P 4 (fun b : Bool => [bV b]) (fun _ => True) := opens_bool und4
/-- a slice of what opens -/
theorem o_sl {t e sz : Nat} {α : Type} {enc : α → List AV} {wf : α → Prop} (ht : P.underlying t = some (.slice e)) (hz : P.cellsOf e = sz) (hp : 0 < sz) (h : Opens P e enc wf) :
    Opens P t (fun l : List α => [.vs sz l.length (l.flatMap enc)]) (fun l => l.length ≤ 9223372036854775807 ∧ ∀ x ∈ l, wf x) :=
  (opens_slice ht hz hp h).map _ _ id (fun _ _ => rfl) (fun l h => ⟨by have := h.1; rw [maxLen_eq] at this; exact this, fun x hx => (h.2 x hx).1⟩)
theorem o_is : Opens P 38 (fun l => [isV l]) (fun l => l.length ≤ 9223372036854775807) := (o_sl Tryz.underlying38 (sz := 1) (by kernel_rfl) (by decide) o_i).map _ _ id (fun _ _ => rfl) (fun _ h => h.1)
theorem o_ss : Opens P 59 (fun l => [ssV l]) ssOk := (o_sl Tryz.underlying59 (sz := 1) (by kernel_rfl) (by decide) o_s).map _ _ id (fun _ _ => rfl) (fun _ h => h)
theorem o_it : Opens P 140 itC (fun _ => True) :=
  Opens.map (opens_struct Tryz.underlying140 (by kernel_rfl) (opensF_cons (sz := 1) rfl (by kernel_rfl) o_i (opensF_cons (sz := 1) rfl (by kernel_rfl) o_i (opensF_cons (sz := 1) rfl (by kernel_rfl) o_i (opensF_cons (sz := 1) rfl (by kernel_rfl) o_i opensF_nil))))) itC (fun _ => True) (fun x => (⟨x.1, x.2.1, x.2.2.1, x.2.2.2.1⟩ : It)) (fun x _ => rfl) (fun _ _ => trivial)
theorem o_its : Opens P 30 (fun l => [itsV l]) (fun l => l.length ≤ 9223372036854775807 ∧ ∀ x ∈ l, (fun _ => True) x) := (o_sl Tryz.underlying30 (sz := 4) (by kernel_rfl) (by decide) o_it).map _ _ id (fun _ _ => rfl) (fun _ h => h)
def lnW (l : Ln) : Prop := ssOk l.ss
theorem o_ln : Opens P 121 lnC lnW :=
  Opens.map (opens_struct Tryz.underlying121 (by kernel_rfl) (opensF_cons (sz := 1) rfl (by kernel_rfl) o_i (opensF_cons (sz := 1) rfl (by kernel_rfl) o_i (opensF_cons (sz := 1) rfl (by kernel_rfl) o_i (opensF_cons (sz := 1) rfl (by kernel_rfl) o_i (opensF_cons (sz := 1) rfl (by kernel_rfl) o_ss opensF_nil)))))) lnC lnW (fun x => (⟨x.1, x.2.1, x.2.2.1, x.2.2.2.1, x.2.2.2.2.1⟩ : Ln)) (fun x _ => rfl) (fun x h => h.2.2.2.2.1)
theorem o_lns : Opens P 60 (fun l => [lnsV l]) (fun l => l.length ≤ 9223372036854775807 ∧ ∀ x ∈ l, lnW x) := (o_sl Tryz.underlying60 (sz := 5) (by kernel_rfl) (by decide) o_ln).map _ _ id (fun _ _ => rfl) (fun _ h => h)
def odW (o : Od) : Prop := ∀ x ∈ o.ls, lnW x
theorem o_od : Opens P 119 odC odW :=
  Opens.map (opens_struct Tryz.underlying119 (by kernel_rfl) (opensF_cons (sz := 1) rfl (by kernel_rfl) o_i (opensF_cons (sz := 1) rfl (by kernel_rfl) o_i (opensF_cons (sz := 1) rfl (by kernel_rfl) o_lns opensF_nil)))) odC odW (fun x => (⟨x.1, x.2.1, x.2.2.1⟩ : Od)) (fun x _ => rfl) (fun x h => h.2.2.1.2)
theorem o_ods : Opens P 31 (fun l => [odsV l]) (fun l => l.length ≤ 9223372036854775807 ∧ ∀ x ∈ l, odW x) := (o_sl Tryz.underlying31 (sz := 3) (by kernel_rfl) (by decide) o_od).map _ _ id (fun _ _ => rfl) (fun _ h => h)
def wnW (w : Wn) : Prop := nOk w.line
theorem o_wn : Opens P 155 wnC wnW :=
  Opens.map (opens_struct Tryz.underlying155 (by kernel_rfl) (opensF_cons (sz := 1) rfl (by kernel_rfl) o_i (opensF_cons (sz := 1) rfl (by kernel_rfl) o_i (opensF_cons (sz := 1) rfl (by kernel_rfl) o_i opensF_nil)))) wnC wnW (fun x => (⟨x.1, x.2.1, x.2.2.1⟩ : Wn)) (fun x _ => rfl) (fun x h => h.1)
theorem o_wns : Opens P 61 (fun l => [wnsV l]) (fun l => l.length ≤ 9223372036854775807 ∧ ∀ x ∈ l, wnW x) := (o_sl Tryz.underlying61 (sz := 3) (by kernel_rfl) (by decide) o_wn).map _ _ id (fun _ _ => rfl) (fun _ h => h)
def rmW (r : Rm) : Prop := nOk r.id ∧ rmOk r ∧ ∀ w ∈ r.ws, wnW w
theorem o_rm : Opens P 123 rmC rmW :=
  Opens.map (opens_struct Tryz.underlying123 (by kernel_rfl) (opensF_cons (sz := 1) rfl (by kernel_rfl) o_i (opensF_cons (sz := 1) rfl (by kernel_rfl) o_i (opensF_cons (sz := 1) rfl (by kernel_rfl) o_i (opensF_cons (sz := 1) rfl (by kernel_rfl) o_i (opensF_cons (sz := 1) rfl (by kernel_rfl) o_wns opensF_nil)))))) rmC rmW (fun x => (⟨x.1, x.2.1, x.2.2.1, x.2.2.2.1, x.2.2.2.2.1⟩ : Rm)) (fun x _ => rfl) (fun x h => ⟨h.1, h.2.2.2.2.1.1, h.2.2.2.2.1.2⟩)
theorem o_rms : Opens P 32 (fun l => [rmsV l]) (fun l => l.length ≤ 9223372036854775807 ∧ ∀ x ∈ l, rmW x) := (o_sl Tryz.underlying32 (sz := 5) (by kernel_rfl) (by decide) o_rm).map _ _ id (fun _ _ => rfl) (fun _ h => h)
def unW' (u : Un) : Prop := sOk u.s
theorem o_un : Opens P 23 unC unW' :=
  Opens.map (opens_struct Tryz.underlying23 (by kernel_rfl) (opensF_cons (sz := 1) rfl (by kernel_rfl) o_s (opensF_cons (sz := 1) rfl (by kernel_rfl) o_i (opensF_cons (sz := 1) rfl (by kernel_rfl) o_i (opensF_cons (sz := 1) rfl (by kernel_rfl) o_i (opensF_cons (sz := 1) rfl (by kernel_rfl) o_i (opensF_cons (sz := 1) rfl (by kernel_rfl) o_i (opensF_cons (sz := 1) rfl (by kernel_rfl) o_i (opensF_cons (sz := 1) rfl (by kernel_rfl) o_i (opensF_cons (sz := 1) rfl (by kernel_rfl) o_i (opensF_cons (sz := 1) rfl (by kernel_rfl) o_i opensF_nil))))))))))) unC unW' (fun x => (⟨x.1, x.2.1, x.2.2.1, x.2.2.2.1, x.2.2.2.2.1, x.2.2.2.2.2.1, x.2.2.2.2.2.2.1, x.2.2.2.2.2.2.2.1, x.2.2.2.2.2.2.2.2.1, x.2.2.2.2.2.2.2.2.2.1⟩ : Un)) (fun x _ => rfl) (fun x h => h.1)
theorem o_uns : Opens P 33 (fun l => [unsV l]) (fun l => l.length ≤ 9223372036854775807 ∧ ∀ x ∈ l, unW' x) := (o_sl Tryz.underlying33 (sz := 10) (by kernel_rfl) (by decide) o_un).map _ _ id (fun _ _ => rfl) (fun _ h => h)
def wkW (u : Wk) : Prop := sOk u.s
theorem o_wk : Opens P 144 wkC wkW :=
  Opens.map (opens_struct Tryz.underlying144 (by kernel_rfl) (opensF_cons (sz := 1) rfl (by kernel_rfl) o_i (opensF_cons (sz := 1) rfl (by kernel_rfl) o_s (opensF_cons (sz := 1) rfl (by kernel_rfl) o_i (opensF_cons (sz := 1) rfl (by kernel_rfl) o_i (opensF_cons (sz := 1) rfl (by kernel_rfl) o_i opensF_nil)))))) wkC wkW (fun x => (⟨x.1, x.2.1, x.2.2.1, x.2.2.2.1, x.2.2.2.2.1⟩ : Wk)) (fun x _ => rfl) (fun x h => h.2.1)
theorem o_wks : Opens P 34 (fun l => [wksV l]) (fun l => l.length ≤ 9223372036854775807 ∧ ∀ x ∈ l, wkW x) := (o_sl Tryz.underlying34 (sz := 5) (by kernel_rfl) (by decide) o_wk).map _ _ id (fun _ _ => rfl) (fun _ h => h)
def clW (u : Cl) : Prop := ssOk u.ss
theorem o_cl : Opens P 125 clC clW :=
  Opens.map (opens_struct Tryz.underlying125 (by kernel_rfl) (opensF_cons (sz := 1) rfl (by kernel_rfl) o_i (opensF_cons (sz := 1) rfl (by kernel_rfl) o_i (opensF_cons (sz := 1) rfl (by kernel_rfl) o_i (opensF_cons (sz := 1) rfl (by kernel_rfl) o_ss opensF_nil))))) clC clW (fun x => (⟨x.1, x.2.1, x.2.2.1, x.2.2.2.1⟩ : Cl)) (fun x _ => rfl) (fun x h => h.2.2.2.1)
theorem o_cls : Opens P 35 (fun l => [clsV l]) (fun l => l.length ≤ 9223372036854775807 ∧ ∀ x ∈ l, clW x) := (o_sl Tryz.underlying35 (sz := 4) (by kernel_rfl) (by decide) o_cl).map _ _ id (fun _ _ => rfl) (fun _ h => h)
def moW (u : Mo) : Prop := ssOk u.ss ∧ u.am.length ≤ 9223372036854775807
theorem o_mo : Opens P 73 moC moW :=
  Opens.map (opens_struct Tryz.underlying73 (by kernel_rfl) (opensF_cons (sz := 1) rfl (by kernel_rfl) o_i (opensF_cons (sz := 1) rfl (by kernel_rfl) o_i (opensF_cons (sz := 1) rfl (by kernel_rfl) o_ss (opensF_cons (sz := 1) rfl (by kernel_rfl) o_is (opensF_cons (sz := 1) rfl (by kernel_rfl) o_b opensF_nil)))))) moC moW (fun x => (⟨x.1, x.2.1, x.2.2.1, x.2.2.2.1, x.2.2.2.2.1⟩ : Mo)) (fun x _ => rfl) (fun x h => ⟨h.2.2.1, h.2.2.2.1⟩)
theorem o_mos : Opens P 36 (fun l => [mosV l]) (fun l => l.length ≤ 9223372036854775807 ∧ ∀ x ∈ l, moW x) := (o_sl Tryz.underlying36 (sz := 5) (by kernel_rfl) (by decide) o_mo).map _ _ id (fun _ _ => rfl) (fun _ h => h)
theorem o_mv : Opens P 95 mvC (fun _ => True) :=
  Opens.map (opens_struct Tryz.underlying95 (by kernel_rfl) (opensF_cons (sz := 1) rfl (by kernel_rfl) o_b (opensF_cons (sz := 1) rfl (by kernel_rfl) o_i (opensF_cons (sz := 1) rfl (by kernel_rfl) o_i opensF_nil)))) mvC (fun _ => True) (fun x => (⟨x.1, x.2.1, x.2.2.1⟩ : Mv)) (fun x _ => rfl) (fun _ _ => trivial)
theorem o_mvs : Opens P 37 (fun l => [mvs l]) (fun l => l.length ≤ 9223372036854775807 ∧ ∀ x ∈ l, (fun _ => True) x) := (o_sl Tryz.underlying37 (sz := 3) (by kernel_rfl) (by decide) o_mv).map _ _ id (fun _ _ => rfl) (fun _ h => h)
theorem o_ro : Opens P 164 roC (fun _ => True) :=
  Opens.map (opens_struct Tryz.underlying164 (by kernel_rfl) (opensF_cons (sz := 1) rfl (by kernel_rfl) o_i (opensF_cons (sz := 1) rfl (by kernel_rfl) o_i (opensF_cons (sz := 1) rfl (by kernel_rfl) o_i (opensF_cons (sz := 1) rfl (by kernel_rfl) o_i (opensF_cons (sz := 1) rfl (by kernel_rfl) o_i opensF_nil)))))) roC (fun _ => True) (fun x => (⟨x.1, x.2.1, x.2.2.1, x.2.2.2.1, x.2.2.2.2.1⟩ : Ro)) (fun x _ => rfl) (fun _ _ => trivial)
theorem o_ros : Opens P 39 (fun l => [roV l]) (fun l => l.length ≤ 9223372036854775807 ∧ ∀ x ∈ l, (fun _ => True) x) := (o_sl Tryz.underlying39 (sz := 5) (by kernel_rfl) (by decide) o_ro).map _ _ id (fun _ _ => rfl) (fun _ h => h)
theorem o_ru : Opens P 41 ruC (fun _ => True) :=
  Opens.map (opens_struct Tryz.underlying41 (by kernel_rfl) (opensF_cons (sz := 1) rfl (by kernel_rfl) o_is (opensF_cons (sz := 1) rfl (by kernel_rfl) o_is (opensF_cons (sz := 1) rfl (by kernel_rfl) o_is (opensF_cons (sz := 1) rfl (by kernel_rfl) o_ros opensF_nil))))) ruC (fun _ => True) (fun x => (⟨x.1, x.2.1, x.2.2.1, x.2.2.2.1⟩ : Ru)) (fun x _ => rfl) (fun _ _ => trivial)
theorem o_dn : Opens P 127 dnC (fun _ => True) :=
  Opens.map (opens_struct Tryz.underlying127 (by kernel_rfl) (opensF_cons (sz := 1) rfl (by kernel_rfl) o_i (opensF_cons (sz := 1) rfl (by kernel_rfl) o_s (opensF_cons (sz := 1) rfl (by kernel_rfl) o_s opensF_nil)))) dnC (fun _ => True) (fun x => (⟨x.1, x.2.1, x.2.2.1⟩ : Dn)) (fun x _ => rfl) (fun _ _ => trivial)
theorem o_dns : Opens P 42 (fun l => [dnsV l]) (fun l => l.length ≤ 9223372036854775807 ∧ ∀ x ∈ l, (fun _ => True) x) := (o_sl Tryz.underlying42 (sz := 3) (by kernel_rfl) (by decide) o_dn).map _ _ id (fun _ _ => rfl) (fun _ h => h)
theorem o_st : Opens P 44 stC Wf :=
  Opens.map (opens_struct Tryz.underlying44 (by kernel_rfl) (opensF_cons (sz := 1) rfl (by kernel_rfl) o_i (opensF_cons (sz := 1) rfl (by kernel_rfl) o_i (opensF_cons (sz := 1) rfl (by kernel_rfl) o_i (opensF_cons (sz := 1) rfl (by kernel_rfl) o_i (opensF_cons (sz := 1) rfl (by kernel_rfl) o_i (opensF_cons (sz := 1) rfl (by kernel_rfl) o_its (opensF_cons (sz := 1) rfl (by kernel_rfl) o_ods (opensF_cons (sz := 1) rfl (by kernel_rfl) o_rms (opensF_cons (sz := 1) rfl (by kernel_rfl) o_uns (opensF_cons (sz := 1) rfl (by kernel_rfl) o_wks (opensF_cons (sz := 1) rfl (by kernel_rfl) o_cls (opensF_cons (sz := 1) rfl (by kernel_rfl) o_mos (opensF_cons (sz := 1) rfl (by kernel_rfl) o_mvs (opensF_cons (sz := 4) rfl (by kernel_rfl) o_ru (opensF_cons (sz := 1) rfl (by kernel_rfl) o_dns opensF_nil)))))))))))))))) stC Wf (fun x => (⟨x.1, x.2.1, x.2.2.1, x.2.2.2.1, x.2.2.2.2.1, x.2.2.2.2.2.1, x.2.2.2.2.2.2.1, x.2.2.2.2.2.2.2.1, x.2.2.2.2.2.2.2.2.1, x.2.2.2.2.2.2.2.2.2.1, x.2.2.2.2.2.2.2.2.2.2.1, x.2.2.2.2.2.2.2.2.2.2.2.1, x.2.2.2.2.2.2.2.2.2.2.2.2.1, x.2.2.2.2.2.2.2.2.2.2.2.2.2.1, x.2.2.2.2.2.2.2.2.2.2.2.2.2.2.1⟩ : Sta)) (fun x _ => rfl) (fun x h => {
    ids := fun r hr => ⟨(h.2.2.2.2.2.2.2.1.2 r hr).1, (h.2.2.2.2.2.2.2.1.2 r hr).2.2⟩
    ords := fun o ho x hx => (h.2.2.2.2.2.2.1.2 o ho x hx).2
    rmas := fun r hr => (h.2.2.2.2.2.2.2.1.2 r hr).2.1
    units := fun u hu => h.2.2.2.2.2.2.2.2.1.2 u hu
    works := fun u hu => h.2.2.2.2.2.2.2.2.2.1.2 u hu
    claims := fun u hu => h.2.2.2.2.2.2.2.2.2.2.1.2 u hu
    memos := fun u hu => h.2.2.2.2.2.2.2.2.2.2.2.1.2 u hu })
theorem oV_st : OpenV P 44 (fun s : Sta => stA s) Wf := openV_struct Tryz.underlying44 o_st
end Go.Aw.U1

set_option linter.unusedSimpArgs false
set_option linter.unusedVariables false
set_option maxHeartbeats 4000000
set_option maxRecDepth 30000
namespace Go.Aw.U1
open Go Go.Proofs

/-! point 5, exact -/
def cntU (l : List Un) (a : Int × Int) : Int := (l.countP fun u => decide (u.rma = a.1) && decide (u.line = a.2) : Nat)
def recvW (id : Int) : List Wn → (Int × Int → Int) → Option (Int × Int → Int)
  | [], g => some g
  | w :: ws, g => if g (id, w.line) = w.got then recvW id ws (upd g (id, w.line) 0) else none
def recvM (o : Option (Int × Int → Int)) (k : (Int × Int → Int) → Bool) : Bool := match o with | none => false | some g => k g
def recvR (fin : (Int × Int → Int) → Bool) : List Rm → (Int × Int → Int) → Bool
  | [], g => fin g
  | r :: rs, g => recvM (recvW r.id r.ws g) (recvR fin rs)
def restB (l : List Un) (g : Int × Int → Int) : Bool := l.all fun u => decide (g (u.rma, u.line) = 0)
def recvB (s : Sta) : Bool := s.units.all (cameB s) && recvR (restB s.units) s.rmas (cntU s.units)
theorem cntU_snoc (l : List Un) (u : Un) : cntU (l ++ [u]) = upd (cntU l) (u.rma, u.line) (cntU l (u.rma, u.line) + 1) := by
  funext a
  simp only [cntU, upd, List.countP_append, List.countP_cons, List.countP_nil]
  by_cases h : a = (u.rma, u.line)
  · subst h; simp
  · rw [if_neg h, if_neg (by simp; intro h1 h2; exact h (Prod.ext h1.symm h2.symm))]; simp
theorem cntU_bd (l : List Un) (a : Int × Int) : 0 ≤ cntU l a ∧ cntU l a ≤ l.length := by
  have := List.countP_le_length (p := fun u : Un => decide (u.rma = a.1) && decide (u.line = a.2)) (l := l)
  simp only [cntU]; omega
/-- what is counted is a unit's -/
def OfU (l : List Un) (g : Int × Int → Int) : Prop := ∀ a, g a ≠ 0 → ∃ u ∈ l, (u.rma, u.line) = a
theorem ofU_cnt (l : List Un) : OfU l (cntU l) := fun a h => by
  have h1 : 0 < l.countP fun u => decide (u.rma = a.1) && decide (u.line = a.2) := by
    simp only [cntU] at h; omega
  obtain ⟨u, hu, h2⟩ := List.countP_pos_iff.1 h1
  simp only [Bool.and_eq_true, decide_eq_true_eq] at h2
  exact ⟨u, hu, Prod.ext h2.1 h2.2⟩
theorem OfU.del {l : List Un} {g : Int × Int → Int} (h : OfU l g) (k : Int × Int) : OfU l (upd g k 0) := fun a ha => by
  rw [upd] at ha
  split at ha
  · exact absurd rfl ha
  · exact h a ha
theorem OfU.rest {l : List Un} {g : Int × Int → Int} (h : OfU l g) : (restB l g = true) ↔ ∀ a, g a = 0 := by
  simp only [restB, List.all_eq_true, decide_eq_true_eq]
  refine ⟨fun hr a => Classical.byContradiction fun hne => ?_, fun hr u _ => hr _⟩
  obtain ⟨u, hu, rfl⟩ := h a hne
  exact hne (hr u hu)
theorem full_app {α β : Type} [DecidableEq α] {L : List (α × β)} {z b b0 : β} {a : α} (h : Full L z) (hb : b ≠ z) : Full ((L ++ [(a, b0)]).set L.length (a, b)) z := by
  rw [List.set_append_right _ _ (Nat.le_refl _), Nat.sub_self, List.set_cons_zero]
  exact h.push hb
theorem upd_upd {α β : Type} [DecidableEq α] (g : α → β) (a : α) (b c : β) : upd (upd g a b) a c = upd g a c := by
  funext x
  simp only [upd]
  split <;> rfl
theorem f63x (s : Sta) (h : StaOk s) (hid : ∀ r ∈ s.rmas, nOk r.id ∧ ∀ w ∈ r.ws, nOk w.line) : Fun P 63 [stA s] (bV (recvB s)) := by
  refine spec_of hT (f := 63) (fn := Go.Proofs.Tryz.f63) (c := body Go.Proofs.Tryz.f63) (by kernel_rfl) (by kernel_rfl) ?_
  have hu1 := h.units.1
  have hr1 := h.rmas.1
  conv => whnf
  repeat refine go ?_
  refine AOp.makeMap ?_
  conv => whnf
  repeat refine go ?_
  refine ALoop.mk (fun n E H => ∃ (i : Nat) (g : Int × Int → Int) (L : List ((Int × Int) × Int)) (bs : List Nat) (clk : Nat), n = s.units.length - i ∧ i ≤ s.units.length ∧ MapIs aOk L 0 g ∧ (g = cntU (s.units.take i) ∧ Full L 0) ∧ (∀ k (hk : k < s.units.length), k < i → cameB s s.units[k] = true) ∧
      E = pad [stA s, .ptr 0 0, bV false, .mp 1, .any, .any, .any, .any, .any, .any, .any, .any, .any, unsV s.units, nV s.units.length, nV i] 70 ∧ H = [.cells 134 (stC s), .map (em aA nV L) bs clk]) (n := s.units.length) _ _
    ⟨0, _, [], [], 0, rfl, Nat.zero_le _, MapIs.nil, ⟨by funext a; simp [cntU], Full.nil⟩, fun k _ hk => absurd hk (Nat.not_lt_zero _), rfl, rfl⟩ (Conv.fit (by repeat' (first | exact Fit.nil | refine Fit.any ?_ | refine Fit.same ?_))) ?_
  rintro _ _ _ ⟨i, g, L, bs, clk, rfl, hi, hM, ⟨hg, hF⟩, hI, rfl, rfl⟩
  conv => whnf
  repeat refine go ?_
  refine ACond.dec (fun h1 => ?_) (fun h1 => ?_)
  · have hil : i < s.units.length := by omega
    have w1 : IntKind.wrap .i64 ((i : Int) + 1) = ((i + 1 : Nat) : Int) := by rw [wrap_i64 _ (by omega) (by omega)]; omega
    have hcome := f162 s s.units[i] h (h.units.2 _ (List.getElem_mem hil))
    have hI' : cameB s s.units[i] = true → ∀ k (hk : k < s.units.length), k < i + 1 → cameB s s.units[k] = true := fun hc k hk hki => by
      rcases Nat.lt_or_ge k i with g | g
      · exact hI k hk g
      · obtain rfl : k = i := by omega
        exact hc
    have htk : s.units.take (i + 1) = s.units.take i ++ [s.units[i]] := by rw [List.take_add_one, List.getElem?_eq_getElem hil]; rfl
    have hcn := cntU_snoc (s.units.take i) s.units[i]
    rw [← htk, ← hg] at hcn
    have hbd1 : ∀ a, 0 ≤ g a ∧ g a ≤ i := fun a => by
      have := cntU_bd (s.units.take i) a
      rw [← hg, List.length_take] at this
      omega
    have hall0 : cameB s s.units[i] = false → recvB s = false := fun hc => by
      rw [recvB, show s.units.all (cameB s) = false from List.all_eq_false.2 ⟨_, List.getElem_mem hil, by rw [hc]; exact Bool.false_ne_true⟩]; rfl
    generalize hu : s.units[i] = u at hcome hI' hcn hall0
    conv => whnf
    repeat (first | refine go ?_ | ((first | refine AReq.mk (by omega) ?_ | refine AIdx.flat (enc := unC) unC_len (xs := s.units) (i := i) hil ?_); conv => whnf))
    rw [hu]
    refine ACall.val (args := [stA s, unA u]) (by kernel_rfl) hcome (by (first | rfl | (simp only [renL, AV.ren, List.nil_append, List.cons_append, rens]; try rfl))) rfl ?_
    rcases Bool.eq_false_or_eq_true (cameB s u) with g1 | g1
    case inr =>
      rw [g1]
      conv => whnf
      repeat refine ru ?_
      refine AOut.stay ?_
      conv => whnf
      repeat refine ru ?_
      exact AFin.val rfl ⟨congrArg bV (hall0 g1).symm, rfl⟩
    have w3 : IntKind.wrap .i64 (g (u.rma, u.line) + 1) = g (u.rma, u.line) + 1 := by have := hbd1 (u.rma, u.line); rw [wrap_i64 _ (by omega) (by omega)]
    have w4 : g (u.rma, u.line) + 1 ≠ 0 := by have := hbd1 (u.rma, u.line); omega
    have hbd := unB_bd (came_un g1)
    have hok : aOk (u.rma, u.line) := ⟨nOk_of (by omega) (by omega), nOk_of (by omega) (by omega)⟩
    rw [g1]
    conv => whnf
    repeat refine ru ?_
    refine AW.mapLen (l := 1) rfl (fun hlen hnd => ?_)
    have hlen : bs.length = L.length := by simpa [em] using hlen
    refine AW.plan hm (.one 0 (.one 1 (.one 3 (.one 2 (.one 4 (.one 5 (.fork 6 (.one 7 (.one 8 (.one 9 .nil))) 8 (.one 9 (.one 6 (.one 7 .nil))) (.one 10 .nil)))))))) (by kernel_rfl) ?_
    conv => whnf
    repeat refine go ?_
    by_cases hno : ∀ x ∈ L, x.1 ≠ (u.rma, u.line)
    · have g0 : g (u.rma, u.line) = 0 := hM.no _ hno
      have hM0 := hM.push (b := 0) hok hno
      apply AF.meet
      · conv => whnf
        repeat refine go ?_
        refine AOp.getM 1 (u.rma, u.line) hT aK und130 hne3 (eb := nV) rfl hM hok rfl rfl rfl ?_
        conv => whnf
        repeat refine go ?_
        refine AOp.mapEntry (a := (u.rma, u.line)) (z := 0) hT aK und130 hne3 rfl rfl rfl rfl hM.ok hok (fun _ _ => ?_) (fun j b s hj => absurd rfl (hno _ (List.mem_of_getElem? hj)))
        conv => whnf
        repeat refine go ?_
        exact ⟨rfl, rfl, rfl⟩
      · conv => whnf
        repeat refine go ?_
        refine AOp.mapEntry (a := (u.rma, u.line)) (z := 0) hT aK und130 hne3 rfl rfl rfl rfl hM.ok hok (fun _ _ => ?_) (fun j b s hj => absurd rfl (hno _ (List.mem_of_getElem? hj)))
        conv => whnf
        repeat refine go ?_
        refine AOp.getM 1 (u.rma, u.line) hT aK und130 hne3 (eb := nV) rfl hM0 hok rfl rfl rfl ?_
        rw [show upd g (u.rma, u.line) 0 (u.rma, u.line) = g (u.rma, u.line) by rw [upd, if_pos rfl, g0]]
        conv => whnf
        repeat refine go ?_
        exact ⟨rfl, rfl, rfl⟩
      · conv => whnf
        repeat refine go ?_
        refine AOp.entryStore (a := (u.rma, u.line)) (b := 0) (b' := IntKind.wrap .i64 (g (u.rma, u.line) + 1)) (j := L.length) (s := clk) (L := L ++ [((u.rma, u.line), 0)]) aK rfl rfl rfl rfl (by simp) ?_ ?_
        · rw [← hlen]; simp
        conv => whnf
        repeat refine go ?_
        rw [w1]
        exact AHead.mk (s.units.length - (i + 1)) _ _ (by omega) ⟨i + 1, _, _, _, _, rfl, by omega, hM0.set (a := (u.rma, u.line)) (b := IntKind.wrap .i64 (g (u.rma, u.line) + 1)) (j := L.length) (b0 := 0) (by simp), ⟨by rw [hcn, w3]; exact upd_upd _ _ _ _, full_app hF (by rw [w3]; exact w4)⟩, hI' g1, rfl, rfl⟩ (Conv.ren [0, 1] _ (by simp) (by simp) (by simp only [pad, renL, AV.ren, rens]; repeat' (first | exact Fit.nil | refine Fit.any ?_ | refine Fit.same ?_)) (.same (by simp only [ABlk.ren, stC_ren]; rfl) (.same (by simp only [ABlk.ren, ren_emA]; rfl) .nil)))
    · obtain ⟨j0, b0, hj0⟩ := find_mem hno
      have hjl : j0 < L.length := (List.getElem?_eq_some_iff.1 hj0).1
      have g0 : g (u.rma, u.line) = b0 := hM.yes _ _ (List.mem_of_getElem? hj0)
      have huniq : ∀ (j : Nat) (b : Int), L[j]? = some ((u.rma, u.line), b) → j = j0 ∧ b = b0 := by
        intro j b hj
        have e : j = j0 := nodup_at hM.nd (x := (u.rma, u.line)) (by rw [List.getElem?_map, hj]; rfl) (by rw [List.getElem?_map, hj0]; rfl)
        subst e
        rw [hj0] at hj
        cases hj
        exact ⟨rfl, rfl⟩
      have hbs : bs[j0]? = some (bs[j0]'(by omega)) := List.getElem?_eq_getElem (by omega)
      generalize bs[j0]'(by omega) = s0 at hbs
      apply AF.meet
      · conv => whnf
        repeat refine go ?_
        refine AOp.getM 1 (u.rma, u.line) hT aK und130 hne3 (eb := nV) rfl hM hok rfl rfl rfl ?_
        conv => whnf
        repeat refine go ?_
        refine AOp.mapEntry (a := (u.rma, u.line)) (z := 0) hT aK und130 hne3 rfl rfl rfl rfl hM.ok hok (fun hc _ => absurd hc hno) (fun j' b' s hj' hs' => ?_)
        obtain ⟨rfl, rfl⟩ := huniq j' b' hj'
        obtain rfl : s0 = s := by rw [hbs] at hs'; cases hs'; rfl
        conv => whnf
        repeat refine go ?_
        exact ⟨rfl, rfl, rfl⟩
      · conv => whnf
        repeat refine go ?_
        refine AOp.mapEntry (a := (u.rma, u.line)) (z := 0) hT aK und130 hne3 rfl rfl rfl rfl hM.ok hok (fun hc _ => absurd hc hno) (fun j' b' s hj' hs' => ?_)
        obtain ⟨rfl, rfl⟩ := huniq j' b' hj'
        obtain rfl : s0 = s := by rw [hbs] at hs'; cases hs'; rfl
        conv => whnf
        repeat refine go ?_
        refine AOp.getM 1 (u.rma, u.line) hT aK und130 hne3 (eb := nV) rfl hM hok rfl rfl rfl ?_
        conv => whnf
        repeat refine go ?_
        exact ⟨rfl, rfl, rfl⟩
      · conv => whnf
        repeat refine go ?_
        refine AOp.entryStore (a := (u.rma, u.line)) (b := b0) (b' := IntKind.wrap .i64 (g (u.rma, u.line) + 1)) (j := j0) (s := s0) (L := L) aK rfl rfl rfl rfl hj0 hbs ?_
        conv => whnf
        repeat refine go ?_
        rw [w1]
        exact AHead.mk (s.units.length - (i + 1)) _ _ (by omega) ⟨i + 1, _, _, _, _, rfl, by omega, hM.set (b := IntKind.wrap .i64 (g (u.rma, u.line) + 1)) hj0, ⟨by rw [hcn, w3], hF.set (by rw [w3]; exact w4)⟩, hI' g1, rfl, rfl⟩ (Conv.ren [0, 1] _ (by simp) (by simp) (by simp only [pad, renL, AV.ren, rens]; repeat' (first | exact Fit.nil | refine Fit.any ?_ | refine Fit.same ?_)) (.same (by simp only [ABlk.ren, stC_ren]; rfl) (.same (by simp only [ABlk.ren, ren_emA]; rfl) .nil)))
  · have hall : ∀ u ∈ s.units, cameB s u = true := fun u hu => by
      obtain ⟨k, hk, rfl⟩ := List.mem_iff_getElem.1 hu
      exact hI k hk (by omega)
    have hgo := ofU_cnt s.units
    rw [List.take_of_length_le (by omega)] at hg
    subst hg
    have hrB : recvB s = recvR (restB s.units) s.rmas (cntU s.units) := by
      rw [recvB, show s.units.all (cameB s) = true from List.all_eq_true.2 hall]; rfl
    conv => whnf
    repeat refine go ?_
    refine AOut.stay ?_
    conv => whnf
    repeat refine go ?_
    refine ALoop.mk (fun n E H => ∃ (i : Nat) (g : Int × Int → Int) (L : List ((Int × Int) × Int)) (bs : List Nat) (clk : Nat), n = s.rmas.length - i ∧ i ≤ s.rmas.length ∧ MapIs aOk L 0 g ∧ (OfU s.units g ∧ Full L 0 ∧ recvR (restB s.units) (s.rmas.drop i) g = recvB s) ∧
        E = pad [stA s, .ptr 0 0, bV false, .mp 1, .any, .any, .any, .any, .any, .any, .any, .any, .any, .any, .any, .any, .any, .any, .any, .any, .any, .any, .any, .any, .any, .any, .any, .any, .any, .any, .any, .any, .any, .any, .any, .any, rmsV s.rmas, nV s.rmas.length, nV i] 70 ∧ H = [.cells 134 (stC s), .map (em aA nV L) bs clk]) (n := s.rmas.length) _ _
      ⟨0, cntU s.units, L, bs, clk, rfl, Nat.zero_le _, hM, ⟨hgo, hF, hrB.symm⟩, rfl, rfl⟩ (Conv.fit (by repeat' (first | exact Fit.nil | refine Fit.any ?_ | refine Fit.same ?_))) ?_
    clear hgo hF hM L bs clk
    rintro _ _ _ ⟨i, g, L, bs, clk, rfl, hi, hM, ⟨hgo, hF, hrv⟩, rfl, rfl⟩
    conv => whnf
    repeat refine go ?_
    refine ACond.dec (fun h1 => ?_) (fun h1 => ?_)
    · have hil : i < s.rmas.length := by omega
      have w1 : IntKind.wrap .i64 ((i : Int) + 1) = ((i + 1 : Nat) : Int) := by rw [wrap_i64 _ (by omega) (by omega)]; omega
      have hro := h.rmas.2 _ (List.getElem_mem hil)
      have hrid := hid _ (List.getElem_mem hil)
      rw [List.drop_eq_getElem_cons hil, recvR] at hrv
      conv => whnf
      repeat (first | refine go ?_ | ((first | refine AReq.mk (by omega) ?_ | refine AIdx.flat (enc := rmC) rmC_len (xs := s.rmas) (i := i) hil ?_); conv => whnf))
      generalize s.rmas[i] = r at hro hrid hrv
      have hrw : r.ws.length ≤ 9223372036854775807 := hro
      refine ALoop.mk (fun n E H => ∃ (k : Nat) (g : Int × Int → Int) (L : List ((Int × Int) × Int)) (bs : List Nat) (clk : Nat), n = r.ws.length - k ∧ k ≤ r.ws.length ∧ MapIs aOk L 0 g ∧ (OfU s.units g ∧ Full L 0 ∧ recvM (recvW r.id (r.ws.drop k) g) (recvR (restB s.units) (s.rmas.drop (i + 1))) = recvB s) ∧
          E = pad [stA s, .ptr 0 0, bV false, .mp 1, .any, .any, .any, .ptr 2 0, .any, .any, .any, .any, .any, .any, .any, .any, .any, .any, .any, .any, .any, .any, .any, .any, .any, .any, .any, .any, .any, .any, .any, .any, .any, .any, .any, .any, rmsV s.rmas, nV s.rmas.length, nV i, .any, .any, .any, .any, wnsV r.ws, nV r.ws.length, nV k] 70 ∧ H = [.cells 134 (stC s), .map (em aA nV L) bs clk, .cells 123 (rmC r)]) (n := r.ws.length) _ _
        ⟨0, g, L, bs, clk, rfl, Nat.zero_le _, hM, ⟨hgo, hF, hrv⟩, rfl, rfl⟩ (Conv.fit (by repeat' (first | exact Fit.nil | refine Fit.any ?_ | refine Fit.same ?_))) ?_
      clear hgo hF hrv hM g L bs clk
      rintro _ _ _ ⟨k, g, L, bs, clk, rfl, hk, hM, ⟨hgo, hF, hrv⟩, rfl, rfl⟩
      conv => whnf
      repeat refine go ?_
      refine ACond.dec (fun h2 => ?_) (fun h2 => ?_)
      · have hkl : k < r.ws.length := by omega
        have w2 : IntKind.wrap .i64 ((k : Int) + 1) = ((k + 1 : Nat) : Int) := by rw [wrap_i64 _ (by omega) (by omega)]; omega
        have hwl := hrid.2 _ (List.getElem_mem hkl)
        rw [List.drop_eq_getElem_cons hkl, recvW] at hrv
        conv => whnf
        repeat (first | refine go ?_ | ((first | refine AReq.mk (by omega) ?_ | refine AIdx.flat (enc := wnC) wnC_len (xs := r.ws) (i := k) hkl ?_); conv => whnf))
        generalize r.ws[k] = w at hwl hrv
        have hok : aOk (r.id, w.line) := ⟨hrid.1, hwl⟩
        refine AW.conv _ _ (Conv.freeze 3 rfl) ?_
        refine AW.plan hm (.one 0 (.one 1 (.one 3 (.one 7 (.one 2 (.one 4 (.one 5 (.imm 8 (.one 6 (.one 9 .nil)))))))))) (by kernel_rfl) ?_
        conv => whnf
        repeat refine go ?_
        refine AOp.getM 1 (r.id, w.line) hT aK und130 hne3 (eb := nV) rfl hM hok rfl rfl rfl ?_
        conv => whnf
        repeat refine go ?_
        refine ACond.ndec (fun h3 => ?_) (fun h3 => ?_)
        · conv => whnf
          repeat refine go ?_
          refine AOut.stay ?_
          conv => whnf
          repeat refine go ?_
          refine AOut.stay ?_
          conv => whnf
          repeat refine go ?_
          rw [if_neg h3] at hrv
          exact AFin.val rfl ⟨congrArg bV hrv, rfl⟩
        · rw [if_pos h3] at hrv
          conv => whnf
          repeat refine go ?_
          refine AOp.delX 1 (r.id, w.line) aK und130 rfl rfl hM hok rfl rfl rfl ?_
          intro L' bs' clk' hle hM' hmem'
          conv => whnf
          repeat refine go ?_
          rw [w2]
          exact AHead.mk (r.ws.length - (k + 1)) _ _ (by omega) ⟨k + 1, _, L', bs', clk', rfl, by omega, hM', ⟨hgo.del _, fun p hp => hF p (hmem' p hp).1, hrv⟩, rfl, rfl⟩ (Conv.ren [0, 1, 2] _ (by simp) (by simp) (by simp only [pad, renL, AV.ren, rens]; repeat' (first | exact Fit.nil | refine Fit.any ?_ | refine Fit.same ?_)) (.same (by simp only [ABlk.ren, stC_ren]; rfl) (.same (by simp only [ABlk.ren, ren_emA]; rfl) (.same (by simp only [ABlk.ren, rmC_ren]; rfl) .nil))))
      · rw [List.drop_of_length_le (by omega)] at hrv
        conv => whnf
        repeat refine go ?_
        refine AOut.stay ?_
        conv => whnf
        repeat refine go ?_
        rw [w1]
        exact AHead.mk (s.rmas.length - (i + 1)) _ _ (by omega) ⟨i + 1, g, L, bs, clk, rfl, by omega, hM, ⟨hgo, hF, hrv⟩, rfl, rfl⟩ (Conv.ren [0, 1] _ (by simp) (by simp) (by simp only [pad, renL, AV.ren, rens]; repeat' (first | exact Fit.nil | refine Fit.any ?_ | refine Fit.same ?_)) (.same (by simp only [ABlk.ren, stC_ren]; rfl) (.same (by simp only [ABlk.ren, ren_emA]; rfl) .nil)))
    · rw [List.drop_of_length_le (by omega), recvR] at hrv
      conv => whnf
      repeat refine go ?_
      refine AOut.stay ?_
      conv => whnf
      refine AW.seq ?_
      conv => whnf
      refine AW.region ?_
      conv => whnf
      refine AO.cons hT ?_
      conv => whnf
      refine AO.consA rfl ?_
      refine AOp.lenM 1 und130 rfl rfl rfl rfl ?_
      conv => whnf
      repeat refine go ?_
      refine AFin.val rfl ⟨congrArg bV ?_, rfl⟩
      rw [← hrv]
      refine Bool.eq_iff_iff.2 ?_
      rw [hgo.rest, ← hM.zero hF]
      simp [em]
end Go.Aw.U1

set_option linter.unusedSimpArgs false
set_option linter.unusedVariables false
set_option maxHeartbeats 4000000
set_option maxRecDepth 30000
namespace Go.Aw.U1
open Go Go.Proofs

/-! point 8, exact -/
def lnZ : Ln := ⟨0, 0, 0, 0, []⟩
def memo1 (s : Sta) (id : Int) (o : Od) (x : ByteArray) (a : Int) : Bool :=
  match findU s x with
  | none => false
  | some u => decide (u.order = id) && !decide (u.state = 1) && decide ((valF ((o.ls[u.line.toNat]?).getD lnZ) u.place s.rules.fees u.grade).2 = 0) && decide ((valF ((o.ls[u.line.toNat]?).getD lnZ) u.place s.rules.fees u.grade).1 = a)
def memoT (s : Sta) (id : Int) (o : Od) : List ByteArray → List Int → Bool
  | x :: ss, a :: am => memo1 s id o x a && memoT s id o ss am
  | _, _ => true
def memoB (s : Sta) (m : Mo) : Bool :=
  match s.orders.find? (fun x => decide (x.id = m.order)) with
  | none => false
  | some o => !decide ((m.ss.length : Int) < 1) && !decide (20 < (m.ss.length : Int)) && decide ((m.am.length : Int) = m.ss.length) && decide (rowF m.ss = 0) && memoT s m.order o m.ss m.am
theorem f165x (s : Sta) (m : Mo) (h : StaOk s) (hb : Base s) (hms : ssOk m.ss) (hm2 : m.am.length ≤ 9223372036854775807) : Fun P 165 [stA s, moA m] (bV (memoB s m)) := by
  refine spec_of hT (f := 165) (fn := Go.Proofs.Tryz.f165) (c := body Go.Proofs.Tryz.f165) (by kernel_rfl) (by kernel_rfl) ?_
  have hm1 := hms.1
  have hfalse : memoB s m = false → ∀ {H : List ABlk}, AFin 0 (bV false) H (fun r H => r = bV (memoB s m) ∧ H = []) := fun e => AFin.val rfl ⟨by rw [e], rfl⟩
  have hf := f108 s m.order h.orders.1
  have hoo := find_ok h.orders (fun x => decide (x.id = m.order))
  conv => whnf
  repeat (first | refine go ?_ | (refine AW.plan (id := 10) hm (.one 0 (.one 2 (.one 6 (.one 8 (.one 9 (.one 10 (.one 12 (.one 1 (.one 3 (.one 4 (.one 5 (.one 7 (.one 11 (.one 13 (.one 14 (.one 15 (.one 16 (.one 17 (.one 18 (.one 19 .nil)))))))))))))))))))) (by kernel_rfl) ?_; conv => whnf))
  refine ACall.val (args := [stA s, nV m.order]) (by kernel_rfl) hf (by (first | rfl | (simp only [renL, AV.ren, List.nil_append, List.cons_append, rens]; try rfl))) (by (first | rfl | (simp only [renL, AV.ren, List.nil_append, List.cons_append, rens]; try rfl))) ?_
  cases ho : s.orders.find? (fun x => decide (x.id = m.order)) with
  | none =>
    conv => whnf
    repeat (first | refine ru ?_ | (refine AW.plan (id := 10) hm (.one 0 (.one 2 (.one 6 (.one 8 (.one 9 (.one 10 (.one 12 (.one 1 (.one 3 (.one 4 (.one 5 (.one 7 (.one 11 (.one 13 (.one 14 (.one 15 (.one 16 (.one 17 (.one 18 (.one 19 .nil)))))))))))))))))))) (by kernel_rfl) ?_; conv => whnf))
    exact hfalse (by rw [memoB, ho])
  | some o =>
  rw [ho] at hoo
  have hmB : memoB s m = (!decide ((m.ss.length : Int) < 1) && !decide (20 < (m.ss.length : Int)) && decide ((m.am.length : Int) = m.ss.length) && decide (rowF m.ss = 0) && memoT s m.order o m.ss m.am) := by rw [memoB, ho]
  simp only [Option.getD_some, Option.isSome_some] at hoo ⊢
  conv => whnf
  repeat (first | refine ru ?_ | (refine AW.plan (id := 10) hm (.one 0 (.one 2 (.one 6 (.one 8 (.one 9 (.one 10 (.one 12 (.one 1 (.one 3 (.one 4 (.one 5 (.one 7 (.one 11 (.one 13 (.one 14 (.one 15 (.one 16 (.one 17 (.one 18 (.one 19 .nil)))))))))))))))))))) (by kernel_rfl) ?_; conv => whnf))
  refine ASplit.dec (fun h1 => ?_) (fun h1 => ?_)
  · conv => whnf
    repeat (first | refine ru ?_ | (refine AW.plan (id := 10) hm (.one 0 (.one 2 (.one 6 (.one 8 (.one 9 (.one 10 (.one 12 (.one 1 (.one 3 (.one 4 (.one 5 (.one 7 (.one 11 (.one 13 (.one 14 (.one 15 (.one 16 (.one 17 (.one 18 (.one 19 .nil)))))))))))))))))))) (by kernel_rfl) ?_; conv => whnf))
    exact hfalse (by rw [hmB, decide_eq_true h1]; rfl)
  conv => whnf
  repeat (first | refine ru ?_ | (refine AW.plan (id := 10) hm (.one 0 (.one 2 (.one 6 (.one 8 (.one 9 (.one 10 (.one 12 (.one 1 (.one 3 (.one 4 (.one 5 (.one 7 (.one 11 (.one 13 (.one 14 (.one 15 (.one 16 (.one 17 (.one 18 (.one 19 .nil)))))))))))))))))))) (by kernel_rfl) ?_; conv => whnf))
  refine ASplit.dec (fun h2 => ?_) (fun h2 => ?_)
  · conv => whnf
    repeat (first | refine ru ?_ | (refine AW.plan (id := 10) hm (.one 0 (.one 2 (.one 6 (.one 8 (.one 9 (.one 10 (.one 12 (.one 1 (.one 3 (.one 4 (.one 5 (.one 7 (.one 11 (.one 13 (.one 14 (.one 15 (.one 16 (.one 17 (.one 18 (.one 19 .nil)))))))))))))))))))) (by kernel_rfl) ?_; conv => whnf))
    exact hfalse (by rw [hmB, decide_eq_true h2]; simp)
  conv => whnf
  repeat (first | refine ru ?_ | (refine AW.plan (id := 10) hm (.one 0 (.one 2 (.one 6 (.one 8 (.one 9 (.one 10 (.one 12 (.one 1 (.one 3 (.one 4 (.one 5 (.one 7 (.one 11 (.one 13 (.one 14 (.one 15 (.one 16 (.one 17 (.one 18 (.one 19 .nil)))))))))))))))))))) (by kernel_rfl) ?_; conv => whnf))
  refine ASplit.ndec (fun h3 => ?_) (fun h3 => ?_)
  · conv => whnf
    repeat (first | refine ru ?_ | (refine AW.plan (id := 10) hm (.one 0 (.one 2 (.one 6 (.one 8 (.one 9 (.one 10 (.one 12 (.one 1 (.one 3 (.one 4 (.one 5 (.one 7 (.one 11 (.one 13 (.one 14 (.one 15 (.one 16 (.one 17 (.one 18 (.one 19 .nil)))))))))))))))))))) (by kernel_rfl) ?_; conv => whnf))
    exact hfalse (by rw [hmB, decide_eq_false h3]; simp)
  conv => whnf
  repeat (first | refine ru ?_ | (refine AW.plan (id := 10) hm (.one 0 (.one 2 (.one 6 (.one 8 (.one 9 (.one 10 (.one 12 (.one 1 (.one 3 (.one 4 (.one 5 (.one 7 (.one 11 (.one 13 (.one 14 (.one 15 (.one 16 (.one 17 (.one 18 (.one 19 .nil)))))))))))))))))))) (by kernel_rfl) ?_; conv => whnf))
  refine ACall.val (args := [ssV m.ss]) (by kernel_rfl) (f153 m.ss hms) (by (first | rfl | (simp only [renL, AV.ren, List.nil_append, List.cons_append, rens]; try rfl))) rfl ?_
  conv => whnf
  repeat (first | refine ru ?_ | (refine AW.plan (id := 10) hm (.one 0 (.one 2 (.one 6 (.one 8 (.one 9 (.one 10 (.one 12 (.one 1 (.one 3 (.one 4 (.one 5 (.one 7 (.one 11 (.one 13 (.one 14 (.one 15 (.one 16 (.one 17 (.one 18 (.one 19 .nil)))))))))))))))))))) (by kernel_rfl) ?_; conv => whnf))
  refine ACond.ndec (fun h4 => ?_) (fun h4 => ?_)
  · conv => whnf
    repeat (first | refine ru ?_ | (refine AW.plan (id := 10) hm (.one 0 (.one 2 (.one 6 (.one 8 (.one 9 (.one 10 (.one 12 (.one 1 (.one 3 (.one 4 (.one 5 (.one 7 (.one 11 (.one 13 (.one 14 (.one 15 (.one 16 (.one 17 (.one 18 (.one 19 .nil)))))))))))))))))))) (by kernel_rfl) ?_; conv => whnf))
    exact hfalse (by rw [hmB, decide_eq_false h4]; simp)
  have hlen : m.am.length = m.ss.length := by omega
  rw [decide_eq_false h1, decide_eq_false h2, decide_eq_true h3, decide_eq_true h4] at hmB
  simp only [Bool.not_false, Bool.and_self, Bool.true_and] at hmB
  conv => whnf
  repeat (first | refine ru ?_ | (refine AW.plan (id := 10) hm (.one 0 (.one 2 (.one 6 (.one 8 (.one 9 (.one 10 (.one 12 (.one 1 (.one 3 (.one 4 (.one 5 (.one 7 (.one 11 (.one 13 (.one 14 (.one 15 (.one 16 (.one 17 (.one 18 (.one 19 .nil)))))))))))))))))))) (by kernel_rfl) ?_; conv => whnf))
  refine ALoop.mk (fun n E H => ∃ (i : Nat), n = m.ss.length - i ∧ i ≤ m.ss.length ∧ memoT s m.order o (m.ss.drop i) (m.am.drop i) = memoB s m ∧
      E = pad [stA s, moA m, .ptr 0 0, .ptr 1 0, bV false, .ptr 2 0, .any, .any, .any, .any, .any, .any, .any, .any, .any, .any, .any, .any, .any, .any, .any, .any, .any, .any, .any, .any, .any, .any, .any, .any, .any, .any, .any, .any, .any, .any, .any, .any, .any, .any, .any, .any, .any, .any, .any, .any, .any, .any, .any, .any, .any, ssV m.ss, nV m.ss.length, nV i] 109 ∧ H = [.cells 134 (stC s), .cells 73 (moC m), .cells 119 (odC o)]) (n := m.ss.length) _ _
    ⟨0, rfl, Nat.zero_le _, hmB.symm, rfl, rfl⟩ (Conv.fit (by repeat' (first | exact Fit.nil | refine Fit.any ?_ | refine Fit.same ?_))) ?_
  rintro _ _ _ ⟨i, rfl, hi, hI, rfl, rfl⟩
  conv => whnf
  repeat (first | refine go ?_ | (refine AW.plan (id := 10) hm (.one 0 (.one 2 (.one 6 (.one 8 (.one 9 (.one 10 (.one 12 (.one 1 (.one 3 (.one 4 (.one 5 (.one 7 (.one 11 (.one 13 (.one 14 (.one 15 (.one 16 (.one 17 (.one 18 (.one 19 .nil)))))))))))))))))))) (by kernel_rfl) ?_; conv => whnf))
  refine ACond.dec (fun h5 => ?_) (fun h5 => ?_)
  · have hil : i < m.ss.length := by omega
    have hil2 : i < m.am.length := by omega
    have w1 : IntKind.wrap .i64 ((i : Int) + 1) = ((i + 1 : Nat) : Int) := by rw [wrap_i64 _ (by omega) (by omega)]; omega
    have hff := f20' s m.ss[i] h
    rw [List.drop_eq_getElem_cons hil, List.drop_eq_getElem_cons hil2, memoT] at hI
    conv => whnf
    repeat (first | refine go ?_ | ((first | refine AW.plan (id := 10) hm (.one 0 (.one 2 (.one 6 (.one 8 (.one 9 (.one 10 (.one 12 (.one 1 (.one 3 (.one 4 (.one 5 (.one 7 (.one 11 (.one 13 (.one 14 (.one 15 (.one 16 (.one 17 (.one 18 (.one 19 .nil)))))))))))))))))))) (by kernel_rfl) ?_ | refine AReq.mk (by omega) ?_ | refine AIdx.flat (enc := sC) sC_len (xs := m.ss) (i := i) hil ?_); conv => whnf))
    refine ACall.val (args := [stA s, sV m.ss[i]]) (by kernel_rfl) hff (by (first | rfl | (simp only [renL, AV.ren, List.nil_append, List.cons_append, rens]; try rfl))) (by (first | rfl | (simp only [renL, AV.ren, List.nil_append, List.cons_append, rens]; try rfl))) ?_
    cases hfu : findU s m.ss[i] with
    | none =>
      conv => whnf
      repeat (first | refine ru ?_ | (refine AW.plan (id := 10) hm (.one 0 (.one 2 (.one 6 (.one 8 (.one 9 (.one 10 (.one 12 (.one 1 (.one 3 (.one 4 (.one 5 (.one 7 (.one 11 (.one 13 (.one 14 (.one 15 (.one 16 (.one 17 (.one 18 (.one 19 .nil)))))))))))))))))))) (by kernel_rfl) ?_; conv => whnf))
      refine AOut.stay ?_
      conv => whnf
      repeat (first | refine ru ?_ | (refine AW.plan (id := 10) hm (.one 0 (.one 2 (.one 6 (.one 8 (.one 9 (.one 10 (.one 12 (.one 1 (.one 3 (.one 4 (.one 5 (.one 7 (.one 11 (.one 13 (.one 14 (.one 15 (.one 16 (.one 17 (.one 18 (.one 19 .nil)))))))))))))))))))) (by kernel_rfl) ?_; conv => whnf))
      exact hfalse (by rw [← hI, memo1, hfu]; rfl)
    | some u =>
    simp only [Option.getD_some, Option.isSome_some]
    have hum : u ∈ s.units := List.mem_of_find?_eq_some hfu
    have hm1' : memo1 s m.order o m.ss[i] m.am[i] = (decide (u.order = m.order) && !decide (u.state = 1) && decide ((valF ((o.ls[u.line.toNat]?).getD lnZ) u.place s.rules.fees u.grade).2 = 0) && decide ((valF ((o.ls[u.line.toNat]?).getD lnZ) u.place s.rules.fees u.grade).1 = m.am[i])) := by rw [memo1, hfu]
    rw [hm1'] at hI
    conv => whnf
    repeat (first | refine ru ?_ | (refine AW.plan (id := 10) hm (.one 0 (.one 2 (.one 6 (.one 8 (.one 9 (.one 10 (.one 12 (.one 1 (.one 3 (.one 4 (.one 5 (.one 7 (.one 11 (.one 13 (.one 14 (.one 15 (.one 16 (.one 17 (.one 18 (.one 19 .nil)))))))))))))))))))) (by kernel_rfl) ?_; conv => whnf))
    refine ASplit.ndec (fun h6 => ?_) (fun h6 => ?_)
    · conv => whnf
      repeat (first | refine ru ?_ | (refine AW.plan (id := 10) hm (.one 0 (.one 2 (.one 6 (.one 8 (.one 9 (.one 10 (.one 12 (.one 1 (.one 3 (.one 4 (.one 5 (.one 7 (.one 11 (.one 13 (.one 14 (.one 15 (.one 16 (.one 17 (.one 18 (.one 19 .nil)))))))))))))))))))) (by kernel_rfl) ?_; conv => whnf))
      refine AOut.stay ?_
      conv => whnf
      repeat (first | refine ru ?_ | (refine AW.plan (id := 10) hm (.one 0 (.one 2 (.one 6 (.one 8 (.one 9 (.one 10 (.one 12 (.one 1 (.one 3 (.one 4 (.one 5 (.one 7 (.one 11 (.one 13 (.one 14 (.one 15 (.one 16 (.one 17 (.one 18 (.one 19 .nil)))))))))))))))))))) (by kernel_rfl) ?_; conv => whnf))
      exact hfalse (by rw [← hI, decide_eq_false h6]; simp)
    conv => whnf
    repeat (first | refine ru ?_ | (refine AW.plan (id := 10) hm (.one 0 (.one 2 (.one 6 (.one 8 (.one 9 (.one 10 (.one 12 (.one 1 (.one 3 (.one 4 (.one 5 (.one 7 (.one 11 (.one 13 (.one 14 (.one 15 (.one 16 (.one 17 (.one 18 (.one 19 .nil)))))))))))))))))))) (by kernel_rfl) ?_; conv => whnf))
    refine ACond.dec (fun h7 => ?_) (fun h7 => ?_)
    · conv => whnf
      repeat (first | refine ru ?_ | (refine AW.plan (id := 10) hm (.one 0 (.one 2 (.one 6 (.one 8 (.one 9 (.one 10 (.one 12 (.one 1 (.one 3 (.one 4 (.one 5 (.one 7 (.one 11 (.one 13 (.one 14 (.one 15 (.one 16 (.one 17 (.one 18 (.one 19 .nil)))))))))))))))))))) (by kernel_rfl) ?_; conv => whnf))
      refine AOut.stay ?_
      conv => whnf
      repeat (first | refine ru ?_ | (refine AW.plan (id := 10) hm (.one 0 (.one 2 (.one 6 (.one 8 (.one 9 (.one 10 (.one 12 (.one 1 (.one 3 (.one 4 (.one 5 (.one 7 (.one 11 (.one 13 (.one 14 (.one 15 (.one 16 (.one 17 (.one 18 (.one 19 .nil)))))))))))))))))))) (by kernel_rfl) ?_; conv => whnf))
      exact hfalse (by rw [← hI, decide_eq_true h7]; simp)
    obtain ⟨o', k, j, hat⟩ := came_at hb.tab (hb.came u hum)
    obtain rfl : o = o' := by
      have := hat.find
      rw [h6, ho] at this
      cases this; rfl
    have hk := hat.klt
    have hline := hat.line
    have hkt : u.line.toNat = k := by omega
    rw [List.getElem?_eq_getElem (show u.line.toNat < o.ls.length by omega), Option.getD_some] at hI
    conv => whnf
    repeat (first | refine ru ?_ | ((first | refine AW.plan (id := 10) hm (.one 0 (.one 2 (.one 6 (.one 8 (.one 9 (.one 10 (.one 12 (.one 1 (.one 3 (.one 4 (.one 5 (.one 7 (.one 11 (.one 13 (.one 14 (.one 15 (.one 16 (.one 17 (.one 18 (.one 19 .nil)))))))))))))))))))) (by kernel_rfl) ?_ | refine AReq.mk (by omega) ?_ | refine AIdx.flat (enc := lnC) lnC_len (xs := o.ls) (i := u.line.toNat) (by omega) ?_); conv => whnf))
    refine ACall.val (args := [lnA (o.ls[u.line.toNat]'(by omega)), nV u.place, isV s.rules.fees, nV u.grade]) (by kernel_rfl) (f247 (o.ls[u.line.toNat]'(by omega)) u.place s.rules.fees u.grade (hoo.2 _ (List.getElem_mem _))) (by (first | rfl | (simp only [renL, AV.ren, List.nil_append, List.cons_append, rens]; try rfl))) rfl ?_
    conv => whnf
    repeat (first | refine ru ?_ | (refine AW.plan (id := 10) hm (.one 0 (.one 2 (.one 6 (.one 8 (.one 9 (.one 10 (.one 12 (.one 1 (.one 3 (.one 4 (.one 5 (.one 7 (.one 11 (.one 13 (.one 14 (.one 15 (.one 16 (.one 17 (.one 18 (.one 19 .nil)))))))))))))))))))) (by kernel_rfl) ?_; conv => whnf))
    refine ASplit.ndec (fun h8 => ?_) (fun h8 => ?_)
    · conv => whnf
      repeat (first | refine ru ?_ | (refine AW.plan (id := 10) hm (.one 0 (.one 2 (.one 6 (.one 8 (.one 9 (.one 10 (.one 12 (.one 1 (.one 3 (.one 4 (.one 5 (.one 7 (.one 11 (.one 13 (.one 14 (.one 15 (.one 16 (.one 17 (.one 18 (.one 19 .nil)))))))))))))))))))) (by kernel_rfl) ?_; conv => whnf))
      refine AOut.stay ?_
      conv => whnf
      repeat (first | refine ru ?_ | (refine AW.plan (id := 10) hm (.one 0 (.one 2 (.one 6 (.one 8 (.one 9 (.one 10 (.one 12 (.one 1 (.one 3 (.one 4 (.one 5 (.one 7 (.one 11 (.one 13 (.one 14 (.one 15 (.one 16 (.one 17 (.one 18 (.one 19 .nil)))))))))))))))))))) (by kernel_rfl) ?_; conv => whnf))
      exact hfalse (by rw [← hI, decide_eq_false h8]; simp)
    conv => whnf
    repeat (first | refine ru ?_ | ((first | refine AW.plan (id := 10) hm (.one 0 (.one 2 (.one 6 (.one 8 (.one 9 (.one 10 (.one 12 (.one 1 (.one 3 (.one 4 (.one 5 (.one 7 (.one 11 (.one 13 (.one 14 (.one 15 (.one 16 (.one 17 (.one 18 (.one 19 .nil)))))))))))))))))))) (by kernel_rfl) ?_ | refine AReq.mk (by omega) ?_ | refine AIdx.flat (enc := iC) iC_len (xs := m.am) (i := i) hil2 ?_); conv => whnf))
    refine ACond.ndec (fun h9 => ?_) (fun h9 => ?_)
    · conv => whnf
      repeat (first | refine ru ?_ | (refine AW.plan (id := 10) hm (.one 0 (.one 2 (.one 6 (.one 8 (.one 9 (.one 10 (.one 12 (.one 1 (.one 3 (.one 4 (.one 5 (.one 7 (.one 11 (.one 13 (.one 14 (.one 15 (.one 16 (.one 17 (.one 18 (.one 19 .nil)))))))))))))))))))) (by kernel_rfl) ?_; conv => whnf))
      refine AOut.stay ?_
      conv => whnf
      repeat (first | refine ru ?_ | (refine AW.plan (id := 10) hm (.one 0 (.one 2 (.one 6 (.one 8 (.one 9 (.one 10 (.one 12 (.one 1 (.one 3 (.one 4 (.one 5 (.one 7 (.one 11 (.one 13 (.one 14 (.one 15 (.one 16 (.one 17 (.one 18 (.one 19 .nil)))))))))))))))))))) (by kernel_rfl) ?_; conv => whnf))
      exact hfalse (by rw [← hI, decide_eq_false h9]; simp)
    conv => whnf
    repeat (first | refine ru ?_ | (refine AW.plan (id := 10) hm (.one 0 (.one 2 (.one 6 (.one 8 (.one 9 (.one 10 (.one 12 (.one 1 (.one 3 (.one 4 (.one 5 (.one 7 (.one 11 (.one 13 (.one 14 (.one 15 (.one 16 (.one 17 (.one 18 (.one 19 .nil)))))))))))))))))))) (by kernel_rfl) ?_; conv => whnf))
    rw [w1]
    refine AHead.mk (m.ss.length - (i + 1)) _ _ (by omega) ⟨i + 1, rfl, by omega, by rw [← hI, decide_eq_true h6, decide_eq_false h7, decide_eq_true h8, decide_eq_true h9]; rfl, rfl, rfl⟩ (Conv.ren [0, 1, 2] _ (by simp) (by simp) (by simp only [pad, renL, AV.ren, rens]; repeat' (first | exact Fit.nil | refine Fit.any ?_ | refine Fit.same ?_)) (.same (by simp only [ABlk.ren, stC_ren]; rfl) (.same (by simp only [ABlk.ren, moC_ren]; rfl) (.same (by simp only [ABlk.ren, odC_ren]; rfl) .nil))))
  · conv => whnf
    repeat (first | refine ru ?_ | (refine AW.plan (id := 10) hm (.one 0 (.one 2 (.one 6 (.one 8 (.one 9 (.one 10 (.one 12 (.one 1 (.one 3 (.one 4 (.one 5 (.one 7 (.one 11 (.one 13 (.one 14 (.one 15 (.one 16 (.one 17 (.one 18 (.one 19 .nil)))))))))))))))))))) (by kernel_rfl) ?_; conv => whnf))
    refine AOut.stay ?_
    conv => whnf
    repeat (first | refine ru ?_ | (refine AW.plan (id := 10) hm (.one 0 (.one 2 (.one 6 (.one 8 (.one 9 (.one 10 (.one 12 (.one 1 (.one 3 (.one 4 (.one 5 (.one 7 (.one 11 (.one 13 (.one 14 (.one 15 (.one 16 (.one 17 (.one 18 (.one 19 .nil)))))))))))))))))))) (by kernel_rfl) ?_; conv => whnf))
    rw [List.drop_of_length_le (by omega), show memoT s m.order o [] (m.am.drop i) = true from rfl] at hI
    exact AFin.val rfl ⟨by rw [← hI], rfl⟩
theorem memo1_of {s : Sta} {id : Int} {o : Od} {x : ByteArray} {a : Int} (hb : Base s) (ho : s.orders.find? (fun x => decide (x.id = id)) = some o) (h : memo1 s id o x a = true) :
    ∃ u ∈ s.units, findU s x = some u ∧ u.order = id ∧ ∃ o k' j, At s u o k' j ∧ ∃ l, o.ls[k']? = some l ∧ valF l u.place s.rules.fees u.grade = (a, 0) := by
  rw [memo1] at h
  split at h
  · cases h
  · rename_i u hu
    simp only [Bool.and_eq_true, decide_eq_true_eq] at h
    obtain ⟨⟨⟨h1, h2⟩, h3⟩, h4⟩ := h
    have hum : u ∈ s.units := List.mem_of_find?_eq_some hu
    obtain ⟨o', k, j, hat⟩ := came_at hb.tab (hb.came u hum)
    obtain rfl : o = o' := by
      have := hat.find
      rw [h1, ho] at this
      cases this; rfl
    have hk := hat.klt
    have hline := hat.line
    have hkt : u.line.toNat = k := by omega
    refine ⟨u, hum, hu, h1, o, k, j, hat, o.ls[k], List.getElem?_eq_getElem hk, ?_⟩
    rw [hkt, List.getElem?_eq_getElem hk, Option.getD_some] at h3 h4
    exact Prod.ext h4 h3
theorem memoT_of {s : Sta} {id : Int} {o : Od} : ∀ {ss : List ByteArray} {am : List Int}, memoT s id o ss am = true → ∀ i (h1 : i < ss.length) (h2 : i < am.length), memo1 s id o ss[i] am[i] = true
  | [], _, _, i, h1, _ => absurd h1 (Nat.not_lt_zero _)
  | _ :: _, [], _, i, _, h2 => absurd h2 (Nat.not_lt_zero _)
  | x :: ss, a :: am, h, i, h1, h2 => by
    rw [memoT, Bool.and_eq_true] at h
    cases i with
    | zero => exact h.1
    | succ i => exact memoT_of h.2 i (by simpa using h1) (by simpa using h2)
theorem memoB_of {s : Sta} {m : Mo} (hb : Base s) (h : memoB s m = true) : MemoOk s m := by
  rw [memoB] at h
  split at h
  · cases h
  · rename_i o ho
    simp only [Bool.and_eq_true, decide_eq_true_eq] at h
    obtain ⟨⟨⟨⟨h1, h2⟩, h3⟩, h4⟩, h5⟩ := h
    exact ⟨by omega, h4, fun i g1 g2 => memo1_of hb ho (memoT_of h5 i g1 g2)⟩
end Go.Aw.U1

set_option linter.unusedSimpArgs false
set_option linter.unusedVariables false
set_option maxHeartbeats 4000000
set_option maxRecDepth 30000
namespace Go.Aw.U1
open Go Go.Proofs

def credT (s : Sta) : List Mo → (ByteArray → Bool) → Bool
  | [], _ => true
  | m :: l, g => memoB s m && shipsM (mvS m.void m.ss g) (credT s l)
def credB (s : Sta) : Bool := credT s s.memos (fun _ => false)
theorem cred_of {s : Sta} (hb : Base s) : ∀ {l : List Mo} {g : ByteArray → Bool}, credT s l g = true → (∀ m ∈ l, MemoOk s m) ∧ crT l g = true
  | [], _, _ => ⟨fun m hm => by simp at hm, rfl⟩
  | m :: l, g, h => by
    rw [credT, Bool.and_eq_true] at h
    rw [crT]
    cases e : mvS m.void m.ss g with
    | none => rw [e] at h; cases h.2
    | some g' =>
      rw [e] at h
      obtain ⟨h1, h2⟩ := cred_of hb (l := l) (g := g') h.2
      refine ⟨fun x hx => ?_, h2⟩
      rcases List.mem_cons.1 hx with rfl | hx
      · exact memoB_of hb h.1
      · exact h1 x hx
theorem f66x (s : Sta) (h : StaOk s) (hb : Base s) : Fun P 66 [stA s] (bV (credB s)) := by
  refine spec_of hT (f := 66) (fn := Go.Proofs.Tryz.f66) (c := body Go.Proofs.Tryz.f66) (by kernel_rfl) (by kernel_rfl) ?_
  have hm1 := h.memos.1
  have hfalse : credB s = false → ∀ {H : List ABlk}, AFin 0 (bV false) H (fun r H => r = bV (credB s) ∧ H = []) := fun e => AFin.val rfl ⟨by rw [e], rfl⟩
  conv => whnf
  repeat refine go ?_
  refine AOp.makeMap ?_
  conv => whnf
  repeat refine go ?_
  refine ALoop.mk (fun n E H => ∃ (i : Nat) (g : ByteArray → Bool) (L : List (ByteArray × Bool)) (bs : List Nat) (clk : Nat), n = s.memos.length - i ∧ i ≤ s.memos.length ∧ MapIs sOk L false g ∧ credT s (s.memos.drop i) g = credB s ∧
      E = pad [stA s, .ptr 0 0, bV false, .mp 1, .any, .any, .any, .any, .any, .any, .any, mosV s.memos, nV s.memos.length, nV i] 48 ∧ H = [.cells 134 (stC s), .map (em sV bV L) bs clk]) (n := s.memos.length) _ _
    ⟨0, _, [], [], 0, rfl, Nat.zero_le _, MapIs.nil, rfl, rfl, rfl⟩ (Conv.fit (by repeat' (first | exact Fit.nil | refine Fit.any ?_ | refine Fit.same ?_))) ?_
  rintro _ _ _ ⟨i, g, L, bs, clk, rfl, hi, hM, hcr, rfl, rfl⟩
  conv => whnf
  repeat refine go ?_
  refine ACond.dec (fun h1 => ?_) (fun h1 => ?_)
  · have hil : i < s.memos.length := by omega
    have w1 : IntKind.wrap .i64 ((i : Int) + 1) = ((i + 1 : Nat) : Int) := by rw [wrap_i64 _ (by omega) (by omega)]; omega
    have hmo := h.memos.2 _ (List.getElem_mem hil)
    rw [List.drop_eq_getElem_cons hil, credT] at hcr
    conv => whnf
    repeat (first | refine go ?_ | ((first | refine AReq.mk (by omega) ?_ | refine AIdx.flat (enc := moC) moC_len (xs := s.memos) (i := i) hil ?_); conv => whnf))
    generalize s.memos[i] = m at hmo hcr
    refine ACall.val (args := [stA s, moA m]) (by kernel_rfl) (f165x s m h hb hmo.1 hmo.2) (by (first | rfl | (simp only [renL, AV.ren, List.nil_append, List.cons_append, rens]; try rfl))) rfl ?_
    rcases Bool.eq_false_or_eq_true (memoB s m) with hbm | hbm
    case inr =>
      rw [hbm]
      conv => whnf
      repeat refine ru ?_
      refine AOut.stay ?_
      conv => whnf
      repeat refine ru ?_
      exact hfalse (by rw [← hcr, hbm]; rfl)
    rw [hbm] at hcr ⊢
    rw [Bool.true_and] at hcr
    have hss := hmo.1
    have hs1 := hss.1
    conv => whnf
    repeat refine ru ?_
    refine ALoop.mk (fun n E H => ∃ (k : Nat) (g : ByteArray → Bool) (L : List (ByteArray × Bool)) (bs : List Nat) (clk : Nat), n = m.ss.length - k ∧ k ≤ m.ss.length ∧ MapIs sOk L false g ∧ shipsM (mvS m.void (m.ss.drop k) g) (credT s (s.memos.drop (i + 1))) = credB s ∧
        E = pad [stA s, .ptr 0 0, bV false, .mp 1, .any, .ptr 2 0, .any, .any, .any, .any, .any, mosV s.memos, nV s.memos.length, nV i, .any, .any, .any, .any, .any, .any, .any, .any, ssV m.ss, nV m.ss.length, nV k] 48 ∧ H = [.cells 134 (stC s), .map (em sV bV L) bs clk, .cells 73 (moC m)]) (n := m.ss.length) _ _
      ⟨0, g, L, bs, clk, rfl, Nat.zero_le _, hM, hcr, rfl, rfl⟩ (Conv.fit (by repeat' (first | exact Fit.nil | refine Fit.any ?_ | refine Fit.same ?_))) ?_
    rintro _ _ _ ⟨k, g, L, bs, clk, rfl, hk, hM, hcr, rfl, rfl⟩
    conv => whnf
    repeat refine go ?_
    refine ACond.dec (fun h2 => ?_) (fun h2 => ?_)
    · have hkl : k < m.ss.length := by omega
      have w2 : IntKind.wrap .i64 ((k : Int) + 1) = ((k + 1 : Nat) : Int) := by rw [wrap_i64 _ (by omega) (by omega)]; omega
      have hxo : sOk m.ss[k] := hss.2 _ (List.getElem_mem hkl)
      rw [List.drop_eq_getElem_cons hkl, mvS] at hcr
      conv => whnf
      repeat (first | refine go ?_ | ((first | refine AReq.mk (by omega) ?_ | refine AIdx.flat (enc := sC) sC_len (xs := m.ss) (i := k) hkl ?_); conv => whnf))
      have hput : ¬ (!m.void && g m.ss[k]) = true → shipsM (mvS m.void (m.ss.drop (k + 1)) (upd g m.ss[k] (g m.ss[k] || !m.void))) (credT s (s.memos.drop (i + 1))) = credB s := fun hn => by rw [if_neg hn] at hcr; exact hcr
      have hbad : (!m.void && g m.ss[k]) = true → credB s = false := fun hn => by rw [if_pos hn] at hcr; exact hcr.symm
      clear hcr
      rcases Bool.eq_false_or_eq_true m.void with hv | hv
      · refine ASplit.no (by rw [hv]; rfl) ?_
        have hcr := hput (by rw [hv]; simp)
        conv => whnf
        repeat refine ru ?_
        refine AOp.getM 1 m.ss[k] hT sK und126 hne4 (eb := bV) rfl hM hxo rfl rfl rfl ?_
        conv => whnf
        repeat refine ru ?_
        refine ASplit.mk (fun hg => ?_) (fun hg => ?_)
        · rw [hg] at hcr
          conv => whnf
          repeat refine ru ?_
          refine AOp.putM 1 m.ss[k] true sK und126 hM hxo rfl rfl rfl rfl ?_
          intro L' bs' clk' hM'
          conv => whnf
          repeat refine ru ?_
          rw [w2]
          exact AHead.mk (m.ss.length - (k + 1)) _ _ (by omega) ⟨k + 1, _, L', bs', clk', rfl, by omega, hM', hcr, rfl, rfl⟩ (Conv.fit (by repeat' (first | exact Fit.nil | refine Fit.any ?_ | refine Fit.same ?_)))
        · rw [hg] at hcr
          conv => whnf
          repeat refine ru ?_
          refine AOp.putM 1 m.ss[k] (!m.void) sK und126 hM hxo rfl rfl rfl rfl ?_
          intro L' bs' clk' hM'
          conv => whnf
          repeat refine ru ?_
          rw [w2]
          exact AHead.mk (m.ss.length - (k + 1)) _ _ (by omega) ⟨k + 1, _, L', bs', clk', rfl, by omega, hM', hcr, rfl, rfl⟩ (Conv.fit (by repeat' (first | exact Fit.nil | refine Fit.any ?_ | refine Fit.same ?_)))
      · refine ASplit.yes (by rw [hv]; rfl) ?_
        conv => whnf
        repeat refine ru ?_
        refine AOp.getM 1 m.ss[k] hT sK und126 hne4 (eb := bV) rfl hM hxo rfl rfl rfl ?_
        conv => whnf
        repeat refine ru ?_
        refine ACond.mk (fun hg => ?_) (fun hg => ?_)
        · conv => whnf
          repeat refine ru ?_
          refine AOut.stay ?_
          conv => whnf
          repeat refine ru ?_
          refine AOut.stay ?_
          conv => whnf
          repeat refine ru ?_
          exact hfalse (hbad (by rw [hv, hg]; rfl))
        · have hcr := hput (by rw [hg]; simp)
          rw [hg] at hcr
          conv => whnf
          repeat refine ru ?_
          refine AOp.getM 1 m.ss[k] hT sK und126 hne4 (eb := bV) rfl hM hxo rfl rfl rfl ?_
          conv => whnf
          repeat refine ru ?_
          refine ASplit.no hg ?_
          conv => whnf
          repeat refine ru ?_
          refine AOp.putM 1 m.ss[k] (!m.void) sK und126 hM hxo rfl rfl rfl rfl ?_
          intro L' bs' clk' hM'
          conv => whnf
          repeat refine ru ?_
          rw [w2]
          exact AHead.mk (m.ss.length - (k + 1)) _ _ (by omega) ⟨k + 1, _, L', bs', clk', rfl, by omega, hM', hcr, rfl, rfl⟩ (Conv.fit (by repeat' (first | exact Fit.nil | refine Fit.any ?_ | refine Fit.same ?_)))
    · rw [List.drop_of_length_le (by omega)] at hcr
      conv => whnf
      repeat refine go ?_
      refine AOut.stay ?_
      conv => whnf
      repeat refine go ?_
      rw [w1]
      exact AHead.mk (s.memos.length - (i + 1)) _ _ (by omega) ⟨i + 1, g, L, bs, clk, rfl, by omega, hM, hcr, rfl, rfl⟩ (Conv.ren [0, 1] _ (by simp) (by simp) (by simp only [pad, renL, AV.ren, rens]; repeat' (first | exact Fit.nil | refine Fit.any ?_ | refine Fit.same ?_)) (.same (by simp only [ABlk.ren, stC_ren]; rfl) (.same (by simp only [ABlk.ren, ren_emS]; rfl) .nil)))
  · rw [List.drop_of_length_le (by omega)] at hcr
    conv => whnf
    repeat refine go ?_
    refine AOut.stay ?_
    conv => whnf
    repeat refine go ?_
    exact AFin.val rfl ⟨by rw [← hcr]; rfl, rfl⟩
end Go.Aw.U1

set_option linter.unusedSimpArgs false
set_option linter.unusedVariables false
set_option maxHeartbeats 4000000
set_option maxRecDepth 30000
namespace Go.Aw.U1
open Go Go.Proofs

/-! point 9, exact -/
def okB (l : List UR.Mv) (k : Nat) : Bool :=
  match l[k]? with
  | none => true
  | some m => decide (UR.mok m) && decide (0 ≤ UR.sumOf (l.take (k + 1)) m.p m.i) && decide (UR.sumOf (l.take (k + 1)) m.p m.i ≤ 1000000)
def goodB (l : List UR.Mv) : Bool := decide (l.length ≤ 1000) && (List.range l.length).all (okB l)
theorem goodB_iff (l : List UR.Mv) : goodB l = true ↔ UR.good l := by
  simp only [goodB, Bool.and_eq_true, decide_eq_true_eq, List.all_eq_true, List.mem_range, UR.good]
  refine and_congr_right fun _ => ⟨fun h k hk => ?_, fun h k hk => ?_⟩
  · have := h k hk
    rw [okB, List.getElem?_eq_getElem hk] at this
    simp only [Bool.and_eq_true, decide_eq_true_eq] at this
    exact ⟨this.1.1, this.1.2, this.2⟩
  · have := h k hk
    rw [okB, List.getElem?_eq_getElem hk]
    simp only [Bool.and_eq_true, decide_eq_true_eq]
    exact ⟨⟨this.1, this.2.1⟩, this.2.2⟩
def heldQ (s : Sta) : Bool := (mvL s).all fun m => m.p || decide (UR.sumOf (mvL s) false m.i = cntS s m.i s.units)
def leftB (s : Sta) : Bool := s.units.all fun u => !decide (u.state = 6) || (mvL s).any fun m => !m.p && decide (m.i = itemU s u)
def stockB (s : Sta) : Bool := goodB (mvL s) && heldQ s && leftB s
theorem stockB_of {s : Sta} {d : List UR.Hd} (hall : UR.AllOf (mvL s) d) (h : stockB s = true) : StockOk s d := by
  simp only [stockB, Bool.and_eq_true, goodB_iff] at h
  refine ⟨h.1.1, hall, fun x hx hp => ?_⟩
  obtain ⟨⟨m, hm1, hm2, hm3⟩, hq⟩ := (hall.mem x).1 hx
  have := List.all_eq_true.1 h.1.2 m hm1
  rw [hm2, hp, Bool.false_or, decide_eq_true_eq, hm3] at this
  rw [hq, hp, this]
theorem cntS_pos (s : Sta) (id : Int) : ∀ l : List Un, (∃ u ∈ l, u.state = 6 ∧ itemU s u = id) ↔ cntS s id l ≠ 0
  | [] => by simp [cntS]
  | u :: l => by
    have ih := cntS_pos s id l
    have hb := cntS_bd s id l
    rw [cntS]
    constructor
    · rintro ⟨v, hv, h1⟩
      rcases List.mem_cons.1 hv with rfl | hv
      · rw [if_pos h1]; omega
      · have := ih.1 ⟨v, hv, h1⟩
        split <;> omega
    · intro h
      by_cases h1 : u.state = 6 ∧ itemU s u = id
      · exact ⟨u, by simp, h1⟩
      · rw [if_neg h1] at h
        obtain ⟨v, hv, h2⟩ := ih.2 (by omega)
        exact ⟨v, by simp [hv], h2⟩
theorem leftB_iff {s : Sta} {d : List UR.Hd} (hall : UR.AllOf (mvL s) d) : leftB s = true ↔ ∀ x, (∀ y ∈ d, y.1 = false → y.2.1 ≠ x) → cntS s x s.units = 0 := by
  simp only [leftB, List.all_eq_true, Bool.or_eq_true, Bool.not_eq_true', decide_eq_false_iff_not, List.any_eq_true, Bool.and_eq_true, decide_eq_true_eq]
  constructor
  · intro h x hx
    refine Classical.byContradiction fun hne => ?_
    obtain ⟨u, hu, h1, h2⟩ := (cntS_pos s x s.units).2 hne
    rcases h u hu with h3 | ⟨m, hm1, hm2, hm3⟩
    · exact h3 h1
    · exact hx (m.p, m.i, UR.sumOf (mvL s) m.p m.i) ((hall.mem _).2 ⟨⟨m, hm1, rfl, rfl⟩, rfl⟩) hm2 (by rw [← h2, ← hm3])
  · intro h u hu
    refine Classical.or_iff_not_imp_left.2 fun h1 => ?_
    refine Classical.byContradiction fun h2 => ?_
    refine (cntS_pos s (itemU s u) s.units).1 ⟨u, hu, Classical.not_not.1 h1, rfl⟩ (h _ fun y hy hp he => h2 ?_)
    obtain ⟨⟨m, hm1, hm2, hm3⟩, _⟩ := (hall.mem y).1 hy
    exact ⟨m, hm1, by rw [hm2, hp], by rw [hm3, he]⟩
theorem f67x (s : Sta) (h : StaOk s) (hb : Base s) (ho : ∀ o ∈ s.orders, ordC o = 0) : Fun P 67 [stA s] (bV (stockB s)) := by
  refine spec_of hT (f := 67) (fn := Go.Proofs.Tryz.f67) (c := body Go.Proofs.Tryz.f67) (by kernel_rfl) (by kernel_rfl) ?_
  have hu1 := h.units.1
  have hfalse : stockB s = false → ∀ {H : List ABlk}, AFin 0 (bV false) H (fun r H => r = bV (stockB s) ∧ H = []) := fun e => AFin.val rfl ⟨by rw [e], rfl⟩
  conv => whnf
  repeat refine go ?_
  refine ACall.spec (args := [mvs s.moves]) (by kernel_rfl) (f57 s h.moves) (by (first | rfl | (simp only [renL, AV.ren, List.nil_append, List.cons_append, rens]; try rfl))) ?_
  rintro _ _ ⟨⟨d, hd, rfl⟩, rfl⟩
  simp only [AV.ren, renL, UR.ren_hds]
  conv => whnf
  repeat refine go ?_
  refine ACond.ndec (fun h1 => ?_) (fun h1 => ?_)
  · conv => whnf
    repeat refine ru ?_
    refine hfalse ?_
    have : goodB (mvL s) = false := by
      cases e : goodB (mvL s) with
      | false => rfl
      | true => exact absurd (UR.chkF_yes ((goodB_iff _).1 e)) h1
    rw [stockB, this]; rfl
  obtain ⟨hg, hall⟩ : UR.good (mvL s) ∧ UR.AllOf (mvL s) d := by
    rcases hd with hd | ⟨hd, _⟩
    · exact hd
    · rw [UR.chkF_no hd] at h1; cases h1
  conv => whnf
  repeat refine ru ?_
  refine AOp.makeMap ?_
  conv => whnf
  repeat refine ru ?_
  refine ALoop.mk (fun n E H => ∃ (i : Nat) (g : Int → Int) (L : List (Int × Int)) (bs : List Nat) (clk : Nat), n = s.units.length - i ∧ i ≤ s.units.length ∧ MapIs nOk L 0 g ∧ Full L 0 ∧ (∀ x, g x = cntS s x (s.units.take i)) ∧
      E = pad [stA s, .ptr 0 0, bV false, UR.hds d, .any, .mp 1, .any, .any, .any, .any, .any, .any, .any, .any, .any, .any, .any, .any, .any, .any, .any, .any, .any, .any, unsV s.units, nV s.units.length, nV i] 80 ∧ H = [.cells 134 (stC s), .map (em nV nV L) bs clk]) (n := s.units.length) _ _
    ⟨0, _, [], [], 0, rfl, Nat.zero_le _, MapIs.nil, Full.nil, fun x => by simp [cntS], rfl, rfl⟩ (Conv.fit (by repeat' (first | exact Fit.nil | refine Fit.any ?_ | refine Fit.same ?_))) ?_
  rintro _ _ _ ⟨i, g, L, bs, clk, rfl, hi, hM, hF, hI, rfl, rfl⟩
  conv => whnf
  repeat refine go ?_
  refine ACond.dec (fun h2 => ?_) (fun h2 => ?_)
  · have hil : i < s.units.length := by omega
    have w1 : IntKind.wrap .i64 ((i : Int) + 1) = ((i + 1 : Nat) : Int) := by rw [wrap_i64 _ (by omega) (by omega)]; omega
    obtain ⟨o, k, j, hat⟩ := came_at hb.tab (hb.came _ (List.getElem_mem hil))
    obtain ⟨e1, e2, e3⟩ := hat.item
    have hf := f108 s s.units[i].order h.orders.1
    rw [hat.find] at hf
    have htk : s.units.take (i + 1) = s.units.take i ++ [s.units[i]] := by rw [List.take_add_one, List.getElem?_eq_getElem hil]; rfl
    have hI2 : ∀ x, cntS s x (s.units.take (i + 1)) = g x + (if s.units[i].state = 6 ∧ itemU s s.units[i] = x then 1 else 0) := fun x => by rw [htk, cntS_snoc, hI]
    conv => whnf
    repeat (first | refine go ?_ | ((first | refine AReq.mk (by omega) ?_ | refine AIdx.flat (enc := unC) unC_len (xs := s.units) (i := i) hil ?_); conv => whnf))
    generalize s.units[i] = u at hat e1 e2 e3 hf hI2
    refine ACond.dec (fun h3 => ?_) (fun h3 => ?_)
    · conv => whnf
      repeat refine ru ?_
      refine ACall.val (args := [stA s, nV u.order]) (by kernel_rfl) hf (by (first | rfl | (simp only [renL, AV.ren, List.nil_append, List.cons_append, rens]; try rfl))) (by (first | rfl | (simp only [renL, AV.ren, List.nil_append, List.cons_append, rens]; try rfl))) ?_
      simp only [Option.getD_some, Option.isSome_some]
      have hk := hat.klt
      have hkl : u.line = k := hat.line
      have hlc := lineC_ok (ordB_lines (ho o hat.mem) (List.getElem_mem hk))
      have hok : nOk (o.ls[k]'hk).item := nOk_of (by omega) (by omega)
      have hbd := cntS_bd s (o.ls[k]'hk).item (s.units.take i)
      rw [← hI] at hbd
      have hle : (s.units.take i).length ≤ i := by simp; omega
      have w2 : IntKind.wrap .i64 (g (o.ls[k]'hk).item + 1) = g (o.ls[k]'hk).item + 1 := by rw [wrap_i64 _ (by omega) (by omega)]
      conv => whnf
      repeat (first | refine ru ?_ | (refine AReq.mk (by omega) ?_; conv => whnf))
      refine AIdx.at lnC_len k (by omega) hk ?_
      conv => whnf
      repeat refine ru ?_
      refine AOp.getM 1 (o.ls[k]'hk).item hT nK und137 hne3 (eb := nV) rfl hM hok rfl rfl rfl ?_
      conv => whnf
      repeat refine ru ?_
      rw [w2]
      refine AOp.putX 1 (o.ls[k]'hk).item (g (o.ls[k]'hk).item + 1) nK und137 hM hok rfl rfl rfl rfl ?_
      intro L' bs' clk' hM' hF'
      conv => whnf
      repeat refine ru ?_
      rw [w1]
      refine AHead.mk (s.units.length - (i + 1)) _ _ (by omega) ⟨i + 1, _, L', bs', clk', rfl, by omega, hM', hF' hF (by omega), fun x => ?_, rfl, rfl⟩ (Conv.ren [0, 1] _ (by simp) (by simp) (by simp only [pad, renL, AV.ren, stC_ren, unsV_ren, UR.ren_hds]; repeat' (first | exact Fit.nil | refine Fit.any ?_ | refine Fit.same ?_)) (.same (by simp only [ABlk.ren, stC_ren]; rfl) (.same (by simp only [ABlk.ren, ren_emI]; rfl) .nil)))
      rw [hI2, e3, upd]
      by_cases hx : x = (o.ls[k]'hk).item
      · subst hx; simp [h3]
      · rw [if_neg hx, if_neg (fun h => hx h.2.symm), Int.add_zero]
    · conv => whnf
      repeat refine ru ?_
      rw [w1]
      refine AHead.mk (s.units.length - (i + 1)) _ _ (by omega) ⟨i + 1, g, L, bs, clk, rfl, by omega, hM, hF, fun x => ?_, rfl, rfl⟩ (Conv.ren [0, 1] _ (by simp) (by simp) (by simp only [pad, renL, AV.ren, stC_ren, unsV_ren, UR.ren_hds]; repeat' (first | exact Fit.nil | refine Fit.any ?_ | refine Fit.same ?_)) (.same (by simp only [ABlk.ren, stC_ren]; rfl) (.same (by simp only [ABlk.ren, ren_emI]; rfl) .nil)))
      rw [hI2, if_neg (fun h => h3 h.1), Int.add_zero]
  · rw [List.take_of_length_le (by omega)] at hI
    conv => whnf
    repeat refine go ?_
    refine AOut.stay ?_
    conv => whnf
    repeat refine go ?_
    have hnd : ∀ i j (hi : i < d.length) (hj : j < d.length), i < j → d[i].1 = false → d[j].1 = false → d[i].2.1 ≠ d[j].2.1 := fun i j hi hj hij h1 h2 he => by
      have := List.pairwise_iff_getElem.1 hall.lt i j hi hj hij
      simp only [UR.hdLt, decide_eq_true_eq] at this
      rcases this with ⟨_, h3⟩ | ⟨_, h3⟩
      · omega
      · rw [h2] at h3; cases h3
    have hids : ∀ x ∈ d, 1 ≤ x.2.1 ∧ x.2.1 ≤ 999999 := fun x hx => by
      obtain ⟨m, hm1, hm2, hm3⟩ := ((hall.mem x).1 hx).1
      obtain ⟨k, hk, rfl⟩ := List.mem_iff_getElem.1 hm1
      have := (hg.2 k hk).1
      unfold UR.mok at this
      omega
    have hdl : d.length ≤ 300 := by
      have h1 : (d.map fun x => (x.1, x.2.1)).Nodup := by
        rw [List.Nodup, List.pairwise_map]
        refine hall.lt.imp fun {x y} hxy he => ?_
        simp only [Prod.mk.injEq] at he
        simp only [UR.hdLt, decide_eq_true_eq] at hxy
        rcases hxy with ⟨_, h3⟩ | ⟨h3, h4⟩
        · omega
        · rw [he.1] at h3; rw [h3] at h4; cases h4
      have h2 := nodup_le h1 (l' := (mvL s).map fun m => (m.p, m.i)) (fun y hy => by
        obtain ⟨x, hx, rfl⟩ := List.mem_map.1 hy
        obtain ⟨m, hm1, hm2, hm3⟩ := ((hall.mem x).1 hx).1
        exact List.mem_map.2 ⟨m, hm1, by rw [hm2, hm3]⟩)
      have h3 := h.moves
      simp only [List.length_map, mvL] at h2
      omega
    refine ALoop.mk (fun n E H => ∃ (i : Nat) (g : Int → Int) (L : List (Int × Int)) (bs : List Nat) (clk : Nat), n = d.length - i ∧ i ≤ d.length ∧ MapIs nOk L 0 g ∧ (Full L 0 ∧ ∀ k (hk : k < d.length), k < i → d[k].1 = false → g d[k].2.1 = 0) ∧ (∀ x, (∀ k (hk : k < d.length), k < i → d[k].1 = false → d[k].2.1 ≠ x) → g x = cntS s x s.units) ∧ (∀ k (hk : k < d.length), k < i → d[k].1 = false → d[k].2.2 = cntS s d[k].2.1 s.units) ∧
        E = pad [stA s, .ptr 0 0, bV false, .any, .any, .mp 1, .any, .any, .any, .any, .any, .any, .any, .any, .any, .any, .any, .any, .any, .any, .any, .any, .any, .any, .any, .any, .any, .any, .any, .any, .any, .any, .any, .any, .any, .any, .any, .any, .any, .any, .any, .any, .any, .any, .any, .any, .any, .any, .any, .any, .any, .any, UR.hds d, nV d.length, nV i] 80 ∧ H = [.cells 134 (stC s), .map (em nV nV L) bs clk]) (n := d.length) _ _
      ⟨0, g, L, bs, clk, rfl, Nat.zero_le _, hM, ⟨hF, fun k _ hk => absurd hk (Nat.not_lt_zero _)⟩, fun x _ => hI x, fun k _ hk => absurd hk (Nat.not_lt_zero _), rfl, rfl⟩ (Conv.fit (by repeat' (first | exact Fit.nil | refine Fit.any ?_ | refine Fit.same ?_))) ?_
    clear hI hF hM g L bs clk
    rintro _ _ _ ⟨i, g, L, bs, clk, rfl, hi, hM, ⟨hF, hZ⟩, hI, hq, rfl, rfl⟩
    conv => whnf
    repeat refine go ?_
    refine ACond.dec (fun h3 => ?_) (fun h3 => ?_)
    · have hil : i < d.length := by omega
      have w1 : IntKind.wrap .i64 ((i : Int) + 1) = ((i + 1 : Nat) : Int) := by rw [wrap_i64 _ (by omega) (by omega)]; omega
      have hxb := hids _ (List.getElem_mem hil)
      have hok : nOk d[i].2.1 := nOk_of (by omega) (by omega)
      have hgi : d[i].1 = false → g d[i].2.1 = cntS s d[i].2.1 s.units := fun hf => hI _ fun k hk hki hkf => hnd k i hk hil hki hkf hf
      have hq2 : (d[i].1 = false → d[i].2.2 = cntS s d[i].2.1 s.units) → ∀ k (hk : k < d.length), k < i + 1 → d[k].1 = false → d[k].2.2 = cntS s d[k].2.1 s.units := fun hc k hk hki => by
        rcases Nat.lt_or_ge k i with g | g
        · exact hq k hk g
        · obtain rfl : k = i := by omega
          exact hc
      have hI1 : d[i].1 = true → ∀ x, (∀ k (hk : k < d.length), k < i + 1 → d[k].1 = false → d[k].2.1 ≠ x) → g x = cntS s x s.units := fun hf x hx => hI x fun k hk hki => hx k hk (by omega)
      have hI0 : d[i].1 = false → ∀ x, (∀ k (hk : k < d.length), k < i + 1 → d[k].1 = false → d[k].2.1 ≠ x) → upd g d[i].2.1 0 x = cntS s x s.units := fun hf x hx => by
        have hne : x ≠ d[i].2.1 := fun e => hx i hil (by omega) hf e.symm
        rw [upd, if_neg hne]
        exact hI x fun k hk hki => hx k hk (by omega)
      have hZ0 : d[i].1 = false → ∀ k (hk : k < d.length), k < i + 1 → d[k].1 = false → upd g d[i].2.1 0 d[k].2.1 = 0 := fun hf k hk hki hkf => by
        rcases Nat.lt_or_ge k i with g' | g'
        · rw [upd]; split
          · rfl
          · exact hZ k hk g' hkf
        · obtain rfl : k = i := by omega
          rw [upd, if_pos rfl]
      have hZ1 : d[i].1 = true → ∀ k (hk : k < d.length), k < i + 1 → d[k].1 = false → g d[k].2.1 = 0 := fun hf k hk hki hkf => by
        rcases Nat.lt_or_ge k i with g' | g'
        · exact hZ k hk g' hkf
        · obtain rfl : k = i := by omega
          rw [hf] at hkf; cases hkf
      have hbad : d[i].1 = false → d[i].2.2 ≠ cntS s d[i].2.1 s.units → stockB s = false := fun hf hne => by
        cases e : stockB s with
        | false => rfl
        | true => exact absurd ((stockB_of hall e).cnt _ (List.getElem_mem hil) hf) hne
      conv => whnf
      repeat (first | refine go ?_ | ((first | refine AReq.mk (by omega) ?_ | refine AIdx.flat (enc := UR.hdC) UR.hdC_len (xs := d) (i := i) hil ?_); conv => whnf))
      generalize d[i] = x at hxb hok hgi hq2 hI1 hI0 hZ0 hZ1 hbad
      rcases Bool.eq_false_or_eq_true x.1 with hp | hp
      · refine ASplit.no (by rw [hp]; rfl) ?_
        conv => whnf
        repeat refine ru ?_
        refine ACond.no (by rw [hp]; rfl) ?_
        conv => whnf
        repeat refine ru ?_
        rw [w1]
        exact AHead.mk (d.length - (i + 1)) _ _ (by omega) ⟨i + 1, g, L, bs, clk, rfl, by omega, hM, ⟨hF, hZ1 hp⟩, hI1 hp, hq2 (fun h => by rw [hp] at h; cases h), rfl, rfl⟩ (Conv.ren [0, 1] _ (by simp) (by simp) (by simp only [pad, renL, AV.ren, stC_ren, unsV_ren, UR.ren_hds]; repeat' (first | exact Fit.nil | refine Fit.any ?_ | refine Fit.same ?_)) (.same (by simp only [ABlk.ren, stC_ren]; rfl) (.same (by simp only [ABlk.ren, ren_emI]; rfl) .nil)))
      · refine ASplit.yes (by rw [hp]; rfl) ?_
        conv => whnf
        repeat refine ru ?_
        refine AOp.getM 1 x.2.1 hT nK und137 hne3 (eb := nV) rfl hM hok rfl rfl rfl ?_
        conv => whnf
        repeat refine ru ?_
        refine ACond.ndec (fun h4 => ?_) (fun h4 => ?_)
        · conv => whnf
          repeat refine ru ?_
          refine AOut.stay ?_
          conv => whnf
          repeat refine ru ?_
          exact hfalse (hbad hp (by rw [← hgi hp]; exact fun e => h4 e.symm))
        conv => whnf
        repeat refine ru ?_
        refine ACond.yes (by rw [hp]; rfl) ?_
        conv => whnf
        repeat refine ru ?_
        refine AOp.delX 1 x.2.1 nK und137 rfl rfl hM hok rfl rfl rfl ?_
        intro L' bs' clk' hle hM' hmem'
        conv => whnf
        repeat refine ru ?_
        rw [w1]
        exact AHead.mk (d.length - (i + 1)) _ _ (by omega) ⟨i + 1, _, L', bs', clk', rfl, by omega, hM', ⟨fun p hp' => hF p (hmem' p hp').1, hZ0 hp⟩, hI0 hp, hq2 (fun h => by rw [← hgi h, h4]), rfl, rfl⟩ (Conv.ren [0, 1] _ (by simp) (by simp) (by simp only [pad, renL, AV.ren, stC_ren, unsV_ren, UR.ren_hds]; repeat' (first | exact Fit.nil | refine Fit.any ?_ | refine Fit.same ?_)) (.same (by simp only [ABlk.ren, stC_ren]; rfl) (.same (by simp only [ABlk.ren, ren_emI]; rfl) .nil)))
    · conv => whnf
      repeat refine ru ?_
      refine AOut.stay ?_
      conv => whnf
      refine AW.seq ?_
      conv => whnf
      refine AW.region ?_
      conv => whnf
      refine AO.cons hT ?_
      conv => whnf
      refine AO.consA rfl ?_
      refine AOp.lenM 1 und137 rfl rfl rfl rfl ?_
      conv => whnf
      repeat refine ru ?_
      refine AFin.val rfl ⟨congrArg bV ?_, rfl⟩
      have hin : ∀ y ∈ d, y.1 = false → g y.2.1 = 0 ∧ y.2.2 = cntS s y.2.1 s.units := fun y hy hyp => by
        obtain ⟨k, hk, rfl⟩ := List.mem_iff_getElem.1 hy
        exact ⟨hZ k hk (by omega) hyp, hq k hk (by omega) hyp⟩
      have hheld : heldQ s = true := List.all_eq_true.2 fun m hm => by
        cases hp : m.p with
        | true => rfl
        | false =>
          have := hin (m.p, m.i, UR.sumOf (mvL s) m.p m.i) ((hall.mem _).2 ⟨⟨m, hm, rfl, rfl⟩, rfl⟩) hp
          rw [Bool.false_or, decide_eq_true_eq, ← this.2, hp]
      rw [stockB, (goodB_iff _).2 hg, hheld, Bool.and_self, Bool.true_and]
      refine Bool.eq_iff_iff.2 ?_
      rw [leftB_iff hall]
      have hL : (decide (((em nV nV L).length : Int) = 0) = true) ↔ L = [] := by simp [em]
      refine Iff.trans hL ?_
      rw [hM.zero hF]
      refine ⟨fun h0 x hx => ?_, fun h0 x => ?_⟩
      · rw [← hI x (fun k hk _ hkf => hx _ (List.getElem_mem hk) hkf), h0]
      · by_cases hx : ∃ y ∈ d, y.1 = false ∧ y.2.1 = x
        · obtain ⟨y, hy, hyp, rfl⟩ := hx
          exact (hin y hy hyp).1
        · have hx' : ∀ y ∈ d, y.1 = false → y.2.1 ≠ x := fun y hy hyp he => hx ⟨y, hy, hyp, he⟩
          rw [hI x (fun k hk _ hkf => hx' _ (List.getElem_mem hk) hkf), h0 x hx']
end Go.Aw.U1

set_option linter.unusedSimpArgs false
set_option linter.unusedVariables false
set_option maxHeartbeats 4000000
set_option maxRecDepth 30000
namespace Go.Aw.U1
open Go Go.Proofs

/-- a state that may be -/
noncomputable def chkS (s : Sta) : Bool := tablesB s && (keysB s && (shipsB s && (rulesB s && (authB s && (recvB s && (workB s && (claimedB s && (credB s && stockB s))))))))
structure ChkS (s : Sta) : Prop where
  tab : tablesB s = true
  keys : keysB s = true
  ships : shipsB s = true
  rules : rulesB s = true
  auth : authB s = true
  recv : recvB s = true
  works : workB s = true
  claims : claimedB s = true
  cred : credB s = true
  stock : stockB s = true
theorem chkS_iff (s : Sta) : chkS s = true ↔ ChkS s := by
  simp only [chkS, Bool.and_eq_true]
  exact ⟨fun ⟨a, b, c, d, e, f, g, h, i, j⟩ => ⟨a, b, c, d, e, f, g, h, i, j⟩, fun ⟨a, b, c, d, e, f, g, h, i, j⟩ => ⟨a, b, c, d, e, f, g, h, i, j⟩⟩
theorem recvB_came {s : Sta} (h : recvB s = true) : ∀ u ∈ s.units, cameB s u = true := by
  simp only [recvB, Bool.and_eq_true, List.all_eq_true] at h
  exact h.1
theorem ChkS.base {s : Sta} (h : ChkS s) : Base s := ⟨h.tab, recvB_came h.recv⟩
theorem chkS_ok {s : Sta} {d : List UR.Hd} (hd : UR.AllOf (mvL s) d) (h : chkS s = true) : CheckOk s := by
  have h := (chkS_iff s).1 h
  have hb := h.base
  have hc := cred_of hb h.cred
  exact ⟨hb, h.keys, h.ships, h.rules, h.auth, h.works, h.claims, hc.1, hc.2, d, stockB_of hd h.stock⟩
theorem f16x (s : Sta) (h : StaOk s) (hid : idsOk s) : Fun P 16 [stA s] (nV (if chkS s then 0 else 40)) := by
  refine spec_of hT (f := 16) (fn := Go.Proofs.Tryz.f16) (c := body Go.Proofs.Tryz.f16) (by kernel_rfl) (by kernel_rfl) ?_
  have hfalse : chkS s = false → ∀ {H : List ABlk}, AFin 0 (nV 40) H (fun r H => r = nV (if chkS s then 0 else 40) ∧ H = []) := fun e => AFin.val rfl ⟨by rw [e]; rfl, rfl⟩
  conv => whnf
  repeat (first | refine go ?_ | ((first | refine ALoop.un ?_ | refine ALp.step (T := T) ?_ | refine AIdx.sp rfl ?_ | refine AReq.mk (by decide) ?_ | refine ACond.yes (by decide) ?_ | refine ACond.no (by decide) ?_); conv => whnf))
  refine ACall.val (args := [stA s]) (by kernel_rfl) (f58 s h) (by (first | rfl | (simp only [renL, AV.ren, List.nil_append, List.cons_append, rens]; try rfl))) rfl ?_
  cases h1 : tablesB s with
  | false =>
    conv => whnf
    repeat (first | refine go ?_ | ((first | refine ALoop.un ?_ | refine ALp.step (T := T) ?_ | refine AIdx.sp rfl ?_ | refine AReq.mk (by decide) ?_ | refine ACond.yes (by decide) ?_ | refine ACond.no (by decide) ?_); conv => whnf))
    exact hfalse (by simp only [chkS, h1, Bool.false_and, Bool.and_false])
  | true =>
  conv => whnf
  repeat (first | refine go ?_ | ((first | refine ALoop.un ?_ | refine ALp.step (T := T) ?_ | refine AIdx.sp rfl ?_ | refine AReq.mk (by decide) ?_ | refine ACond.yes (by decide) ?_ | refine ACond.no (by decide) ?_); conv => whnf))
  refine ACall.val (args := [stA s]) (by kernel_rfl) (f59 s h) (by (first | rfl | (simp only [renL, AV.ren, List.nil_append, List.cons_append, rens]; try rfl))) rfl ?_
  cases h2 : keysB s with
  | false =>
    conv => whnf
    repeat (first | refine go ?_ | ((first | refine ALoop.un ?_ | refine ALp.step (T := T) ?_ | refine AIdx.sp rfl ?_ | refine AReq.mk (by decide) ?_ | refine ACond.yes (by decide) ?_ | refine ACond.no (by decide) ?_); conv => whnf))
    exact hfalse (by simp only [chkS, h2, Bool.false_and, Bool.and_false])
  | true =>
  conv => whnf
  repeat (first | refine go ?_ | ((first | refine ALoop.un ?_ | refine ALp.step (T := T) ?_ | refine AIdx.sp rfl ?_ | refine AReq.mk (by decide) ?_ | refine ACond.yes (by decide) ?_ | refine ACond.no (by decide) ?_); conv => whnf))
  refine ACall.val (args := [stA s]) (by kernel_rfl) (f60 s h) (by (first | rfl | (simp only [renL, AV.ren, List.nil_append, List.cons_append, rens]; try rfl))) rfl ?_
  cases h3 : shipsB s with
  | false =>
    conv => whnf
    repeat (first | refine go ?_ | ((first | refine ALoop.un ?_ | refine ALp.step (T := T) ?_ | refine AIdx.sp rfl ?_ | refine AReq.mk (by decide) ?_ | refine ACond.yes (by decide) ?_ | refine ACond.no (by decide) ?_); conv => whnf))
    exact hfalse (by simp only [chkS, h3, Bool.false_and, Bool.and_false])
  | true =>
  conv => whnf
  repeat (first | refine go ?_ | ((first | refine ALoop.un ?_ | refine ALp.step (T := T) ?_ | refine AIdx.sp rfl ?_ | refine AReq.mk (by decide) ?_ | refine ACond.yes (by decide) ?_ | refine ACond.no (by decide) ?_); conv => whnf))
  refine ACall.val (args := [stA s]) (by kernel_rfl) (f61 s) (by (first | rfl | (simp only [renL, AV.ren, List.nil_append, List.cons_append, rens]; try rfl))) rfl ?_
  cases h4 : rulesB s with
  | false =>
    conv => whnf
    repeat (first | refine go ?_ | ((first | refine ALoop.un ?_ | refine ALp.step (T := T) ?_ | refine AIdx.sp rfl ?_ | refine AReq.mk (by decide) ?_ | refine ACond.yes (by decide) ?_ | refine ACond.no (by decide) ?_); conv => whnf))
    exact hfalse (by simp only [chkS, h4, Bool.false_and, Bool.and_false])
  | true =>
  conv => whnf
  repeat (first | refine go ?_ | ((first | refine ALoop.un ?_ | refine ALp.step (T := T) ?_ | refine AIdx.sp rfl ?_ | refine AReq.mk (by decide) ?_ | refine ACond.yes (by decide) ?_ | refine ACond.no (by decide) ?_); conv => whnf))
  refine ACall.val (args := [stA s]) (by kernel_rfl) (f62 s h) (by (first | rfl | (simp only [renL, AV.ren, List.nil_append, List.cons_append, rens]; try rfl))) rfl ?_
  cases h5 : authB s with
  | false =>
    conv => whnf
    repeat (first | refine go ?_ | ((first | refine ALoop.un ?_ | refine ALp.step (T := T) ?_ | refine AIdx.sp rfl ?_ | refine AReq.mk (by decide) ?_ | refine ACond.yes (by decide) ?_ | refine ACond.no (by decide) ?_); conv => whnf))
    exact hfalse (by simp only [chkS, h5, Bool.false_and, Bool.and_false])
  | true =>
  conv => whnf
  repeat (first | refine go ?_ | ((first | refine ALoop.un ?_ | refine ALp.step (T := T) ?_ | refine AIdx.sp rfl ?_ | refine AReq.mk (by decide) ?_ | refine ACond.yes (by decide) ?_ | refine ACond.no (by decide) ?_); conv => whnf))
  refine ACall.val (args := [stA s]) (by kernel_rfl) (f63x s h hid) (by (first | rfl | (simp only [renL, AV.ren, List.nil_append, List.cons_append, rens]; try rfl))) rfl ?_
  cases h6 : recvB s with
  | false =>
    conv => whnf
    repeat (first | refine go ?_ | ((first | refine ALoop.un ?_ | refine ALp.step (T := T) ?_ | refine AIdx.sp rfl ?_ | refine AReq.mk (by decide) ?_ | refine ACond.yes (by decide) ?_ | refine ACond.no (by decide) ?_); conv => whnf))
    exact hfalse (by simp only [chkS, h6, Bool.false_and, Bool.and_false])
  | true =>
  have hb : Base s := ⟨h1, recvB_came h6⟩
  conv => whnf
  repeat (first | refine go ?_ | ((first | refine ALoop.un ?_ | refine ALp.step (T := T) ?_ | refine AIdx.sp rfl ?_ | refine AReq.mk (by decide) ?_ | refine ACond.yes (by decide) ?_ | refine ACond.no (by decide) ?_); conv => whnf))
  refine ACall.val (args := [stA s]) (by kernel_rfl) (f64 s h) (by (first | rfl | (simp only [renL, AV.ren, List.nil_append, List.cons_append, rens]; try rfl))) rfl ?_
  cases h7 : workB s with
  | false =>
    conv => whnf
    repeat (first | refine go ?_ | ((first | refine ALoop.un ?_ | refine ALp.step (T := T) ?_ | refine AIdx.sp rfl ?_ | refine AReq.mk (by decide) ?_ | refine ACond.yes (by decide) ?_ | refine ACond.no (by decide) ?_); conv => whnf))
    exact hfalse (by simp only [chkS, h7, Bool.false_and, Bool.and_false])
  | true =>
  conv => whnf
  repeat (first | refine go ?_ | ((first | refine ALoop.un ?_ | refine ALp.step (T := T) ?_ | refine AIdx.sp rfl ?_ | refine AReq.mk (by decide) ?_ | refine ACond.yes (by decide) ?_ | refine ACond.no (by decide) ?_); conv => whnf))
  refine ACall.val (args := [stA s]) (by kernel_rfl) (f65 s h) (by (first | rfl | (simp only [renL, AV.ren, List.nil_append, List.cons_append, rens]; try rfl))) rfl ?_
  cases h8 : claimedB s with
  | false =>
    conv => whnf
    repeat (first | refine go ?_ | ((first | refine ALoop.un ?_ | refine ALp.step (T := T) ?_ | refine AIdx.sp rfl ?_ | refine AReq.mk (by decide) ?_ | refine ACond.yes (by decide) ?_ | refine ACond.no (by decide) ?_); conv => whnf))
    exact hfalse (by simp only [chkS, h8, Bool.false_and, Bool.and_false])
  | true =>
  conv => whnf
  repeat (first | refine go ?_ | ((first | refine ALoop.un ?_ | refine ALp.step (T := T) ?_ | refine AIdx.sp rfl ?_ | refine AReq.mk (by decide) ?_ | refine ACond.yes (by decide) ?_ | refine ACond.no (by decide) ?_); conv => whnf))
  refine ACall.val (args := [stA s]) (by kernel_rfl) (f66x s h hb) (by (first | rfl | (simp only [renL, AV.ren, List.nil_append, List.cons_append, rens]; try rfl))) rfl ?_
  cases h9 : credB s with
  | false =>
    conv => whnf
    repeat (first | refine go ?_ | ((first | refine ALoop.un ?_ | refine ALp.step (T := T) ?_ | refine AIdx.sp rfl ?_ | refine AReq.mk (by decide) ?_ | refine ACond.yes (by decide) ?_ | refine ACond.no (by decide) ?_); conv => whnf))
    exact hfalse (by simp only [chkS, h9, Bool.false_and, Bool.and_false])
  | true =>
  conv => whnf
  repeat (first | refine go ?_ | ((first | refine ALoop.un ?_ | refine ALp.step (T := T) ?_ | refine AIdx.sp rfl ?_ | refine AReq.mk (by decide) ?_ | refine ACond.yes (by decide) ?_ | refine ACond.no (by decide) ?_); conv => whnf))
  refine ACall.val (args := [stA s]) (by kernel_rfl) (f67x s h hb (ships_all h3)) (by (first | rfl | (simp only [renL, AV.ren, List.nil_append, List.cons_append, rens]; try rfl))) rfl ?_
  cases h10 : stockB s with
  | false =>
    conv => whnf
    repeat (first | refine go ?_ | ((first | refine ALoop.un ?_ | refine ALp.step (T := T) ?_ | refine AIdx.sp rfl ?_ | refine AReq.mk (by decide) ?_ | refine ACond.yes (by decide) ?_ | refine ACond.no (by decide) ?_); conv => whnf))
    exact hfalse (by simp only [chkS, h10, Bool.false_and, Bool.and_false])
  | true =>
  conv => whnf
  repeat (first | refine go ?_ | ((first | refine ALoop.un ?_ | refine ALp.step (T := T) ?_ | refine AIdx.sp rfl ?_ | refine AReq.mk (by decide) ?_ | refine ACond.yes (by decide) ?_ | refine ACond.no (by decide) ?_); conv => whnf))
  refine AFin.val rfl ⟨?_, rfl⟩
  simp only [chkS, h1, h2, h3, h4, h5, h6, h7, h8, h9, h10, Bool.and_self, if_true]
end Go.Aw.U1

