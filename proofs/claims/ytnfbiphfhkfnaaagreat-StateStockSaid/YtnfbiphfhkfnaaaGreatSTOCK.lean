/-
  The statement StateStock: of a state that may be, stock and parts are never below nothing, the stock of an item is how many of its units were restocked, and what a memo says of a unit is what it is worth, without any condition.
-/
import Derived.Test.YtnfbiphfhkfnaaaGreatUgJ
import Derived.Test.YtnfbiphfhkfnaaaGreatRows
set_option linter.unusedSimpArgs false
set_option linter.unusedVariables false
set_option linter.unusedSimpArgs false
set_option linter.unusedVariables false
set_option maxRecDepth 20000
namespace Go.Aw.U1
open Go Go.Proofs
theorem und4 : P.underlying 4 = some .bool := by kernel_rfl
theorem maxLen_eq : maxLen = 9223372036854775807 := by decide
theorem o_i : Opens P 3 iC nOk := (opens_int und3).map iC nOk id (fun _ _ => rfl) (fun _ h => h)
theorem o_s : Opens P 9 sC sOk := (opens_string und9).map sC sOk id (fun _ _ => rfl) (fun _ h => by rw [maxLen_eq] at h; exact h)
theorem o_b : Opens P 4 (fun b : Bool => [bV b]) (fun _ => True) := opens_bool und4
/-- a slice of what opens -/
theorem o_sl {t e sz : Nat} {α : Type} {enc : α → List AV} {wf : α → Prop} (ht : P.underlying t = some (.slice e)) (hz : P.cellsOf e = sz) (hp : 0 < sz) (h : Opens P e enc wf) :
    Opens P t (fun l : List α => [.vs sz l.length (l.flatMap enc)]) (fun l => l.length ≤ 9223372036854775807 ∧ ∀ x ∈ l, wf x) :=
  (opens_slice ht hz hp h).map _ _ id (fun _ _ => rfl) (fun l h => ⟨by have := h.1; rw [maxLen_eq] at this; exact this, fun x hx => (h.2 x hx).1⟩)
theorem o_is : Opens P 30 (fun l => [isV l]) (fun l => l.length ≤ 9223372036854775807) := (o_sl Tryz.underlying30 (sz := 1) (by kernel_rfl) (by decide) o_i).map _ _ id (fun _ _ => rfl) (fun _ h => h.1)
theorem o_ss : Opens P 51 (fun l => [ssV l]) ssOk := (o_sl Tryz.underlying51 (sz := 1) (by kernel_rfl) (by decide) o_s).map _ _ id (fun _ _ => rfl) (fun _ h => h)
theorem o_it : Opens P 78 itC (fun _ => True) :=
  Opens.map (opens_struct Tryz.underlying78 (by kernel_rfl) (opensF_cons (sz := 1) rfl (by kernel_rfl) o_i (opensF_cons (sz := 1) rfl (by kernel_rfl) o_i (opensF_cons (sz := 1) rfl (by kernel_rfl) o_i (opensF_cons (sz := 1) rfl (by kernel_rfl) o_i opensF_nil))))) itC (fun _ => True) (fun x => (⟨x.1, x.2.1, x.2.2.1, x.2.2.2.1⟩ : It)) (fun x _ => rfl) (fun _ _ => trivial)
theorem o_its : Opens P 22 (fun l => [itsV l]) (fun l => l.length ≤ 9223372036854775807 ∧ ∀ x ∈ l, (fun _ => True) x) := (o_sl Tryz.underlying22 (sz := 4) (by kernel_rfl) (by decide) o_it).map _ _ id (fun _ _ => rfl) (fun _ h => h)
def lnW (l : Ln) : Prop := ssOk l.ss
theorem o_ln : Opens P 53 lnC lnW :=
  Opens.map (opens_struct Tryz.underlying53 (by kernel_rfl) (opensF_cons (sz := 1) rfl (by kernel_rfl) o_i (opensF_cons (sz := 1) rfl (by kernel_rfl) o_i (opensF_cons (sz := 1) rfl (by kernel_rfl) o_i (opensF_cons (sz := 1) rfl (by kernel_rfl) o_i (opensF_cons (sz := 1) rfl (by kernel_rfl) o_ss opensF_nil)))))) lnC lnW (fun x => (⟨x.1, x.2.1, x.2.2.1, x.2.2.2.1, x.2.2.2.2.1⟩ : Ln)) (fun x _ => rfl) (fun x h => h.2.2.2.2.1)
theorem o_lns : Opens P 44 (fun l => [lnsV l]) (fun l => l.length ≤ 9223372036854775807 ∧ ∀ x ∈ l, lnW x) := (o_sl Tryz.underlying44 (sz := 5) (by kernel_rfl) (by decide) o_ln).map _ _ id (fun _ _ => rfl) (fun _ h => h)
def odW (o : Od) : Prop := ∀ x ∈ o.ls, lnW x
theorem o_od : Opens P 46 odC odW :=
  Opens.map (opens_struct Tryz.underlying46 (by kernel_rfl) (opensF_cons (sz := 1) rfl (by kernel_rfl) o_i (opensF_cons (sz := 1) rfl (by kernel_rfl) o_i (opensF_cons (sz := 1) rfl (by kernel_rfl) o_lns opensF_nil)))) odC odW (fun x => (⟨x.1, x.2.1, x.2.2.1⟩ : Od)) (fun x _ => rfl) (fun x h => h.2.2.1.2)
theorem o_ods : Opens P 23 (fun l => [odsV l]) (fun l => l.length ≤ 9223372036854775807 ∧ ∀ x ∈ l, odW x) := (o_sl Tryz.underlying23 (sz := 3) (by kernel_rfl) (by decide) o_od).map _ _ id (fun _ _ => rfl) (fun _ h => h)
def wnW (w : Wn) : Prop := nOk w.line
theorem o_wn : Opens P 133 wnC wnW :=
  Opens.map (opens_struct Tryz.underlying133 (by kernel_rfl) (opensF_cons (sz := 1) rfl (by kernel_rfl) o_i (opensF_cons (sz := 1) rfl (by kernel_rfl) o_i (opensF_cons (sz := 1) rfl (by kernel_rfl) o_i opensF_nil)))) wnC wnW (fun x => (⟨x.1, x.2.1, x.2.2.1⟩ : Wn)) (fun x _ => rfl) (fun x h => h.1)
theorem o_wns : Opens P 64 (fun l => [wnsV l]) (fun l => l.length ≤ 9223372036854775807 ∧ ∀ x ∈ l, wnW x) := (o_sl Tryz.underlying64 (sz := 3) (by kernel_rfl) (by decide) o_wn).map _ _ id (fun _ _ => rfl) (fun _ h => h)
def rmW (r : Rm) : Prop := nOk r.id ∧ rmOk r ∧ ∀ w ∈ r.ws, wnW w
theorem o_rm : Opens P 66 rmC rmW :=
  Opens.map (opens_struct Tryz.underlying66 (by kernel_rfl) (opensF_cons (sz := 1) rfl (by kernel_rfl) o_i (opensF_cons (sz := 1) rfl (by kernel_rfl) o_i (opensF_cons (sz := 1) rfl (by kernel_rfl) o_i (opensF_cons (sz := 1) rfl (by kernel_rfl) o_i (opensF_cons (sz := 1) rfl (by kernel_rfl) o_wns opensF_nil)))))) rmC rmW (fun x => (⟨x.1, x.2.1, x.2.2.1, x.2.2.2.1, x.2.2.2.2.1⟩ : Rm)) (fun x _ => rfl) (fun x h => ⟨h.1, h.2.2.2.2.1.1, h.2.2.2.2.1.2⟩)
theorem o_rms : Opens P 24 (fun l => [rmsV l]) (fun l => l.length ≤ 9223372036854775807 ∧ ∀ x ∈ l, rmW x) := (o_sl Tryz.underlying24 (sz := 5) (by kernel_rfl) (by decide) o_rm).map _ _ id (fun _ _ => rfl) (fun _ h => h)
def unW' (u : Un) : Prop := sOk u.s
theorem o_un : Opens P 50 unC unW' :=
  Opens.map (opens_struct Tryz.underlying50 (by kernel_rfl) (opensF_cons (sz := 1) rfl (by kernel_rfl) o_s (opensF_cons (sz := 1) rfl (by kernel_rfl) o_i (opensF_cons (sz := 1) rfl (by kernel_rfl) o_i (opensF_cons (sz := 1) rfl (by kernel_rfl) o_i (opensF_cons (sz := 1) rfl (by kernel_rfl) o_i (opensF_cons (sz := 1) rfl (by kernel_rfl) o_i (opensF_cons (sz := 1) rfl (by kernel_rfl) o_i (opensF_cons (sz := 1) rfl (by kernel_rfl) o_i (opensF_cons (sz := 1) rfl (by kernel_rfl) o_i (opensF_cons (sz := 1) rfl (by kernel_rfl) o_i opensF_nil))))))))))) unC unW' (fun x => (⟨x.1, x.2.1, x.2.2.1, x.2.2.2.1, x.2.2.2.2.1, x.2.2.2.2.2.1, x.2.2.2.2.2.2.1, x.2.2.2.2.2.2.2.1, x.2.2.2.2.2.2.2.2.1, x.2.2.2.2.2.2.2.2.2.1⟩ : Un)) (fun x _ => rfl) (fun x h => h.1)
theorem o_uns : Opens P 25 (fun l => [unsV l]) (fun l => l.length ≤ 9223372036854775807 ∧ ∀ x ∈ l, unW' x) := (o_sl Tryz.underlying25 (sz := 10) (by kernel_rfl) (by decide) o_un).map _ _ id (fun _ _ => rfl) (fun _ h => h)
def wkW (u : Wk) : Prop := sOk u.s
theorem o_wk : Opens P 107 wkC wkW :=
  Opens.map (opens_struct Tryz.underlying107 (by kernel_rfl) (opensF_cons (sz := 1) rfl (by kernel_rfl) o_i (opensF_cons (sz := 1) rfl (by kernel_rfl) o_s (opensF_cons (sz := 1) rfl (by kernel_rfl) o_i (opensF_cons (sz := 1) rfl (by kernel_rfl) o_i (opensF_cons (sz := 1) rfl (by kernel_rfl) o_i opensF_nil)))))) wkC wkW (fun x => (⟨x.1, x.2.1, x.2.2.1, x.2.2.2.1, x.2.2.2.2.1⟩ : Wk)) (fun x _ => rfl) (fun x h => h.2.1)
theorem o_wks : Opens P 26 (fun l => [wksV l]) (fun l => l.length ≤ 9223372036854775807 ∧ ∀ x ∈ l, wkW x) := (o_sl Tryz.underlying26 (sz := 5) (by kernel_rfl) (by decide) o_wk).map _ _ id (fun _ _ => rfl) (fun _ h => h)
def clW (u : Cl) : Prop := ssOk u.ss
theorem o_cl : Opens P 68 clC clW :=
  Opens.map (opens_struct Tryz.underlying68 (by kernel_rfl) (opensF_cons (sz := 1) rfl (by kernel_rfl) o_i (opensF_cons (sz := 1) rfl (by kernel_rfl) o_i (opensF_cons (sz := 1) rfl (by kernel_rfl) o_i (opensF_cons (sz := 1) rfl (by kernel_rfl) o_ss opensF_nil))))) clC clW (fun x => (⟨x.1, x.2.1, x.2.2.1, x.2.2.2.1⟩ : Cl)) (fun x _ => rfl) (fun x h => h.2.2.2.1)
theorem o_cls : Opens P 27 (fun l => [clsV l]) (fun l => l.length ≤ 9223372036854775807 ∧ ∀ x ∈ l, clW x) := (o_sl Tryz.underlying27 (sz := 4) (by kernel_rfl) (by decide) o_cl).map _ _ id (fun _ _ => rfl) (fun _ h => h)
def moW (u : Mo) : Prop := ssOk u.ss ∧ u.am.length ≤ 9223372036854775807
theorem o_mo : Opens P 57 moC moW :=
  Opens.map (opens_struct Tryz.underlying57 (by kernel_rfl) (opensF_cons (sz := 1) rfl (by kernel_rfl) o_i (opensF_cons (sz := 1) rfl (by kernel_rfl) o_i (opensF_cons (sz := 1) rfl (by kernel_rfl) o_ss (opensF_cons (sz := 1) rfl (by kernel_rfl) o_is (opensF_cons (sz := 1) rfl (by kernel_rfl) o_b opensF_nil)))))) moC moW (fun x => (⟨x.1, x.2.1, x.2.2.1, x.2.2.2.1, x.2.2.2.2.1⟩ : Mo)) (fun x _ => rfl) (fun x h => ⟨h.2.2.1, h.2.2.2.1⟩)
theorem o_mos : Opens P 28 (fun l => [mosV l]) (fun l => l.length ≤ 9223372036854775807 ∧ ∀ x ∈ l, moW x) := (o_sl Tryz.underlying28 (sz := 5) (by kernel_rfl) (by decide) o_mo).map _ _ id (fun _ _ => rfl) (fun _ h => h)
theorem o_mv : Opens P 144 mvC (fun _ => True) :=
  Opens.map (opens_struct Tryz.underlying144 (by kernel_rfl) (opensF_cons (sz := 1) rfl (by kernel_rfl) o_b (opensF_cons (sz := 1) rfl (by kernel_rfl) o_i (opensF_cons (sz := 1) rfl (by kernel_rfl) o_i opensF_nil)))) mvC (fun _ => True) (fun x => (⟨x.1, x.2.1, x.2.2.1⟩ : Mv)) (fun x _ => rfl) (fun _ _ => trivial)
theorem o_mvs : Opens P 29 (fun l => [mvs l]) (fun l => l.length ≤ 9223372036854775807 ∧ ∀ x ∈ l, (fun _ => True) x) := (o_sl Tryz.underlying29 (sz := 3) (by kernel_rfl) (by decide) o_mv).map _ _ id (fun _ _ => rfl) (fun _ h => h)
theorem o_ro : Opens P 175 roC (fun _ => True) :=
  Opens.map (opens_struct Tryz.underlying175 (by kernel_rfl) (opensF_cons (sz := 1) rfl (by kernel_rfl) o_i (opensF_cons (sz := 1) rfl (by kernel_rfl) o_i (opensF_cons (sz := 1) rfl (by kernel_rfl) o_i (opensF_cons (sz := 1) rfl (by kernel_rfl) o_i (opensF_cons (sz := 1) rfl (by kernel_rfl) o_i opensF_nil)))))) roC (fun _ => True) (fun x => (⟨x.1, x.2.1, x.2.2.1, x.2.2.2.1, x.2.2.2.2.1⟩ : Ro)) (fun x _ => rfl) (fun _ _ => trivial)
theorem o_ros : Opens P 31 (fun l => [roV l]) (fun l => l.length ≤ 9223372036854775807 ∧ ∀ x ∈ l, (fun _ => True) x) := (o_sl Tryz.underlying31 (sz := 5) (by kernel_rfl) (by decide) o_ro).map _ _ id (fun _ _ => rfl) (fun _ h => h)
theorem o_ru : Opens P 33 ruC (fun _ => True) :=
  Opens.map (opens_struct Tryz.underlying33 (by kernel_rfl) (opensF_cons (sz := 1) rfl (by kernel_rfl) o_is (opensF_cons (sz := 1) rfl (by kernel_rfl) o_is (opensF_cons (sz := 1) rfl (by kernel_rfl) o_is (opensF_cons (sz := 1) rfl (by kernel_rfl) o_ros opensF_nil))))) ruC (fun _ => True) (fun x => (⟨x.1, x.2.1, x.2.2.1, x.2.2.2.1⟩ : Ru)) (fun x _ => rfl) (fun _ _ => trivial)
theorem o_dn : Opens P 70 dnC (fun _ => True) :=
  Opens.map (opens_struct Tryz.underlying70 (by kernel_rfl) (opensF_cons (sz := 1) rfl (by kernel_rfl) o_i (opensF_cons (sz := 1) rfl (by kernel_rfl) o_s (opensF_cons (sz := 1) rfl (by kernel_rfl) o_s opensF_nil)))) dnC (fun _ => True) (fun x => (⟨x.1, x.2.1, x.2.2.1⟩ : Dn)) (fun x _ => rfl) (fun _ _ => trivial)
theorem o_dns : Opens P 34 (fun l => [dnsV l]) (fun l => l.length ≤ 9223372036854775807 ∧ ∀ x ∈ l, (fun _ => True) x) := (o_sl Tryz.underlying34 (sz := 3) (by kernel_rfl) (by decide) o_dn).map _ _ id (fun _ _ => rfl) (fun _ h => h)
theorem o_st : Opens P 36 stC Wf :=
  Opens.map (opens_struct Tryz.underlying36 (by kernel_rfl) (opensF_cons (sz := 1) rfl (by kernel_rfl) o_i (opensF_cons (sz := 1) rfl (by kernel_rfl) o_i (opensF_cons (sz := 1) rfl (by kernel_rfl) o_i (opensF_cons (sz := 1) rfl (by kernel_rfl) o_i (opensF_cons (sz := 1) rfl (by kernel_rfl) o_i (opensF_cons (sz := 1) rfl (by kernel_rfl) o_its (opensF_cons (sz := 1) rfl (by kernel_rfl) o_ods (opensF_cons (sz := 1) rfl (by kernel_rfl) o_rms (opensF_cons (sz := 1) rfl (by kernel_rfl) o_uns (opensF_cons (sz := 1) rfl (by kernel_rfl) o_wks (opensF_cons (sz := 1) rfl (by kernel_rfl) o_cls (opensF_cons (sz := 1) rfl (by kernel_rfl) o_mos (opensF_cons (sz := 1) rfl (by kernel_rfl) o_mvs (opensF_cons (sz := 4) rfl (by kernel_rfl) o_ru (opensF_cons (sz := 1) rfl (by kernel_rfl) o_dns opensF_nil)))))))))))))))) stC Wf (fun x => (⟨x.1, x.2.1, x.2.2.1, x.2.2.2.1, x.2.2.2.2.1, x.2.2.2.2.2.1, x.2.2.2.2.2.2.1, x.2.2.2.2.2.2.2.1, x.2.2.2.2.2.2.2.2.1, x.2.2.2.2.2.2.2.2.2.1, x.2.2.2.2.2.2.2.2.2.2.1, x.2.2.2.2.2.2.2.2.2.2.2.1, x.2.2.2.2.2.2.2.2.2.2.2.2.1, x.2.2.2.2.2.2.2.2.2.2.2.2.2.1, x.2.2.2.2.2.2.2.2.2.2.2.2.2.2.1⟩ : Sta)) (fun x _ => rfl) (fun x h => {
    ids := fun r hr => ⟨(h.2.2.2.2.2.2.2.1.2 r hr).1, (h.2.2.2.2.2.2.2.1.2 r hr).2.2⟩
    ords := fun o ho x hx => (h.2.2.2.2.2.2.1.2 o ho x hx).2
    rmas := fun r hr => (h.2.2.2.2.2.2.2.1.2 r hr).2.1
    units := fun u hu => h.2.2.2.2.2.2.2.2.1.2 u hu
    works := fun u hu => h.2.2.2.2.2.2.2.2.2.1.2 u hu
    claims := fun u hu => h.2.2.2.2.2.2.2.2.2.2.1.2 u hu
    memos := fun u hu => h.2.2.2.2.2.2.2.2.2.2.2.1.2 u hu })
theorem oV_st : OpenV P 36 (fun s : Sta => stA s) Wf := openV_struct Tryz.underlying36 o_st
end Go.Aw.U1

set_option linter.unusedSimpArgs false
set_option linter.unusedVariables false
namespace Go.Proofs.YtnfbiphfhkfnaaaGreat
open Go Go.Aw Go.Aw.U1 Go.ChangeShapes Go.WideShapes Go.ChangeAt Go.RowKit

theorem stock_own : ownKnob Tryz.prog.godebug = none := by kernel_rfl
theorem stock_laid : laidOutB Tryz.prog = true := by kernel_rfl

theorem stock_open : OpenA Tryz.prog [36] (fun x : Sta × Unit => [stA x.1]) (fun x => Wf x.1 ∧ True) :=
  openA_cons (oV_st) (openA_nil)

set_option maxRecDepth 100000 in
theorem stock_contract (H : Type) (enc : TypeId × Value → H) (W : World) (base : Nat) (args : Array Value) (ds gs : List (DataW H)) (before : List MemPlace)
    (hval : ∀ (j : Nat) t v, Tryz.f3.params[j]? = some t → args[j]? = some v → Value.okWide Tryz.prog W .any base t v)
    (hW : DataW.Whole enc Tryz.prog Tryz.f3.params.toList Rows.stateStockSpec.vars false W args.toList ds gs before) :
    Calls Tryz.prog 3 args W fun e W' => ∃ v, e = .returned v ∧ Rows.stateStockSpec.post enc Tryz.prog Tryz.f3 false true false false W args v W' :=
  law_contract stock_laid (by kernel_rfl) (t0 := 4) (by kernel_rfl) Tryz.underlying4 rfl (by rw [Tryz.params3]; exact stock_open)
    (fun a ha => by
      exact f3' a.1 ha.1)
    (fun H ds h => by
      rw [Tryz.params3] at h
      match ds, h with
      | [d0], _ => rfl) hval hW

set_option maxRecDepth 100000 in
theorem stock_lifted (os : Os) (started : os.Started) (H : Type) (enc : TypeId × Value → H) :
    ReturnsInHanded {} Tryz.checked os 3 .any (Rows.stateStockSpec.pre6 enc Tryz.prog Tryz.f3 Rows.stateStockRow.domain false) (Rows.stateStockSpec.post enc Tryz.prog Tryz.f3 false true false false) := by
  refine returnsInHanded_of_change (C := Tryz.checked) stock_own started (by kernel_rfl) Tryz.func3
    (ChangeSpec.witness6 (enc := enc) (C := Tryz.checked) false ⟨#[], #[.agg ⟨[.int .i64 0, .int .i64 0, .int .i64 0, .int .i64 0, .int .i64 0, .slice none 0 0, .slice none 0 0, .slice none 0 0, .slice none 0 0, .slice none 0 0, .slice none 0 0, .slice none 0 0, .slice none 0 0, .slice none 0 0, .slice none 0 0, .slice none 0 0, .slice none 0 0, .slice none 0 0]⟩], []⟩ 8 (by kernel_rfl) (by kernel_rfl) (by kernel_rfl) (by kernel_rfl)) ?_
  intro W base args ds gs before hval hW hcnd _
  exact stock_contract H enc W base args ds gs before hval hW

theorem stock_over : Rows.stateStockRow.holds Tryz.pinned (OpenSpec.ofChange Rows.stateStockSpec) :=
  OpenClaim.holds_of_wide 3 Tryz.f3 rfl rfl rfl rfl rfl rfl rfl ⟨rfl, rfl, rfl, rfl, rfl⟩ rfl rfl rfl rfl rfl (by kernel_rfl) Tryz.func3 (by kernel_rfl)
    (of_decide_eq_true (by kernel_rfl)) (by unfold Func.isWrapper; first | (rw [if_pos (by decide +kernel)]; kernel_rfl) | (rw [if_neg (by decide +kernel)]; exact ⟨rfl, rfl⟩))
    (fun os started H enc _ => stock_lifted os started H enc)

theorem stateStock : Rows.StateStockSaid := stock_over
#print axioms stateStock
end Go.Proofs.YtnfbiphfhkfnaaaGreat

