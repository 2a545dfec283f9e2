/-
  No cell of these rows narrows 'for every input' (looked for: loops, veiled, ifaces, maps, wideKeys, modest, calm, conditions, laid).
  DERIVED. THE GIVEN ROWS OF THIS SEAT. 6 by the template 'for every input the law returns true; each argument reads behind the call as it read before'; 0 by the template 'total and deterministic' (their statements: YtgpnhbekepoebaaGreatTotals.lean).
  GIVEN WITH THE SEED: the statements are not yours to turn. If you find one false, say at which input.
  Laid BY PROGRAM, IN A SANDBOX (cutbox-rows.mjs): the forced cells as the released guide's own fill.sh prints them over the translation 54e20d1846c379c7… (all of the seat's roots in one cut). By AI agents, Wed Nov 11 2026. No macro, syntax, notation, axiom, sorry.
-/
import Derived.Test.YtgpnhbekepoebaaGreatChecked
import GoSem.Claim
import GoSem.ClaimJoined
import GoSem.ClaimMapViews
import Derived.JoinedTies
import Derived.KernelRfl
namespace Go.Proofs.YtgpnhbekepoebaaGreat
/- THE CELL 'sum', in the pinned program and in every row, IS THE sha256 OF THE DUMP (.gsa) THAT YtgpnhbekepoebaaGreatProg.lean LOADS. Nothing in Lean hashes anything: it is a label: what it is worth is what the hold of that sum in a sandbox is worth. -/
noncomputable def Tryz.pinned : Pinned := { name := "ytgpnhbekepoebaagreat", sum := "54e20d1846c379c728950ce39d924c4f7f1a14d86a0a065b9bed838d63ea8eed", checked := Tryz.checked }
namespace Rows
def none {H : Type} : Left H := { results := [], args := [] }

/-- 'backhaullaw41.AuditUnits': WHATEVER THE INPUT: true; the input reads as it did. -/
def auditUnitsSpec : ChangeSpec := { name := "auditUnits", fn := fun _ => fun
  | [d1, d2] => { results := [.lit (.bool true)], args := [d1, d2] }
  | _ => none }
def auditUnitsRow : OpenClaim := { program := "ytgpnhbekepoebaagreat", sum := "54e20d1846c379c728950ce39d924c4f7f1a14d86a0a065b9bed838d63ea8eed", func := "backhaul/backhaullaw41.AuditUnits", spec := "auditUnits", unfollowed := true, recurses := true, named := ["math/bits.divideError", "math/bits.overflowError"], plainKeys := false, apart := false }
def AuditUnitsSaid : Prop := auditUnitsRow.holds Tryz.pinned (OpenSpec.ofChange auditUnitsSpec)

/-- ITS FALSE NEIGHBOUR: 'it returns false'. Refute it at one input. -/
def auditUnitsWrong : ChangeSpec := { name := "auditUnits", fn := fun _ => fun
  | [d1, d2] => { results := [.lit (.bool false)], args := [d1, d2] }
  | _ => none }
def AuditUnitsWrongFalsely : Prop := auditUnitsRow.holds Tryz.pinned (OpenSpec.ofChange auditUnitsWrong)

/-- 'backhaullaw41.AuditMoney': WHATEVER THE INPUT: true; the input reads as it did. -/
def auditMoneySpec : ChangeSpec := { name := "auditMoney", fn := fun _ => fun
  | [d] => { results := [.lit (.bool true)], args := [d] }
  | _ => none }
def auditMoneyRow : OpenClaim := { program := "ytgpnhbekepoebaagreat", sum := "54e20d1846c379c728950ce39d924c4f7f1a14d86a0a065b9bed838d63ea8eed", func := "backhaul/backhaullaw41.AuditMoney", spec := "auditMoney", unfollowed := true, recurses := true, named := ["math/bits.divideError", "math/bits.overflowError"], plainKeys := false, apart := false }
def AuditMoneySaid : Prop := auditMoneyRow.holds Tryz.pinned (OpenSpec.ofChange auditMoneySpec)

/-- ITS FALSE NEIGHBOUR: 'it returns false'. Refute it at one input. -/
def auditMoneyWrong : ChangeSpec := { name := "auditMoney", fn := fun _ => fun
  | [d] => { results := [.lit (.bool false)], args := [d] }
  | _ => none }
def AuditMoneyWrongFalsely : Prop := auditMoneyRow.holds Tryz.pinned (OpenSpec.ofChange auditMoneyWrong)

/-- 'backhaullaw37.AskCounts': WHATEVER THE INPUT: true; the input reads as it did. -/
def askCountsSpec : ChangeSpec := { name := "askCounts", fn := fun _ => fun
  | [d] => { results := [.lit (.bool true)], args := [d] }
  | _ => none }
def askCountsRow : OpenClaim := { program := "ytgpnhbekepoebaagreat", sum := "54e20d1846c379c728950ce39d924c4f7f1a14d86a0a065b9bed838d63ea8eed", func := "backhaul/backhaullaw37.AskCounts", spec := "askCounts", inPlace := ["internal/abi.NoEscape"], unfollowed := true, recurses := true, named := ["math/bits.divideError", "math/bits.overflowError"], plainKeys := false, apart := false }
def AskCountsSaid : Prop := askCountsRow.holds Tryz.pinned (OpenSpec.ofChange askCountsSpec)

/-- ITS FALSE NEIGHBOUR: 'it returns false'. Refute it at one input. -/
def askCountsWrong : ChangeSpec := { name := "askCounts", fn := fun _ => fun
  | [d] => { results := [.lit (.bool false)], args := [d] }
  | _ => none }
def AskCountsWrongFalsely : Prop := askCountsRow.holds Tryz.pinned (OpenSpec.ofChange askCountsWrong)

/-- 'backhaullaw37.AskTells': WHATEVER THE INPUT: true; the input reads as it did. -/
def askTellsSpec : ChangeSpec := { name := "askTells", fn := fun _ => fun
  | [d1, d2] => { results := [.lit (.bool true)], args := [d1, d2] }
  | _ => none }
def askTellsRow : OpenClaim := { program := "ytgpnhbekepoebaagreat", sum := "54e20d1846c379c728950ce39d924c4f7f1a14d86a0a065b9bed838d63ea8eed", func := "backhaul/backhaullaw37.AskTells", spec := "askTells", inPlace := ["internal/abi.NoEscape"], unfollowed := true, recurses := true, named := ["math/bits.divideError", "math/bits.overflowError"], plainKeys := false, apart := false }
def AskTellsSaid : Prop := askTellsRow.holds Tryz.pinned (OpenSpec.ofChange askTellsSpec)

/-- ITS FALSE NEIGHBOUR: 'it returns false'. Refute it at one input. -/
def askTellsWrong : ChangeSpec := { name := "askTells", fn := fun _ => fun
  | [d1, d2] => { results := [.lit (.bool false)], args := [d1, d2] }
  | _ => none }
def AskTellsWrongFalsely : Prop := askTellsRow.holds Tryz.pinned (OpenSpec.ofChange askTellsWrong)

/-- 'backhaullaw35.CreditTells': WHATEVER THE INPUT: true; the input reads as it did. -/
def creditTellsSpec : ChangeSpec := { name := "creditTells", fn := fun _ => fun
  | [d1, d2, d3] => { results := [.lit (.bool true)], args := [d1, d2, d3] }
  | _ => none }
def creditTellsRow : OpenClaim := { program := "ytgpnhbekepoebaagreat", sum := "54e20d1846c379c728950ce39d924c4f7f1a14d86a0a065b9bed838d63ea8eed", func := "backhaul/backhaullaw35.CreditTells", spec := "creditTells", inPlace := ["internal/abi.NoEscape"], unfollowed := true, recurses := true, named := ["math/bits.divideError", "math/bits.overflowError"], plainKeys := false, apart := false }
def CreditTellsSaid : Prop := creditTellsRow.holds Tryz.pinned (OpenSpec.ofChange creditTellsSpec)

/-- ITS FALSE NEIGHBOUR: 'it returns false'. Refute it at one input. -/
def creditTellsWrong : ChangeSpec := { name := "creditTells", fn := fun _ => fun
  | [d1, d2, d3] => { results := [.lit (.bool false)], args := [d1, d2, d3] }
  | _ => none }
def CreditTellsWrongFalsely : Prop := creditTellsRow.holds Tryz.pinned (OpenSpec.ofChange creditTellsWrong)

/-- 'backhaullaw32.IntakeFacts': WHATEVER THE INPUT: true; the input reads as it did. -/
def intakeFactsSpec : ChangeSpec := { name := "intakeFacts", fn := fun _ => fun
  | [d1, d2] => { results := [.lit (.bool true)], args := [d1, d2] }
  | _ => none }
def intakeFactsRow : OpenClaim := { program := "ytgpnhbekepoebaagreat", sum := "54e20d1846c379c728950ce39d924c4f7f1a14d86a0a065b9bed838d63ea8eed", func := "backhaul/backhaullaw32.IntakeFacts", spec := "intakeFacts", inPlace := ["internal/abi.NoEscape", "slices.overlaps[backhaul/api.Item]", "slices.overlaps[backhaul/api.Order]", "internal/bytealg.abigen_runtime_cmpstring", "slices.overlaps[backhaul/api.Unit]"], unfollowed := true, recurses := true, named := ["math/bits.divideError", "math/bits.overflowError"], plainKeys := false, apart := false }
def IntakeFactsSaid : Prop := intakeFactsRow.holds Tryz.pinned (OpenSpec.ofChange intakeFactsSpec)

/-- ITS FALSE NEIGHBOUR: 'it returns false'. Refute it at one input. -/
def intakeFactsWrong : ChangeSpec := { name := "intakeFacts", fn := fun _ => fun
  | [d1, d2] => { results := [.lit (.bool false)], args := [d1, d2] }
  | _ => none }
def IntakeFactsWrongFalsely : Prop := intakeFactsRow.holds Tryz.pinned (OpenSpec.ofChange intakeFactsWrong)

/- THE SECOND FORM. 'bulk': how many values and letters a reading holds, each counted each time it is reached (what is shared counts as often as it is met; a slice's spare places count too). A statement '..UptoSaid' is the law's where the arguments, and the package variables that the reading takes, are together of bulk at most 1048576: NARROWER than '..Said'. Prove '..Said' where nothing that the law and all that it calls make is longer than what came in: it says more and counts as full. Else prove '..UptoSaid'. A law counts once. -/
mutual
def uptoBulk {H : Type} : DataW H → Nat
  | .lit (.string bytes) => bytes.length + 1
  | .lit _ => 1
  | .nil => 1
  | .ptr d => uptoBulk d + 1
  | .slice elems spare => uptoBulkAll elems + uptoBulkAll spare + 1
  | .agg parts => uptoBulkAll parts + 1
  | .iface _ d => uptoBulk d + 1
  | .map entries => uptoBulkEntries entries + 1
  | .held _ => 1
def uptoBulkAll {H : Type} : List (DataW H) → Nat
  | [] => 0
  | d :: r => uptoBulk d + uptoBulkAll r
def uptoBulkEntries {H : Type} : List (Lit × DataW H) → Nat
  | [] => 0
  | x :: r => uptoBulkEntry x + uptoBulkEntries r
def uptoBulkEntry {H : Type} : Lit × DataW H → Nat
  | (.string bytes, d) => bytes.length + uptoBulk d + 1
  | (_, d) => uptoBulk d + 1
 end
def uptoSmall : (H : Type) → List (DataW H) → Bool := fun _ ds => decide (uptoBulkAll ds ≤ 1048576)
def OpenSpec.upto (s : _root_.Go.ChangeSpec) : _root_.Go.OpenSpec := { _root_.Go.OpenSpec.ofChange s with cond := some uptoSmall }

/-- 'backhaullaw41.AuditUnits', WHERE WHAT IT READS IS OF BULK AT MOST 1048576: true; the input reads as it did. -/
def auditUnitsUptoRow : OpenClaim := { program := "ytgpnhbekepoebaagreat", sum := "54e20d1846c379c728950ce39d924c4f7f1a14d86a0a065b9bed838d63ea8eed", func := "backhaul/backhaullaw41.AuditUnits", spec := "auditUnits", unfollowed := true, recurses := true, named := ["math/bits.divideError", "math/bits.overflowError"], plainKeys := false, apart := false, narrowed := true }
def AuditUnitsUptoSaid : Prop := auditUnitsUptoRow.holds Tryz.pinned (OpenSpec.upto auditUnitsSpec)

/-- 'backhaullaw41.AuditMoney', WHERE WHAT IT READS IS OF BULK AT MOST 1048576: true; the input reads as it did. -/
def auditMoneyUptoRow : OpenClaim := { program := "ytgpnhbekepoebaagreat", sum := "54e20d1846c379c728950ce39d924c4f7f1a14d86a0a065b9bed838d63ea8eed", func := "backhaul/backhaullaw41.AuditMoney", spec := "auditMoney", unfollowed := true, recurses := true, named := ["math/bits.divideError", "math/bits.overflowError"], plainKeys := false, apart := false, narrowed := true }
def AuditMoneyUptoSaid : Prop := auditMoneyUptoRow.holds Tryz.pinned (OpenSpec.upto auditMoneySpec)

/-- 'backhaullaw37.AskCounts', WHERE WHAT IT READS IS OF BULK AT MOST 1048576: true; the input reads as it did. -/
def askCountsUptoRow : OpenClaim := { program := "ytgpnhbekepoebaagreat", sum := "54e20d1846c379c728950ce39d924c4f7f1a14d86a0a065b9bed838d63ea8eed", func := "backhaul/backhaullaw37.AskCounts", spec := "askCounts", inPlace := ["internal/abi.NoEscape"], unfollowed := true, recurses := true, named := ["math/bits.divideError", "math/bits.overflowError"], plainKeys := false, apart := false, narrowed := true }
def AskCountsUptoSaid : Prop := askCountsUptoRow.holds Tryz.pinned (OpenSpec.upto askCountsSpec)

/-- 'backhaullaw37.AskTells', WHERE WHAT IT READS IS OF BULK AT MOST 1048576: true; the input reads as it did. -/
def askTellsUptoRow : OpenClaim := { program := "ytgpnhbekepoebaagreat", sum := "54e20d1846c379c728950ce39d924c4f7f1a14d86a0a065b9bed838d63ea8eed", func := "backhaul/backhaullaw37.AskTells", spec := "askTells", inPlace := ["internal/abi.NoEscape"], unfollowed := true, recurses := true, named := ["math/bits.divideError", "math/bits.overflowError"], plainKeys := false, apart := false, narrowed := true }
def AskTellsUptoSaid : Prop := askTellsUptoRow.holds Tryz.pinned (OpenSpec.upto askTellsSpec)

/-- 'backhaullaw35.CreditTells', WHERE WHAT IT READS IS OF BULK AT MOST 1048576: true; the input reads as it did. -/
def creditTellsUptoRow : OpenClaim := { program := "ytgpnhbekepoebaagreat", sum := "54e20d1846c379c728950ce39d924c4f7f1a14d86a0a065b9bed838d63ea8eed", func := "backhaul/backhaullaw35.CreditTells", spec := "creditTells", inPlace := ["internal/abi.NoEscape"], unfollowed := true, recurses := true, named := ["math/bits.divideError", "math/bits.overflowError"], plainKeys := false, apart := false, narrowed := true }
def CreditTellsUptoSaid : Prop := creditTellsUptoRow.holds Tryz.pinned (OpenSpec.upto creditTellsSpec)

/-- 'backhaullaw32.IntakeFacts', WHERE WHAT IT READS IS OF BULK AT MOST 1048576: true; the input reads as it did. -/
def intakeFactsUptoRow : OpenClaim := { program := "ytgpnhbekepoebaagreat", sum := "54e20d1846c379c728950ce39d924c4f7f1a14d86a0a065b9bed838d63ea8eed", func := "backhaul/backhaullaw32.IntakeFacts", spec := "intakeFacts", inPlace := ["internal/abi.NoEscape", "slices.overlaps[backhaul/api.Item]", "slices.overlaps[backhaul/api.Order]", "internal/bytealg.abigen_runtime_cmpstring", "slices.overlaps[backhaul/api.Unit]"], unfollowed := true, recurses := true, named := ["math/bits.divideError", "math/bits.overflowError"], plainKeys := false, apart := false, narrowed := true }
def IntakeFactsUptoSaid : Prop := intakeFactsUptoRow.holds Tryz.pinned (OpenSpec.upto intakeFactsSpec)

end Rows
end Go.Proofs.YtgpnhbekepoebaaGreat
