/-
  No cell of these rows narrows 'for every input' (looked for: loops, veiled, ifaces, maps, wideKeys, modest, calm, conditions, laid).
  DERIVED. THE GIVEN ROWS OF THIS SEAT. 2 by the template 'for every input the law returns true; each argument reads behind the call as it read before'; 0 by the template 'total and deterministic' (their statements: YtnfbiphfhkfnaaaGreatTotals.lean).
  GIVEN WITH THE SEED: the statements are not yours to turn. If you find one false, say at which input.
  Laid BY PROGRAM, IN A SANDBOX (cutbox-rows.mjs): the forced cells as the released guide's own fill.sh prints them over the translation cd7b086b6b923278… (all of the seat's roots in one cut). By AI agents, Wed Nov 11 2026. No macro, syntax, notation, axiom, sorry.
-/
import Derived.Test.YtnfbiphfhkfnaaaGreatChecked
import GoSem.Claim
import GoSem.ClaimJoined
import GoSem.ClaimMapViews
import Derived.JoinedTies
import Derived.KernelRfl
namespace Go.Proofs.YtnfbiphfhkfnaaaGreat
/- THE CELL 'sum', in the pinned program and in every row, IS THE sha256 OF THE DUMP (.gsa) THAT YtnfbiphfhkfnaaaGreatProg.lean LOADS. Nothing in Lean hashes anything: it is a label: what it is worth is what the hold of that sum in a sandbox is worth. -/
noncomputable def Tryz.pinned : Pinned := { name := "ytnfbiphfhkfnaaagreat", sum := "cd7b086b6b9232786b74e4a05907f74f7867e2aacd63997e797d36d8e3454296", checked := Tryz.checked }
namespace Rows
def none {H : Type} : Left H := { results := [], args := [] }

/-- 'backhaullaw28.StateStock': WHATEVER THE INPUT: true; the input reads as it did. -/
def stateStockSpec : ChangeSpec := { name := "stateStock", fn := fun _ => fun
  | [d] => { results := [.lit (.bool true)], args := [d] }
  | _ => none }
def stateStockRow : OpenClaim := { program := "ytnfbiphfhkfnaaagreat", sum := "cd7b086b6b9232786b74e4a05907f74f7867e2aacd63997e797d36d8e3454296", func := "backhaul/backhaullaw28.StateStock", spec := "stateStock", unfollowed := true, recurses := true, named := ["math/bits.divideError", "math/bits.overflowError"], plainKeys := false, apart := false }
def StateStockSaid : Prop := stateStockRow.holds Tryz.pinned (OpenSpec.ofChange stateStockSpec)

/-- ITS FALSE NEIGHBOUR: 'it returns false'. Refute it at one input. -/
def stateStockWrong : ChangeSpec := { name := "stateStock", fn := fun _ => fun
  | [d] => { results := [.lit (.bool false)], args := [d] }
  | _ => none }
def StateStockWrongFalsely : Prop := stateStockRow.holds Tryz.pinned (OpenSpec.ofChange stateStockWrong)

/-- 'backhaullaw28.StateBounds': WHATEVER THE INPUT: true; the input reads as it did. -/
def stateBoundsSpec : ChangeSpec := { name := "stateBounds", fn := fun _ => fun
  | [d] => { results := [.lit (.bool true)], args := [d] }
  | _ => none }
def stateBoundsRow : OpenClaim := { program := "ytnfbiphfhkfnaaagreat", sum := "cd7b086b6b9232786b74e4a05907f74f7867e2aacd63997e797d36d8e3454296", func := "backhaul/backhaullaw28.StateBounds", spec := "stateBounds", unfollowed := true, recurses := true, named := ["math/bits.divideError", "math/bits.overflowError"], plainKeys := false, apart := false }
def StateBoundsSaid : Prop := stateBoundsRow.holds Tryz.pinned (OpenSpec.ofChange stateBoundsSpec)

/-- ITS FALSE NEIGHBOUR: 'it returns false'. Refute it at one input. -/
def stateBoundsWrong : ChangeSpec := { name := "stateBounds", fn := fun _ => fun
  | [d] => { results := [.lit (.bool false)], args := [d] }
  | _ => none }
def StateBoundsWrongFalsely : Prop := stateBoundsRow.holds Tryz.pinned (OpenSpec.ofChange stateBoundsWrong)

/- THE SECOND FORM. 'bulk': how many values and letters a reading holds, each counted each time it is reached (what is shared counts as often as it is met; a slice's spare places count too). A statement '..UptoSaid' is the law's where the arguments, and the package variables that the reading takes, are together of bulk at most 1048576: NARROWER than '..Said'. Prove '..Said' where nothing that the law and all that it calls make is longer than what came in: it says more and counts as full. Else prove '..UptoSaid'. A law counts once. -/
mutual
def uptoBulk {H : Type} : DataW H → Nat
  | .lit (.string bytes) => bytes.length + 1
  | .lit _ => 1
  | .nil => 1
  | .ptr d => uptoBulk d + 1
  | .slice elems spare => uptoBulkAll elems + uptoBulkAll spare + 1
  | .agg parts => uptoBulkAll parts + 1
  | .iface _ d => uptoBulk d + 1
  | .map entries => uptoBulkEntries entries + 1
  | .held _ => 1
def uptoBulkAll {H : Type} : List (DataW H) → Nat
  | [] => 0
  | d :: r => uptoBulk d + uptoBulkAll r
def uptoBulkEntries {H : Type} : List (Lit × DataW H) → Nat
  | [] => 0
  | x :: r => uptoBulkEntry x + uptoBulkEntries r
def uptoBulkEntry {H : Type} : Lit × DataW H → Nat
  | (.string bytes, d) => bytes.length + uptoBulk d + 1
  | (_, d) => uptoBulk d + 1
 end
def uptoSmall : (H : Type) → List (DataW H) → Bool := fun _ ds => decide (uptoBulkAll ds ≤ 1048576)
def OpenSpec.upto (s : _root_.Go.ChangeSpec) : _root_.Go.OpenSpec := { _root_.Go.OpenSpec.ofChange s with cond := some uptoSmall }

/-- 'backhaullaw28.StateStock', WHERE WHAT IT READS IS OF BULK AT MOST 1048576: true; the input reads as it did. -/
def stateStockUptoRow : OpenClaim := { program := "ytnfbiphfhkfnaaagreat", sum := "cd7b086b6b9232786b74e4a05907f74f7867e2aacd63997e797d36d8e3454296", func := "backhaul/backhaullaw28.StateStock", spec := "stateStock", unfollowed := true, recurses := true, named := ["math/bits.divideError", "math/bits.overflowError"], plainKeys := false, apart := false, narrowed := true }
def StateStockUptoSaid : Prop := stateStockUptoRow.holds Tryz.pinned (OpenSpec.upto stateStockSpec)

/-- 'backhaullaw28.StateBounds', WHERE WHAT IT READS IS OF BULK AT MOST 1048576: true; the input reads as it did. -/
def stateBoundsUptoRow : OpenClaim := { program := "ytnfbiphfhkfnaaagreat", sum := "cd7b086b6b9232786b74e4a05907f74f7867e2aacd63997e797d36d8e3454296", func := "backhaul/backhaullaw28.StateBounds", spec := "stateBounds", unfollowed := true, recurses := true, named := ["math/bits.divideError", "math/bits.overflowError"], plainKeys := false, apart := false, narrowed := true }
def StateBoundsUptoSaid : Prop := stateBoundsUptoRow.holds Tryz.pinned (OpenSpec.upto stateBoundsSpec)

end Rows
end Go.Proofs.YtnfbiphfhkfnaaaGreat
