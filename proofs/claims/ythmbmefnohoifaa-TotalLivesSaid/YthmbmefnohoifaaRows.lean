/-
  No cell of these rows narrows 'for every input' (looked for: loops, veiled, ifaces, maps, wideKeys, modest, calm, conditions, laid).
  DERIVED. THE GIVEN ROWS OF THIS SEAT. 4 by the template 'for every input the law returns true; each argument reads behind the call as it read before'; 0 by the template 'total and deterministic' (their statements: YthmbmefnohoifaaTotals.lean).
  GIVEN WITH THE SEED: the statements are not yours to turn. If you find one false, say at which input.
  Laid BY PROGRAM, IN A SANDBOX (cutbox-rows.mjs): the forced cells as the released guide's own fill.sh prints them over the translation 61782fb9e8dee2bd… (all of the seat's roots in one cut). By AI agents, Wed Nov 11 2026. No macro, syntax, notation, axiom, sorry.
-/
import Derived.Test.YthmbmefnohoifaaChecked
import GoSem.Claim
import GoSem.ClaimJoined
import GoSem.ClaimMapViews
import Derived.JoinedTies
import Derived.KernelRfl
namespace Go.Proofs.Ythmbmefnohoifaa
/- THE CELL 'sum', in the pinned program and in every row, IS THE sha256 OF THE DUMP (.gsa) THAT YthmbmefnohoifaaProg.lean LOADS. Nothing in Lean hashes anything: it is a label: what it is worth is what the hold of that sum in a sandbox is worth. -/
noncomputable def Try.pinned : Pinned := { name := "ythmbmefnohoifaa", sum := "61782fb9e8dee2bd4c6f66852483e3db64aadfec97e698a550ed2d7358c69f26", checked := Try.checked }
namespace Rows
def none {H : Type} : Left H := { results := [], args := [] }

/-- 'backhaullaw19.TotalTells': WHATEVER THE INPUT: true; the input reads as it did. -/
def totalTellsSpec : ChangeSpec := { name := "totalTells", fn := fun _ => fun
  | [d] => { results := [.lit (.bool true)], args := [d] }
  | _ => none }
def totalTellsRow : OpenClaim := { program := "ythmbmefnohoifaa", sum := "61782fb9e8dee2bd4c6f66852483e3db64aadfec97e698a550ed2d7358c69f26", func := "backhaul/backhaullaw19.TotalTells", spec := "totalTells", unfollowed := true, recurses := true, apart := false }
def TotalTellsSaid : Prop := totalTellsRow.holds Try.pinned (OpenSpec.ofChange totalTellsSpec)

/-- ITS FALSE NEIGHBOUR: 'it returns false'. Refute it at one input. -/
def totalTellsWrong : ChangeSpec := { name := "totalTells", fn := fun _ => fun
  | [d] => { results := [.lit (.bool false)], args := [d] }
  | _ => none }
def TotalTellsWrongFalsely : Prop := totalTellsRow.holds Try.pinned (OpenSpec.ofChange totalTellsWrong)

/-- 'backhaullaw19.TotalGap': WHATEVER THE INPUT: true; the input reads as it did. -/
def totalGapSpec : ChangeSpec := { name := "totalGap", fn := fun _ => fun
  | [d1, d2] => { results := [.lit (.bool true)], args := [d1, d2] }
  | _ => none }
def totalGapRow : OpenClaim := { program := "ythmbmefnohoifaa", sum := "61782fb9e8dee2bd4c6f66852483e3db64aadfec97e698a550ed2d7358c69f26", func := "backhaul/backhaullaw19.TotalGap", spec := "totalGap", unfollowed := true, recurses := true, apart := false }
def TotalGapSaid : Prop := totalGapRow.holds Try.pinned (OpenSpec.ofChange totalGapSpec)

/-- ITS FALSE NEIGHBOUR: 'it returns false'. Refute it at one input. -/
def totalGapWrong : ChangeSpec := { name := "totalGap", fn := fun _ => fun
  | [d1, d2] => { results := [.lit (.bool false)], args := [d1, d2] }
  | _ => none }
def TotalGapWrongFalsely : Prop := totalGapRow.holds Try.pinned (OpenSpec.ofChange totalGapWrong)

/-- 'backhaullaw19.TotalDead': WHATEVER THE INPUT: true; the input reads as it did. -/
def totalDeadSpec : ChangeSpec := { name := "totalDead", fn := fun _ => fun
  | [d1, d2] => { results := [.lit (.bool true)], args := [d1, d2] }
  | _ => none }
def totalDeadRow : OpenClaim := { program := "ythmbmefnohoifaa", sum := "61782fb9e8dee2bd4c6f66852483e3db64aadfec97e698a550ed2d7358c69f26", func := "backhaul/backhaullaw19.TotalDead", spec := "totalDead", unfollowed := true, recurses := true, apart := false }
def TotalDeadSaid : Prop := totalDeadRow.holds Try.pinned (OpenSpec.ofChange totalDeadSpec)

/-- ITS FALSE NEIGHBOUR: 'it returns false'. Refute it at one input. -/
def totalDeadWrong : ChangeSpec := { name := "totalDead", fn := fun _ => fun
  | [d1, d2] => { results := [.lit (.bool false)], args := [d1, d2] }
  | _ => none }
def TotalDeadWrongFalsely : Prop := totalDeadRow.holds Try.pinned (OpenSpec.ofChange totalDeadWrong)

/-- 'backhaullaw19.TotalLives': WHATEVER THE INPUT: true; the input reads as it did. -/
def totalLivesSpec : ChangeSpec := { name := "totalLives", fn := fun _ => fun
  | [d] => { results := [.lit (.bool true)], args := [d] }
  | _ => none }
def totalLivesRow : OpenClaim := { program := "ythmbmefnohoifaa", sum := "61782fb9e8dee2bd4c6f66852483e3db64aadfec97e698a550ed2d7358c69f26", func := "backhaul/backhaullaw19.TotalLives", spec := "totalLives", unfollowed := true, recurses := true, apart := false }
def TotalLivesSaid : Prop := totalLivesRow.holds Try.pinned (OpenSpec.ofChange totalLivesSpec)

/-- ITS FALSE NEIGHBOUR: 'it returns false'. Refute it at one input. -/
def totalLivesWrong : ChangeSpec := { name := "totalLives", fn := fun _ => fun
  | [d] => { results := [.lit (.bool false)], args := [d] }
  | _ => none }
def TotalLivesWrongFalsely : Prop := totalLivesRow.holds Try.pinned (OpenSpec.ofChange totalLivesWrong)

/- THE SECOND FORM. 'bulk': how many values and letters a reading holds, each counted each time it is reached (what is shared counts as often as it is met; a slice's spare places count too). A statement '..UptoSaid' is the law's where the arguments, and the package variables that the reading takes, are together of bulk at most 1048576: NARROWER than '..Said'. Prove '..Said' where nothing that the law and all that it calls make is longer than what came in: it says more and counts as full. Else prove '..UptoSaid'. A law counts once. -/
mutual
def uptoBulk {H : Type} : DataW H → Nat
  | .lit (.string bytes) => bytes.length + 1
  | .lit _ => 1
  | .nil => 1
  | .ptr d => uptoBulk d + 1
  | .slice elems spare => uptoBulkAll elems + uptoBulkAll spare + 1
  | .agg parts => uptoBulkAll parts + 1
  | .iface _ d => uptoBulk d + 1
  | .map entries => uptoBulkEntries entries + 1
  | .held _ => 1
def uptoBulkAll {H : Type} : List (DataW H) → Nat
  | [] => 0
  | d :: r => uptoBulk d + uptoBulkAll r
def uptoBulkEntries {H : Type} : List (Lit × DataW H) → Nat
  | [] => 0
  | x :: r => uptoBulkEntry x + uptoBulkEntries r
def uptoBulkEntry {H : Type} : Lit × DataW H → Nat
  | (.string bytes, d) => bytes.length + uptoBulk d + 1
  | (_, d) => uptoBulk d + 1
 end
def uptoSmall : (H : Type) → List (DataW H) → Bool := fun _ ds => decide (uptoBulkAll ds ≤ 1048576)
def OpenSpec.upto (s : _root_.Go.ChangeSpec) : _root_.Go.OpenSpec := { _root_.Go.OpenSpec.ofChange s with cond := some uptoSmall }

/-- 'backhaullaw19.TotalTells', WHERE WHAT IT READS IS OF BULK AT MOST 1048576: true; the input reads as it did. -/
def totalTellsUptoRow : OpenClaim := { program := "ythmbmefnohoifaa", sum := "61782fb9e8dee2bd4c6f66852483e3db64aadfec97e698a550ed2d7358c69f26", func := "backhaul/backhaullaw19.TotalTells", spec := "totalTells", unfollowed := true, recurses := true, apart := false, narrowed := true }
def TotalTellsUptoSaid : Prop := totalTellsUptoRow.holds Try.pinned (OpenSpec.upto totalTellsSpec)

/-- 'backhaullaw19.TotalGap', WHERE WHAT IT READS IS OF BULK AT MOST 1048576: true; the input reads as it did. -/
def totalGapUptoRow : OpenClaim := { program := "ythmbmefnohoifaa", sum := "61782fb9e8dee2bd4c6f66852483e3db64aadfec97e698a550ed2d7358c69f26", func := "backhaul/backhaullaw19.TotalGap", spec := "totalGap", unfollowed := true, recurses := true, apart := false, narrowed := true }
def TotalGapUptoSaid : Prop := totalGapUptoRow.holds Try.pinned (OpenSpec.upto totalGapSpec)

/-- 'backhaullaw19.TotalDead', WHERE WHAT IT READS IS OF BULK AT MOST 1048576: true; the input reads as it did. -/
def totalDeadUptoRow : OpenClaim := { program := "ythmbmefnohoifaa", sum := "61782fb9e8dee2bd4c6f66852483e3db64aadfec97e698a550ed2d7358c69f26", func := "backhaul/backhaullaw19.TotalDead", spec := "totalDead", unfollowed := true, recurses := true, apart := false, narrowed := true }
def TotalDeadUptoSaid : Prop := totalDeadUptoRow.holds Try.pinned (OpenSpec.upto totalDeadSpec)

/-- 'backhaullaw19.TotalLives', WHERE WHAT IT READS IS OF BULK AT MOST 1048576: true; the input reads as it did. -/
def totalLivesUptoRow : OpenClaim := { program := "ythmbmefnohoifaa", sum := "61782fb9e8dee2bd4c6f66852483e3db64aadfec97e698a550ed2d7358c69f26", func := "backhaul/backhaullaw19.TotalLives", spec := "totalLives", unfollowed := true, recurses := true, apart := false, narrowed := true }
def TotalLivesUptoSaid : Prop := totalLivesUptoRow.holds Try.pinned (OpenSpec.upto totalLivesSpec)

end Rows
end Go.Proofs.Ythmbmefnohoifaa
