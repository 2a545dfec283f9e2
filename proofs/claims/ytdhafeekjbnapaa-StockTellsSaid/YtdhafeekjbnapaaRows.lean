/-
  No cell of these rows narrows 'for every input' (looked for: loops, veiled, ifaces, maps, wideKeys, modest, calm, conditions, laid).
  DERIVED. THE GIVEN ROWS OF THIS SEAT. 7 by the template 'for every input the law returns true; each argument reads behind the call as it read before'; 0 by the template 'total and deterministic' (their statements: YtdhafeekjbnapaaTotals.lean).
  GIVEN WITH THE SEED: the statements are not yours to turn. If you find one false, say at which input.
  Laid BY PROGRAM, IN A SANDBOX (cutbox-rows.mjs): the forced cells as the released guide's own fill.sh prints them over the translation d9582bdc0ac535e4… (all of the seat's roots in one cut). By AI agents, Wed Nov 11 2026. No macro, syntax, notation, axiom, sorry.
-/
import Derived.Test.YtdhafeekjbnapaaChecked
import GoSem.Claim
import GoSem.ClaimJoined
import GoSem.ClaimMapViews
import Derived.JoinedTies
import Derived.KernelRfl
namespace Go.Proofs.Ytdhafeekjbnapaa
/- THE CELL 'sum', in the pinned program and in every row, IS THE sha256 OF THE DUMP (.gsa) THAT YtdhafeekjbnapaaProg.lean LOADS. Nothing in Lean hashes anything: it is a label: what it is worth is what the hold of that sum in a sandbox is worth. -/
noncomputable def Try.pinned : Pinned := { name := "ytdhafeekjbnapaa", sum := "d9582bdc0ac535e4039eb975142594d44e672084a110010a4d564883b17e31b5", checked := Try.checked }
namespace Rows
def none {H : Type} : Left H := { results := [], args := [] }

/-- 'backhaullaw07.CrcSums': WHATEVER THE INPUT: true; the input reads as it did. -/
def crcSumsSpec : ChangeSpec := { name := "crcSums", fn := fun _ => fun
  | [d1, d2] => { results := [.lit (.bool true)], args := [d1, d2] }
  | _ => none }
def crcSumsRow : OpenClaim := { program := "ytdhafeekjbnapaa", sum := "d9582bdc0ac535e4039eb975142594d44e672084a110010a4d564883b17e31b5", func := "backhaul/backhaullaw07.CrcSums", spec := "crcSums", unfollowed := true, recurses := true, plainKeys := false, apart := false }
def CrcSumsSaid : Prop := crcSumsRow.holds Try.pinned (OpenSpec.ofChange crcSumsSpec)

/-- ITS FALSE NEIGHBOUR: 'it returns false'. Refute it at one input. -/
def crcSumsWrong : ChangeSpec := { name := "crcSums", fn := fun _ => fun
  | [d1, d2] => { results := [.lit (.bool false)], args := [d1, d2] }
  | _ => none }
def CrcSumsWrongFalsely : Prop := crcSumsRow.holds Try.pinned (OpenSpec.ofChange crcSumsWrong)

/-- 'backhaullaw07.CrcOn': WHATEVER THE INPUT: true; the input reads as it did. -/
def crcOnSpec : ChangeSpec := { name := "crcOn", fn := fun _ => fun
  | [d1, d2] => { results := [.lit (.bool true)], args := [d1, d2] }
  | _ => none }
def crcOnRow : OpenClaim := { program := "ytdhafeekjbnapaa", sum := "d9582bdc0ac535e4039eb975142594d44e672084a110010a4d564883b17e31b5", func := "backhaul/backhaullaw07.CrcOn", spec := "crcOn", unfollowed := true, recurses := true, plainKeys := false, apart := false }
def CrcOnSaid : Prop := crcOnRow.holds Try.pinned (OpenSpec.ofChange crcOnSpec)

/-- ITS FALSE NEIGHBOUR: 'it returns false'. Refute it at one input. -/
def crcOnWrong : ChangeSpec := { name := "crcOn", fn := fun _ => fun
  | [d1, d2] => { results := [.lit (.bool false)], args := [d1, d2] }
  | _ => none }
def CrcOnWrongFalsely : Prop := crcOnRow.holds Try.pinned (OpenSpec.ofChange crcOnWrong)

/-- 'backhaullaw07.CrcBurst': WHATEVER THE INPUT: true; the input reads as it did. -/
def crcBurstSpec : ChangeSpec := { name := "crcBurst", fn := fun _ => fun
  | [d1, d2, d3] => { results := [.lit (.bool true)], args := [d1, d2, d3] }
  | _ => none }
def crcBurstRow : OpenClaim := { program := "ytdhafeekjbnapaa", sum := "d9582bdc0ac535e4039eb975142594d44e672084a110010a4d564883b17e31b5", func := "backhaul/backhaullaw07.CrcBurst", spec := "crcBurst", unfollowed := true, recurses := true, plainKeys := false, apart := false }
def CrcBurstSaid : Prop := crcBurstRow.holds Try.pinned (OpenSpec.ofChange crcBurstSpec)

/-- ITS FALSE NEIGHBOUR: 'it returns false'. Refute it at one input. -/
def crcBurstWrong : ChangeSpec := { name := "crcBurst", fn := fun _ => fun
  | [d1, d2, d3] => { results := [.lit (.bool false)], args := [d1, d2, d3] }
  | _ => none }
def CrcBurstWrongFalsely : Prop := crcBurstRow.holds Try.pinned (OpenSpec.ofChange crcBurstWrong)

/-- 'backhaullaw23.StockAdds': WHATEVER THE INPUT: true; the input reads as it did. -/
def stockAddsSpec : ChangeSpec := { name := "stockAdds", fn := fun _ => fun
  | [d1, d2] => { results := [.lit (.bool true)], args := [d1, d2] }
  | _ => none }
def stockAddsRow : OpenClaim := { program := "ytdhafeekjbnapaa", sum := "d9582bdc0ac535e4039eb975142594d44e672084a110010a4d564883b17e31b5", func := "backhaul/backhaullaw23.StockAdds", spec := "stockAdds", unfollowed := true, recurses := true, plainKeys := false, apart := false }
def StockAddsSaid : Prop := stockAddsRow.holds Try.pinned (OpenSpec.ofChange stockAddsSpec)

/-- ITS FALSE NEIGHBOUR: 'it returns false'. Refute it at one input. -/
def stockAddsWrong : ChangeSpec := { name := "stockAdds", fn := fun _ => fun
  | [d1, d2] => { results := [.lit (.bool false)], args := [d1, d2] }
  | _ => none }
def StockAddsWrongFalsely : Prop := stockAddsRow.holds Try.pinned (OpenSpec.ofChange stockAddsWrong)

/-- 'backhaullaw23.StockTells': WHATEVER THE INPUT: true; the input reads as it did. -/
def stockTellsSpec : ChangeSpec := { name := "stockTells", fn := fun _ => fun
  | [d1, d2, d3] => { results := [.lit (.bool true)], args := [d1, d2, d3] }
  | _ => none }
def stockTellsRow : OpenClaim := { program := "ytdhafeekjbnapaa", sum := "d9582bdc0ac535e4039eb975142594d44e672084a110010a4d564883b17e31b5", func := "backhaul/backhaullaw23.StockTells", spec := "stockTells", unfollowed := true, recurses := true, plainKeys := false, apart := false }
def StockTellsSaid : Prop := stockTellsRow.holds Try.pinned (OpenSpec.ofChange stockTellsSpec)

/-- ITS FALSE NEIGHBOUR: 'it returns false'. Refute it at one input. -/
def stockTellsWrong : ChangeSpec := { name := "stockTells", fn := fun _ => fun
  | [d1, d2, d3] => { results := [.lit (.bool false)], args := [d1, d2, d3] }
  | _ => none }
def StockTellsWrongFalsely : Prop := stockTellsRow.holds Try.pinned (OpenSpec.ofChange stockTellsWrong)

/-- 'backhaullaw23.StockSums': WHATEVER THE INPUT: true; the input reads as it did. -/
def stockSumsSpec : ChangeSpec := { name := "stockSums", fn := fun _ => fun
  | [d1, d2] => { results := [.lit (.bool true)], args := [d1, d2] }
  | _ => none }
def stockSumsRow : OpenClaim := { program := "ytdhafeekjbnapaa", sum := "d9582bdc0ac535e4039eb975142594d44e672084a110010a4d564883b17e31b5", func := "backhaul/backhaullaw23.StockSums", spec := "stockSums", unfollowed := true, recurses := true, plainKeys := false, apart := false }
def StockSumsSaid : Prop := stockSumsRow.holds Try.pinned (OpenSpec.ofChange stockSumsSpec)

/-- ITS FALSE NEIGHBOUR: 'it returns false'. Refute it at one input. -/
def stockSumsWrong : ChangeSpec := { name := "stockSums", fn := fun _ => fun
  | [d1, d2] => { results := [.lit (.bool false)], args := [d1, d2] }
  | _ => none }
def StockSumsWrongFalsely : Prop := stockSumsRow.holds Try.pinned (OpenSpec.ofChange stockSumsWrong)

/-- 'backhaullaw23.StockLent': WHATEVER THE INPUT: true; the input reads as it did. -/
def stockLentSpec : ChangeSpec := { name := "stockLent", fn := fun _ => fun
  | [d1, d2, d3] => { results := [.lit (.bool true)], args := [d1, d2, d3] }
  | _ => none }
def stockLentRow : OpenClaim := { program := "ytdhafeekjbnapaa", sum := "d9582bdc0ac535e4039eb975142594d44e672084a110010a4d564883b17e31b5", func := "backhaul/backhaullaw23.StockLent", spec := "stockLent", unfollowed := true, recurses := true, plainKeys := false, apart := false }
def StockLentSaid : Prop := stockLentRow.holds Try.pinned (OpenSpec.ofChange stockLentSpec)

/-- ITS FALSE NEIGHBOUR: 'it returns false'. Refute it at one input. -/
def stockLentWrong : ChangeSpec := { name := "stockLent", fn := fun _ => fun
  | [d1, d2, d3] => { results := [.lit (.bool false)], args := [d1, d2, d3] }
  | _ => none }
def StockLentWrongFalsely : Prop := stockLentRow.holds Try.pinned (OpenSpec.ofChange stockLentWrong)

/- THE SECOND FORM. 'bulk': how many values and letters a reading holds, each counted each time it is reached (what is shared counts as often as it is met; a slice's spare places count too). A statement '..UptoSaid' is the law's where the arguments, and the package variables that the reading takes, are together of bulk at most 1048576: NARROWER than '..Said'. Prove '..Said' where nothing that the law and all that it calls make is longer than what came in: it says more and counts as full. Else prove '..UptoSaid'. A law counts once. -/
mutual
def uptoBulk {H : Type} : DataW H → Nat
  | .lit (.string bytes) => bytes.length + 1
  | .lit _ => 1
  | .nil => 1
  | .ptr d => uptoBulk d + 1
  | .slice elems spare => uptoBulkAll elems + uptoBulkAll spare + 1
  | .agg parts => uptoBulkAll parts + 1
  | .iface _ d => uptoBulk d + 1
  | .map entries => uptoBulkEntries entries + 1
  | .held _ => 1
def uptoBulkAll {H : Type} : List (DataW H) → Nat
  | [] => 0
  | d :: r => uptoBulk d + uptoBulkAll r
def uptoBulkEntries {H : Type} : List (Lit × DataW H) → Nat
  | [] => 0
  | x :: r => uptoBulkEntry x + uptoBulkEntries r
def uptoBulkEntry {H : Type} : Lit × DataW H → Nat
  | (.string bytes, d) => bytes.length + uptoBulk d + 1
  | (_, d) => uptoBulk d + 1
 end
def uptoSmall : (H : Type) → List (DataW H) → Bool := fun _ ds => decide (uptoBulkAll ds ≤ 1048576)
def OpenSpec.upto (s : _root_.Go.ChangeSpec) : _root_.Go.OpenSpec := { _root_.Go.OpenSpec.ofChange s with cond := some uptoSmall }

/-- 'backhaullaw07.CrcSums', WHERE WHAT IT READS IS OF BULK AT MOST 1048576: true; the input reads as it did. -/
def crcSumsUptoRow : OpenClaim := { program := "ytdhafeekjbnapaa", sum := "d9582bdc0ac535e4039eb975142594d44e672084a110010a4d564883b17e31b5", func := "backhaul/backhaullaw07.CrcSums", spec := "crcSums", unfollowed := true, recurses := true, plainKeys := false, apart := false, narrowed := true }
def CrcSumsUptoSaid : Prop := crcSumsUptoRow.holds Try.pinned (OpenSpec.upto crcSumsSpec)

/-- 'backhaullaw07.CrcOn', WHERE WHAT IT READS IS OF BULK AT MOST 1048576: true; the input reads as it did. -/
def crcOnUptoRow : OpenClaim := { program := "ytdhafeekjbnapaa", sum := "d9582bdc0ac535e4039eb975142594d44e672084a110010a4d564883b17e31b5", func := "backhaul/backhaullaw07.CrcOn", spec := "crcOn", unfollowed := true, recurses := true, plainKeys := false, apart := false, narrowed := true }
def CrcOnUptoSaid : Prop := crcOnUptoRow.holds Try.pinned (OpenSpec.upto crcOnSpec)

/-- 'backhaullaw07.CrcBurst', WHERE WHAT IT READS IS OF BULK AT MOST 1048576: true; the input reads as it did. -/
def crcBurstUptoRow : OpenClaim := { program := "ytdhafeekjbnapaa", sum := "d9582bdc0ac535e4039eb975142594d44e672084a110010a4d564883b17e31b5", func := "backhaul/backhaullaw07.CrcBurst", spec := "crcBurst", unfollowed := true, recurses := true, plainKeys := false, apart := false, narrowed := true }
def CrcBurstUptoSaid : Prop := crcBurstUptoRow.holds Try.pinned (OpenSpec.upto crcBurstSpec)

/-- 'backhaullaw23.StockAdds', WHERE WHAT IT READS IS OF BULK AT MOST 1048576: true; the input reads as it did. -/
def stockAddsUptoRow : OpenClaim := { program := "ytdhafeekjbnapaa", sum := "d9582bdc0ac535e4039eb975142594d44e672084a110010a4d564883b17e31b5", func := "backhaul/backhaullaw23.StockAdds", spec := "stockAdds", unfollowed := true, recurses := true, plainKeys := false, apart := false, narrowed := true }
def StockAddsUptoSaid : Prop := stockAddsUptoRow.holds Try.pinned (OpenSpec.upto stockAddsSpec)

/-- 'backhaullaw23.StockTells', WHERE WHAT IT READS IS OF BULK AT MOST 1048576: true; the input reads as it did. -/
def stockTellsUptoRow : OpenClaim := { program := "ytdhafeekjbnapaa", sum := "d9582bdc0ac535e4039eb975142594d44e672084a110010a4d564883b17e31b5", func := "backhaul/backhaullaw23.StockTells", spec := "stockTells", unfollowed := true, recurses := true, plainKeys := false, apart := false, narrowed := true }
def StockTellsUptoSaid : Prop := stockTellsUptoRow.holds Try.pinned (OpenSpec.upto stockTellsSpec)

/-- 'backhaullaw23.StockSums', WHERE WHAT IT READS IS OF BULK AT MOST 1048576: true; the input reads as it did. -/
def stockSumsUptoRow : OpenClaim := { program := "ytdhafeekjbnapaa", sum := "d9582bdc0ac535e4039eb975142594d44e672084a110010a4d564883b17e31b5", func := "backhaul/backhaullaw23.StockSums", spec := "stockSums", unfollowed := true, recurses := true, plainKeys := false, apart := false, narrowed := true }
def StockSumsUptoSaid : Prop := stockSumsUptoRow.holds Try.pinned (OpenSpec.upto stockSumsSpec)

/-- 'backhaullaw23.StockLent', WHERE WHAT IT READS IS OF BULK AT MOST 1048576: true; the input reads as it did. -/
def stockLentUptoRow : OpenClaim := { program := "ytdhafeekjbnapaa", sum := "d9582bdc0ac535e4039eb975142594d44e672084a110010a4d564883b17e31b5", func := "backhaul/backhaullaw23.StockLent", spec := "stockLent", unfollowed := true, recurses := true, plainKeys := false, apart := false, narrowed := true }
def StockLentUptoSaid : Prop := stockLentUptoRow.holds Try.pinned (OpenSpec.upto stockLentSpec)

end Rows
end Go.Proofs.Ytdhafeekjbnapaa
