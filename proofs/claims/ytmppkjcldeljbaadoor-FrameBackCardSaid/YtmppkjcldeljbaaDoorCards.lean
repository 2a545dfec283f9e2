/-
  DERIVED. GIVEN WITH THE SEED: THE CARDS: each row of YtmppkjcldeljbaaDoorRows.lean that lists a variable, with what it lists TIED to the program's text (the seventh form; the later family's looks); each row that meets fmt, with fmt's text TOLD by the authors' own Lean function (tested against real Go, not proved from fmt's source: count such statements apart). THE CARD IS WHAT COUNTS. Prove the row's statement (the work); the ties are given (YtmppkjcldeljbaaDoorTie.lean); close each card by the builder's one call (the guide's Derived/Test/ToyasCard.lean, 'card_holds'). Laid BY PROGRAM, IN A SANDBOX (cutbox-door.mjs). By AI agents, Wed Nov 11 2026. No macro, syntax, notation, axiom, sorry.
-/
import Derived.Test.YtmppkjcldeljbaaDoorRows
import GoSem.ClaimSeven
namespace Go.Proofs.YtmppkjcldeljbaaDoor
namespace Rows

/-- THE TIED CARD OF 'backhaullaw09.SlotPicks'. -/
def slotPicksCard : Claim7 := { stood := { row := slotPicksRow, standIns := [], harness := (true, "d4c2ae9ddf536dba20691fbdc482b1cb03b249296bb3cc7a7d5cfe2ece43b9e1"), looks := false }, kinds := [], alts := [], laidByText := true, laidKinds := [.data, .pinned], laidTests := true, laidLooks := .later }
def SlotPicksCardSaid : Prop := Claim7.holds Tryd.pinned (.plain (OpenSpec.ofChange slotPicksSpec)) slotPicksCard

/-- THE TIED CARD OF 'backhaullaw09.SlotBack'. -/
def slotBackCard : Claim7 := { stood := { row := slotBackRow, standIns := [], harness := (true, "d4c2ae9ddf536dba20691fbdc482b1cb03b249296bb3cc7a7d5cfe2ece43b9e1"), looks := false }, kinds := [], alts := [], laidByText := true, laidKinds := [.data, .pinned], laidTests := true, laidLooks := .later }
def SlotBackCardSaid : Prop := Claim7.holds Tryd.pinned (.plain (OpenSpec.ofChange slotBackSpec)) slotBackCard

/-- THE TIED CARD OF 'backhaullaw09.SlotChoose'. -/
def slotChooseCard : Claim7 := { stood := { row := slotChooseRow, standIns := [], harness := (true, "d4c2ae9ddf536dba20691fbdc482b1cb03b249296bb3cc7a7d5cfe2ece43b9e1"), looks := false }, kinds := [], alts := [], laidByText := true, laidKinds := [.data, .pinned], laidTests := true, laidLooks := .later }
def SlotChooseCardSaid : Prop := Claim7.holds Tryd.pinned (.plain (OpenSpec.ofChange slotChooseSpec)) slotChooseCard

/-- THE TIED CARD OF 'backhaullaw10.FrameGets'. -/
def frameGetsCard : Claim7 := { stood := { row := frameGetsRow, standIns := [], harness := (true, "d4c2ae9ddf536dba20691fbdc482b1cb03b249296bb3cc7a7d5cfe2ece43b9e1"), looks := false }, kinds := [], alts := [], laidByText := true, laidKinds := [.data, .pinned], laidTests := true, laidLooks := .later }
def FrameGetsCardSaid : Prop := Claim7.holds Tryd.pinned (.plain (OpenSpec.ofChange frameGetsSpec)) frameGetsCard

/-- THE TIED CARD OF 'backhaullaw10.FrameBack'. -/
def frameBackCard : Claim7 := { stood := { row := frameBackRow, standIns := [], harness := (true, "d4c2ae9ddf536dba20691fbdc482b1cb03b249296bb3cc7a7d5cfe2ece43b9e1"), looks := false }, kinds := [], alts := [], laidByText := true, laidKinds := [.data, .pinned], laidTests := true, laidLooks := .later }
def FrameBackCardSaid : Prop := Claim7.holds Tryd.pinned (.plain (OpenSpec.ofChange frameBackSpec)) frameBackCard

/-- THE TIED CARD OF 'backhaullaw10.FrameApart'. -/
def frameApartCard : Claim7 := { stood := { row := frameApartRow, standIns := [], harness := (true, "d4c2ae9ddf536dba20691fbdc482b1cb03b249296bb3cc7a7d5cfe2ece43b9e1"), looks := false }, kinds := [], alts := [], laidByText := true, laidKinds := [.data, .pinned], laidTests := true, laidLooks := .later }
def FrameApartCardSaid : Prop := Claim7.holds Tryd.pinned (.plain (OpenSpec.ofChange frameApartSpec)) frameApartCard

/-- THE TIED CARD OF 'backhaullaw10.FrameGrows'. -/
def frameGrowsCard : Claim7 := { stood := { row := frameGrowsRow, standIns := [], harness := (true, "d4c2ae9ddf536dba20691fbdc482b1cb03b249296bb3cc7a7d5cfe2ece43b9e1"), looks := false }, kinds := [], alts := [], laidByText := true, laidKinds := [.data, .pinned], laidTests := true, laidLooks := .later }
def FrameGrowsCardSaid : Prop := Claim7.holds Tryd.pinned (.plain (OpenSpec.ofChange frameGrowsSpec)) frameGrowsCard

/-- THE SECOND FORM's CARD OF 'backhaullaw09.SlotPicks'. -/
def slotPicksUptoCard : Claim7 := { stood := { row := slotPicksUptoRow, standIns := [], harness := (true, "d4c2ae9ddf536dba20691fbdc482b1cb03b249296bb3cc7a7d5cfe2ece43b9e1"), looks := false }, kinds := [], alts := [], laidByText := true, laidKinds := [.data, .pinned], laidTests := true, laidLooks := .later }
def SlotPicksUptoCardSaid : Prop := Claim7.holds Tryd.pinned (.plain (OpenSpec.upto slotPicksSpec)) slotPicksUptoCard

/-- THE SECOND FORM's CARD OF 'backhaullaw09.SlotBack'. -/
def slotBackUptoCard : Claim7 := { stood := { row := slotBackUptoRow, standIns := [], harness := (true, "d4c2ae9ddf536dba20691fbdc482b1cb03b249296bb3cc7a7d5cfe2ece43b9e1"), looks := false }, kinds := [], alts := [], laidByText := true, laidKinds := [.data, .pinned], laidTests := true, laidLooks := .later }
def SlotBackUptoCardSaid : Prop := Claim7.holds Tryd.pinned (.plain (OpenSpec.upto slotBackSpec)) slotBackUptoCard

/-- THE SECOND FORM's CARD OF 'backhaullaw09.SlotChoose'. -/
def slotChooseUptoCard : Claim7 := { stood := { row := slotChooseUptoRow, standIns := [], harness := (true, "d4c2ae9ddf536dba20691fbdc482b1cb03b249296bb3cc7a7d5cfe2ece43b9e1"), looks := false }, kinds := [], alts := [], laidByText := true, laidKinds := [.data, .pinned], laidTests := true, laidLooks := .later }
def SlotChooseUptoCardSaid : Prop := Claim7.holds Tryd.pinned (.plain (OpenSpec.upto slotChooseSpec)) slotChooseUptoCard

/-- THE SECOND FORM's CARD OF 'backhaullaw10.FrameGets'. -/
def frameGetsUptoCard : Claim7 := { stood := { row := frameGetsUptoRow, standIns := [], harness := (true, "d4c2ae9ddf536dba20691fbdc482b1cb03b249296bb3cc7a7d5cfe2ece43b9e1"), looks := false }, kinds := [], alts := [], laidByText := true, laidKinds := [.data, .pinned], laidTests := true, laidLooks := .later }
def FrameGetsUptoCardSaid : Prop := Claim7.holds Tryd.pinned (.plain (OpenSpec.upto frameGetsSpec)) frameGetsUptoCard

/-- THE SECOND FORM's CARD OF 'backhaullaw10.FrameBack'. -/
def frameBackUptoCard : Claim7 := { stood := { row := frameBackUptoRow, standIns := [], harness := (true, "d4c2ae9ddf536dba20691fbdc482b1cb03b249296bb3cc7a7d5cfe2ece43b9e1"), looks := false }, kinds := [], alts := [], laidByText := true, laidKinds := [.data, .pinned], laidTests := true, laidLooks := .later }
def FrameBackUptoCardSaid : Prop := Claim7.holds Tryd.pinned (.plain (OpenSpec.upto frameBackSpec)) frameBackUptoCard

/-- THE SECOND FORM's CARD OF 'backhaullaw10.FrameApart'. -/
def frameApartUptoCard : Claim7 := { stood := { row := frameApartUptoRow, standIns := [], harness := (true, "d4c2ae9ddf536dba20691fbdc482b1cb03b249296bb3cc7a7d5cfe2ece43b9e1"), looks := false }, kinds := [], alts := [], laidByText := true, laidKinds := [.data, .pinned], laidTests := true, laidLooks := .later }
def FrameApartUptoCardSaid : Prop := Claim7.holds Tryd.pinned (.plain (OpenSpec.upto frameApartSpec)) frameApartUptoCard

/-- THE SECOND FORM's CARD OF 'backhaullaw10.FrameGrows'. -/
def frameGrowsUptoCard : Claim7 := { stood := { row := frameGrowsUptoRow, standIns := [], harness := (true, "d4c2ae9ddf536dba20691fbdc482b1cb03b249296bb3cc7a7d5cfe2ece43b9e1"), looks := false }, kinds := [], alts := [], laidByText := true, laidKinds := [.data, .pinned], laidTests := true, laidLooks := .later }
def FrameGrowsUptoCardSaid : Prop := Claim7.holds Tryd.pinned (.plain (OpenSpec.upto frameGrowsSpec)) frameGrowsUptoCard
end Rows
end Go.Proofs.YtmppkjcldeljbaaDoor
