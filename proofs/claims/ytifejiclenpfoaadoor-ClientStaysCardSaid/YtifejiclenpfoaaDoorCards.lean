/-
  DERIVED. GIVEN WITH THE SEED: THE CARDS: each row of YtifejiclenpfoaaDoorRows.lean that lists a variable, with what it lists TIED to the program's text (the seventh form; the later family's looks); each row that meets fmt, with fmt's text TOLD by the authors' own Lean function (tested against real Go, not proved from fmt's source: count such statements apart). THE CARD IS WHAT COUNTS. Prove the row's statement (the work); the ties are given (YtifejiclenpfoaaDoorTie.lean); close each card by the builder's one call (the guide's Derived/Test/ToyasCard.lean, 'card_holds'). Laid BY PROGRAM, IN A SANDBOX (cutbox-door.mjs). By AI agents, Wed Nov 11 2026. No macro, syntax, notation, axiom, sorry.
-/
import Derived.Test.YtifejiclenpfoaaDoorRows
import GoSem.ClaimSeven
namespace Go.Proofs.YtifejiclenpfoaaDoor
namespace Rows

/-- THE TIED CARD OF 'junctionboxlaw20.ClientPlays'. -/
def clientPlaysCard : Claim7 := { stood := { row := clientPlaysRow, standIns := [], harness := (true, "7470e23b3f210d6a65c3c98f4343b5922f215356d03c929db8316d0ab9634d43"), looks := true }, kinds := [], alts := [], laidByText := true, laidKinds := [.data], laidTests := true, laidLooks := .later }
def ClientPlaysCardSaid : Prop := Claim7.holds Tryd.pinned (.plain (OpenSpec.ofChange clientPlaysSpec)) clientPlaysCard

/-- THE TIED CARD OF 'junctionboxlaw20.ClientSubmits'. -/
def clientSubmitsCard : Claim7 := { stood := { row := clientSubmitsRow, standIns := [], harness := (true, "7470e23b3f210d6a65c3c98f4343b5922f215356d03c929db8316d0ab9634d43"), looks := true }, kinds := [], alts := [], laidByText := true, laidKinds := [.data], laidTests := true, laidLooks := .later }
def ClientSubmitsCardSaid : Prop := Claim7.holds Tryd.pinned (.plain (OpenSpec.ofChange clientSubmitsSpec)) clientSubmitsCard

/-- THE TIED CARD OF 'junctionboxlaw20.ClientStays'. -/
def clientStaysCard : Claim7 := { stood := { row := clientStaysRow, standIns := [], harness := (true, "7470e23b3f210d6a65c3c98f4343b5922f215356d03c929db8316d0ab9634d43"), looks := true }, kinds := [], alts := [], laidByText := true, laidKinds := [.data], laidTests := true, laidLooks := .later }
def ClientStaysCardSaid : Prop := Claim7.holds Tryd.pinned (.plain (OpenSpec.ofChange clientStaysSpec)) clientStaysCard

/-- THE TIED CARD OF 'junctionboxlaw20.ClientTells'. -/
def clientTellsCard : Claim7 := { stood := { row := clientTellsRow, standIns := [], harness := (true, "7470e23b3f210d6a65c3c98f4343b5922f215356d03c929db8316d0ab9634d43"), looks := true }, kinds := [], alts := [], laidByText := true, laidKinds := [.data], laidTests := true, laidLooks := .later }
def ClientTellsCardSaid : Prop := Claim7.holds Tryd.pinned (.plain (OpenSpec.ofChange clientTellsSpec)) clientTellsCard

/-- THE TIED CARD OF 'junctionboxlaw20.ClientHears'. -/
def clientHearsCard : Claim7 := { stood := { row := clientHearsRow, standIns := [], harness := (true, "7470e23b3f210d6a65c3c98f4343b5922f215356d03c929db8316d0ab9634d43"), looks := true }, kinds := [], alts := [], laidByText := true, laidKinds := [.data], laidTests := true, laidLooks := .later }
def ClientHearsCardSaid : Prop := Claim7.holds Tryd.pinned (.plain (OpenSpec.ofChange clientHearsSpec)) clientHearsCard

/-- THE TIED CARD OF 'junctionboxlaw15.FrameBack'. -/
def frameBackCard : Claim7 := { stood := { row := frameBackRow, standIns := [], harness := (true, "7470e23b3f210d6a65c3c98f4343b5922f215356d03c929db8316d0ab9634d43"), looks := true }, kinds := [], alts := [], laidByText := true, laidKinds := [.data], laidTests := true, laidLooks := .later }
def FrameBackCardSaid : Prop := Claim7.holds Tryd.pinned (.plain (OpenSpec.ofChange frameBackSpec)) frameBackCard

/-- THE TIED CARD OF 'junctionboxlaw15.FrameAgain'. -/
def frameAgainCard : Claim7 := { stood := { row := frameAgainRow, standIns := [], harness := (true, "7470e23b3f210d6a65c3c98f4343b5922f215356d03c929db8316d0ab9634d43"), looks := true }, kinds := [], alts := [], laidByText := true, laidKinds := [.data], laidTests := true, laidLooks := .later }
def FrameAgainCardSaid : Prop := Claim7.holds Tryd.pinned (.plain (OpenSpec.ofChange frameAgainSpec)) frameAgainCard

/-- THE SECOND FORM's CARD OF 'junctionboxlaw20.ClientPlays'. -/
def clientPlaysUptoCard : Claim7 := { stood := { row := clientPlaysUptoRow, standIns := [], harness := (true, "7470e23b3f210d6a65c3c98f4343b5922f215356d03c929db8316d0ab9634d43"), looks := true }, kinds := [], alts := [], laidByText := true, laidKinds := [.data], laidTests := true, laidLooks := .later }
def ClientPlaysUptoCardSaid : Prop := Claim7.holds Tryd.pinned (.plain (OpenSpec.upto clientPlaysSpec)) clientPlaysUptoCard

/-- THE SECOND FORM's CARD OF 'junctionboxlaw20.ClientSubmits'. -/
def clientSubmitsUptoCard : Claim7 := { stood := { row := clientSubmitsUptoRow, standIns := [], harness := (true, "7470e23b3f210d6a65c3c98f4343b5922f215356d03c929db8316d0ab9634d43"), looks := true }, kinds := [], alts := [], laidByText := true, laidKinds := [.data], laidTests := true, laidLooks := .later }
def ClientSubmitsUptoCardSaid : Prop := Claim7.holds Tryd.pinned (.plain (OpenSpec.upto clientSubmitsSpec)) clientSubmitsUptoCard

/-- THE SECOND FORM's CARD OF 'junctionboxlaw20.ClientStays'. -/
def clientStaysUptoCard : Claim7 := { stood := { row := clientStaysUptoRow, standIns := [], harness := (true, "7470e23b3f210d6a65c3c98f4343b5922f215356d03c929db8316d0ab9634d43"), looks := true }, kinds := [], alts := [], laidByText := true, laidKinds := [.data], laidTests := true, laidLooks := .later }
def ClientStaysUptoCardSaid : Prop := Claim7.holds Tryd.pinned (.plain (OpenSpec.upto clientStaysSpec)) clientStaysUptoCard

/-- THE SECOND FORM's CARD OF 'junctionboxlaw20.ClientTells'. -/
def clientTellsUptoCard : Claim7 := { stood := { row := clientTellsUptoRow, standIns := [], harness := (true, "7470e23b3f210d6a65c3c98f4343b5922f215356d03c929db8316d0ab9634d43"), looks := true }, kinds := [], alts := [], laidByText := true, laidKinds := [.data], laidTests := true, laidLooks := .later }
def ClientTellsUptoCardSaid : Prop := Claim7.holds Tryd.pinned (.plain (OpenSpec.upto clientTellsSpec)) clientTellsUptoCard

/-- THE SECOND FORM's CARD OF 'junctionboxlaw20.ClientHears'. -/
def clientHearsUptoCard : Claim7 := { stood := { row := clientHearsUptoRow, standIns := [], harness := (true, "7470e23b3f210d6a65c3c98f4343b5922f215356d03c929db8316d0ab9634d43"), looks := true }, kinds := [], alts := [], laidByText := true, laidKinds := [.data], laidTests := true, laidLooks := .later }
def ClientHearsUptoCardSaid : Prop := Claim7.holds Tryd.pinned (.plain (OpenSpec.upto clientHearsSpec)) clientHearsUptoCard

/-- THE SECOND FORM's CARD OF 'junctionboxlaw15.FrameBack'. -/
def frameBackUptoCard : Claim7 := { stood := { row := frameBackUptoRow, standIns := [], harness := (true, "7470e23b3f210d6a65c3c98f4343b5922f215356d03c929db8316d0ab9634d43"), looks := true }, kinds := [], alts := [], laidByText := true, laidKinds := [.data], laidTests := true, laidLooks := .later }
def FrameBackUptoCardSaid : Prop := Claim7.holds Tryd.pinned (.plain (OpenSpec.upto frameBackSpec)) frameBackUptoCard

/-- THE SECOND FORM's CARD OF 'junctionboxlaw15.FrameAgain'. -/
def frameAgainUptoCard : Claim7 := { stood := { row := frameAgainUptoRow, standIns := [], harness := (true, "7470e23b3f210d6a65c3c98f4343b5922f215356d03c929db8316d0ab9634d43"), looks := true }, kinds := [], alts := [], laidByText := true, laidKinds := [.data], laidTests := true, laidLooks := .later }
def FrameAgainUptoCardSaid : Prop := Claim7.holds Tryd.pinned (.plain (OpenSpec.upto frameAgainSpec)) frameAgainUptoCard
end Rows
end Go.Proofs.YtifejiclenpfoaaDoor
