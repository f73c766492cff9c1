/-
  DERIVED. GIVEN WITH THE SEED: THE CARDS: each row of YtcloepjeckbmoaaDoorRows.lean that lists a variable, with what it lists TIED to the program's text (the seventh form; the later family's looks); each row that meets fmt, with fmt's text TOLD by the authors' own Lean function (tested against real Go, not proved from fmt's source: count such statements apart). THE CARD IS WHAT COUNTS. Prove the row's statement (the work); the ties are given (YtcloepjeckbmoaaDoorTie.lean); close each card by the builder's one call (the guide's Derived/Test/ToyasCard.lean, 'card_holds'). Laid BY PROGRAM, IN A SANDBOX (cutbox-door.mjs). By AI agents, Wed Nov 11 2026. No macro, syntax, notation, axiom, sorry.
-/
import Derived.Test.YtcloepjeckbmoaaDoorRows
import GoSem.ClaimSeven
namespace Go.Proofs.YtcloepjeckbmoaaDoor
namespace Rows

/-- THE TIED CARD OF 'junctionboxlaw05.PrefixChecks'. -/
def prefixChecksCard : Claim7 := { stood := { row := prefixChecksRow, standIns := [], harness := (true, "bd1fc16ea7668a4966d6641d84bfda6fabd8f1e4ee3720747f5adc87881955c5"), looks := false }, kinds := [], alts := [], laidByText := true, laidKinds := [.data], laidTests := true, laidLooks := .later }
def PrefixChecksCardSaid : Prop := Claim7.holds Tryd.pinned (.plain (OpenSpec.ofChange prefixChecksSpec)) prefixChecksCard

/-- THE TIED CARD OF 'junctionboxlaw05.PrefixBack'. -/
def prefixBackCard : Claim7 := { stood := { row := prefixBackRow, standIns := [], harness := (true, "bd1fc16ea7668a4966d6641d84bfda6fabd8f1e4ee3720747f5adc87881955c5"), looks := false }, kinds := [], alts := [], laidByText := true, laidKinds := [.data], laidTests := true, laidLooks := .later }
def PrefixBackCardSaid : Prop := Claim7.holds Tryd.pinned (.plain (OpenSpec.ofChange prefixBackSpec)) prefixBackCard

/-- THE TIED CARD OF 'junctionboxlaw05.PrefixBits'. -/
def prefixBitsCard : Claim7 := { stood := { row := prefixBitsRow, standIns := [], harness := (true, "bd1fc16ea7668a4966d6641d84bfda6fabd8f1e4ee3720747f5adc87881955c5"), looks := false }, kinds := [], alts := [], laidByText := true, laidKinds := [.data], laidTests := true, laidLooks := .later }
def PrefixBitsCardSaid : Prop := Claim7.holds Tryd.pinned (.plain (OpenSpec.ofChange prefixBitsSpec)) prefixBitsCard

/-- THE TIED CARD OF 'junctionboxlaw05.PrefixOf'. -/
def prefixOfCard : Claim7 := { stood := { row := prefixOfRow, standIns := [], harness := (true, "bd1fc16ea7668a4966d6641d84bfda6fabd8f1e4ee3720747f5adc87881955c5"), looks := false }, kinds := [], alts := [], laidByText := true, laidKinds := [.data], laidTests := true, laidLooks := .later }
def PrefixOfCardSaid : Prop := Claim7.holds Tryd.pinned (.plain (OpenSpec.ofChange prefixOfSpec)) prefixOfCard

/-- THE TIED CARD OF 'junctionboxlaw05.PrefixBytes'. -/
def prefixBytesCard : Claim7 := { stood := { row := prefixBytesRow, standIns := [], harness := (true, "bd1fc16ea7668a4966d6641d84bfda6fabd8f1e4ee3720747f5adc87881955c5"), looks := false }, kinds := [], alts := [], laidByText := true, laidKinds := [.data], laidTests := true, laidLooks := .later }
def PrefixBytesCardSaid : Prop := Claim7.holds Tryd.pinned (.plain (OpenSpec.ofChange prefixBytesSpec)) prefixBytesCard

/-- THE TIED CARD OF 'junctionboxlaw05.PrefixHolds'. -/
def prefixHoldsCard : Claim7 := { stood := { row := prefixHoldsRow, standIns := [], harness := (true, "bd1fc16ea7668a4966d6641d84bfda6fabd8f1e4ee3720747f5adc87881955c5"), looks := false }, kinds := [], alts := [], laidByText := true, laidKinds := [.data], laidTests := true, laidLooks := .later }
def PrefixHoldsCardSaid : Prop := Claim7.holds Tryd.pinned (.plain (OpenSpec.ofChange prefixHoldsSpec)) prefixHoldsCard

/-- THE TIED CARD OF 'junctionboxlaw05.PrefixOrders'. -/
def prefixOrdersCard : Claim7 := { stood := { row := prefixOrdersRow, standIns := [], harness := (true, "bd1fc16ea7668a4966d6641d84bfda6fabd8f1e4ee3720747f5adc87881955c5"), looks := false }, kinds := [], alts := [], laidByText := true, laidKinds := [.data], laidTests := true, laidLooks := .later }
def PrefixOrdersCardSaid : Prop := Claim7.holds Tryd.pinned (.plain (OpenSpec.ofChange prefixOrdersSpec)) prefixOrdersCard

/-- THE SECOND FORM's CARD OF 'junctionboxlaw05.PrefixChecks'. -/
def prefixChecksUptoCard : Claim7 := { stood := { row := prefixChecksUptoRow, standIns := [], harness := (true, "bd1fc16ea7668a4966d6641d84bfda6fabd8f1e4ee3720747f5adc87881955c5"), looks := false }, kinds := [], alts := [], laidByText := true, laidKinds := [.data], laidTests := true, laidLooks := .later }
def PrefixChecksUptoCardSaid : Prop := Claim7.holds Tryd.pinned (.plain (OpenSpec.upto prefixChecksSpec)) prefixChecksUptoCard

/-- THE SECOND FORM's CARD OF 'junctionboxlaw05.PrefixBack'. -/
def prefixBackUptoCard : Claim7 := { stood := { row := prefixBackUptoRow, standIns := [], harness := (true, "bd1fc16ea7668a4966d6641d84bfda6fabd8f1e4ee3720747f5adc87881955c5"), looks := false }, kinds := [], alts := [], laidByText := true, laidKinds := [.data], laidTests := true, laidLooks := .later }
def PrefixBackUptoCardSaid : Prop := Claim7.holds Tryd.pinned (.plain (OpenSpec.upto prefixBackSpec)) prefixBackUptoCard

/-- THE SECOND FORM's CARD OF 'junctionboxlaw05.PrefixBits'. -/
def prefixBitsUptoCard : Claim7 := { stood := { row := prefixBitsUptoRow, standIns := [], harness := (true, "bd1fc16ea7668a4966d6641d84bfda6fabd8f1e4ee3720747f5adc87881955c5"), looks := false }, kinds := [], alts := [], laidByText := true, laidKinds := [.data], laidTests := true, laidLooks := .later }
def PrefixBitsUptoCardSaid : Prop := Claim7.holds Tryd.pinned (.plain (OpenSpec.upto prefixBitsSpec)) prefixBitsUptoCard

/-- THE SECOND FORM's CARD OF 'junctionboxlaw05.PrefixOf'. -/
def prefixOfUptoCard : Claim7 := { stood := { row := prefixOfUptoRow, standIns := [], harness := (true, "bd1fc16ea7668a4966d6641d84bfda6fabd8f1e4ee3720747f5adc87881955c5"), looks := false }, kinds := [], alts := [], laidByText := true, laidKinds := [.data], laidTests := true, laidLooks := .later }
def PrefixOfUptoCardSaid : Prop := Claim7.holds Tryd.pinned (.plain (OpenSpec.upto prefixOfSpec)) prefixOfUptoCard

/-- THE SECOND FORM's CARD OF 'junctionboxlaw05.PrefixBytes'. -/
def prefixBytesUptoCard : Claim7 := { stood := { row := prefixBytesUptoRow, standIns := [], harness := (true, "bd1fc16ea7668a4966d6641d84bfda6fabd8f1e4ee3720747f5adc87881955c5"), looks := false }, kinds := [], alts := [], laidByText := true, laidKinds := [.data], laidTests := true, laidLooks := .later }
def PrefixBytesUptoCardSaid : Prop := Claim7.holds Tryd.pinned (.plain (OpenSpec.upto prefixBytesSpec)) prefixBytesUptoCard

/-- THE SECOND FORM's CARD OF 'junctionboxlaw05.PrefixHolds'. -/
def prefixHoldsUptoCard : Claim7 := { stood := { row := prefixHoldsUptoRow, standIns := [], harness := (true, "bd1fc16ea7668a4966d6641d84bfda6fabd8f1e4ee3720747f5adc87881955c5"), looks := false }, kinds := [], alts := [], laidByText := true, laidKinds := [.data], laidTests := true, laidLooks := .later }
def PrefixHoldsUptoCardSaid : Prop := Claim7.holds Tryd.pinned (.plain (OpenSpec.upto prefixHoldsSpec)) prefixHoldsUptoCard

/-- THE SECOND FORM's CARD OF 'junctionboxlaw05.PrefixOrders'. -/
def prefixOrdersUptoCard : Claim7 := { stood := { row := prefixOrdersUptoRow, standIns := [], harness := (true, "bd1fc16ea7668a4966d6641d84bfda6fabd8f1e4ee3720747f5adc87881955c5"), looks := false }, kinds := [], alts := [], laidByText := true, laidKinds := [.data], laidTests := true, laidLooks := .later }
def PrefixOrdersUptoCardSaid : Prop := Claim7.holds Tryd.pinned (.plain (OpenSpec.upto prefixOrdersSpec)) prefixOrdersUptoCard
end Rows
end Go.Proofs.YtcloepjeckbmoaaDoor
