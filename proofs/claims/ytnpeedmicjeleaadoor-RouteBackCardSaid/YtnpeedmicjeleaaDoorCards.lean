/-
  DERIVED. GIVEN WITH THE SEED: THE CARDS: each row of YtnpeedmicjeleaaDoorRows.lean that lists a variable, with what it lists TIED to the program's text (the seventh form; the later family's looks); each row that meets fmt, with fmt's text TOLD by the authors' own Lean function (tested against real Go, not proved from fmt's source: count such statements apart). THE CARD IS WHAT COUNTS. Prove the row's statement (the work); the ties are given (YtnpeedmicjeleaaDoorTie.lean); close each card by the builder's one call (the guide's Derived/Test/ToyasCard.lean, 'card_holds'). Laid BY PROGRAM, IN A SANDBOX (cutbox-door.mjs). By AI agents, Wed Nov 11 2026. No macro, syntax, notation, axiom, sorry.
-/
import Derived.Test.YtnpeedmicjeleaaDoorRows
import GoSem.ClaimSeven
namespace Go.Proofs.YtnpeedmicjeleaaDoor
namespace Rows

/-- THE TIED CARD OF 'junctionboxlaw11.RouteApplies'. -/
def routeAppliesCard : Claim7 := { stood := { row := routeAppliesRow, standIns := [], harness := (true, "4a755683ce2407f7ebe98233bb175e1abc418af951abdf672062fbe8435c8433"), looks := true }, kinds := [], alts := [], laidByText := true, laidKinds := [.data], laidTests := true, laidLooks := .later }
def RouteAppliesCardSaid : Prop := Claim7.holds Tryd.pinned (.plain (OpenSpec.ofChange routeAppliesSpec)) routeAppliesCard

/-- THE TIED CARD OF 'junctionboxlaw11.RouteBest'. -/
def routeBestCard : Claim7 := { stood := { row := routeBestRow, standIns := [], harness := (true, "4a755683ce2407f7ebe98233bb175e1abc418af951abdf672062fbe8435c8433"), looks := true }, kinds := [], alts := [], laidByText := true, laidKinds := [.data], laidTests := true, laidLooks := .later }
def RouteBestCardSaid : Prop := Claim7.holds Tryd.pinned (.plain (OpenSpec.ofChange routeBestSpec)) routeBestCard

/-- THE TIED CARD OF 'junctionboxlaw11.RouteFolds'. -/
def routeFoldsCard : Claim7 := { stood := { row := routeFoldsRow, standIns := [], harness := (true, "4a755683ce2407f7ebe98233bb175e1abc418af951abdf672062fbe8435c8433"), looks := true }, kinds := [], alts := [], laidByText := true, laidKinds := [.data], laidTests := true, laidLooks := .later }
def RouteFoldsCardSaid : Prop := Claim7.holds Tryd.pinned (.plain (OpenSpec.ofChange routeFoldsSpec)) routeFoldsCard

/-- THE TIED CARD OF 'junctionboxlaw11.RouteTells'. -/
def routeTellsCard : Claim7 := { stood := { row := routeTellsRow, standIns := [], harness := (true, "4a755683ce2407f7ebe98233bb175e1abc418af951abdf672062fbe8435c8433"), looks := true }, kinds := [], alts := [], laidByText := true, laidKinds := [.data], laidTests := true, laidLooks := .later }
def RouteTellsCardSaid : Prop := Claim7.holds Tryd.pinned (.plain (OpenSpec.ofChange routeTellsSpec)) routeTellsCard

/-- THE TIED CARD OF 'junctionboxlaw11.RouteBytes'. -/
def routeBytesCard : Claim7 := { stood := { row := routeBytesRow, standIns := [], harness := (true, "4a755683ce2407f7ebe98233bb175e1abc418af951abdf672062fbe8435c8433"), looks := true }, kinds := [], alts := [], laidByText := true, laidKinds := [.data], laidTests := true, laidLooks := .later }
def RouteBytesCardSaid : Prop := Claim7.holds Tryd.pinned (.plain (OpenSpec.ofChange routeBytesSpec)) routeBytesCard

/-- THE TIED CARD OF 'junctionboxlaw11.RouteReads'. -/
def routeReadsCard : Claim7 := { stood := { row := routeReadsRow, standIns := [], harness := (true, "4a755683ce2407f7ebe98233bb175e1abc418af951abdf672062fbe8435c8433"), looks := true }, kinds := [], alts := [], laidByText := true, laidKinds := [.data], laidTests := true, laidLooks := .later }
def RouteReadsCardSaid : Prop := Claim7.holds Tryd.pinned (.plain (OpenSpec.ofChange routeReadsSpec)) routeReadsCard

/-- THE TIED CARD OF 'junctionboxlaw11.RouteBack'. -/
def routeBackCard : Claim7 := { stood := { row := routeBackRow, standIns := [], harness := (true, "4a755683ce2407f7ebe98233bb175e1abc418af951abdf672062fbe8435c8433"), looks := true }, kinds := [], alts := [], laidByText := true, laidKinds := [.data], laidTests := true, laidLooks := .later }
def RouteBackCardSaid : Prop := Claim7.holds Tryd.pinned (.plain (OpenSpec.ofChange routeBackSpec)) routeBackCard

/-- THE SECOND FORM's CARD OF 'junctionboxlaw11.RouteApplies'. -/
def routeAppliesUptoCard : Claim7 := { stood := { row := routeAppliesUptoRow, standIns := [], harness := (true, "4a755683ce2407f7ebe98233bb175e1abc418af951abdf672062fbe8435c8433"), looks := true }, kinds := [], alts := [], laidByText := true, laidKinds := [.data], laidTests := true, laidLooks := .later }
def RouteAppliesUptoCardSaid : Prop := Claim7.holds Tryd.pinned (.plain (OpenSpec.upto routeAppliesSpec)) routeAppliesUptoCard

/-- THE SECOND FORM's CARD OF 'junctionboxlaw11.RouteBest'. -/
def routeBestUptoCard : Claim7 := { stood := { row := routeBestUptoRow, standIns := [], harness := (true, "4a755683ce2407f7ebe98233bb175e1abc418af951abdf672062fbe8435c8433"), looks := true }, kinds := [], alts := [], laidByText := true, laidKinds := [.data], laidTests := true, laidLooks := .later }
def RouteBestUptoCardSaid : Prop := Claim7.holds Tryd.pinned (.plain (OpenSpec.upto routeBestSpec)) routeBestUptoCard

/-- THE SECOND FORM's CARD OF 'junctionboxlaw11.RouteFolds'. -/
def routeFoldsUptoCard : Claim7 := { stood := { row := routeFoldsUptoRow, standIns := [], harness := (true, "4a755683ce2407f7ebe98233bb175e1abc418af951abdf672062fbe8435c8433"), looks := true }, kinds := [], alts := [], laidByText := true, laidKinds := [.data], laidTests := true, laidLooks := .later }
def RouteFoldsUptoCardSaid : Prop := Claim7.holds Tryd.pinned (.plain (OpenSpec.upto routeFoldsSpec)) routeFoldsUptoCard

/-- THE SECOND FORM's CARD OF 'junctionboxlaw11.RouteTells'. -/
def routeTellsUptoCard : Claim7 := { stood := { row := routeTellsUptoRow, standIns := [], harness := (true, "4a755683ce2407f7ebe98233bb175e1abc418af951abdf672062fbe8435c8433"), looks := true }, kinds := [], alts := [], laidByText := true, laidKinds := [.data], laidTests := true, laidLooks := .later }
def RouteTellsUptoCardSaid : Prop := Claim7.holds Tryd.pinned (.plain (OpenSpec.upto routeTellsSpec)) routeTellsUptoCard

/-- THE SECOND FORM's CARD OF 'junctionboxlaw11.RouteBytes'. -/
def routeBytesUptoCard : Claim7 := { stood := { row := routeBytesUptoRow, standIns := [], harness := (true, "4a755683ce2407f7ebe98233bb175e1abc418af951abdf672062fbe8435c8433"), looks := true }, kinds := [], alts := [], laidByText := true, laidKinds := [.data], laidTests := true, laidLooks := .later }
def RouteBytesUptoCardSaid : Prop := Claim7.holds Tryd.pinned (.plain (OpenSpec.upto routeBytesSpec)) routeBytesUptoCard

/-- THE SECOND FORM's CARD OF 'junctionboxlaw11.RouteReads'. -/
def routeReadsUptoCard : Claim7 := { stood := { row := routeReadsUptoRow, standIns := [], harness := (true, "4a755683ce2407f7ebe98233bb175e1abc418af951abdf672062fbe8435c8433"), looks := true }, kinds := [], alts := [], laidByText := true, laidKinds := [.data], laidTests := true, laidLooks := .later }
def RouteReadsUptoCardSaid : Prop := Claim7.holds Tryd.pinned (.plain (OpenSpec.upto routeReadsSpec)) routeReadsUptoCard

/-- THE SECOND FORM's CARD OF 'junctionboxlaw11.RouteBack'. -/
def routeBackUptoCard : Claim7 := { stood := { row := routeBackUptoRow, standIns := [], harness := (true, "4a755683ce2407f7ebe98233bb175e1abc418af951abdf672062fbe8435c8433"), looks := true }, kinds := [], alts := [], laidByText := true, laidKinds := [.data], laidTests := true, laidLooks := .later }
def RouteBackUptoCardSaid : Prop := Claim7.holds Tryd.pinned (.plain (OpenSpec.upto routeBackSpec)) routeBackUptoCard
end Rows
end Go.Proofs.YtnpeedmicjeleaaDoor
