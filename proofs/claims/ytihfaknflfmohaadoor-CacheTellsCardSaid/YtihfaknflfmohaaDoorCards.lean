/-
  DERIVED. GIVEN WITH THE SEED: THE CARDS: each row of YtihfaknflfmohaaDoorRows.lean that lists a variable, with what it lists TIED to the program's text (the seventh form; the later family's looks); each row that meets fmt, with fmt's text TOLD by the authors' own Lean function (tested against real Go, not proved from fmt's source: count such statements apart). THE CARD IS WHAT COUNTS. Prove the row's statement (the work); the ties are given (YtihfaknflfmohaaDoorTie.lean); close each card by the builder's one call (the guide's Derived/Test/ToyasCard.lean, 'card_holds'). Laid BY PROGRAM, IN A SANDBOX (cutbox-door.mjs). By AI agents, Wed Nov 11 2026. No macro, syntax, notation, axiom, sorry.
-/
import Derived.Test.YtihfaknflfmohaaDoorRows
import GoSem.ClaimSeven
namespace Go.Proofs.YtihfaknflfmohaaDoor
namespace Rows

/-- THE TIED CARD OF 'junctionboxlaw27.CacheLooks'. -/
def cacheLooksCard : Claim7 := { stood := { row := cacheLooksRow, standIns := [], harness := (true, "7520b4d67e8692247f00dff8fdebabd2da6b118ad87ef1ddba6c530970d034f9"), looks := false }, kinds := [], alts := [], laidByText := true, laidKinds := [.data], laidTests := true, laidLooks := .later }
def CacheLooksCardSaid : Prop := Claim7.holds Tryd.pinned (.plain (OpenSpec.ofChange cacheLooksSpec)) cacheLooksCard

/-- THE TIED CARD OF 'junctionboxlaw27.CacheLately'. -/
def cacheLatelyCard : Claim7 := { stood := { row := cacheLatelyRow, standIns := [], harness := (true, "7520b4d67e8692247f00dff8fdebabd2da6b118ad87ef1ddba6c530970d034f9"), looks := false }, kinds := [], alts := [], laidByText := true, laidKinds := [.data], laidTests := true, laidLooks := .later }
def CacheLatelyCardSaid : Prop := Claim7.holds Tryd.pinned (.plain (OpenSpec.ofChange cacheLatelySpec)) cacheLatelyCard

/-- THE TIED CARD OF 'junctionboxlaw09.TableMatches'. -/
def tableMatchesCard : Claim7 := { stood := { row := tableMatchesRow, standIns := [], harness := (true, "7520b4d67e8692247f00dff8fdebabd2da6b118ad87ef1ddba6c530970d034f9"), looks := false }, kinds := [], alts := [], laidByText := true, laidKinds := [.data], laidTests := true, laidLooks := .later }
def TableMatchesCardSaid : Prop := Claim7.holds Tryd.pinned (.plain (OpenSpec.ofChange tableMatchesSpec)) tableMatchesCard

/-- THE TIED CARD OF 'junctionboxlaw09.TableLongest'. -/
def tableLongestCard : Claim7 := { stood := { row := tableLongestRow, standIns := [], harness := (true, "7520b4d67e8692247f00dff8fdebabd2da6b118ad87ef1ddba6c530970d034f9"), looks := false }, kinds := [], alts := [], laidByText := true, laidKinds := [.data], laidTests := true, laidLooks := .later }
def TableLongestCardSaid : Prop := Claim7.holds Tryd.pinned (.plain (OpenSpec.ofChange tableLongestSpec)) tableLongestCard

/-- THE TIED CARD OF 'junctionboxlaw27.CacheTells'. -/
def cacheTellsCard : Claim7 := { stood := { row := cacheTellsRow, standIns := [], harness := (true, "7520b4d67e8692247f00dff8fdebabd2da6b118ad87ef1ddba6c530970d034f9"), looks := false }, kinds := [], alts := [], laidByText := true, laidKinds := [.data], laidTests := true, laidLooks := .later }
def CacheTellsCardSaid : Prop := Claim7.holds Tryd.pinned (.plain (OpenSpec.ofChange cacheTellsSpec)) cacheTellsCard

/-- THE TIED CARD OF 'junctionboxlaw27.CacheMoves'. -/
def cacheMovesCard : Claim7 := { stood := { row := cacheMovesRow, standIns := [], harness := (true, "7520b4d67e8692247f00dff8fdebabd2da6b118ad87ef1ddba6c530970d034f9"), looks := false }, kinds := [], alts := [], laidByText := true, laidKinds := [.data], laidTests := true, laidLooks := .later }
def CacheMovesCardSaid : Prop := Claim7.holds Tryd.pinned (.plain (OpenSpec.ofChange cacheMovesSpec)) cacheMovesCard

/-- THE TIED CARD OF 'junctionboxlaw27.CacheStays'. -/
def cacheStaysCard : Claim7 := { stood := { row := cacheStaysRow, standIns := [], harness := (true, "7520b4d67e8692247f00dff8fdebabd2da6b118ad87ef1ddba6c530970d034f9"), looks := false }, kinds := [], alts := [], laidByText := true, laidKinds := [.data], laidTests := true, laidLooks := .later }
def CacheStaysCardSaid : Prop := Claim7.holds Tryd.pinned (.plain (OpenSpec.ofChange cacheStaysSpec)) cacheStaysCard

/-- THE TIED CARD OF 'junctionboxlaw09.TableSets'. -/
def tableSetsCard : Claim7 := { stood := { row := tableSetsRow, standIns := [], harness := (true, "7520b4d67e8692247f00dff8fdebabd2da6b118ad87ef1ddba6c530970d034f9"), looks := false }, kinds := [], alts := [], laidByText := true, laidKinds := [.data], laidTests := true, laidLooks := .later }
def TableSetsCardSaid : Prop := Claim7.holds Tryd.pinned (.plain (OpenSpec.ofChange tableSetsSpec)) tableSetsCard

/-- THE TIED CARD OF 'junctionboxlaw09.TableDiffers'. -/
def tableDiffersCard : Claim7 := { stood := { row := tableDiffersRow, standIns := [], harness := (true, "7520b4d67e8692247f00dff8fdebabd2da6b118ad87ef1ddba6c530970d034f9"), looks := false }, kinds := [], alts := [], laidByText := true, laidKinds := [.data], laidTests := true, laidLooks := .later }
def TableDiffersCardSaid : Prop := Claim7.holds Tryd.pinned (.plain (OpenSpec.ofChange tableDiffersSpec)) tableDiffersCard

/-- THE TIED CARD OF 'junctionboxlaw09.TableBytes'. -/
def tableBytesCard : Claim7 := { stood := { row := tableBytesRow, standIns := [], harness := (true, "7520b4d67e8692247f00dff8fdebabd2da6b118ad87ef1ddba6c530970d034f9"), looks := false }, kinds := [], alts := [], laidByText := true, laidKinds := [.data], laidTests := true, laidLooks := .later }
def TableBytesCardSaid : Prop := Claim7.holds Tryd.pinned (.plain (OpenSpec.ofChange tableBytesSpec)) tableBytesCard

/-- THE TIED CARD OF 'junctionboxlaw09.TableBack'. -/
def tableBackCard : Claim7 := { stood := { row := tableBackRow, standIns := [], harness := (true, "7520b4d67e8692247f00dff8fdebabd2da6b118ad87ef1ddba6c530970d034f9"), looks := false }, kinds := [], alts := [], laidByText := true, laidKinds := [.data], laidTests := true, laidLooks := .later }
def TableBackCardSaid : Prop := Claim7.holds Tryd.pinned (.plain (OpenSpec.ofChange tableBackSpec)) tableBackCard

/-- THE TIED CARD OF 'junctionboxlaw27.CacheTrue'. -/
def cacheTrueCard : Claim7 := { stood := { row := cacheTrueRow, standIns := [], harness := (true, "7520b4d67e8692247f00dff8fdebabd2da6b118ad87ef1ddba6c530970d034f9"), looks := false }, kinds := [], alts := [], laidByText := true, laidKinds := [.data], laidTests := true, laidLooks := .later }
def CacheTrueCardSaid : Prop := Claim7.holds Tryd.pinned (.plain (OpenSpec.ofChange cacheTrueSpec)) cacheTrueCard

/-- THE SECOND FORM's CARD OF 'junctionboxlaw27.CacheLooks'. -/
def cacheLooksUptoCard : Claim7 := { stood := { row := cacheLooksUptoRow, standIns := [], harness := (true, "7520b4d67e8692247f00dff8fdebabd2da6b118ad87ef1ddba6c530970d034f9"), looks := false }, kinds := [], alts := [], laidByText := true, laidKinds := [.data], laidTests := true, laidLooks := .later }
def CacheLooksUptoCardSaid : Prop := Claim7.holds Tryd.pinned (.plain (OpenSpec.upto cacheLooksSpec)) cacheLooksUptoCard

/-- THE SECOND FORM's CARD OF 'junctionboxlaw27.CacheLately'. -/
def cacheLatelyUptoCard : Claim7 := { stood := { row := cacheLatelyUptoRow, standIns := [], harness := (true, "7520b4d67e8692247f00dff8fdebabd2da6b118ad87ef1ddba6c530970d034f9"), looks := false }, kinds := [], alts := [], laidByText := true, laidKinds := [.data], laidTests := true, laidLooks := .later }
def CacheLatelyUptoCardSaid : Prop := Claim7.holds Tryd.pinned (.plain (OpenSpec.upto cacheLatelySpec)) cacheLatelyUptoCard

/-- THE SECOND FORM's CARD OF 'junctionboxlaw09.TableMatches'. -/
def tableMatchesUptoCard : Claim7 := { stood := { row := tableMatchesUptoRow, standIns := [], harness := (true, "7520b4d67e8692247f00dff8fdebabd2da6b118ad87ef1ddba6c530970d034f9"), looks := false }, kinds := [], alts := [], laidByText := true, laidKinds := [.data], laidTests := true, laidLooks := .later }
def TableMatchesUptoCardSaid : Prop := Claim7.holds Tryd.pinned (.plain (OpenSpec.upto tableMatchesSpec)) tableMatchesUptoCard

/-- THE SECOND FORM's CARD OF 'junctionboxlaw09.TableLongest'. -/
def tableLongestUptoCard : Claim7 := { stood := { row := tableLongestUptoRow, standIns := [], harness := (true, "7520b4d67e8692247f00dff8fdebabd2da6b118ad87ef1ddba6c530970d034f9"), looks := false }, kinds := [], alts := [], laidByText := true, laidKinds := [.data], laidTests := true, laidLooks := .later }
def TableLongestUptoCardSaid : Prop := Claim7.holds Tryd.pinned (.plain (OpenSpec.upto tableLongestSpec)) tableLongestUptoCard

/-- THE SECOND FORM's CARD OF 'junctionboxlaw27.CacheTells'. -/
def cacheTellsUptoCard : Claim7 := { stood := { row := cacheTellsUptoRow, standIns := [], harness := (true, "7520b4d67e8692247f00dff8fdebabd2da6b118ad87ef1ddba6c530970d034f9"), looks := false }, kinds := [], alts := [], laidByText := true, laidKinds := [.data], laidTests := true, laidLooks := .later }
def CacheTellsUptoCardSaid : Prop := Claim7.holds Tryd.pinned (.plain (OpenSpec.upto cacheTellsSpec)) cacheTellsUptoCard

/-- THE SECOND FORM's CARD OF 'junctionboxlaw27.CacheMoves'. -/
def cacheMovesUptoCard : Claim7 := { stood := { row := cacheMovesUptoRow, standIns := [], harness := (true, "7520b4d67e8692247f00dff8fdebabd2da6b118ad87ef1ddba6c530970d034f9"), looks := false }, kinds := [], alts := [], laidByText := true, laidKinds := [.data], laidTests := true, laidLooks := .later }
def CacheMovesUptoCardSaid : Prop := Claim7.holds Tryd.pinned (.plain (OpenSpec.upto cacheMovesSpec)) cacheMovesUptoCard

/-- THE SECOND FORM's CARD OF 'junctionboxlaw27.CacheStays'. -/
def cacheStaysUptoCard : Claim7 := { stood := { row := cacheStaysUptoRow, standIns := [], harness := (true, "7520b4d67e8692247f00dff8fdebabd2da6b118ad87ef1ddba6c530970d034f9"), looks := false }, kinds := [], alts := [], laidByText := true, laidKinds := [.data], laidTests := true, laidLooks := .later }
def CacheStaysUptoCardSaid : Prop := Claim7.holds Tryd.pinned (.plain (OpenSpec.upto cacheStaysSpec)) cacheStaysUptoCard

/-- THE SECOND FORM's CARD OF 'junctionboxlaw09.TableSets'. -/
def tableSetsUptoCard : Claim7 := { stood := { row := tableSetsUptoRow, standIns := [], harness := (true, "7520b4d67e8692247f00dff8fdebabd2da6b118ad87ef1ddba6c530970d034f9"), looks := false }, kinds := [], alts := [], laidByText := true, laidKinds := [.data], laidTests := true, laidLooks := .later }
def TableSetsUptoCardSaid : Prop := Claim7.holds Tryd.pinned (.plain (OpenSpec.upto tableSetsSpec)) tableSetsUptoCard

/-- THE SECOND FORM's CARD OF 'junctionboxlaw09.TableDiffers'. -/
def tableDiffersUptoCard : Claim7 := { stood := { row := tableDiffersUptoRow, standIns := [], harness := (true, "7520b4d67e8692247f00dff8fdebabd2da6b118ad87ef1ddba6c530970d034f9"), looks := false }, kinds := [], alts := [], laidByText := true, laidKinds := [.data], laidTests := true, laidLooks := .later }
def TableDiffersUptoCardSaid : Prop := Claim7.holds Tryd.pinned (.plain (OpenSpec.upto tableDiffersSpec)) tableDiffersUptoCard

/-- THE SECOND FORM's CARD OF 'junctionboxlaw09.TableBytes'. -/
def tableBytesUptoCard : Claim7 := { stood := { row := tableBytesUptoRow, standIns := [], harness := (true, "7520b4d67e8692247f00dff8fdebabd2da6b118ad87ef1ddba6c530970d034f9"), looks := false }, kinds := [], alts := [], laidByText := true, laidKinds := [.data], laidTests := true, laidLooks := .later }
def TableBytesUptoCardSaid : Prop := Claim7.holds Tryd.pinned (.plain (OpenSpec.upto tableBytesSpec)) tableBytesUptoCard

/-- THE SECOND FORM's CARD OF 'junctionboxlaw09.TableBack'. -/
def tableBackUptoCard : Claim7 := { stood := { row := tableBackUptoRow, standIns := [], harness := (true, "7520b4d67e8692247f00dff8fdebabd2da6b118ad87ef1ddba6c530970d034f9"), looks := false }, kinds := [], alts := [], laidByText := true, laidKinds := [.data], laidTests := true, laidLooks := .later }
def TableBackUptoCardSaid : Prop := Claim7.holds Tryd.pinned (.plain (OpenSpec.upto tableBackSpec)) tableBackUptoCard

/-- THE SECOND FORM's CARD OF 'junctionboxlaw27.CacheTrue'. -/
def cacheTrueUptoCard : Claim7 := { stood := { row := cacheTrueUptoRow, standIns := [], harness := (true, "7520b4d67e8692247f00dff8fdebabd2da6b118ad87ef1ddba6c530970d034f9"), looks := false }, kinds := [], alts := [], laidByText := true, laidKinds := [.data], laidTests := true, laidLooks := .later }
def CacheTrueUptoCardSaid : Prop := Claim7.holds Tryd.pinned (.plain (OpenSpec.upto cacheTrueSpec)) cacheTrueUptoCard
end Rows
end Go.Proofs.YtihfaknflfmohaaDoor
