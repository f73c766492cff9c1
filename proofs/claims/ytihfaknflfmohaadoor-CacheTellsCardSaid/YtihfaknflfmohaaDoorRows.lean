/-
  NARROWER THAN 'FOR EVERY INPUT', by the rows' own cells (each row's printed sentence says how): CacheLooks: laid · CacheLately: laid · TableMatches: laid · TableLongest: laid · CacheTells: laid · CacheMoves: laid · CacheStays: laid · TableSets: laid · TableDiffers: laid · TableBytes: laid · TableBack: laid · CacheTrue: laid.
  DERIVED. THE GIVEN ROWS OF THIS SEAT. 12 by the template 'for every input the law returns true; each argument reads behind the call as it read before'; 0 by the template 'total and deterministic' (their statements: YtihfaknflfmohaaDoorTotals.lean).
  GIVEN WITH THE SEED: the statements are not yours to turn. If you find one false, say at which input.
  Laid BY PROGRAM, IN A SANDBOX (cutbox-rows.mjs): the forced cells as the released guide's own fill.sh prints them over the translation e7ecc31dfddc9f0a… (all of the seat's roots in one cut). By AI agents, Wed Nov 11 2026. No macro, syntax, notation, axiom, sorry.
-/
import Derived.Test.YtihfaknflfmohaaDoorChecked
import GoSem.Claim
import GoSem.ClaimJoined
import GoSem.ClaimMapViews
import Derived.JoinedTies
import Derived.KernelRfl
namespace Go.Proofs.YtihfaknflfmohaaDoor
/- THE CELL 'sum', in the pinned program and in every row, IS THE sha256 OF THE DUMP (.gsa) THAT YtihfaknflfmohaaDoorProg.lean LOADS. Nothing in Lean hashes anything: it is a label: what it is worth is what the hold of that sum in a sandbox is worth. -/
noncomputable def Tryd.pinned : Pinned := { name := "ytihfaknflfmohaadoor", sum := "e7ecc31dfddc9f0adfe690a98b47cebf49754c7b30b40f6ed8a7ded9a68033f7", checked := Tryd.checked }
namespace Rows
def none {H : Type} : Left H := { results := [], args := [] }

/- WHAT THE LISTED PACKAGE-LEVEL VARIABLES READ AS WHEN THE CALL BEGINS. Each datum BY PROGRAM (the guide's laid-datum.mjs) off the statement by which the dump's own 'gosem.cut.vars' lays the variable. In a bare row this is a premise. The card (YtihfaknflfmohaaDoorCards.lean) ties it to the program's text. -/
def laid_junctionbox_prefix_widths {H : Type} : DataW H := .agg [.lit (.int .i64 0), .lit (.int .i64 0), .lit (.int .i64 0), .lit (.int .i64 0), .lit (.int .i64 32), .lit (.int .i64 0), .lit (.int .i64 128)]

/-- 'junctionboxlaw27.CacheLooks': WHATEVER THE INPUT: true; the input reads as it did. -/
def cacheLooksSpec : ChangeSpec := { name := "cacheLooks", fn := fun _ => fun
  | [d1, d2, d3] => { results := [.lit (.bool true)], args := [d1, d2, d3] }
  | _ => none }
def cacheLooksRow : OpenClaim := { program := "ytihfaknflfmohaadoor", sum := "e7ecc31dfddc9f0adfe690a98b47cebf49754c7b30b40f6ed8a7ded9a68033f7", func := "junctionbox/junctionboxlaw27.CacheLooks", spec := "cacheLooks", inPlace := ["internal/bytealg.Compare"], unfollowed := true, recurses := true, named := ["junctionbox/prefix.widths"], plainKeys := false, apart := false, laid := [("junctionbox/prefix.widths", laid_junctionbox_prefix_widths)] }
def CacheLooksSaid : Prop := cacheLooksRow.holds Tryd.pinned (OpenSpec.ofChange cacheLooksSpec)

/-- ITS FALSE NEIGHBOUR: 'it returns false'. Refute it at one input. -/
def cacheLooksWrong : ChangeSpec := { name := "cacheLooks", fn := fun _ => fun
  | [d1, d2, d3] => { results := [.lit (.bool false)], args := [d1, d2, d3] }
  | _ => none }
def CacheLooksWrongFalsely : Prop := cacheLooksRow.holds Tryd.pinned (OpenSpec.ofChange cacheLooksWrong)

/-- 'junctionboxlaw27.CacheLately': WHATEVER THE INPUT: true; the input reads as it did. -/
def cacheLatelySpec : ChangeSpec := { name := "cacheLately", fn := fun _ => fun
  | [d1, d2, d3] => { results := [.lit (.bool true)], args := [d1, d2, d3] }
  | _ => none }
def cacheLatelyRow : OpenClaim := { program := "ytihfaknflfmohaadoor", sum := "e7ecc31dfddc9f0adfe690a98b47cebf49754c7b30b40f6ed8a7ded9a68033f7", func := "junctionbox/junctionboxlaw27.CacheLately", spec := "cacheLately", inPlace := ["internal/bytealg.Compare"], unfollowed := true, recurses := true, named := ["junctionbox/prefix.widths"], plainKeys := false, apart := false, laid := [("junctionbox/prefix.widths", laid_junctionbox_prefix_widths)] }
def CacheLatelySaid : Prop := cacheLatelyRow.holds Tryd.pinned (OpenSpec.ofChange cacheLatelySpec)

/-- ITS FALSE NEIGHBOUR: 'it returns false'. Refute it at one input. -/
def cacheLatelyWrong : ChangeSpec := { name := "cacheLately", fn := fun _ => fun
  | [d1, d2, d3] => { results := [.lit (.bool false)], args := [d1, d2, d3] }
  | _ => none }
def CacheLatelyWrongFalsely : Prop := cacheLatelyRow.holds Tryd.pinned (OpenSpec.ofChange cacheLatelyWrong)

/-- 'junctionboxlaw09.TableMatches': WHATEVER THE INPUT: true; the input reads as it did. -/
def tableMatchesSpec : ChangeSpec := { name := "tableMatches", fn := fun _ => fun
  | [d1, d2] => { results := [.lit (.bool true)], args := [d1, d2] }
  | _ => none }
def tableMatchesRow : OpenClaim := { program := "ytihfaknflfmohaadoor", sum := "e7ecc31dfddc9f0adfe690a98b47cebf49754c7b30b40f6ed8a7ded9a68033f7", func := "junctionbox/junctionboxlaw09.TableMatches", spec := "tableMatches", inPlace := ["internal/bytealg.Compare", "slices.overlaps[junctionbox/api.Row]"], unfollowed := true, recurses := true, named := ["junctionbox/prefix.widths"], plainKeys := false, apart := false, laid := [("junctionbox/prefix.widths", laid_junctionbox_prefix_widths)] }
def TableMatchesSaid : Prop := tableMatchesRow.holds Tryd.pinned (OpenSpec.ofChange tableMatchesSpec)

/-- ITS FALSE NEIGHBOUR: 'it returns false'. Refute it at one input. -/
def tableMatchesWrong : ChangeSpec := { name := "tableMatches", fn := fun _ => fun
  | [d1, d2] => { results := [.lit (.bool false)], args := [d1, d2] }
  | _ => none }
def TableMatchesWrongFalsely : Prop := tableMatchesRow.holds Tryd.pinned (OpenSpec.ofChange tableMatchesWrong)

/-- 'junctionboxlaw09.TableLongest': WHATEVER THE INPUT: true; the input reads as it did. -/
def tableLongestSpec : ChangeSpec := { name := "tableLongest", fn := fun _ => fun
  | [d1, d2, d3] => { results := [.lit (.bool true)], args := [d1, d2, d3] }
  | _ => none }
def tableLongestRow : OpenClaim := { program := "ytihfaknflfmohaadoor", sum := "e7ecc31dfddc9f0adfe690a98b47cebf49754c7b30b40f6ed8a7ded9a68033f7", func := "junctionbox/junctionboxlaw09.TableLongest", spec := "tableLongest", inPlace := ["internal/bytealg.Compare", "slices.overlaps[junctionbox/api.Row]"], unfollowed := true, recurses := true, named := ["junctionbox/prefix.widths"], plainKeys := false, apart := false, laid := [("junctionbox/prefix.widths", laid_junctionbox_prefix_widths)] }
def TableLongestSaid : Prop := tableLongestRow.holds Tryd.pinned (OpenSpec.ofChange tableLongestSpec)

/-- ITS FALSE NEIGHBOUR: 'it returns false'. Refute it at one input. -/
def tableLongestWrong : ChangeSpec := { name := "tableLongest", fn := fun _ => fun
  | [d1, d2, d3] => { results := [.lit (.bool false)], args := [d1, d2, d3] }
  | _ => none }
def TableLongestWrongFalsely : Prop := tableLongestRow.holds Tryd.pinned (OpenSpec.ofChange tableLongestWrong)

/-- 'junctionboxlaw27.CacheTells': WHATEVER THE INPUT: true; the input reads as it did. -/
def cacheTellsSpec : ChangeSpec := { name := "cacheTells", fn := fun _ => fun
  | [d1, d2, d3] => { results := [.lit (.bool true)], args := [d1, d2, d3] }
  | _ => none }
def cacheTellsRow : OpenClaim := { program := "ytihfaknflfmohaadoor", sum := "e7ecc31dfddc9f0adfe690a98b47cebf49754c7b30b40f6ed8a7ded9a68033f7", func := "junctionbox/junctionboxlaw27.CacheTells", spec := "cacheTells", inPlace := ["internal/bytealg.Compare"], unfollowed := true, recurses := true, named := ["junctionbox/prefix.widths"], plainKeys := false, apart := false, laid := [("junctionbox/prefix.widths", laid_junctionbox_prefix_widths)] }
def CacheTellsSaid : Prop := cacheTellsRow.holds Tryd.pinned (OpenSpec.ofChange cacheTellsSpec)

/-- ITS FALSE NEIGHBOUR: 'it returns false'. Refute it at one input. -/
def cacheTellsWrong : ChangeSpec := { name := "cacheTells", fn := fun _ => fun
  | [d1, d2, d3] => { results := [.lit (.bool false)], args := [d1, d2, d3] }
  | _ => none }
def CacheTellsWrongFalsely : Prop := cacheTellsRow.holds Tryd.pinned (OpenSpec.ofChange cacheTellsWrong)

/-- 'junctionboxlaw27.CacheMoves': WHATEVER THE INPUT: true; the input reads as it did. -/
def cacheMovesSpec : ChangeSpec := { name := "cacheMoves", fn := fun _ => fun
  | [d1, d2, d3] => { results := [.lit (.bool true)], args := [d1, d2, d3] }
  | _ => none }
def cacheMovesRow : OpenClaim := { program := "ytihfaknflfmohaadoor", sum := "e7ecc31dfddc9f0adfe690a98b47cebf49754c7b30b40f6ed8a7ded9a68033f7", func := "junctionbox/junctionboxlaw27.CacheMoves", spec := "cacheMoves", inPlace := ["internal/bytealg.Compare"], unfollowed := true, recurses := true, named := ["junctionbox/prefix.widths"], plainKeys := false, apart := false, laid := [("junctionbox/prefix.widths", laid_junctionbox_prefix_widths)] }
def CacheMovesSaid : Prop := cacheMovesRow.holds Tryd.pinned (OpenSpec.ofChange cacheMovesSpec)

/-- ITS FALSE NEIGHBOUR: 'it returns false'. Refute it at one input. -/
def cacheMovesWrong : ChangeSpec := { name := "cacheMoves", fn := fun _ => fun
  | [d1, d2, d3] => { results := [.lit (.bool false)], args := [d1, d2, d3] }
  | _ => none }
def CacheMovesWrongFalsely : Prop := cacheMovesRow.holds Tryd.pinned (OpenSpec.ofChange cacheMovesWrong)

/-- 'junctionboxlaw27.CacheStays': WHATEVER THE INPUT: true; the input reads as it did. -/
def cacheStaysSpec : ChangeSpec := { name := "cacheStays", fn := fun _ => fun
  | [d1, d2, d3] => { results := [.lit (.bool true)], args := [d1, d2, d3] }
  | _ => none }
def cacheStaysRow : OpenClaim := { program := "ytihfaknflfmohaadoor", sum := "e7ecc31dfddc9f0adfe690a98b47cebf49754c7b30b40f6ed8a7ded9a68033f7", func := "junctionbox/junctionboxlaw27.CacheStays", spec := "cacheStays", inPlace := ["internal/bytealg.Compare"], unfollowed := true, recurses := true, named := ["junctionbox/prefix.widths"], plainKeys := false, apart := false, laid := [("junctionbox/prefix.widths", laid_junctionbox_prefix_widths)] }
def CacheStaysSaid : Prop := cacheStaysRow.holds Tryd.pinned (OpenSpec.ofChange cacheStaysSpec)

/-- ITS FALSE NEIGHBOUR: 'it returns false'. Refute it at one input. -/
def cacheStaysWrong : ChangeSpec := { name := "cacheStays", fn := fun _ => fun
  | [d1, d2, d3] => { results := [.lit (.bool false)], args := [d1, d2, d3] }
  | _ => none }
def CacheStaysWrongFalsely : Prop := cacheStaysRow.holds Tryd.pinned (OpenSpec.ofChange cacheStaysWrong)

/-- 'junctionboxlaw09.TableSets': WHATEVER THE INPUT: true; the input reads as it did. -/
def tableSetsSpec : ChangeSpec := { name := "tableSets", fn := fun _ => fun
  | [d1, d2, d3] => { results := [.lit (.bool true)], args := [d1, d2, d3] }
  | _ => none }
def tableSetsRow : OpenClaim := { program := "ytihfaknflfmohaadoor", sum := "e7ecc31dfddc9f0adfe690a98b47cebf49754c7b30b40f6ed8a7ded9a68033f7", func := "junctionbox/junctionboxlaw09.TableSets", spec := "tableSets", inPlace := ["internal/bytealg.Compare", "slices.overlaps[junctionbox/api.Row]"], unfollowed := true, recurses := true, named := ["junctionbox/prefix.widths"], plainKeys := false, apart := false, laid := [("junctionbox/prefix.widths", laid_junctionbox_prefix_widths)] }
def TableSetsSaid : Prop := tableSetsRow.holds Tryd.pinned (OpenSpec.ofChange tableSetsSpec)

/-- ITS FALSE NEIGHBOUR: 'it returns false'. Refute it at one input. -/
def tableSetsWrong : ChangeSpec := { name := "tableSets", fn := fun _ => fun
  | [d1, d2, d3] => { results := [.lit (.bool false)], args := [d1, d2, d3] }
  | _ => none }
def TableSetsWrongFalsely : Prop := tableSetsRow.holds Tryd.pinned (OpenSpec.ofChange tableSetsWrong)

/-- 'junctionboxlaw09.TableDiffers': WHATEVER THE INPUT: true; the input reads as it did. -/
def tableDiffersSpec : ChangeSpec := { name := "tableDiffers", fn := fun _ => fun
  | [d1, d2] => { results := [.lit (.bool true)], args := [d1, d2] }
  | _ => none }
def tableDiffersRow : OpenClaim := { program := "ytihfaknflfmohaadoor", sum := "e7ecc31dfddc9f0adfe690a98b47cebf49754c7b30b40f6ed8a7ded9a68033f7", func := "junctionbox/junctionboxlaw09.TableDiffers", spec := "tableDiffers", inPlace := ["internal/bytealg.Compare", "slices.overlaps[junctionbox/api.Row]"], unfollowed := true, recurses := true, named := ["junctionbox/prefix.widths"], plainKeys := false, apart := false, laid := [("junctionbox/prefix.widths", laid_junctionbox_prefix_widths)] }
def TableDiffersSaid : Prop := tableDiffersRow.holds Tryd.pinned (OpenSpec.ofChange tableDiffersSpec)

/-- ITS FALSE NEIGHBOUR: 'it returns false'. Refute it at one input. -/
def tableDiffersWrong : ChangeSpec := { name := "tableDiffers", fn := fun _ => fun
  | [d1, d2] => { results := [.lit (.bool false)], args := [d1, d2] }
  | _ => none }
def TableDiffersWrongFalsely : Prop := tableDiffersRow.holds Tryd.pinned (OpenSpec.ofChange tableDiffersWrong)

/-- 'junctionboxlaw09.TableBytes': WHATEVER THE INPUT: true; the input reads as it did. -/
def tableBytesSpec : ChangeSpec := { name := "tableBytes", fn := fun _ => fun
  | [d1, d2] => { results := [.lit (.bool true)], args := [d1, d2] }
  | _ => none }
def tableBytesRow : OpenClaim := { program := "ytihfaknflfmohaadoor", sum := "e7ecc31dfddc9f0adfe690a98b47cebf49754c7b30b40f6ed8a7ded9a68033f7", func := "junctionbox/junctionboxlaw09.TableBytes", spec := "tableBytes", inPlace := ["internal/bytealg.Compare", "slices.overlaps[junctionbox/api.Row]"], unfollowed := true, recurses := true, named := ["junctionbox/prefix.widths"], plainKeys := false, apart := false, laid := [("junctionbox/prefix.widths", laid_junctionbox_prefix_widths)] }
def TableBytesSaid : Prop := tableBytesRow.holds Tryd.pinned (OpenSpec.ofChange tableBytesSpec)

/-- ITS FALSE NEIGHBOUR: 'it returns false'. Refute it at one input. -/
def tableBytesWrong : ChangeSpec := { name := "tableBytes", fn := fun _ => fun
  | [d1, d2] => { results := [.lit (.bool false)], args := [d1, d2] }
  | _ => none }
def TableBytesWrongFalsely : Prop := tableBytesRow.holds Tryd.pinned (OpenSpec.ofChange tableBytesWrong)

/-- 'junctionboxlaw09.TableBack': WHATEVER THE INPUT: true; the input reads as it did. -/
def tableBackSpec : ChangeSpec := { name := "tableBack", fn := fun _ => fun
  | [d1, d2, d3] => { results := [.lit (.bool true)], args := [d1, d2, d3] }
  | _ => none }
def tableBackRow : OpenClaim := { program := "ytihfaknflfmohaadoor", sum := "e7ecc31dfddc9f0adfe690a98b47cebf49754c7b30b40f6ed8a7ded9a68033f7", func := "junctionbox/junctionboxlaw09.TableBack", spec := "tableBack", inPlace := ["internal/bytealg.Compare", "slices.overlaps[junctionbox/api.Row]"], unfollowed := true, recurses := true, named := ["junctionbox/prefix.widths"], plainKeys := false, apart := false, laid := [("junctionbox/prefix.widths", laid_junctionbox_prefix_widths)] }
def TableBackSaid : Prop := tableBackRow.holds Tryd.pinned (OpenSpec.ofChange tableBackSpec)

/-- ITS FALSE NEIGHBOUR: 'it returns false'. Refute it at one input. -/
def tableBackWrong : ChangeSpec := { name := "tableBack", fn := fun _ => fun
  | [d1, d2, d3] => { results := [.lit (.bool false)], args := [d1, d2, d3] }
  | _ => none }
def TableBackWrongFalsely : Prop := tableBackRow.holds Tryd.pinned (OpenSpec.ofChange tableBackWrong)

/-- 'junctionboxlaw27.CacheTrue': WHATEVER THE INPUT: true; the input reads as it did. -/
def cacheTrueSpec : ChangeSpec := { name := "cacheTrue", fn := fun _ => fun
  | [d1, d2] => { results := [.lit (.bool true)], args := [d1, d2] }
  | _ => none }
def cacheTrueRow : OpenClaim := { program := "ytihfaknflfmohaadoor", sum := "e7ecc31dfddc9f0adfe690a98b47cebf49754c7b30b40f6ed8a7ded9a68033f7", func := "junctionbox/junctionboxlaw27.CacheTrue", spec := "cacheTrue", inPlace := ["internal/bytealg.Compare", "slices.overlaps[junctionbox/api.Row]"], unfollowed := true, recurses := true, named := ["junctionbox/prefix.widths"], plainKeys := false, apart := false, laid := [("junctionbox/prefix.widths", laid_junctionbox_prefix_widths)] }
def CacheTrueSaid : Prop := cacheTrueRow.holds Tryd.pinned (OpenSpec.ofChange cacheTrueSpec)

/-- ITS FALSE NEIGHBOUR: 'it returns false'. Refute it at one input. -/
def cacheTrueWrong : ChangeSpec := { name := "cacheTrue", fn := fun _ => fun
  | [d1, d2] => { results := [.lit (.bool false)], args := [d1, d2] }
  | _ => none }
def CacheTrueWrongFalsely : Prop := cacheTrueRow.holds Tryd.pinned (OpenSpec.ofChange cacheTrueWrong)

/- THE SECOND FORM. 'bulk': how many values and letters a reading holds, each counted each time it is reached (what is shared counts as often as it is met; a slice's spare places count too). A statement '..UptoSaid' is the law's where the arguments, and the package variables that the reading takes, are together of bulk at most 1048576: NARROWER than '..Said'. Prove '..Said' where nothing that the law and all that it calls make is longer than what came in: it says more and counts as full. Else prove '..UptoSaid'. A law counts once. -/
mutual
def uptoBulk {H : Type} : DataW H → Nat
  | .lit (.string bytes) => bytes.length + 1
  | .lit _ => 1
  | .nil => 1
  | .ptr d => uptoBulk d + 1
  | .slice elems spare => uptoBulkAll elems + uptoBulkAll spare + 1
  | .agg parts => uptoBulkAll parts + 1
  | .iface _ d => uptoBulk d + 1
  | .map entries => uptoBulkEntries entries + 1
  | .held _ => 1
def uptoBulkAll {H : Type} : List (DataW H) → Nat
  | [] => 0
  | d :: r => uptoBulk d + uptoBulkAll r
def uptoBulkEntries {H : Type} : List (Lit × DataW H) → Nat
  | [] => 0
  | x :: r => uptoBulkEntry x + uptoBulkEntries r
def uptoBulkEntry {H : Type} : Lit × DataW H → Nat
  | (.string bytes, d) => bytes.length + uptoBulk d + 1
  | (_, d) => uptoBulk d + 1
 end
def uptoSmall : (H : Type) → List (DataW H) → Bool := fun _ ds => decide (uptoBulkAll ds ≤ 1048576)
def OpenSpec.upto (s : _root_.Go.ChangeSpec) : _root_.Go.OpenSpec := { _root_.Go.OpenSpec.ofChange s with cond := some uptoSmall }

/-- 'junctionboxlaw27.CacheLooks', WHERE WHAT IT READS IS OF BULK AT MOST 1048576: true; the input reads as it did. -/
def cacheLooksUptoRow : OpenClaim := { program := "ytihfaknflfmohaadoor", sum := "e7ecc31dfddc9f0adfe690a98b47cebf49754c7b30b40f6ed8a7ded9a68033f7", func := "junctionbox/junctionboxlaw27.CacheLooks", spec := "cacheLooks", inPlace := ["internal/bytealg.Compare"], unfollowed := true, recurses := true, named := ["junctionbox/prefix.widths"], plainKeys := false, apart := false, laid := [("junctionbox/prefix.widths", laid_junctionbox_prefix_widths)], narrowed := true }
def CacheLooksUptoSaid : Prop := cacheLooksUptoRow.holds Tryd.pinned (OpenSpec.upto cacheLooksSpec)

/-- 'junctionboxlaw27.CacheLately', WHERE WHAT IT READS IS OF BULK AT MOST 1048576: true; the input reads as it did. -/
def cacheLatelyUptoRow : OpenClaim := { program := "ytihfaknflfmohaadoor", sum := "e7ecc31dfddc9f0adfe690a98b47cebf49754c7b30b40f6ed8a7ded9a68033f7", func := "junctionbox/junctionboxlaw27.CacheLately", spec := "cacheLately", inPlace := ["internal/bytealg.Compare"], unfollowed := true, recurses := true, named := ["junctionbox/prefix.widths"], plainKeys := false, apart := false, laid := [("junctionbox/prefix.widths", laid_junctionbox_prefix_widths)], narrowed := true }
def CacheLatelyUptoSaid : Prop := cacheLatelyUptoRow.holds Tryd.pinned (OpenSpec.upto cacheLatelySpec)

/-- 'junctionboxlaw09.TableMatches', WHERE WHAT IT READS IS OF BULK AT MOST 1048576: true; the input reads as it did. -/
def tableMatchesUptoRow : OpenClaim := { program := "ytihfaknflfmohaadoor", sum := "e7ecc31dfddc9f0adfe690a98b47cebf49754c7b30b40f6ed8a7ded9a68033f7", func := "junctionbox/junctionboxlaw09.TableMatches", spec := "tableMatches", inPlace := ["internal/bytealg.Compare", "slices.overlaps[junctionbox/api.Row]"], unfollowed := true, recurses := true, named := ["junctionbox/prefix.widths"], plainKeys := false, apart := false, laid := [("junctionbox/prefix.widths", laid_junctionbox_prefix_widths)], narrowed := true }
def TableMatchesUptoSaid : Prop := tableMatchesUptoRow.holds Tryd.pinned (OpenSpec.upto tableMatchesSpec)

/-- 'junctionboxlaw09.TableLongest', WHERE WHAT IT READS IS OF BULK AT MOST 1048576: true; the input reads as it did. -/
def tableLongestUptoRow : OpenClaim := { program := "ytihfaknflfmohaadoor", sum := "e7ecc31dfddc9f0adfe690a98b47cebf49754c7b30b40f6ed8a7ded9a68033f7", func := "junctionbox/junctionboxlaw09.TableLongest", spec := "tableLongest", inPlace := ["internal/bytealg.Compare", "slices.overlaps[junctionbox/api.Row]"], unfollowed := true, recurses := true, named := ["junctionbox/prefix.widths"], plainKeys := false, apart := false, laid := [("junctionbox/prefix.widths", laid_junctionbox_prefix_widths)], narrowed := true }
def TableLongestUptoSaid : Prop := tableLongestUptoRow.holds Tryd.pinned (OpenSpec.upto tableLongestSpec)

/-- 'junctionboxlaw27.CacheTells', WHERE WHAT IT READS IS OF BULK AT MOST 1048576: true; the input reads as it did. -/
def cacheTellsUptoRow : OpenClaim := { program := "ytihfaknflfmohaadoor", sum := "e7ecc31dfddc9f0adfe690a98b47cebf49754c7b30b40f6ed8a7ded9a68033f7", func := "junctionbox/junctionboxlaw27.CacheTells", spec := "cacheTells", inPlace := ["internal/bytealg.Compare"], unfollowed := true, recurses := true, named := ["junctionbox/prefix.widths"], plainKeys := false, apart := false, laid := [("junctionbox/prefix.widths", laid_junctionbox_prefix_widths)], narrowed := true }
def CacheTellsUptoSaid : Prop := cacheTellsUptoRow.holds Tryd.pinned (OpenSpec.upto cacheTellsSpec)

/-- 'junctionboxlaw27.CacheMoves', WHERE WHAT IT READS IS OF BULK AT MOST 1048576: true; the input reads as it did. -/
def cacheMovesUptoRow : OpenClaim := { program := "ytihfaknflfmohaadoor", sum := "e7ecc31dfddc9f0adfe690a98b47cebf49754c7b30b40f6ed8a7ded9a68033f7", func := "junctionbox/junctionboxlaw27.CacheMoves", spec := "cacheMoves", inPlace := ["internal/bytealg.Compare"], unfollowed := true, recurses := true, named := ["junctionbox/prefix.widths"], plainKeys := false, apart := false, laid := [("junctionbox/prefix.widths", laid_junctionbox_prefix_widths)], narrowed := true }
def CacheMovesUptoSaid : Prop := cacheMovesUptoRow.holds Tryd.pinned (OpenSpec.upto cacheMovesSpec)

/-- 'junctionboxlaw27.CacheStays', WHERE WHAT IT READS IS OF BULK AT MOST 1048576: true; the input reads as it did. -/
def cacheStaysUptoRow : OpenClaim := { program := "ytihfaknflfmohaadoor", sum := "e7ecc31dfddc9f0adfe690a98b47cebf49754c7b30b40f6ed8a7ded9a68033f7", func := "junctionbox/junctionboxlaw27.CacheStays", spec := "cacheStays", inPlace := ["internal/bytealg.Compare"], unfollowed := true, recurses := true, named := ["junctionbox/prefix.widths"], plainKeys := false, apart := false, laid := [("junctionbox/prefix.widths", laid_junctionbox_prefix_widths)], narrowed := true }
def CacheStaysUptoSaid : Prop := cacheStaysUptoRow.holds Tryd.pinned (OpenSpec.upto cacheStaysSpec)

/-- 'junctionboxlaw09.TableSets', WHERE WHAT IT READS IS OF BULK AT MOST 1048576: true; the input reads as it did. -/
def tableSetsUptoRow : OpenClaim := { program := "ytihfaknflfmohaadoor", sum := "e7ecc31dfddc9f0adfe690a98b47cebf49754c7b30b40f6ed8a7ded9a68033f7", func := "junctionbox/junctionboxlaw09.TableSets", spec := "tableSets", inPlace := ["internal/bytealg.Compare", "slices.overlaps[junctionbox/api.Row]"], unfollowed := true, recurses := true, named := ["junctionbox/prefix.widths"], plainKeys := false, apart := false, laid := [("junctionbox/prefix.widths", laid_junctionbox_prefix_widths)], narrowed := true }
def TableSetsUptoSaid : Prop := tableSetsUptoRow.holds Tryd.pinned (OpenSpec.upto tableSetsSpec)

/-- 'junctionboxlaw09.TableDiffers', WHERE WHAT IT READS IS OF BULK AT MOST 1048576: true; the input reads as it did. -/
def tableDiffersUptoRow : OpenClaim := { program := "ytihfaknflfmohaadoor", sum := "e7ecc31dfddc9f0adfe690a98b47cebf49754c7b30b40f6ed8a7ded9a68033f7", func := "junctionbox/junctionboxlaw09.TableDiffers", spec := "tableDiffers", inPlace := ["internal/bytealg.Compare", "slices.overlaps[junctionbox/api.Row]"], unfollowed := true, recurses := true, named := ["junctionbox/prefix.widths"], plainKeys := false, apart := false, laid := [("junctionbox/prefix.widths", laid_junctionbox_prefix_widths)], narrowed := true }
def TableDiffersUptoSaid : Prop := tableDiffersUptoRow.holds Tryd.pinned (OpenSpec.upto tableDiffersSpec)

/-- 'junctionboxlaw09.TableBytes', WHERE WHAT IT READS IS OF BULK AT MOST 1048576: true; the input reads as it did. -/
def tableBytesUptoRow : OpenClaim := { program := "ytihfaknflfmohaadoor", sum := "e7ecc31dfddc9f0adfe690a98b47cebf49754c7b30b40f6ed8a7ded9a68033f7", func := "junctionbox/junctionboxlaw09.TableBytes", spec := "tableBytes", inPlace := ["internal/bytealg.Compare", "slices.overlaps[junctionbox/api.Row]"], unfollowed := true, recurses := true, named := ["junctionbox/prefix.widths"], plainKeys := false, apart := false, laid := [("junctionbox/prefix.widths", laid_junctionbox_prefix_widths)], narrowed := true }
def TableBytesUptoSaid : Prop := tableBytesUptoRow.holds Tryd.pinned (OpenSpec.upto tableBytesSpec)

/-- 'junctionboxlaw09.TableBack', WHERE WHAT IT READS IS OF BULK AT MOST 1048576: true; the input reads as it did. -/
def tableBackUptoRow : OpenClaim := { program := "ytihfaknflfmohaadoor", sum := "e7ecc31dfddc9f0adfe690a98b47cebf49754c7b30b40f6ed8a7ded9a68033f7", func := "junctionbox/junctionboxlaw09.TableBack", spec := "tableBack", inPlace := ["internal/bytealg.Compare", "slices.overlaps[junctionbox/api.Row]"], unfollowed := true, recurses := true, named := ["junctionbox/prefix.widths"], plainKeys := false, apart := false, laid := [("junctionbox/prefix.widths", laid_junctionbox_prefix_widths)], narrowed := true }
def TableBackUptoSaid : Prop := tableBackUptoRow.holds Tryd.pinned (OpenSpec.upto tableBackSpec)

/-- 'junctionboxlaw27.CacheTrue', WHERE WHAT IT READS IS OF BULK AT MOST 1048576: true; the input reads as it did. -/
def cacheTrueUptoRow : OpenClaim := { program := "ytihfaknflfmohaadoor", sum := "e7ecc31dfddc9f0adfe690a98b47cebf49754c7b30b40f6ed8a7ded9a68033f7", func := "junctionbox/junctionboxlaw27.CacheTrue", spec := "cacheTrue", inPlace := ["internal/bytealg.Compare", "slices.overlaps[junctionbox/api.Row]"], unfollowed := true, recurses := true, named := ["junctionbox/prefix.widths"], plainKeys := false, apart := false, laid := [("junctionbox/prefix.widths", laid_junctionbox_prefix_widths)], narrowed := true }
def CacheTrueUptoSaid : Prop := cacheTrueUptoRow.holds Tryd.pinned (OpenSpec.upto cacheTrueSpec)

end Rows
end Go.Proofs.YtihfaknflfmohaaDoor
