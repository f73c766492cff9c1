/-
  NARROWER THAN 'FOR EVERY INPUT', by the rows' own cells (each row's printed sentence says how): PrefixChecks: laid · PrefixBack: laid · PrefixBits: laid · PrefixOf: laid · PrefixBytes: laid · PrefixHolds: laid · PrefixOrders: laid.
  DERIVED. THE GIVEN ROWS OF THIS SEAT. 7 by the template 'for every input the law returns true; each argument reads behind the call as it read before'; 0 by the template 'total and deterministic' (their statements: YtcloepjeckbmoaaDoorTotals.lean).
  GIVEN WITH THE SEED: the statements are not yours to turn. If you find one false, say at which input.
  Laid BY PROGRAM, IN A SANDBOX (cutbox-rows.mjs): the forced cells as the released guide's own fill.sh prints them over the translation 4451e06c18e5e73f… (all of the seat's roots in one cut). By AI agents, Wed Nov 11 2026. No macro, syntax, notation, axiom, sorry.
-/
import Derived.Test.YtcloepjeckbmoaaDoorChecked
import GoSem.Claim
import GoSem.ClaimJoined
import GoSem.ClaimMapViews
import Derived.JoinedTies
import Derived.KernelRfl
namespace Go.Proofs.YtcloepjeckbmoaaDoor
/- THE CELL 'sum', in the pinned program and in every row, IS THE sha256 OF THE DUMP (.gsa) THAT YtcloepjeckbmoaaDoorProg.lean LOADS. Nothing in Lean hashes anything: it is a label: what it is worth is what the hold of that sum in a sandbox is worth. -/
noncomputable def Tryd.pinned : Pinned := { name := "ytcloepjeckbmoaadoor", sum := "4451e06c18e5e73ffe076c608137fddcf435de563265d93c103b6ebfd2a498e5", checked := Tryd.checked }
namespace Rows
def none {H : Type} : Left H := { results := [], args := [] }

/- WHAT THE LISTED PACKAGE-LEVEL VARIABLES READ AS WHEN THE CALL BEGINS. Each datum BY PROGRAM (the guide's laid-datum.mjs) off the statement by which the dump's own 'gosem.cut.vars' lays the variable. In a bare row this is a premise. The card (YtcloepjeckbmoaaDoorCards.lean) ties it to the program's text. -/
def laid_junctionbox_prefix_widths {H : Type} : DataW H := .agg [.lit (.int .i64 0), .lit (.int .i64 0), .lit (.int .i64 0), .lit (.int .i64 0), .lit (.int .i64 32), .lit (.int .i64 0), .lit (.int .i64 128)]

/-- 'junctionboxlaw05.PrefixChecks': WHATEVER THE INPUT: true; the input reads as it did. -/
def prefixChecksSpec : ChangeSpec := { name := "prefixChecks", fn := fun _ => fun
  | [d1, d2, d3] => { results := [.lit (.bool true)], args := [d1, d2, d3] }
  | _ => none }
def prefixChecksRow : OpenClaim := { program := "ytcloepjeckbmoaadoor", sum := "4451e06c18e5e73ffe076c608137fddcf435de563265d93c103b6ebfd2a498e5", func := "junctionbox/junctionboxlaw05.PrefixChecks", spec := "prefixChecks", unfollowed := true, recurses := true, named := ["junctionbox/prefix.widths"], apart := false, laid := [("junctionbox/prefix.widths", laid_junctionbox_prefix_widths)] }
def PrefixChecksSaid : Prop := prefixChecksRow.holds Tryd.pinned (OpenSpec.ofChange prefixChecksSpec)

/-- ITS FALSE NEIGHBOUR: 'it returns false'. Refute it at one input. -/
def prefixChecksWrong : ChangeSpec := { name := "prefixChecks", fn := fun _ => fun
  | [d1, d2, d3] => { results := [.lit (.bool false)], args := [d1, d2, d3] }
  | _ => none }
def PrefixChecksWrongFalsely : Prop := prefixChecksRow.holds Tryd.pinned (OpenSpec.ofChange prefixChecksWrong)

/-- 'junctionboxlaw05.PrefixBack': WHATEVER THE INPUT: true; the input reads as it did. -/
def prefixBackSpec : ChangeSpec := { name := "prefixBack", fn := fun _ => fun
  | [d1, d2, d3] => { results := [.lit (.bool true)], args := [d1, d2, d3] }
  | _ => none }
def prefixBackRow : OpenClaim := { program := "ytcloepjeckbmoaadoor", sum := "4451e06c18e5e73ffe076c608137fddcf435de563265d93c103b6ebfd2a498e5", func := "junctionbox/junctionboxlaw05.PrefixBack", spec := "prefixBack", unfollowed := true, recurses := true, named := ["junctionbox/prefix.widths"], apart := false, laid := [("junctionbox/prefix.widths", laid_junctionbox_prefix_widths)] }
def PrefixBackSaid : Prop := prefixBackRow.holds Tryd.pinned (OpenSpec.ofChange prefixBackSpec)

/-- ITS FALSE NEIGHBOUR: 'it returns false'. Refute it at one input. -/
def prefixBackWrong : ChangeSpec := { name := "prefixBack", fn := fun _ => fun
  | [d1, d2, d3] => { results := [.lit (.bool false)], args := [d1, d2, d3] }
  | _ => none }
def PrefixBackWrongFalsely : Prop := prefixBackRow.holds Tryd.pinned (OpenSpec.ofChange prefixBackWrong)

/-- 'junctionboxlaw05.PrefixBits': WHATEVER THE INPUT: true; the input reads as it did. -/
def prefixBitsSpec : ChangeSpec := { name := "prefixBits", fn := fun _ => fun
  | [d1, d2] => { results := [.lit (.bool true)], args := [d1, d2] }
  | _ => none }
def prefixBitsRow : OpenClaim := { program := "ytcloepjeckbmoaadoor", sum := "4451e06c18e5e73ffe076c608137fddcf435de563265d93c103b6ebfd2a498e5", func := "junctionbox/junctionboxlaw05.PrefixBits", spec := "prefixBits", unfollowed := true, recurses := true, named := ["junctionbox/prefix.widths"], apart := false, laid := [("junctionbox/prefix.widths", laid_junctionbox_prefix_widths)] }
def PrefixBitsSaid : Prop := prefixBitsRow.holds Tryd.pinned (OpenSpec.ofChange prefixBitsSpec)

/-- ITS FALSE NEIGHBOUR: 'it returns false'. Refute it at one input. -/
def prefixBitsWrong : ChangeSpec := { name := "prefixBits", fn := fun _ => fun
  | [d1, d2] => { results := [.lit (.bool false)], args := [d1, d2] }
  | _ => none }
def PrefixBitsWrongFalsely : Prop := prefixBitsRow.holds Tryd.pinned (OpenSpec.ofChange prefixBitsWrong)

/-- 'junctionboxlaw05.PrefixOf': WHATEVER THE INPUT: true; the input reads as it did. -/
def prefixOfSpec : ChangeSpec := { name := "prefixOf", fn := fun _ => fun
  | [d1, d2, d3] => { results := [.lit (.bool true)], args := [d1, d2, d3] }
  | _ => none }
def prefixOfRow : OpenClaim := { program := "ytcloepjeckbmoaadoor", sum := "4451e06c18e5e73ffe076c608137fddcf435de563265d93c103b6ebfd2a498e5", func := "junctionbox/junctionboxlaw05.PrefixOf", spec := "prefixOf", unfollowed := true, recurses := true, named := ["junctionbox/prefix.widths"], apart := false, laid := [("junctionbox/prefix.widths", laid_junctionbox_prefix_widths)] }
def PrefixOfSaid : Prop := prefixOfRow.holds Tryd.pinned (OpenSpec.ofChange prefixOfSpec)

/-- ITS FALSE NEIGHBOUR: 'it returns false'. Refute it at one input. -/
def prefixOfWrong : ChangeSpec := { name := "prefixOf", fn := fun _ => fun
  | [d1, d2, d3] => { results := [.lit (.bool false)], args := [d1, d2, d3] }
  | _ => none }
def PrefixOfWrongFalsely : Prop := prefixOfRow.holds Tryd.pinned (OpenSpec.ofChange prefixOfWrong)

/-- 'junctionboxlaw05.PrefixBytes': WHATEVER THE INPUT: true; the input reads as it did. -/
def prefixBytesSpec : ChangeSpec := { name := "prefixBytes", fn := fun _ => fun
  | [d1, d2, d3] => { results := [.lit (.bool true)], args := [d1, d2, d3] }
  | _ => none }
def prefixBytesRow : OpenClaim := { program := "ytcloepjeckbmoaadoor", sum := "4451e06c18e5e73ffe076c608137fddcf435de563265d93c103b6ebfd2a498e5", func := "junctionbox/junctionboxlaw05.PrefixBytes", spec := "prefixBytes", unfollowed := true, recurses := true, named := ["junctionbox/prefix.widths"], apart := false, laid := [("junctionbox/prefix.widths", laid_junctionbox_prefix_widths)] }
def PrefixBytesSaid : Prop := prefixBytesRow.holds Tryd.pinned (OpenSpec.ofChange prefixBytesSpec)

/-- ITS FALSE NEIGHBOUR: 'it returns false'. Refute it at one input. -/
def prefixBytesWrong : ChangeSpec := { name := "prefixBytes", fn := fun _ => fun
  | [d1, d2, d3] => { results := [.lit (.bool false)], args := [d1, d2, d3] }
  | _ => none }
def PrefixBytesWrongFalsely : Prop := prefixBytesRow.holds Tryd.pinned (OpenSpec.ofChange prefixBytesWrong)

/-- 'junctionboxlaw05.PrefixHolds': WHATEVER THE INPUT: true; the input reads as it did. -/
def prefixHoldsSpec : ChangeSpec := { name := "prefixHolds", fn := fun _ => fun
  | [d1, d2, d3] => { results := [.lit (.bool true)], args := [d1, d2, d3] }
  | _ => none }
def prefixHoldsRow : OpenClaim := { program := "ytcloepjeckbmoaadoor", sum := "4451e06c18e5e73ffe076c608137fddcf435de563265d93c103b6ebfd2a498e5", func := "junctionbox/junctionboxlaw05.PrefixHolds", spec := "prefixHolds", inPlace := ["internal/bytealg.Compare"], unfollowed := true, recurses := true, named := ["junctionbox/prefix.widths"], apart := false, laid := [("junctionbox/prefix.widths", laid_junctionbox_prefix_widths)] }
def PrefixHoldsSaid : Prop := prefixHoldsRow.holds Tryd.pinned (OpenSpec.ofChange prefixHoldsSpec)

/-- ITS FALSE NEIGHBOUR: 'it returns false'. Refute it at one input. -/
def prefixHoldsWrong : ChangeSpec := { name := "prefixHolds", fn := fun _ => fun
  | [d1, d2, d3] => { results := [.lit (.bool false)], args := [d1, d2, d3] }
  | _ => none }
def PrefixHoldsWrongFalsely : Prop := prefixHoldsRow.holds Tryd.pinned (OpenSpec.ofChange prefixHoldsWrong)

/-- 'junctionboxlaw05.PrefixOrders': WHATEVER THE INPUT: true; the input reads as it did. -/
def prefixOrdersSpec : ChangeSpec := { name := "prefixOrders", fn := fun _ => fun
  | [d1, d2, d3] => { results := [.lit (.bool true)], args := [d1, d2, d3] }
  | _ => none }
def prefixOrdersRow : OpenClaim := { program := "ytcloepjeckbmoaadoor", sum := "4451e06c18e5e73ffe076c608137fddcf435de563265d93c103b6ebfd2a498e5", func := "junctionbox/junctionboxlaw05.PrefixOrders", spec := "prefixOrders", inPlace := ["internal/bytealg.Compare"], unfollowed := true, recurses := true, named := ["junctionbox/prefix.widths"], apart := false, laid := [("junctionbox/prefix.widths", laid_junctionbox_prefix_widths)] }
def PrefixOrdersSaid : Prop := prefixOrdersRow.holds Tryd.pinned (OpenSpec.ofChange prefixOrdersSpec)

/-- ITS FALSE NEIGHBOUR: 'it returns false'. Refute it at one input. -/
def prefixOrdersWrong : ChangeSpec := { name := "prefixOrders", fn := fun _ => fun
  | [d1, d2, d3] => { results := [.lit (.bool false)], args := [d1, d2, d3] }
  | _ => none }
def PrefixOrdersWrongFalsely : Prop := prefixOrdersRow.holds Tryd.pinned (OpenSpec.ofChange prefixOrdersWrong)

/- THE SECOND FORM. 'bulk': how many values and letters a reading holds, each counted each time it is reached (what is shared counts as often as it is met; a slice's spare places count too). A statement '..UptoSaid' is the law's where the arguments, and the package variables that the reading takes, are together of bulk at most 1048576: NARROWER than '..Said'. Prove '..Said' where nothing that the law and all that it calls make is longer than what came in: it says more and counts as full. Else prove '..UptoSaid'. A law counts once. -/
mutual
def uptoBulk {H : Type} : DataW H → Nat
  | .lit (.string bytes) => bytes.length + 1
  | .lit _ => 1
  | .nil => 1
  | .ptr d => uptoBulk d + 1
  | .slice elems spare => uptoBulkAll elems + uptoBulkAll spare + 1
  | .agg parts => uptoBulkAll parts + 1
  | .iface _ d => uptoBulk d + 1
  | .map entries => uptoBulkEntries entries + 1
  | .held _ => 1
def uptoBulkAll {H : Type} : List (DataW H) → Nat
  | [] => 0
  | d :: r => uptoBulk d + uptoBulkAll r
def uptoBulkEntries {H : Type} : List (Lit × DataW H) → Nat
  | [] => 0
  | x :: r => uptoBulkEntry x + uptoBulkEntries r
def uptoBulkEntry {H : Type} : Lit × DataW H → Nat
  | (.string bytes, d) => bytes.length + uptoBulk d + 1
  | (_, d) => uptoBulk d + 1
 end
def uptoSmall : (H : Type) → List (DataW H) → Bool := fun _ ds => decide (uptoBulkAll ds ≤ 1048576)
def OpenSpec.upto (s : _root_.Go.ChangeSpec) : _root_.Go.OpenSpec := { _root_.Go.OpenSpec.ofChange s with cond := some uptoSmall }

/-- 'junctionboxlaw05.PrefixChecks', WHERE WHAT IT READS IS OF BULK AT MOST 1048576: true; the input reads as it did. -/
def prefixChecksUptoRow : OpenClaim := { program := "ytcloepjeckbmoaadoor", sum := "4451e06c18e5e73ffe076c608137fddcf435de563265d93c103b6ebfd2a498e5", func := "junctionbox/junctionboxlaw05.PrefixChecks", spec := "prefixChecks", unfollowed := true, recurses := true, named := ["junctionbox/prefix.widths"], apart := false, laid := [("junctionbox/prefix.widths", laid_junctionbox_prefix_widths)], narrowed := true }
def PrefixChecksUptoSaid : Prop := prefixChecksUptoRow.holds Tryd.pinned (OpenSpec.upto prefixChecksSpec)

/-- 'junctionboxlaw05.PrefixBack', WHERE WHAT IT READS IS OF BULK AT MOST 1048576: true; the input reads as it did. -/
def prefixBackUptoRow : OpenClaim := { program := "ytcloepjeckbmoaadoor", sum := "4451e06c18e5e73ffe076c608137fddcf435de563265d93c103b6ebfd2a498e5", func := "junctionbox/junctionboxlaw05.PrefixBack", spec := "prefixBack", unfollowed := true, recurses := true, named := ["junctionbox/prefix.widths"], apart := false, laid := [("junctionbox/prefix.widths", laid_junctionbox_prefix_widths)], narrowed := true }
def PrefixBackUptoSaid : Prop := prefixBackUptoRow.holds Tryd.pinned (OpenSpec.upto prefixBackSpec)

/-- 'junctionboxlaw05.PrefixBits', WHERE WHAT IT READS IS OF BULK AT MOST 1048576: true; the input reads as it did. -/
def prefixBitsUptoRow : OpenClaim := { program := "ytcloepjeckbmoaadoor", sum := "4451e06c18e5e73ffe076c608137fddcf435de563265d93c103b6ebfd2a498e5", func := "junctionbox/junctionboxlaw05.PrefixBits", spec := "prefixBits", unfollowed := true, recurses := true, named := ["junctionbox/prefix.widths"], apart := false, laid := [("junctionbox/prefix.widths", laid_junctionbox_prefix_widths)], narrowed := true }
def PrefixBitsUptoSaid : Prop := prefixBitsUptoRow.holds Tryd.pinned (OpenSpec.upto prefixBitsSpec)

/-- 'junctionboxlaw05.PrefixOf', WHERE WHAT IT READS IS OF BULK AT MOST 1048576: true; the input reads as it did. -/
def prefixOfUptoRow : OpenClaim := { program := "ytcloepjeckbmoaadoor", sum := "4451e06c18e5e73ffe076c608137fddcf435de563265d93c103b6ebfd2a498e5", func := "junctionbox/junctionboxlaw05.PrefixOf", spec := "prefixOf", unfollowed := true, recurses := true, named := ["junctionbox/prefix.widths"], apart := false, laid := [("junctionbox/prefix.widths", laid_junctionbox_prefix_widths)], narrowed := true }
def PrefixOfUptoSaid : Prop := prefixOfUptoRow.holds Tryd.pinned (OpenSpec.upto prefixOfSpec)

/-- 'junctionboxlaw05.PrefixBytes', WHERE WHAT IT READS IS OF BULK AT MOST 1048576: true; the input reads as it did. -/
def prefixBytesUptoRow : OpenClaim := { program := "ytcloepjeckbmoaadoor", sum := "4451e06c18e5e73ffe076c608137fddcf435de563265d93c103b6ebfd2a498e5", func := "junctionbox/junctionboxlaw05.PrefixBytes", spec := "prefixBytes", unfollowed := true, recurses := true, named := ["junctionbox/prefix.widths"], apart := false, laid := [("junctionbox/prefix.widths", laid_junctionbox_prefix_widths)], narrowed := true }
def PrefixBytesUptoSaid : Prop := prefixBytesUptoRow.holds Tryd.pinned (OpenSpec.upto prefixBytesSpec)

/-- 'junctionboxlaw05.PrefixHolds', WHERE WHAT IT READS IS OF BULK AT MOST 1048576: true; the input reads as it did. -/
def prefixHoldsUptoRow : OpenClaim := { program := "ytcloepjeckbmoaadoor", sum := "4451e06c18e5e73ffe076c608137fddcf435de563265d93c103b6ebfd2a498e5", func := "junctionbox/junctionboxlaw05.PrefixHolds", spec := "prefixHolds", inPlace := ["internal/bytealg.Compare"], unfollowed := true, recurses := true, named := ["junctionbox/prefix.widths"], apart := false, laid := [("junctionbox/prefix.widths", laid_junctionbox_prefix_widths)], narrowed := true }
def PrefixHoldsUptoSaid : Prop := prefixHoldsUptoRow.holds Tryd.pinned (OpenSpec.upto prefixHoldsSpec)

/-- 'junctionboxlaw05.PrefixOrders', WHERE WHAT IT READS IS OF BULK AT MOST 1048576: true; the input reads as it did. -/
def prefixOrdersUptoRow : OpenClaim := { program := "ytcloepjeckbmoaadoor", sum := "4451e06c18e5e73ffe076c608137fddcf435de563265d93c103b6ebfd2a498e5", func := "junctionbox/junctionboxlaw05.PrefixOrders", spec := "prefixOrders", inPlace := ["internal/bytealg.Compare"], unfollowed := true, recurses := true, named := ["junctionbox/prefix.widths"], apart := false, laid := [("junctionbox/prefix.widths", laid_junctionbox_prefix_widths)], narrowed := true }
def PrefixOrdersUptoSaid : Prop := prefixOrdersUptoRow.holds Tryd.pinned (OpenSpec.upto prefixOrdersSpec)

end Rows
end Go.Proofs.YtcloepjeckbmoaaDoor
