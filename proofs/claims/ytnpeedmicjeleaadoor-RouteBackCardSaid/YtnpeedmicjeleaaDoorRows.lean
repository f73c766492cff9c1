/-
  NARROWER THAN 'FOR EVERY INPUT', by the rows' own cells (each row's printed sentence says how): RouteApplies: laid · RouteBest: laid · RouteFolds: laid · RouteTells: laid · RouteBytes: laid · RouteReads: laid · RouteBack: laid.
  DERIVED. THE GIVEN ROWS OF THIS SEAT. 7 by the template 'for every input the law returns true; each argument reads behind the call as it read before'; 0 by the template 'total and deterministic' (their statements: YtnpeedmicjeleaaDoorTotals.lean).
  GIVEN WITH THE SEED: the statements are not yours to turn. If you find one false, say at which input.
  Laid BY PROGRAM, IN A SANDBOX (cutbox-rows.mjs): the forced cells as the released guide's own fill.sh prints them over the translation 86987550de6d9d44… (all of the seat's roots in one cut). By AI agents, Wed Nov 11 2026. No macro, syntax, notation, axiom, sorry.
-/
import Derived.Test.YtnpeedmicjeleaaDoorChecked
import GoSem.Claim
import GoSem.ClaimJoined
import GoSem.ClaimMapViews
import Derived.JoinedTies
import Derived.KernelRfl
namespace Go.Proofs.YtnpeedmicjeleaaDoor
/- THE CELL 'sum', in the pinned program and in every row, IS THE sha256 OF THE DUMP (.gsa) THAT YtnpeedmicjeleaaDoorProg.lean LOADS. Nothing in Lean hashes anything: it is a label: what it is worth is what the hold of that sum in a sandbox is worth. -/
noncomputable def Tryd.pinned : Pinned := { name := "ytnpeedmicjeleaadoor", sum := "86987550de6d9d44d1e1fa0cef53874a54f433a5c1b807ee912e3a9d233b5df2", checked := Tryd.checked }
namespace Rows
def none {H : Type} : Left H := { results := [], args := [] }

/- WHAT THE LISTED PACKAGE-LEVEL VARIABLES READ AS WHEN THE CALL BEGINS. Each datum BY PROGRAM (the guide's laid-datum.mjs) off the statement by which the dump's own 'gosem.cut.vars' lays the variable. In a bare row this is a premise. The card (YtnpeedmicjeleaaDoorCards.lean) ties it to the program's text. -/
def laid_junctionbox_prefix_widths {H : Type} : DataW H := .agg [.lit (.int .i64 0), .lit (.int .i64 0), .lit (.int .i64 0), .lit (.int .i64 0), .lit (.int .i64 32), .lit (.int .i64 0), .lit (.int .i64 128)]

/-- 'junctionboxlaw11.RouteApplies': WHATEVER THE INPUT: true; the input reads as it did. -/
def routeAppliesSpec : ChangeSpec := { name := "routeApplies", fn := fun _ => fun
  | [d1, d2] => { results := [.lit (.bool true)], args := [d1, d2] }
  | _ => none }
def routeAppliesRow : OpenClaim := { program := "ytnpeedmicjeleaadoor", sum := "86987550de6d9d44d1e1fa0cef53874a54f433a5c1b807ee912e3a9d233b5df2", func := "junctionbox/junctionboxlaw11.RouteApplies", spec := "routeApplies", inPlace := ["internal/bytealg.Compare", "slices.overlaps[junctionbox/api.Route]", "slices.overlaps[junctionbox/api.Row]"], unfollowed := true, recurses := true, named := ["junctionbox/prefix.widths"], plainKeys := false, apart := false, laid := [("junctionbox/prefix.widths", laid_junctionbox_prefix_widths)] }
def RouteAppliesSaid : Prop := routeAppliesRow.holds Tryd.pinned (OpenSpec.ofChange routeAppliesSpec)

/-- ITS FALSE NEIGHBOUR: 'it returns false'. Refute it at one input. -/
def routeAppliesWrong : ChangeSpec := { name := "routeApplies", fn := fun _ => fun
  | [d1, d2] => { results := [.lit (.bool false)], args := [d1, d2] }
  | _ => none }
def RouteAppliesWrongFalsely : Prop := routeAppliesRow.holds Tryd.pinned (OpenSpec.ofChange routeAppliesWrong)

/-- 'junctionboxlaw11.RouteBest': WHATEVER THE INPUT: true; the input reads as it did. -/
def routeBestSpec : ChangeSpec := { name := "routeBest", fn := fun _ => fun
  | [d] => { results := [.lit (.bool true)], args := [d] }
  | _ => none }
def routeBestRow : OpenClaim := { program := "ytnpeedmicjeleaadoor", sum := "86987550de6d9d44d1e1fa0cef53874a54f433a5c1b807ee912e3a9d233b5df2", func := "junctionbox/junctionboxlaw11.RouteBest", spec := "routeBest", inPlace := ["internal/bytealg.Compare", "slices.overlaps[junctionbox/api.Route]", "slices.overlaps[junctionbox/api.Row]"], unfollowed := true, recurses := true, named := ["junctionbox/prefix.widths"], plainKeys := false, apart := false, laid := [("junctionbox/prefix.widths", laid_junctionbox_prefix_widths)] }
def RouteBestSaid : Prop := routeBestRow.holds Tryd.pinned (OpenSpec.ofChange routeBestSpec)

/-- ITS FALSE NEIGHBOUR: 'it returns false'. Refute it at one input. -/
def routeBestWrong : ChangeSpec := { name := "routeBest", fn := fun _ => fun
  | [d] => { results := [.lit (.bool false)], args := [d] }
  | _ => none }
def RouteBestWrongFalsely : Prop := routeBestRow.holds Tryd.pinned (OpenSpec.ofChange routeBestWrong)

/-- 'junctionboxlaw11.RouteFolds': WHATEVER THE INPUT: true; the input reads as it did. -/
def routeFoldsSpec : ChangeSpec := { name := "routeFolds", fn := fun _ => fun
  | [d] => { results := [.lit (.bool true)], args := [d] }
  | _ => none }
def routeFoldsRow : OpenClaim := { program := "ytnpeedmicjeleaadoor", sum := "86987550de6d9d44d1e1fa0cef53874a54f433a5c1b807ee912e3a9d233b5df2", func := "junctionbox/junctionboxlaw11.RouteFolds", spec := "routeFolds", inPlace := ["internal/bytealg.Compare", "slices.overlaps[junctionbox/api.Route]", "slices.overlaps[junctionbox/api.Row]"], unfollowed := true, recurses := true, named := ["junctionbox/prefix.widths"], plainKeys := false, apart := false, laid := [("junctionbox/prefix.widths", laid_junctionbox_prefix_widths)] }
def RouteFoldsSaid : Prop := routeFoldsRow.holds Tryd.pinned (OpenSpec.ofChange routeFoldsSpec)

/-- ITS FALSE NEIGHBOUR: 'it returns false'. Refute it at one input. -/
def routeFoldsWrong : ChangeSpec := { name := "routeFolds", fn := fun _ => fun
  | [d] => { results := [.lit (.bool false)], args := [d] }
  | _ => none }
def RouteFoldsWrongFalsely : Prop := routeFoldsRow.holds Tryd.pinned (OpenSpec.ofChange routeFoldsWrong)

/-- 'junctionboxlaw11.RouteTells': WHATEVER THE INPUT: true; the input reads as it did. -/
def routeTellsSpec : ChangeSpec := { name := "routeTells", fn := fun _ => fun
  | [d1, d2, d3] => { results := [.lit (.bool true)], args := [d1, d2, d3] }
  | _ => none }
def routeTellsRow : OpenClaim := { program := "ytnpeedmicjeleaadoor", sum := "86987550de6d9d44d1e1fa0cef53874a54f433a5c1b807ee912e3a9d233b5df2", func := "junctionbox/junctionboxlaw11.RouteTells", spec := "routeTells", inPlace := ["internal/bytealg.Compare", "slices.overlaps[junctionbox/api.Route]", "slices.overlaps[junctionbox/api.Row]"], unfollowed := true, recurses := true, named := ["junctionbox/prefix.widths"], plainKeys := false, apart := false, laid := [("junctionbox/prefix.widths", laid_junctionbox_prefix_widths)] }
def RouteTellsSaid : Prop := routeTellsRow.holds Tryd.pinned (OpenSpec.ofChange routeTellsSpec)

/-- ITS FALSE NEIGHBOUR: 'it returns false'. Refute it at one input. -/
def routeTellsWrong : ChangeSpec := { name := "routeTells", fn := fun _ => fun
  | [d1, d2, d3] => { results := [.lit (.bool false)], args := [d1, d2, d3] }
  | _ => none }
def RouteTellsWrongFalsely : Prop := routeTellsRow.holds Tryd.pinned (OpenSpec.ofChange routeTellsWrong)

/-- 'junctionboxlaw11.RouteBytes': WHATEVER THE INPUT: true; the input reads as it did. -/
def routeBytesSpec : ChangeSpec := { name := "routeBytes", fn := fun _ => fun
  | [d1, d2] => { results := [.lit (.bool true)], args := [d1, d2] }
  | _ => none }
def routeBytesRow : OpenClaim := { program := "ytnpeedmicjeleaadoor", sum := "86987550de6d9d44d1e1fa0cef53874a54f433a5c1b807ee912e3a9d233b5df2", func := "junctionbox/junctionboxlaw11.RouteBytes", spec := "routeBytes", inPlace := ["internal/bytealg.Compare", "slices.overlaps[junctionbox/api.Route]", "slices.overlaps[junctionbox/api.Row]"], unfollowed := true, recurses := true, named := ["junctionbox/prefix.widths"], plainKeys := false, apart := false, laid := [("junctionbox/prefix.widths", laid_junctionbox_prefix_widths)] }
def RouteBytesSaid : Prop := routeBytesRow.holds Tryd.pinned (OpenSpec.ofChange routeBytesSpec)

/-- ITS FALSE NEIGHBOUR: 'it returns false'. Refute it at one input. -/
def routeBytesWrong : ChangeSpec := { name := "routeBytes", fn := fun _ => fun
  | [d1, d2] => { results := [.lit (.bool false)], args := [d1, d2] }
  | _ => none }
def RouteBytesWrongFalsely : Prop := routeBytesRow.holds Tryd.pinned (OpenSpec.ofChange routeBytesWrong)

/-- 'junctionboxlaw11.RouteReads': WHATEVER THE INPUT: true; the input reads as it did. -/
def routeReadsSpec : ChangeSpec := { name := "routeReads", fn := fun _ => fun
  | [d] => { results := [.lit (.bool true)], args := [d] }
  | _ => none }
def routeReadsRow : OpenClaim := { program := "ytnpeedmicjeleaadoor", sum := "86987550de6d9d44d1e1fa0cef53874a54f433a5c1b807ee912e3a9d233b5df2", func := "junctionbox/junctionboxlaw11.RouteReads", spec := "routeReads", inPlace := ["internal/bytealg.Compare", "slices.overlaps[junctionbox/api.Route]", "slices.overlaps[junctionbox/api.Row]"], unfollowed := true, recurses := true, named := ["junctionbox/prefix.widths"], plainKeys := false, apart := false, laid := [("junctionbox/prefix.widths", laid_junctionbox_prefix_widths)] }
def RouteReadsSaid : Prop := routeReadsRow.holds Tryd.pinned (OpenSpec.ofChange routeReadsSpec)

/-- ITS FALSE NEIGHBOUR: 'it returns false'. Refute it at one input. -/
def routeReadsWrong : ChangeSpec := { name := "routeReads", fn := fun _ => fun
  | [d] => { results := [.lit (.bool false)], args := [d] }
  | _ => none }
def RouteReadsWrongFalsely : Prop := routeReadsRow.holds Tryd.pinned (OpenSpec.ofChange routeReadsWrong)

/-- 'junctionboxlaw11.RouteBack': WHATEVER THE INPUT: true; the input reads as it did. -/
def routeBackSpec : ChangeSpec := { name := "routeBack", fn := fun _ => fun
  | [d1, d2, d3] => { results := [.lit (.bool true)], args := [d1, d2, d3] }
  | _ => none }
def routeBackRow : OpenClaim := { program := "ytnpeedmicjeleaadoor", sum := "86987550de6d9d44d1e1fa0cef53874a54f433a5c1b807ee912e3a9d233b5df2", func := "junctionbox/junctionboxlaw11.RouteBack", spec := "routeBack", inPlace := ["internal/bytealg.Compare", "slices.overlaps[junctionbox/api.Route]", "slices.overlaps[junctionbox/api.Row]"], unfollowed := true, recurses := true, named := ["junctionbox/prefix.widths"], plainKeys := false, apart := false, laid := [("junctionbox/prefix.widths", laid_junctionbox_prefix_widths)] }
def RouteBackSaid : Prop := routeBackRow.holds Tryd.pinned (OpenSpec.ofChange routeBackSpec)

/-- ITS FALSE NEIGHBOUR: 'it returns false'. Refute it at one input. -/
def routeBackWrong : ChangeSpec := { name := "routeBack", fn := fun _ => fun
  | [d1, d2, d3] => { results := [.lit (.bool false)], args := [d1, d2, d3] }
  | _ => none }
def RouteBackWrongFalsely : Prop := routeBackRow.holds Tryd.pinned (OpenSpec.ofChange routeBackWrong)

/- THE SECOND FORM. 'bulk': how many values and letters a reading holds, each counted each time it is reached (what is shared counts as often as it is met; a slice's spare places count too). A statement '..UptoSaid' is the law's where the arguments, and the package variables that the reading takes, are together of bulk at most 1048576: NARROWER than '..Said'. Prove '..Said' where nothing that the law and all that it calls make is longer than what came in: it says more and counts as full. Else prove '..UptoSaid'. A law counts once. -/
mutual
def uptoBulk {H : Type} : DataW H → Nat
  | .lit (.string bytes) => bytes.length + 1
  | .lit _ => 1
  | .nil => 1
  | .ptr d => uptoBulk d + 1
  | .slice elems spare => uptoBulkAll elems + uptoBulkAll spare + 1
  | .agg parts => uptoBulkAll parts + 1
  | .iface _ d => uptoBulk d + 1
  | .map entries => uptoBulkEntries entries + 1
  | .held _ => 1
def uptoBulkAll {H : Type} : List (DataW H) → Nat
  | [] => 0
  | d :: r => uptoBulk d + uptoBulkAll r
def uptoBulkEntries {H : Type} : List (Lit × DataW H) → Nat
  | [] => 0
  | x :: r => uptoBulkEntry x + uptoBulkEntries r
def uptoBulkEntry {H : Type} : Lit × DataW H → Nat
  | (.string bytes, d) => bytes.length + uptoBulk d + 1
  | (_, d) => uptoBulk d + 1
 end
def uptoSmall : (H : Type) → List (DataW H) → Bool := fun _ ds => decide (uptoBulkAll ds ≤ 1048576)
def OpenSpec.upto (s : _root_.Go.ChangeSpec) : _root_.Go.OpenSpec := { _root_.Go.OpenSpec.ofChange s with cond := some uptoSmall }

/-- 'junctionboxlaw11.RouteApplies', WHERE WHAT IT READS IS OF BULK AT MOST 1048576: true; the input reads as it did. -/
def routeAppliesUptoRow : OpenClaim := { program := "ytnpeedmicjeleaadoor", sum := "86987550de6d9d44d1e1fa0cef53874a54f433a5c1b807ee912e3a9d233b5df2", func := "junctionbox/junctionboxlaw11.RouteApplies", spec := "routeApplies", inPlace := ["internal/bytealg.Compare", "slices.overlaps[junctionbox/api.Route]", "slices.overlaps[junctionbox/api.Row]"], unfollowed := true, recurses := true, named := ["junctionbox/prefix.widths"], plainKeys := false, apart := false, laid := [("junctionbox/prefix.widths", laid_junctionbox_prefix_widths)], narrowed := true }
def RouteAppliesUptoSaid : Prop := routeAppliesUptoRow.holds Tryd.pinned (OpenSpec.upto routeAppliesSpec)

/-- 'junctionboxlaw11.RouteBest', WHERE WHAT IT READS IS OF BULK AT MOST 1048576: true; the input reads as it did. -/
def routeBestUptoRow : OpenClaim := { program := "ytnpeedmicjeleaadoor", sum := "86987550de6d9d44d1e1fa0cef53874a54f433a5c1b807ee912e3a9d233b5df2", func := "junctionbox/junctionboxlaw11.RouteBest", spec := "routeBest", inPlace := ["internal/bytealg.Compare", "slices.overlaps[junctionbox/api.Route]", "slices.overlaps[junctionbox/api.Row]"], unfollowed := true, recurses := true, named := ["junctionbox/prefix.widths"], plainKeys := false, apart := false, laid := [("junctionbox/prefix.widths", laid_junctionbox_prefix_widths)], narrowed := true }
def RouteBestUptoSaid : Prop := routeBestUptoRow.holds Tryd.pinned (OpenSpec.upto routeBestSpec)

/-- 'junctionboxlaw11.RouteFolds', WHERE WHAT IT READS IS OF BULK AT MOST 1048576: true; the input reads as it did. -/
def routeFoldsUptoRow : OpenClaim := { program := "ytnpeedmicjeleaadoor", sum := "86987550de6d9d44d1e1fa0cef53874a54f433a5c1b807ee912e3a9d233b5df2", func := "junctionbox/junctionboxlaw11.RouteFolds", spec := "routeFolds", inPlace := ["internal/bytealg.Compare", "slices.overlaps[junctionbox/api.Route]", "slices.overlaps[junctionbox/api.Row]"], unfollowed := true, recurses := true, named := ["junctionbox/prefix.widths"], plainKeys := false, apart := false, laid := [("junctionbox/prefix.widths", laid_junctionbox_prefix_widths)], narrowed := true }
def RouteFoldsUptoSaid : Prop := routeFoldsUptoRow.holds Tryd.pinned (OpenSpec.upto routeFoldsSpec)

/-- 'junctionboxlaw11.RouteTells', WHERE WHAT IT READS IS OF BULK AT MOST 1048576: true; the input reads as it did. -/
def routeTellsUptoRow : OpenClaim := { program := "ytnpeedmicjeleaadoor", sum := "86987550de6d9d44d1e1fa0cef53874a54f433a5c1b807ee912e3a9d233b5df2", func := "junctionbox/junctionboxlaw11.RouteTells", spec := "routeTells", inPlace := ["internal/bytealg.Compare", "slices.overlaps[junctionbox/api.Route]", "slices.overlaps[junctionbox/api.Row]"], unfollowed := true, recurses := true, named := ["junctionbox/prefix.widths"], plainKeys := false, apart := false, laid := [("junctionbox/prefix.widths", laid_junctionbox_prefix_widths)], narrowed := true }
def RouteTellsUptoSaid : Prop := routeTellsUptoRow.holds Tryd.pinned (OpenSpec.upto routeTellsSpec)

/-- 'junctionboxlaw11.RouteBytes', WHERE WHAT IT READS IS OF BULK AT MOST 1048576: true; the input reads as it did. -/
def routeBytesUptoRow : OpenClaim := { program := "ytnpeedmicjeleaadoor", sum := "86987550de6d9d44d1e1fa0cef53874a54f433a5c1b807ee912e3a9d233b5df2", func := "junctionbox/junctionboxlaw11.RouteBytes", spec := "routeBytes", inPlace := ["internal/bytealg.Compare", "slices.overlaps[junctionbox/api.Route]", "slices.overlaps[junctionbox/api.Row]"], unfollowed := true, recurses := true, named := ["junctionbox/prefix.widths"], plainKeys := false, apart := false, laid := [("junctionbox/prefix.widths", laid_junctionbox_prefix_widths)], narrowed := true }
def RouteBytesUptoSaid : Prop := routeBytesUptoRow.holds Tryd.pinned (OpenSpec.upto routeBytesSpec)

/-- 'junctionboxlaw11.RouteReads', WHERE WHAT IT READS IS OF BULK AT MOST 1048576: true; the input reads as it did. -/
def routeReadsUptoRow : OpenClaim := { program := "ytnpeedmicjeleaadoor", sum := "86987550de6d9d44d1e1fa0cef53874a54f433a5c1b807ee912e3a9d233b5df2", func := "junctionbox/junctionboxlaw11.RouteReads", spec := "routeReads", inPlace := ["internal/bytealg.Compare", "slices.overlaps[junctionbox/api.Route]", "slices.overlaps[junctionbox/api.Row]"], unfollowed := true, recurses := true, named := ["junctionbox/prefix.widths"], plainKeys := false, apart := false, laid := [("junctionbox/prefix.widths", laid_junctionbox_prefix_widths)], narrowed := true }
def RouteReadsUptoSaid : Prop := routeReadsUptoRow.holds Tryd.pinned (OpenSpec.upto routeReadsSpec)

/-- 'junctionboxlaw11.RouteBack', WHERE WHAT IT READS IS OF BULK AT MOST 1048576: true; the input reads as it did. -/
def routeBackUptoRow : OpenClaim := { program := "ytnpeedmicjeleaadoor", sum := "86987550de6d9d44d1e1fa0cef53874a54f433a5c1b807ee912e3a9d233b5df2", func := "junctionbox/junctionboxlaw11.RouteBack", spec := "routeBack", inPlace := ["internal/bytealg.Compare", "slices.overlaps[junctionbox/api.Route]", "slices.overlaps[junctionbox/api.Row]"], unfollowed := true, recurses := true, named := ["junctionbox/prefix.widths"], plainKeys := false, apart := false, laid := [("junctionbox/prefix.widths", laid_junctionbox_prefix_widths)], narrowed := true }
def RouteBackUptoSaid : Prop := routeBackUptoRow.holds Tryd.pinned (OpenSpec.upto routeBackSpec)

end Rows
end Go.Proofs.YtnpeedmicjeleaaDoor
