/-
  NARROWER THAN 'FOR EVERY INPUT', by the rows' own cells (each row's printed sentence says how): ClientPlays: laid · ClientSubmits: laid · ClientStays: laid · ClientTells: laid · ClientHears: laid · FrameBack: laid · FrameAgain: laid.
  DERIVED. THE GIVEN ROWS OF THIS SEAT. 7 by the template 'for every input the law returns true; each argument reads behind the call as it read before'; 0 by the template 'total and deterministic' (their statements: YtifejiclenpfoaaDoorTotals.lean).
  GIVEN WITH THE SEED: the statements are not yours to turn. If you find one false, say at which input.
  Laid BY PROGRAM, IN A SANDBOX (cutbox-rows.mjs): the forced cells as the released guide's own fill.sh prints them over the translation 7de16099a545e6f1… (all of the seat's roots in one cut). By AI agents, Wed Nov 11 2026. No macro, syntax, notation, axiom, sorry.
-/
import Derived.Test.YtifejiclenpfoaaDoorChecked
import GoSem.Claim
import GoSem.ClaimJoined
import GoSem.ClaimMapViews
import Derived.JoinedTies
import Derived.KernelRfl
namespace Go.Proofs.YtifejiclenpfoaaDoor
/- THE CELL 'sum', in the pinned program and in every row, IS THE sha256 OF THE DUMP (.gsa) THAT YtifejiclenpfoaaDoorProg.lean LOADS. Nothing in Lean hashes anything: it is a label: what it is worth is what the hold of that sum in a sandbox is worth. -/
noncomputable def Tryd.pinned : Pinned := { name := "ytifejiclenpfoaadoor", sum := "7de16099a545e6f1e3609a64ffbe5999e84891fa92b97fe5077488fd8af4a49c", checked := Tryd.checked }
namespace Rows
def none {H : Type} : Left H := { results := [], args := [] }

/- WHAT THE LISTED PACKAGE-LEVEL VARIABLES READ AS WHEN THE CALL BEGINS. Each datum BY PROGRAM (the guide's laid-datum.mjs) off the statement by which the dump's own 'gosem.cut.vars' lays the variable. In a bare row this is a premise. The card (YtifejiclenpfoaaDoorCards.lean) ties it to the program's text. -/
def laid_junctionbox_prefix_widths {H : Type} : DataW H := .agg [.lit (.int .i64 0), .lit (.int .i64 0), .lit (.int .i64 0), .lit (.int .i64 0), .lit (.int .i64 32), .lit (.int .i64 0), .lit (.int .i64 128)]

/-- 'junctionboxlaw20.ClientPlays': WHATEVER THE INPUT: true; the input reads as it did. -/
def clientPlaysSpec : ChangeSpec := { name := "clientPlays", fn := fun _ => fun
  | [d1, d2] => { results := [.lit (.bool true)], args := [d1, d2] }
  | _ => none }
def clientPlaysRow : OpenClaim := { program := "ytifejiclenpfoaadoor", sum := "7de16099a545e6f1e3609a64ffbe5999e84891fa92b97fe5077488fd8af4a49c", func := "junctionbox/junctionboxlaw20.ClientPlays", spec := "clientPlays", inPlace := ["internal/bytealg.Compare"], unfollowed := true, recurses := true, named := ["junctionbox/prefix.widths"], apart := false, laid := [("junctionbox/prefix.widths", laid_junctionbox_prefix_widths)] }
def ClientPlaysSaid : Prop := clientPlaysRow.holds Tryd.pinned (OpenSpec.ofChange clientPlaysSpec)

/-- ITS FALSE NEIGHBOUR: 'it returns false'. Refute it at one input. -/
def clientPlaysWrong : ChangeSpec := { name := "clientPlays", fn := fun _ => fun
  | [d1, d2] => { results := [.lit (.bool false)], args := [d1, d2] }
  | _ => none }
def ClientPlaysWrongFalsely : Prop := clientPlaysRow.holds Tryd.pinned (OpenSpec.ofChange clientPlaysWrong)

/-- 'junctionboxlaw20.ClientSubmits': WHATEVER THE INPUT: true; the input reads as it did. -/
def clientSubmitsSpec : ChangeSpec := { name := "clientSubmits", fn := fun _ => fun
  | [d1, d2] => { results := [.lit (.bool true)], args := [d1, d2] }
  | _ => none }
def clientSubmitsRow : OpenClaim := { program := "ytifejiclenpfoaadoor", sum := "7de16099a545e6f1e3609a64ffbe5999e84891fa92b97fe5077488fd8af4a49c", func := "junctionbox/junctionboxlaw20.ClientSubmits", spec := "clientSubmits", inPlace := ["internal/bytealg.Compare"], unfollowed := true, recurses := true, named := ["junctionbox/prefix.widths"], apart := false, laid := [("junctionbox/prefix.widths", laid_junctionbox_prefix_widths)] }
def ClientSubmitsSaid : Prop := clientSubmitsRow.holds Tryd.pinned (OpenSpec.ofChange clientSubmitsSpec)

/-- ITS FALSE NEIGHBOUR: 'it returns false'. Refute it at one input. -/
def clientSubmitsWrong : ChangeSpec := { name := "clientSubmits", fn := fun _ => fun
  | [d1, d2] => { results := [.lit (.bool false)], args := [d1, d2] }
  | _ => none }
def ClientSubmitsWrongFalsely : Prop := clientSubmitsRow.holds Tryd.pinned (OpenSpec.ofChange clientSubmitsWrong)

/-- 'junctionboxlaw20.ClientStays': WHATEVER THE INPUT: true; the input reads as it did. -/
def clientStaysSpec : ChangeSpec := { name := "clientStays", fn := fun _ => fun
  | [d1, d2] => { results := [.lit (.bool true)], args := [d1, d2] }
  | _ => none }
def clientStaysRow : OpenClaim := { program := "ytifejiclenpfoaadoor", sum := "7de16099a545e6f1e3609a64ffbe5999e84891fa92b97fe5077488fd8af4a49c", func := "junctionbox/junctionboxlaw20.ClientStays", spec := "clientStays", inPlace := ["internal/bytealg.Compare"], unfollowed := true, recurses := true, named := ["junctionbox/prefix.widths"], apart := false, laid := [("junctionbox/prefix.widths", laid_junctionbox_prefix_widths)] }
def ClientStaysSaid : Prop := clientStaysRow.holds Tryd.pinned (OpenSpec.ofChange clientStaysSpec)

/-- ITS FALSE NEIGHBOUR: 'it returns false'. Refute it at one input. -/
def clientStaysWrong : ChangeSpec := { name := "clientStays", fn := fun _ => fun
  | [d1, d2] => { results := [.lit (.bool false)], args := [d1, d2] }
  | _ => none }
def ClientStaysWrongFalsely : Prop := clientStaysRow.holds Tryd.pinned (OpenSpec.ofChange clientStaysWrong)

/-- 'junctionboxlaw20.ClientTells': WHATEVER THE INPUT: true; the input reads as it did. -/
def clientTellsSpec : ChangeSpec := { name := "clientTells", fn := fun _ => fun
  | [d1, d2] => { results := [.lit (.bool true)], args := [d1, d2] }
  | _ => none }
def clientTellsRow : OpenClaim := { program := "ytifejiclenpfoaadoor", sum := "7de16099a545e6f1e3609a64ffbe5999e84891fa92b97fe5077488fd8af4a49c", func := "junctionbox/junctionboxlaw20.ClientTells", spec := "clientTells", inPlace := ["internal/bytealg.Compare"], unfollowed := true, recurses := true, named := ["junctionbox/prefix.widths"], apart := false, laid := [("junctionbox/prefix.widths", laid_junctionbox_prefix_widths)] }
def ClientTellsSaid : Prop := clientTellsRow.holds Tryd.pinned (OpenSpec.ofChange clientTellsSpec)

/-- ITS FALSE NEIGHBOUR: 'it returns false'. Refute it at one input. -/
def clientTellsWrong : ChangeSpec := { name := "clientTells", fn := fun _ => fun
  | [d1, d2] => { results := [.lit (.bool false)], args := [d1, d2] }
  | _ => none }
def ClientTellsWrongFalsely : Prop := clientTellsRow.holds Tryd.pinned (OpenSpec.ofChange clientTellsWrong)

/-- 'junctionboxlaw20.ClientHears': WHATEVER THE INPUT: true; the input reads as it did. -/
def clientHearsSpec : ChangeSpec := { name := "clientHears", fn := fun _ => fun
  | [d1, d2, d3] => { results := [.lit (.bool true)], args := [d1, d2, d3] }
  | _ => none }
def clientHearsRow : OpenClaim := { program := "ytifejiclenpfoaadoor", sum := "7de16099a545e6f1e3609a64ffbe5999e84891fa92b97fe5077488fd8af4a49c", func := "junctionbox/junctionboxlaw20.ClientHears", spec := "clientHears", inPlace := ["internal/bytealg.Compare"], unfollowed := true, recurses := true, named := ["junctionbox/prefix.widths"], apart := false, laid := [("junctionbox/prefix.widths", laid_junctionbox_prefix_widths)] }
def ClientHearsSaid : Prop := clientHearsRow.holds Tryd.pinned (OpenSpec.ofChange clientHearsSpec)

/-- ITS FALSE NEIGHBOUR: 'it returns false'. Refute it at one input. -/
def clientHearsWrong : ChangeSpec := { name := "clientHears", fn := fun _ => fun
  | [d1, d2, d3] => { results := [.lit (.bool false)], args := [d1, d2, d3] }
  | _ => none }
def ClientHearsWrongFalsely : Prop := clientHearsRow.holds Tryd.pinned (OpenSpec.ofChange clientHearsWrong)

/-- 'junctionboxlaw15.FrameBack': WHATEVER THE INPUT: true; the input reads as it did. -/
def frameBackSpec : ChangeSpec := { name := "frameBack", fn := fun _ => fun
  | [d1, d2] => { results := [.lit (.bool true)], args := [d1, d2] }
  | _ => none }
def frameBackRow : OpenClaim := { program := "ytifejiclenpfoaadoor", sum := "7de16099a545e6f1e3609a64ffbe5999e84891fa92b97fe5077488fd8af4a49c", func := "junctionbox/junctionboxlaw15.FrameBack", spec := "frameBack", inPlace := ["internal/bytealg.Compare"], unfollowed := true, recurses := true, named := ["junctionbox/prefix.widths"], apart := false, laid := [("junctionbox/prefix.widths", laid_junctionbox_prefix_widths)] }
def FrameBackSaid : Prop := frameBackRow.holds Tryd.pinned (OpenSpec.ofChange frameBackSpec)

/-- ITS FALSE NEIGHBOUR: 'it returns false'. Refute it at one input. -/
def frameBackWrong : ChangeSpec := { name := "frameBack", fn := fun _ => fun
  | [d1, d2] => { results := [.lit (.bool false)], args := [d1, d2] }
  | _ => none }
def FrameBackWrongFalsely : Prop := frameBackRow.holds Tryd.pinned (OpenSpec.ofChange frameBackWrong)

/-- 'junctionboxlaw15.FrameAgain': WHATEVER THE INPUT: true; the input reads as it did. -/
def frameAgainSpec : ChangeSpec := { name := "frameAgain", fn := fun _ => fun
  | [d] => { results := [.lit (.bool true)], args := [d] }
  | _ => none }
def frameAgainRow : OpenClaim := { program := "ytifejiclenpfoaadoor", sum := "7de16099a545e6f1e3609a64ffbe5999e84891fa92b97fe5077488fd8af4a49c", func := "junctionbox/junctionboxlaw15.FrameAgain", spec := "frameAgain", inPlace := ["internal/bytealg.Compare"], unfollowed := true, recurses := true, named := ["junctionbox/prefix.widths"], apart := false, laid := [("junctionbox/prefix.widths", laid_junctionbox_prefix_widths)] }
def FrameAgainSaid : Prop := frameAgainRow.holds Tryd.pinned (OpenSpec.ofChange frameAgainSpec)

/-- ITS FALSE NEIGHBOUR: 'it returns false'. Refute it at one input. -/
def frameAgainWrong : ChangeSpec := { name := "frameAgain", fn := fun _ => fun
  | [d] => { results := [.lit (.bool false)], args := [d] }
  | _ => none }
def FrameAgainWrongFalsely : Prop := frameAgainRow.holds Tryd.pinned (OpenSpec.ofChange frameAgainWrong)

/- THE SECOND FORM. 'bulk': how many values and letters a reading holds, each counted each time it is reached (what is shared counts as often as it is met; a slice's spare places count too). A statement '..UptoSaid' is the law's where the arguments, and the package variables that the reading takes, are together of bulk at most 1048576: NARROWER than '..Said'. Prove '..Said' where nothing that the law and all that it calls make is longer than what came in: it says more and counts as full. Else prove '..UptoSaid'. A law counts once. -/
mutual
def uptoBulk {H : Type} : DataW H → Nat
  | .lit (.string bytes) => bytes.length + 1
  | .lit _ => 1
  | .nil => 1
  | .ptr d => uptoBulk d + 1
  | .slice elems spare => uptoBulkAll elems + uptoBulkAll spare + 1
  | .agg parts => uptoBulkAll parts + 1
  | .iface _ d => uptoBulk d + 1
  | .map entries => uptoBulkEntries entries + 1
  | .held _ => 1
def uptoBulkAll {H : Type} : List (DataW H) → Nat
  | [] => 0
  | d :: r => uptoBulk d + uptoBulkAll r
def uptoBulkEntries {H : Type} : List (Lit × DataW H) → Nat
  | [] => 0
  | x :: r => uptoBulkEntry x + uptoBulkEntries r
def uptoBulkEntry {H : Type} : Lit × DataW H → Nat
  | (.string bytes, d) => bytes.length + uptoBulk d + 1
  | (_, d) => uptoBulk d + 1
 end
def uptoSmall : (H : Type) → List (DataW H) → Bool := fun _ ds => decide (uptoBulkAll ds ≤ 1048576)
def OpenSpec.upto (s : _root_.Go.ChangeSpec) : _root_.Go.OpenSpec := { _root_.Go.OpenSpec.ofChange s with cond := some uptoSmall }

/-- 'junctionboxlaw20.ClientPlays', WHERE WHAT IT READS IS OF BULK AT MOST 1048576: true; the input reads as it did. -/
def clientPlaysUptoRow : OpenClaim := { program := "ytifejiclenpfoaadoor", sum := "7de16099a545e6f1e3609a64ffbe5999e84891fa92b97fe5077488fd8af4a49c", func := "junctionbox/junctionboxlaw20.ClientPlays", spec := "clientPlays", inPlace := ["internal/bytealg.Compare"], unfollowed := true, recurses := true, named := ["junctionbox/prefix.widths"], apart := false, laid := [("junctionbox/prefix.widths", laid_junctionbox_prefix_widths)], narrowed := true }
def ClientPlaysUptoSaid : Prop := clientPlaysUptoRow.holds Tryd.pinned (OpenSpec.upto clientPlaysSpec)

/-- 'junctionboxlaw20.ClientSubmits', WHERE WHAT IT READS IS OF BULK AT MOST 1048576: true; the input reads as it did. -/
def clientSubmitsUptoRow : OpenClaim := { program := "ytifejiclenpfoaadoor", sum := "7de16099a545e6f1e3609a64ffbe5999e84891fa92b97fe5077488fd8af4a49c", func := "junctionbox/junctionboxlaw20.ClientSubmits", spec := "clientSubmits", inPlace := ["internal/bytealg.Compare"], unfollowed := true, recurses := true, named := ["junctionbox/prefix.widths"], apart := false, laid := [("junctionbox/prefix.widths", laid_junctionbox_prefix_widths)], narrowed := true }
def ClientSubmitsUptoSaid : Prop := clientSubmitsUptoRow.holds Tryd.pinned (OpenSpec.upto clientSubmitsSpec)

/-- 'junctionboxlaw20.ClientStays', WHERE WHAT IT READS IS OF BULK AT MOST 1048576: true; the input reads as it did. -/
def clientStaysUptoRow : OpenClaim := { program := "ytifejiclenpfoaadoor", sum := "7de16099a545e6f1e3609a64ffbe5999e84891fa92b97fe5077488fd8af4a49c", func := "junctionbox/junctionboxlaw20.ClientStays", spec := "clientStays", inPlace := ["internal/bytealg.Compare"], unfollowed := true, recurses := true, named := ["junctionbox/prefix.widths"], apart := false, laid := [("junctionbox/prefix.widths", laid_junctionbox_prefix_widths)], narrowed := true }
def ClientStaysUptoSaid : Prop := clientStaysUptoRow.holds Tryd.pinned (OpenSpec.upto clientStaysSpec)

/-- 'junctionboxlaw20.ClientTells', WHERE WHAT IT READS IS OF BULK AT MOST 1048576: true; the input reads as it did. -/
def clientTellsUptoRow : OpenClaim := { program := "ytifejiclenpfoaadoor", sum := "7de16099a545e6f1e3609a64ffbe5999e84891fa92b97fe5077488fd8af4a49c", func := "junctionbox/junctionboxlaw20.ClientTells", spec := "clientTells", inPlace := ["internal/bytealg.Compare"], unfollowed := true, recurses := true, named := ["junctionbox/prefix.widths"], apart := false, laid := [("junctionbox/prefix.widths", laid_junctionbox_prefix_widths)], narrowed := true }
def ClientTellsUptoSaid : Prop := clientTellsUptoRow.holds Tryd.pinned (OpenSpec.upto clientTellsSpec)

/-- 'junctionboxlaw20.ClientHears', WHERE WHAT IT READS IS OF BULK AT MOST 1048576: true; the input reads as it did. -/
def clientHearsUptoRow : OpenClaim := { program := "ytifejiclenpfoaadoor", sum := "7de16099a545e6f1e3609a64ffbe5999e84891fa92b97fe5077488fd8af4a49c", func := "junctionbox/junctionboxlaw20.ClientHears", spec := "clientHears", inPlace := ["internal/bytealg.Compare"], unfollowed := true, recurses := true, named := ["junctionbox/prefix.widths"], apart := false, laid := [("junctionbox/prefix.widths", laid_junctionbox_prefix_widths)], narrowed := true }
def ClientHearsUptoSaid : Prop := clientHearsUptoRow.holds Tryd.pinned (OpenSpec.upto clientHearsSpec)

/-- 'junctionboxlaw15.FrameBack', WHERE WHAT IT READS IS OF BULK AT MOST 1048576: true; the input reads as it did. -/
def frameBackUptoRow : OpenClaim := { program := "ytifejiclenpfoaadoor", sum := "7de16099a545e6f1e3609a64ffbe5999e84891fa92b97fe5077488fd8af4a49c", func := "junctionbox/junctionboxlaw15.FrameBack", spec := "frameBack", inPlace := ["internal/bytealg.Compare"], unfollowed := true, recurses := true, named := ["junctionbox/prefix.widths"], apart := false, laid := [("junctionbox/prefix.widths", laid_junctionbox_prefix_widths)], narrowed := true }
def FrameBackUptoSaid : Prop := frameBackUptoRow.holds Tryd.pinned (OpenSpec.upto frameBackSpec)

/-- 'junctionboxlaw15.FrameAgain', WHERE WHAT IT READS IS OF BULK AT MOST 1048576: true; the input reads as it did. -/
def frameAgainUptoRow : OpenClaim := { program := "ytifejiclenpfoaadoor", sum := "7de16099a545e6f1e3609a64ffbe5999e84891fa92b97fe5077488fd8af4a49c", func := "junctionbox/junctionboxlaw15.FrameAgain", spec := "frameAgain", inPlace := ["internal/bytealg.Compare"], unfollowed := true, recurses := true, named := ["junctionbox/prefix.widths"], apart := false, laid := [("junctionbox/prefix.widths", laid_junctionbox_prefix_widths)], narrowed := true }
def FrameAgainUptoSaid : Prop := frameAgainUptoRow.holds Tryd.pinned (OpenSpec.upto frameAgainSpec)

end Rows
end Go.Proofs.YtifejiclenpfoaaDoor
