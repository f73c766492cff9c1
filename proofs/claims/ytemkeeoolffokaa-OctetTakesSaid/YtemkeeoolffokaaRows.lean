/-
  No cell of these rows narrows 'for every input' (looked for: loops, veiled, ifaces, maps, wideKeys, modest, calm, conditions, laid).
  DERIVED. THE GIVEN ROWS OF THIS SEAT. 11 by the template 'for every input the law returns true; each argument reads behind the call as it read before'; 0 by the template 'total and deterministic' (their statements: YtemkeeoolffokaaTotals.lean).
  GIVEN WITH THE SEED: the statements are not yours to turn. If you find one false, say at which input.
  Laid BY PROGRAM, IN A SANDBOX (cutbox-rows.mjs): the forced cells as the released guide's own fill.sh prints them over the translation 9596c881613a2fda… (all of the seat's roots in one cut). By AI agents, Wed Nov 11 2026. No macro, syntax, notation, axiom, sorry.
-/
import Derived.Test.YtemkeeoolffokaaChecked
import GoSem.Claim
import GoSem.ClaimJoined
import GoSem.ClaimMapViews
import Derived.JoinedTies
import Derived.KernelRfl
namespace Go.Proofs.Ytemkeeoolffokaa
/- THE CELL 'sum', in the pinned program and in every row, IS THE sha256 OF THE DUMP (.gsa) THAT YtemkeeoolffokaaProg.lean LOADS. Nothing in Lean hashes anything: it is a label: what it is worth is what the hold of that sum in a sandbox is worth. -/
noncomputable def Try.pinned : Pinned := { name := "ytemkeeoolffokaa", sum := "9596c881613a2fdac1864d3a8b60e2cf3aa369e645df87a1d4c36a2e075a267f", checked := Try.checked }
namespace Rows
def none {H : Type} : Left H := { results := [], args := [] }

/-- 'junctionboxlaw01.OctetBits': WHATEVER THE INPUT: true; the input reads as it did. -/
def octetBitsSpec : ChangeSpec := { name := "octetBits", fn := fun _ => fun
  | [d1, d2] => { results := [.lit (.bool true)], args := [d1, d2] }
  | _ => none }
def octetBitsRow : OpenClaim := { program := "ytemkeeoolffokaa", sum := "9596c881613a2fdac1864d3a8b60e2cf3aa369e645df87a1d4c36a2e075a267f", func := "junctionbox/junctionboxlaw01.OctetBits", spec := "octetBits", unfollowed := true, recurses := true, apart := false }
def OctetBitsSaid : Prop := octetBitsRow.holds Try.pinned (OpenSpec.ofChange octetBitsSpec)

/-- ITS FALSE NEIGHBOUR: 'it returns false'. Refute it at one input. -/
def octetBitsWrong : ChangeSpec := { name := "octetBits", fn := fun _ => fun
  | [d1, d2] => { results := [.lit (.bool false)], args := [d1, d2] }
  | _ => none }
def OctetBitsWrongFalsely : Prop := octetBitsRow.holds Try.pinned (OpenSpec.ofChange octetBitsWrong)

/-- 'junctionboxlaw01.OctetKeeps': WHATEVER THE INPUT: true; the input reads as it did. -/
def octetKeepsSpec : ChangeSpec := { name := "octetKeeps", fn := fun _ => fun
  | [d1, d2, d3] => { results := [.lit (.bool true)], args := [d1, d2, d3] }
  | _ => none }
def octetKeepsRow : OpenClaim := { program := "ytemkeeoolffokaa", sum := "9596c881613a2fdac1864d3a8b60e2cf3aa369e645df87a1d4c36a2e075a267f", func := "junctionbox/junctionboxlaw01.OctetKeeps", spec := "octetKeeps", unfollowed := true, recurses := true, apart := false }
def OctetKeepsSaid : Prop := octetKeepsRow.holds Try.pinned (OpenSpec.ofChange octetKeepsSpec)

/-- ITS FALSE NEIGHBOUR: 'it returns false'. Refute it at one input. -/
def octetKeepsWrong : ChangeSpec := { name := "octetKeeps", fn := fun _ => fun
  | [d1, d2, d3] => { results := [.lit (.bool false)], args := [d1, d2, d3] }
  | _ => none }
def OctetKeepsWrongFalsely : Prop := octetKeepsRow.holds Try.pinned (OpenSpec.ofChange octetKeepsWrong)

/-- 'junctionboxlaw03.SumGoes': WHATEVER THE INPUT: true; the input reads as it did. -/
def sumGoesSpec : ChangeSpec := { name := "sumGoes", fn := fun _ => fun
  | [d1, d2] => { results := [.lit (.bool true)], args := [d1, d2] }
  | _ => none }
def sumGoesRow : OpenClaim := { program := "ytemkeeoolffokaa", sum := "9596c881613a2fdac1864d3a8b60e2cf3aa369e645df87a1d4c36a2e075a267f", func := "junctionbox/junctionboxlaw03.SumGoes", spec := "sumGoes", unfollowed := true, recurses := true, apart := false }
def SumGoesSaid : Prop := sumGoesRow.holds Try.pinned (OpenSpec.ofChange sumGoesSpec)

/-- ITS FALSE NEIGHBOUR: 'it returns false'. Refute it at one input. -/
def sumGoesWrong : ChangeSpec := { name := "sumGoes", fn := fun _ => fun
  | [d1, d2] => { results := [.lit (.bool false)], args := [d1, d2] }
  | _ => none }
def SumGoesWrongFalsely : Prop := sumGoesRow.holds Try.pinned (OpenSpec.ofChange sumGoesWrong)

/-- 'junctionboxlaw03.SumSeals': WHATEVER THE INPUT: true; the input reads as it did. -/
def sumSealsSpec : ChangeSpec := { name := "sumSeals", fn := fun _ => fun
  | [d] => { results := [.lit (.bool true)], args := [d] }
  | _ => none }
def sumSealsRow : OpenClaim := { program := "ytemkeeoolffokaa", sum := "9596c881613a2fdac1864d3a8b60e2cf3aa369e645df87a1d4c36a2e075a267f", func := "junctionbox/junctionboxlaw03.SumSeals", spec := "sumSeals", unfollowed := true, recurses := true, apart := false }
def SumSealsSaid : Prop := sumSealsRow.holds Try.pinned (OpenSpec.ofChange sumSealsSpec)

/-- ITS FALSE NEIGHBOUR: 'it returns false'. Refute it at one input. -/
def sumSealsWrong : ChangeSpec := { name := "sumSeals", fn := fun _ => fun
  | [d] => { results := [.lit (.bool false)], args := [d] }
  | _ => none }
def SumSealsWrongFalsely : Prop := sumSealsRow.holds Try.pinned (OpenSpec.ofChange sumSealsWrong)

/-- 'junctionboxlaw03.SumOpened': WHATEVER THE INPUT: true; the input reads as it did. -/
def sumOpenedSpec : ChangeSpec := { name := "sumOpened", fn := fun _ => fun
  | [d1, d2, d3] => { results := [.lit (.bool true)], args := [d1, d2, d3] }
  | _ => none }
def sumOpenedRow : OpenClaim := { program := "ytemkeeoolffokaa", sum := "9596c881613a2fdac1864d3a8b60e2cf3aa369e645df87a1d4c36a2e075a267f", func := "junctionbox/junctionboxlaw03.SumOpened", spec := "sumOpened", unfollowed := true, recurses := true, apart := false }
def SumOpenedSaid : Prop := sumOpenedRow.holds Try.pinned (OpenSpec.ofChange sumOpenedSpec)

/-- ITS FALSE NEIGHBOUR: 'it returns false'. Refute it at one input. -/
def sumOpenedWrong : ChangeSpec := { name := "sumOpened", fn := fun _ => fun
  | [d1, d2, d3] => { results := [.lit (.bool false)], args := [d1, d2, d3] }
  | _ => none }
def SumOpenedWrongFalsely : Prop := sumOpenedRow.holds Try.pinned (OpenSpec.ofChange sumOpenedWrong)

/-- 'junctionboxlaw03.SumBehind': WHATEVER THE INPUT: true; the input reads as it did. -/
def sumBehindSpec : ChangeSpec := { name := "sumBehind", fn := fun _ => fun
  | [d1, d2, d3] => { results := [.lit (.bool true)], args := [d1, d2, d3] }
  | _ => none }
def sumBehindRow : OpenClaim := { program := "ytemkeeoolffokaa", sum := "9596c881613a2fdac1864d3a8b60e2cf3aa369e645df87a1d4c36a2e075a267f", func := "junctionbox/junctionboxlaw03.SumBehind", spec := "sumBehind", unfollowed := true, recurses := true, apart := false }
def SumBehindSaid : Prop := sumBehindRow.holds Try.pinned (OpenSpec.ofChange sumBehindSpec)

/-- ITS FALSE NEIGHBOUR: 'it returns false'. Refute it at one input. -/
def sumBehindWrong : ChangeSpec := { name := "sumBehind", fn := fun _ => fun
  | [d1, d2, d3] => { results := [.lit (.bool false)], args := [d1, d2, d3] }
  | _ => none }
def SumBehindWrongFalsely : Prop := sumBehindRow.holds Try.pinned (OpenSpec.ofChange sumBehindWrong)

/-- 'junctionboxlaw03.SumPlace': WHATEVER THE INPUT: true; the input reads as it did. -/
def sumPlaceSpec : ChangeSpec := { name := "sumPlace", fn := fun _ => fun
  | [d1, d2, d3] => { results := [.lit (.bool true)], args := [d1, d2, d3] }
  | _ => none }
def sumPlaceRow : OpenClaim := { program := "ytemkeeoolffokaa", sum := "9596c881613a2fdac1864d3a8b60e2cf3aa369e645df87a1d4c36a2e075a267f", func := "junctionbox/junctionboxlaw03.SumPlace", spec := "sumPlace", unfollowed := true, recurses := true, apart := false }
def SumPlaceSaid : Prop := sumPlaceRow.holds Try.pinned (OpenSpec.ofChange sumPlaceSpec)

/-- ITS FALSE NEIGHBOUR: 'it returns false'. Refute it at one input. -/
def sumPlaceWrong : ChangeSpec := { name := "sumPlace", fn := fun _ => fun
  | [d1, d2, d3] => { results := [.lit (.bool false)], args := [d1, d2, d3] }
  | _ => none }
def SumPlaceWrongFalsely : Prop := sumPlaceRow.holds Try.pinned (OpenSpec.ofChange sumPlaceWrong)

/-- 'junctionboxlaw01.OctetTakes': WHATEVER THE INPUT: true; the input reads as it did. -/
def octetTakesSpec : ChangeSpec := { name := "octetTakes", fn := fun _ => fun
  | [d1, d2] => { results := [.lit (.bool true)], args := [d1, d2] }
  | _ => none }
def octetTakesRow : OpenClaim := { program := "ytemkeeoolffokaa", sum := "9596c881613a2fdac1864d3a8b60e2cf3aa369e645df87a1d4c36a2e075a267f", func := "junctionbox/junctionboxlaw01.OctetTakes", spec := "octetTakes", unfollowed := true, recurses := true, apart := false }
def OctetTakesSaid : Prop := octetTakesRow.holds Try.pinned (OpenSpec.ofChange octetTakesSpec)

/-- ITS FALSE NEIGHBOUR: 'it returns false'. Refute it at one input. -/
def octetTakesWrong : ChangeSpec := { name := "octetTakes", fn := fun _ => fun
  | [d1, d2] => { results := [.lit (.bool false)], args := [d1, d2] }
  | _ => none }
def OctetTakesWrongFalsely : Prop := octetTakesRow.holds Try.pinned (OpenSpec.ofChange octetTakesWrong)

/-- 'junctionboxlaw01.OctetAtOnce': WHATEVER THE INPUT: true; the input reads as it did. -/
def octetAtOnceSpec : ChangeSpec := { name := "octetAtOnce", fn := fun _ => fun
  | [d1, d2] => { results := [.lit (.bool true)], args := [d1, d2] }
  | _ => none }
def octetAtOnceRow : OpenClaim := { program := "ytemkeeoolffokaa", sum := "9596c881613a2fdac1864d3a8b60e2cf3aa369e645df87a1d4c36a2e075a267f", func := "junctionbox/junctionboxlaw01.OctetAtOnce", spec := "octetAtOnce", unfollowed := true, recurses := true, apart := false }
def OctetAtOnceSaid : Prop := octetAtOnceRow.holds Try.pinned (OpenSpec.ofChange octetAtOnceSpec)

/-- ITS FALSE NEIGHBOUR: 'it returns false'. Refute it at one input. -/
def octetAtOnceWrong : ChangeSpec := { name := "octetAtOnce", fn := fun _ => fun
  | [d1, d2] => { results := [.lit (.bool false)], args := [d1, d2] }
  | _ => none }
def OctetAtOnceWrongFalsely : Prop := octetAtOnceRow.holds Try.pinned (OpenSpec.ofChange octetAtOnceWrong)

/-- 'junctionboxlaw01.OctetGoes': WHATEVER THE INPUT: true; the input reads as it did. -/
def octetGoesSpec : ChangeSpec := { name := "octetGoes", fn := fun _ => fun
  | [d1, d2, d3] => { results := [.lit (.bool true)], args := [d1, d2, d3] }
  | _ => none }
def octetGoesRow : OpenClaim := { program := "ytemkeeoolffokaa", sum := "9596c881613a2fdac1864d3a8b60e2cf3aa369e645df87a1d4c36a2e075a267f", func := "junctionbox/junctionboxlaw01.OctetGoes", spec := "octetGoes", unfollowed := true, recurses := true, apart := false }
def OctetGoesSaid : Prop := octetGoesRow.holds Try.pinned (OpenSpec.ofChange octetGoesSpec)

/-- ITS FALSE NEIGHBOUR: 'it returns false'. Refute it at one input. -/
def octetGoesWrong : ChangeSpec := { name := "octetGoes", fn := fun _ => fun
  | [d1, d2, d3] => { results := [.lit (.bool false)], args := [d1, d2, d3] }
  | _ => none }
def OctetGoesWrongFalsely : Prop := octetGoesRow.holds Try.pinned (OpenSpec.ofChange octetGoesWrong)

/-- 'junctionboxlaw01.OctetRows': WHATEVER THE INPUT: true; the input reads as it did. -/
def octetRowsSpec : ChangeSpec := { name := "octetRows", fn := fun _ => fun
  | [d1, d2, d3] => { results := [.lit (.bool true)], args := [d1, d2, d3] }
  | _ => none }
def octetRowsRow : OpenClaim := { program := "ytemkeeoolffokaa", sum := "9596c881613a2fdac1864d3a8b60e2cf3aa369e645df87a1d4c36a2e075a267f", func := "junctionbox/junctionboxlaw01.OctetRows", spec := "octetRows", inPlace := ["internal/bytealg.Compare"], unfollowed := true, recurses := true, apart := false }
def OctetRowsSaid : Prop := octetRowsRow.holds Try.pinned (OpenSpec.ofChange octetRowsSpec)

/-- ITS FALSE NEIGHBOUR: 'it returns false'. Refute it at one input. -/
def octetRowsWrong : ChangeSpec := { name := "octetRows", fn := fun _ => fun
  | [d1, d2, d3] => { results := [.lit (.bool false)], args := [d1, d2, d3] }
  | _ => none }
def OctetRowsWrongFalsely : Prop := octetRowsRow.holds Try.pinned (OpenSpec.ofChange octetRowsWrong)

/- THE SECOND FORM. 'bulk': how many values and letters a reading holds, each counted each time it is reached (what is shared counts as often as it is met; a slice's spare places count too). A statement '..UptoSaid' is the law's where the arguments, and the package variables that the reading takes, are together of bulk at most 1048576: NARROWER than '..Said'. Prove '..Said' where nothing that the law and all that it calls make is longer than what came in: it says more and counts as full. Else prove '..UptoSaid'. A law counts once. -/
mutual
def uptoBulk {H : Type} : DataW H → Nat
  | .lit (.string bytes) => bytes.length + 1
  | .lit _ => 1
  | .nil => 1
  | .ptr d => uptoBulk d + 1
  | .slice elems spare => uptoBulkAll elems + uptoBulkAll spare + 1
  | .agg parts => uptoBulkAll parts + 1
  | .iface _ d => uptoBulk d + 1
  | .map entries => uptoBulkEntries entries + 1
  | .held _ => 1
def uptoBulkAll {H : Type} : List (DataW H) → Nat
  | [] => 0
  | d :: r => uptoBulk d + uptoBulkAll r
def uptoBulkEntries {H : Type} : List (Lit × DataW H) → Nat
  | [] => 0
  | x :: r => uptoBulkEntry x + uptoBulkEntries r
def uptoBulkEntry {H : Type} : Lit × DataW H → Nat
  | (.string bytes, d) => bytes.length + uptoBulk d + 1
  | (_, d) => uptoBulk d + 1
 end
def uptoSmall : (H : Type) → List (DataW H) → Bool := fun _ ds => decide (uptoBulkAll ds ≤ 1048576)
def OpenSpec.upto (s : _root_.Go.ChangeSpec) : _root_.Go.OpenSpec := { _root_.Go.OpenSpec.ofChange s with cond := some uptoSmall }

/-- 'junctionboxlaw01.OctetBits', WHERE WHAT IT READS IS OF BULK AT MOST 1048576: true; the input reads as it did. -/
def octetBitsUptoRow : OpenClaim := { program := "ytemkeeoolffokaa", sum := "9596c881613a2fdac1864d3a8b60e2cf3aa369e645df87a1d4c36a2e075a267f", func := "junctionbox/junctionboxlaw01.OctetBits", spec := "octetBits", unfollowed := true, recurses := true, apart := false, narrowed := true }
def OctetBitsUptoSaid : Prop := octetBitsUptoRow.holds Try.pinned (OpenSpec.upto octetBitsSpec)

/-- 'junctionboxlaw01.OctetKeeps', WHERE WHAT IT READS IS OF BULK AT MOST 1048576: true; the input reads as it did. -/
def octetKeepsUptoRow : OpenClaim := { program := "ytemkeeoolffokaa", sum := "9596c881613a2fdac1864d3a8b60e2cf3aa369e645df87a1d4c36a2e075a267f", func := "junctionbox/junctionboxlaw01.OctetKeeps", spec := "octetKeeps", unfollowed := true, recurses := true, apart := false, narrowed := true }
def OctetKeepsUptoSaid : Prop := octetKeepsUptoRow.holds Try.pinned (OpenSpec.upto octetKeepsSpec)

/-- 'junctionboxlaw03.SumGoes', WHERE WHAT IT READS IS OF BULK AT MOST 1048576: true; the input reads as it did. -/
def sumGoesUptoRow : OpenClaim := { program := "ytemkeeoolffokaa", sum := "9596c881613a2fdac1864d3a8b60e2cf3aa369e645df87a1d4c36a2e075a267f", func := "junctionbox/junctionboxlaw03.SumGoes", spec := "sumGoes", unfollowed := true, recurses := true, apart := false, narrowed := true }
def SumGoesUptoSaid : Prop := sumGoesUptoRow.holds Try.pinned (OpenSpec.upto sumGoesSpec)

/-- 'junctionboxlaw03.SumSeals', WHERE WHAT IT READS IS OF BULK AT MOST 1048576: true; the input reads as it did. -/
def sumSealsUptoRow : OpenClaim := { program := "ytemkeeoolffokaa", sum := "9596c881613a2fdac1864d3a8b60e2cf3aa369e645df87a1d4c36a2e075a267f", func := "junctionbox/junctionboxlaw03.SumSeals", spec := "sumSeals", unfollowed := true, recurses := true, apart := false, narrowed := true }
def SumSealsUptoSaid : Prop := sumSealsUptoRow.holds Try.pinned (OpenSpec.upto sumSealsSpec)

/-- 'junctionboxlaw03.SumOpened', WHERE WHAT IT READS IS OF BULK AT MOST 1048576: true; the input reads as it did. -/
def sumOpenedUptoRow : OpenClaim := { program := "ytemkeeoolffokaa", sum := "9596c881613a2fdac1864d3a8b60e2cf3aa369e645df87a1d4c36a2e075a267f", func := "junctionbox/junctionboxlaw03.SumOpened", spec := "sumOpened", unfollowed := true, recurses := true, apart := false, narrowed := true }
def SumOpenedUptoSaid : Prop := sumOpenedUptoRow.holds Try.pinned (OpenSpec.upto sumOpenedSpec)

/-- 'junctionboxlaw03.SumBehind', WHERE WHAT IT READS IS OF BULK AT MOST 1048576: true; the input reads as it did. -/
def sumBehindUptoRow : OpenClaim := { program := "ytemkeeoolffokaa", sum := "9596c881613a2fdac1864d3a8b60e2cf3aa369e645df87a1d4c36a2e075a267f", func := "junctionbox/junctionboxlaw03.SumBehind", spec := "sumBehind", unfollowed := true, recurses := true, apart := false, narrowed := true }
def SumBehindUptoSaid : Prop := sumBehindUptoRow.holds Try.pinned (OpenSpec.upto sumBehindSpec)

/-- 'junctionboxlaw03.SumPlace', WHERE WHAT IT READS IS OF BULK AT MOST 1048576: true; the input reads as it did. -/
def sumPlaceUptoRow : OpenClaim := { program := "ytemkeeoolffokaa", sum := "9596c881613a2fdac1864d3a8b60e2cf3aa369e645df87a1d4c36a2e075a267f", func := "junctionbox/junctionboxlaw03.SumPlace", spec := "sumPlace", unfollowed := true, recurses := true, apart := false, narrowed := true }
def SumPlaceUptoSaid : Prop := sumPlaceUptoRow.holds Try.pinned (OpenSpec.upto sumPlaceSpec)

/-- 'junctionboxlaw01.OctetTakes', WHERE WHAT IT READS IS OF BULK AT MOST 1048576: true; the input reads as it did. -/
def octetTakesUptoRow : OpenClaim := { program := "ytemkeeoolffokaa", sum := "9596c881613a2fdac1864d3a8b60e2cf3aa369e645df87a1d4c36a2e075a267f", func := "junctionbox/junctionboxlaw01.OctetTakes", spec := "octetTakes", unfollowed := true, recurses := true, apart := false, narrowed := true }
def OctetTakesUptoSaid : Prop := octetTakesUptoRow.holds Try.pinned (OpenSpec.upto octetTakesSpec)

/-- 'junctionboxlaw01.OctetAtOnce', WHERE WHAT IT READS IS OF BULK AT MOST 1048576: true; the input reads as it did. -/
def octetAtOnceUptoRow : OpenClaim := { program := "ytemkeeoolffokaa", sum := "9596c881613a2fdac1864d3a8b60e2cf3aa369e645df87a1d4c36a2e075a267f", func := "junctionbox/junctionboxlaw01.OctetAtOnce", spec := "octetAtOnce", unfollowed := true, recurses := true, apart := false, narrowed := true }
def OctetAtOnceUptoSaid : Prop := octetAtOnceUptoRow.holds Try.pinned (OpenSpec.upto octetAtOnceSpec)

/-- 'junctionboxlaw01.OctetGoes', WHERE WHAT IT READS IS OF BULK AT MOST 1048576: true; the input reads as it did. -/
def octetGoesUptoRow : OpenClaim := { program := "ytemkeeoolffokaa", sum := "9596c881613a2fdac1864d3a8b60e2cf3aa369e645df87a1d4c36a2e075a267f", func := "junctionbox/junctionboxlaw01.OctetGoes", spec := "octetGoes", unfollowed := true, recurses := true, apart := false, narrowed := true }
def OctetGoesUptoSaid : Prop := octetGoesUptoRow.holds Try.pinned (OpenSpec.upto octetGoesSpec)

/-- 'junctionboxlaw01.OctetRows', WHERE WHAT IT READS IS OF BULK AT MOST 1048576: true; the input reads as it did. -/
def octetRowsUptoRow : OpenClaim := { program := "ytemkeeoolffokaa", sum := "9596c881613a2fdac1864d3a8b60e2cf3aa369e645df87a1d4c36a2e075a267f", func := "junctionbox/junctionboxlaw01.OctetRows", spec := "octetRows", inPlace := ["internal/bytealg.Compare"], unfollowed := true, recurses := true, apart := false, narrowed := true }
def OctetRowsUptoSaid : Prop := octetRowsUptoRow.holds Try.pinned (OpenSpec.upto octetRowsSpec)

end Rows
end Go.Proofs.Ytemkeeoolffokaa
