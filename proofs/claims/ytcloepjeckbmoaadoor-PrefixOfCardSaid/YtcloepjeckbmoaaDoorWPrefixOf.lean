/- The walk of PrefixOf, as the row asks it. -/
import Derived.Test.YtcloepjeckbmoaaDoorPfxLaw3
namespace Go.Proofs.YtcloepjeckbmoaaDoor
open Go.RowKit
set_option linter.unusedVariables false
set_option linter.unusedSimpArgs false

theorem wf_le {x : Int} (h : (Lit.int .i64 x).wf = true) : x ≤ 9223372036854775807 := by
  simp [Lit.wf, IntKind.min, IntKind.max, IntKind.bits, IntKind.signed] at h; omega
theorem rn_rb {w : World} {A : Option Addr} {n c : Nat} {xs : List Int} (h : RN w .u8 A n c xs) : RB w A n c xs := h.bytes
theorem prefixOf_walk (v : Int) (l : List Int) (k m : Int) (w : World) (hL : Laid w) (hl : B16 l) (hv : (Lit.int .i64 v).wf = true) (hk : (Lit.int .i64 k).wf = true) (hm : (Lit.int .i64 m).wf = true) :
    Calls Tryd.prog 6 #[.agg (adrV v l), .int .i64 k, .int .i64 m] w fun e w' => e = .returned (.bool true) ∧ Below w.heap.size w w' := prefixOf_any v l k m w hL hl hv hk hm
end Go.Proofs.YtcloepjeckbmoaaDoor
