/- The walk of PrefixChecks, as the row asks it. -/
import Derived.Test.YtcloepjeckbmoaaDoorPfxLaw1
namespace Go.Proofs.YtcloepjeckbmoaaDoor
open Go.RowKit
set_option linter.unusedVariables false
set_option linter.unusedSimpArgs false

theorem wf_le {x : Int} (h : (Lit.int .i64 x).wf = true) : x ≤ 9223372036854775807 := by
  simp [Lit.wf, IntKind.min, IntKind.max, IntKind.bits, IntKind.signed] at h; omega
theorem rn_rb {w : World} {A : Option Addr} {n c : Nat} {xs : List Int} (h : RN w .u8 A n c xs) : RB w A n c xs := h.bytes
theorem prefixChecks_walk (v : Int) (l : List Int) (p : Pfx) (k : Int) (w : World) (hL : Laid w) (hl : B16 l) (hv : (Lit.int .i64 v).wf = true) (hp : p.ok) (hk : (Lit.int .i64 k).wf = true) :
    Calls Tryd.prog 3 #[.agg (adrV v l), .agg (pfxV p.v p.l p.b), .int .i64 k] w fun e w' => e = .returned (.bool true) ∧ Below w.heap.size w w' := prefixChecks_any v l p k w hL hl hp.l (wf_le hp.b)
end Go.Proofs.YtcloepjeckbmoaaDoor
