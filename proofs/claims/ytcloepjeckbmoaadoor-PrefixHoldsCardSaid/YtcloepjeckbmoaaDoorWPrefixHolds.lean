/- The walk of PrefixHolds, as the row asks it. -/
import Derived.Test.YtcloepjeckbmoaaDoorPfxLaw2
namespace Go.Proofs.YtcloepjeckbmoaaDoor
open Go.RowKit
set_option linter.unusedVariables false
set_option linter.unusedSimpArgs false

theorem wf_le {x : Int} (h : (Lit.int .i64 x).wf = true) : x ≤ 9223372036854775807 := by
  simp [Lit.wf, IntKind.min, IntKind.max, IntKind.bits, IntKind.signed] at h; omega
theorem rn_rb {w : World} {A : Option Addr} {n c : Nat} {xs : List Int} (h : RN w .u8 A n c xs) : RB w A n c xs := h.bytes
theorem prefixHolds_walk (p q : Pfx) (v : Int) (l : List Int) (w : World) (hL : Laid w) (hp : p.ok) (hq : q.ok) (hl : B16 l) (hv : (Lit.int .i64 v).wf = true) :
    Calls Tryd.prog 8 #[.agg (pfxV p.v p.l p.b), .agg (pfxV q.v q.l q.b), .agg (adrV v l)] w fun e w' => e = .returned (.bool true) ∧ Below w.heap.size w w' := prefixHolds_any p q v l w hL hp.l hq.l hl (wf_le hp.b) (wf_le hq.b)
end Go.Proofs.YtcloepjeckbmoaaDoor
