/- The walk of PrefixOrders, as the row asks it. -/
import Derived.Test.YtcloepjeckbmoaaDoorPfxLaw4
namespace Go.Proofs.YtcloepjeckbmoaaDoor
open Go.RowKit
set_option linter.unusedVariables false
set_option linter.unusedSimpArgs false

theorem wf_le {x : Int} (h : (Lit.int .i64 x).wf = true) : x ≤ 9223372036854775807 := by
  simp [Lit.wf, IntKind.min, IntKind.max, IntKind.bits, IntKind.signed] at h; omega
theorem rn_rb {w : World} {A : Option Addr} {n c : Nat} {xs : List Int} (h : RN w .u8 A n c xs) : RB w A n c xs := h.bytes
theorem prefixOrders_walk (p q r : Pfx) (w : World) (hL : Laid w) (hp : p.ok) (hq : q.ok) (hr : r.ok) :
    Calls Tryd.prog 9 #[.agg (pfxV p.v p.l p.b), .agg (pfxV q.v q.l q.b), .agg (pfxV r.v r.l r.b)] w fun e w' => e = .returned (.bool true) ∧ Below w.heap.size w w' := prefixOrders_any p q r w hL hp hq hr
end Go.Proofs.YtcloepjeckbmoaaDoor
