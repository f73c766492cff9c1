/- The walk of PrefixBack, as the row asks it. -/
import Derived.Test.YtcloepjeckbmoaaDoorPfxLaw5
namespace Go.Proofs.YtcloepjeckbmoaaDoor
open Go.RowKit
set_option linter.unusedVariables false
set_option linter.unusedSimpArgs false

theorem wf_le {x : Int} (h : (Lit.int .i64 x).wf = true) : x ≤ 9223372036854775807 := by
  simp [Lit.wf, IntKind.min, IntKind.max, IntKind.bits, IntKind.signed] at h; omega
theorem rn_rb {w : World} {A : Option Addr} {n c : Nat} {xs : List Int} (h : RN w .u8 A n c xs) : RB w A n c xs := h.bytes
theorem prefixBack_walk (p : Pfx) (k : Int) (A : Option Addr) (n c : Nat) (xs : List Int) (w : World) (hL : Laid w) (hp : p.ok) (hk : (Lit.int .i64 k).wf = true) (hr : RN w .u8 A n c xs) (hy : n * 1 ≤ 140737488351232) :
    Calls Tryd.prog 4 #[.agg (pfxV p.v p.l p.b), .int .i64 k, .slice A n c] w fun e w' => e = .returned (.bool true) ∧ Below w.heap.size w w' := prefixBack_any p k A n c xs w hL hp hr.bytes (wf_le hk)
end Go.Proofs.YtcloepjeckbmoaaDoor
