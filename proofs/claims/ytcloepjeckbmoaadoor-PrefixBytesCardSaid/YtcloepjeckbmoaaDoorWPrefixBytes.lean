/- The walk of PrefixBytes, as the row asks it. -/
import Derived.Test.YtcloepjeckbmoaaDoorPfxLaw6
namespace Go.Proofs.YtcloepjeckbmoaaDoor
open Go.RowKit
set_option linter.unusedVariables false
set_option linter.unusedSimpArgs false

theorem wf_le {x : Int} (h : (Lit.int .i64 x).wf = true) : x ≤ 9223372036854775807 := by
  simp [Lit.wf, IntKind.min, IntKind.max, IntKind.bits, IntKind.signed] at h; omega
theorem rn_rb {w : World} {A : Option Addr} {n c : Nat} {xs : List Int} (h : RN w .u8 A n c xs) : RB w A n c xs := h.bytes
theorem prefixBytes_walk (v : Int) (l : List Int) (p : Pfx) (A : Option Addr) (n c : Nat) (xs : List Int) (w : World) (hL : Laid w) (hl : B16 l) (hv : (Lit.int .i64 v).wf = true) (hp : p.ok) (hr : RN w .u8 A n c xs) (hy : n * 1 ≤ 140737488351232) :
    Calls Tryd.prog 7 #[.agg (adrV v l), .agg (pfxV p.v p.l p.b), .slice A n c] w fun e w' => e = .returned (.bool true) ∧ Below w.heap.size w w' := prefixBytes_any v l p A n c xs w hL hl hp hr.bytes
end Go.Proofs.YtcloepjeckbmoaaDoor
