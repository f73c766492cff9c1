/- The table of widths: what the row's condition gives the walks; the door's own heap meets it. -/
import Derived.Test.YtcloepjeckbmoaaDoorRowKit
import Derived.Test.YtcloepjeckbmoaaDoorPfx1
import Derived.LaidMore
import Derived.Stop.Joined
namespace Go.Proofs.YtcloepjeckbmoaaDoor
open Go.ChangeShapes Go.WideShapes Go.ChangeAt Go.RowKit
set_option linter.unusedVariables false
set_option linter.unusedSimpArgs false
abbrev laid1 : List (String × DataW Unit) := [("junctionbox/prefix.widths", Rows.laid_junctionbox_prefix_widths)]
theorem gWidths : Tryd.prog.globalNamed "junctionbox/prefix.widths" = some 0 := by kernel_rfl
theorem tWidths : (Tryd.prog.globals[0]?).map (·.type) = some 61 := by kernel_rfl
theorem door_met (os : Os) (args : Array Value) : laidMetH Tryd.prog laid1 ((World.doorLaid Tryd.prog 400 os).forCall (fun _ _ => 0) ⟨#[], args, []⟩).memory :=
  laidMetH_of_parts3 (fuel := 8) (laidMet_of_run' 8 (by kernel_rfl) (by kernel_rfl)) (by kernel_rfl) (by kernel_rfl)
theorem of_laid {W : World} (h : laidMetH Tryd.prog laid1 W) : Laid W := by
  rw [MakeChecks.laidMetH_plain _ _ _ (by kernel_rfl)] at h
  obtain ⟨ps, ⟨g0, t0, cs0, f0, p0, q0, hg0, ht0, hv0, hd0, _, _⟩, _, _⟩ := h
  obtain rfl := Option.some.inj (gWidths.symm.trans hg0)
  obtain rfl := Option.some.inj (tWidths.symm.trans ht0)
  obtain ⟨xs, m1, rfl, hx1, hlen, hn7, hel⟩ := DataW.trod_array Tryd.underlying61 hd0
  have c1 : Tryd.prog.cellsOf 3 = 1 := by kernel_rfl
  simp only [Prod.mk.injEq, DataW.agg.injEq] at hx1
  have hx2 : [.lit (.int .i64 0), .lit (.int .i64 0), .lit (.int .i64 0), .lit (.int .i64 0), .lit (.int .i64 32), .lit (.int .i64 0), .lit (.int .i64 128)] = xs.map (·.1) := DataW.agg.inj hx1.1
  have hat : ∀ (i : Nat) (n : Int), i < 7 → (xs.map (·.1))[i]? = some (.lit (.int .i64 n)) → W.cell? ⟨0, i, none⟩ = some (.int .i64 n) := by
    intro i n hi hxi
    have h0 := hel i hi
    rw [c1, Nat.mul_one] at h0
    rw [List.getElem?_map] at hxi
    cases hx : xs[i]? with
    | none => rw [hx] at hxi; cases hxi
    | some x0 =>
      rw [hx] at h0 hxi
      obtain ⟨k, e1, e2, -⟩ := DataW.trod_int Tryd.underlying3 h0
      have hk : k = n := by
        rw [e2] at hxi
        simpa using hxi
      have hc := World.var?_cell hg0 hv0 i
      rw [hc, ← hk]
      have h2 := congrArg (fun l => l[0]?) e1
      simpa [List.getElem?_take, List.getElem?_drop] using h2
  refine ⟨fun i hi => hat i _ hi ?_⟩
  rw [← hx2]
  match i, hi with
  | 0, _ => rfl
  | 1, _ => rfl
  | 2, _ => rfl
  | 3, _ => rfl
  | 4, _ => rfl
  | 5, _ => rfl
  | 6, _ => rfl
end Go.Proofs.YtcloepjeckbmoaaDoor
