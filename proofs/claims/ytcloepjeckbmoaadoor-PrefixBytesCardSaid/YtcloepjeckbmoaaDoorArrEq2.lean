/- The comparison of two arrays as an operation. -/
import Derived.Test.YtcloepjeckbmoaaDoorArrEq
namespace Go.Proofs.YtcloepjeckbmoaaDoor
open Go.RowKit
set_option linter.unusedVariables false
set_option linter.unusedSimpArgs false
theorem arr_eql_exec {r : Operand → Value} {o : Oper} {x y : Operand} {ty : TypeId} (ho : o.op = .binOp .eql 22 x y ty) (l m : List Int) (hx : r x = .agg (arrV l)) (hy : r y = .agg (arrV m)) (hl : B16 l) (hm : B16 m) (w : World) :
    (execOp r o).run Tryd.prog w = .ok (.value (.bool (decide (l = m)))) w := by
  have hgt : Tryd.prog.eqGuardType Tryd.prog.depth 22 = false := by kernel_rfl
  have hg : (eqGuard .eql 22 x y (.agg (arrV l)) (.agg (arrV m))).run Tryd.prog w = .ok () w := by
    simp [eqGuard, Sem.run_bind, run_program, hgt]
  have hq : (binOp .eql 22 (.agg (arrV l)) (.agg (arrV m))).run Tryd.prog w = .ok (.bool (decide (l = m))) w := by
    show ((do pure (Value.bool (← Op.equal 22 (.agg (arrV l)) (.agg (arrV m)))) : Sem Value)).run Tryd.prog w = _
    rw [Sem.run_bind, arr_equal l m hl hm w]
    rfl
  unfold execOp
  simp only [ho, hx, hy, Sem.run_bind, hg, hq, Result.andThen_ok, Sem.run_pure]
end Go.Proofs.YtcloepjeckbmoaaDoor
