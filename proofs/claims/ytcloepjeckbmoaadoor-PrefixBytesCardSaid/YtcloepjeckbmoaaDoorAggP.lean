/- Addresses and prefixes, built and written. -/
import Derived.Test.YtcloepjeckbmoaaDoorAgg
import Derived.Test.YtcloepjeckbmoaaDoorPfx3
namespace Go.Proofs.YtcloepjeckbmoaaDoor
open Go.RowKit
set_option linter.unusedVariables false
set_option linter.unusedSimpArgs false

theorem len16 {l : List Int} (h : l.length = 16) : ∃ a b c d e f g h i j k m n o p q : Int, l = [a, b, c, d, e, f, g, h, i, j, k, m, n, o, p, q] := by
  match l, h with
  | [a, b, c, d, e, f, g, h, i, j, k, m, n, o, p, q], _ => exact ⟨a, b, c, d, e, f, g, h, i, j, k, m, n, o, p, q, rfl⟩
abbrev zero16 : List Int := List.replicate 16 0
theorem zero16_B : B16 zero16 := ⟨rfl, fun x hx => by simp [zero16] at hx; omega⟩
theorem built_adr (v : Int) (l : List Int) (h : l.length = 16) : Tryd.prog.built 24 [(0, .int .i64 v), (1, .agg (arrV l))] = some (adrV v l) := by
  obtain ⟨a, b, c, d, e, f, g, h, i, j, k, m, n, o, p, q, rfl⟩ := len16 h
  kernel_rfl
theorem built_adr0 (v : Int) : Tryd.prog.built 24 [(0, .int .i64 v)] = some (adrV v zero16) := by
  kernel_rfl
theorem built_pfx (v : Int) (l : List Int) (x : Int) (h : l.length = 16) : Tryd.prog.built 26 [(0, .agg (adrV v l)), (1, .int .i64 x)] = some (pfxV v l x) := by
  obtain ⟨a, b, c, d, e, f, g, h, i, j, k, m, n, o, p, q, rfl⟩ := len16 h
  kernel_rfl
theorem run_build_adr (w : World) (v : Int) (l : List Int) (h : l.length = 16) : (Instr.build 24 #[(0, .int .i64 v), (1, .agg (arrV l))]).run Tryd.prog w = .ok (.agg (adrV v l)) w := run_build w _ _ _ (built_adr v l h)
theorem run_build_adr0 (w : World) (v : Int) : (Instr.build 24 #[(0, .int .i64 v)]).run Tryd.prog w = .ok (.agg (adrV v zero16)) w := run_build w _ _ _ (built_adr0 v)
theorem run_build_pfx (w : World) (v : Int) (l : List Int) (x : Int) (h : l.length = 16) : (Instr.build 26 #[(0, .agg (adrV v l)), (1, .int .i64 x)]).run Tryd.prog w = .ok (.agg (pfxV v l x)) w := run_build w _ _ _ (built_pfx v l x h)
theorem run_build_pfx_nil (w : World) : (Instr.build 26 #[]).run Tryd.prog w = .ok (.agg (pfxV 0 zero16 0)) w := run_build w _ _ _ (by kernel_rfl)
theorem run_build_adr_nil (w : World) : (Instr.build 24 #[]).run Tryd.prog w = .ok (.agg (adrV 0 zero16)) w := run_build w _ _ _ (by kernel_rfl)
theorem run_build_arr_nil (w : World) : (Instr.build 22 #[]).run Tryd.prog w = .ok (.agg (arrV zero16)) w := run_build w _ _ _ (by kernel_rfl)

theorem arr_size {l : List Int} (h : l.length = 16) : (arrV l).size = 16 := by simp [arrV, nums, h]
theorem adr_size {v : Int} {l : List Int} (h : l.length = 16) : (adrV v l).size = 17 := by simp [adrV, nums, h]
theorem pfx_size {v x : Int} {l : List Int} (h : l.length = 16) : (pfxV v l x).size = 18 := by simp [pfxV, nums, h]
theorem arr_one (l : List Int) : (arrV l).all (·.oneCell') = true := by simp [arrV, nums, Value.oneCell']
theorem adr_one (v : Int) (l : List Int) : (adrV v l).all (·.oneCell') = true := by simp [adrV, nums, Value.oneCell']
theorem pfx_one (v x : Int) (l : List Int) : (pfxV v l x).all (·.oneCell') = true := by simp [pfxV, nums, Value.oneCell']
theorem info_arr {l : List Int} (h : l.length = 16) : (Tryd.prog.info? 22).map (·.size) = some (arrV l).size := by rw [arr_size h]; kernel_rfl
theorem info_adr {v : Int} {l : List Int} (h : l.length = 16) : (Tryd.prog.info? 24).map (·.size) = some (adrV v l).size := by rw [adr_size h]; kernel_rfl
theorem info_pfx {v x : Int} {l : List Int} (h : l.length = 16) : (Tryd.prog.info? 26).map (·.size) = some (pfxV v l x).size := by rw [pfx_size h]; kernel_rfl
theorem splice_adr (v : Int) (l m : List Int) (hl : l.length = 16) (hm : m.length = 16) : splice (adrV v l) 1 (arrV m).toList = adrV v m := by
  unfold splice adrV arrV
  rw [show (Value.int IntKind.i64 v :: nums .u8 l).toArray.toList.drop (1 + (nums .u8 m).toArray.toList.length) = [] from List.drop_of_length_le (by simp [nums, hl, hm])]
  simp
theorem splice_pfx (c : Array Value) (v x : Int) (l : List Int) (hl : l.length = 16) (hc : c.size = 18) : splice c 0 (pfxV v l x).toList = pfxV v l x := by
  rw [splice_all _ _ (by rw [Array.length_toList, pfx_size hl, hc])]
theorem splice_adr0 (c : Array Value) (v : Int) (l : List Int) (hl : l.length = 16) (hc : c.size = 17) : splice c 0 (adrV v l).toList = adrV v l := by
  rw [splice_all _ _ (by rw [Array.length_toList, adr_size hl, hc])]
theorem splice_arr0 (c : Array Value) (l : List Int) (hl : l.length = 16) (hc : c.size = 16) : splice c 0 (arrV l).toList = arrV l := by
  rw [splice_all _ _ (by rw [Array.length_toList, arr_size hl, hc])]

theorem exec_build {P : Program} {r : Operand → Value} {o : Oper} {w : World} (t : TypeId) (parts : Array (Nat × Operand)) (ho : o.op = .build t parts) (vs : Array (Nat × Value)) (hv : (parts.map fun (i, x) => (i, r x)) = vs) {v : Value} (hr : (Instr.build t vs).run P w = .ok v w) :
    (execOp r o).run P w = .ok (.value v) w := by
  subst hv
  unfold execOp
  simp only [ho, Sem.run_bind, hr, Result.andThen_ok, Sem.run_pure]
theorem exec_build_pfx {r : Operand → Value} {o : Oper} {x y : Operand} {v b : Int} {l : List Int} (ho : o.op = .build 26 #[(0, x), (1, y)]) (hx : r x = .agg (adrV v l)) (hy : r y = .int .i64 b) (hl : l.length = 16) (w : World) :
    (execOp r o).run Tryd.prog w = .ok (.value (.agg (pfxV v l b))) w :=
  exec_build _ _ ho #[(0, .agg (adrV v l)), (1, .int .i64 b)] (by simp [hx, hy]) (run_build_pfx w v l b hl)
theorem exec_build_adr {r : Operand → Value} {o : Oper} {x y : Operand} {v : Int} {l : List Int} (ho : o.op = .build 24 #[(0, x), (1, y)]) (hx : r x = .int .i64 v) (hy : r y = .agg (arrV l)) (hl : l.length = 16) (w : World) :
    (execOp r o).run Tryd.prog w = .ok (.value (.agg (adrV v l))) w :=
  exec_build _ _ ho #[(0, .int .i64 v), (1, .agg (arrV l))] (by simp [hx, hy]) (run_build_adr w v l hl)
section
variable {ops : Array Oper} {rest : List Oper} {o : Oper} {a : Act} {Q : Exit → Act → World → Prop} {w : World} {x y : Operand} {v b : Int} {l : List Int}
theorem wpList_build_pfx (hgd : o.guard = none) (ho : o.op = .build 26 #[(0, x), (1, y)]) (hx : a.eval x = .agg (adrV v l)) (hy : a.eval y = .int .i64 b) (hl : l.length = 16)
    (h : wpList Tryd.prog ops Q rest (a.put o.dst (.agg (pfxV v l b))) w) : wpList Tryd.prog ops Q (o :: rest) a w := wpList_exec hgd (exec_build_pfx ho hx hy hl w) h
theorem wpList_build_adr (hgd : o.guard = none) (ho : o.op = .build 24 #[(0, x), (1, y)]) (hx : a.eval x = .int .i64 v) (hy : a.eval y = .agg (arrV l)) (hl : l.length = 16)
    (h : wpList Tryd.prog ops Q rest (a.put o.dst (.agg (adrV v l))) w) : wpList Tryd.prog ops Q (o :: rest) a w := wpList_exec hgd (exec_build_adr ho hx hy hl w) h
end
end Go.Proofs.YtcloepjeckbmoaaDoor
