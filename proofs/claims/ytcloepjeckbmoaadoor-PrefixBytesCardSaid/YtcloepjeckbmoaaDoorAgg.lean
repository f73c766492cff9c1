/- Values of several cells: out of a block, into a block, as results. -/
import Derived.Test.YtcloepjeckbmoaaDoorMix
import Derived.Deep.MidRow
namespace Go.Proofs.YtcloepjeckbmoaaDoor
open Go.RowKit
set_option linter.unusedVariables false
set_option linter.unusedSimpArgs false

/-- Cells written over others from a place on. -/
def splice (cs : Array Value) (o : Nat) (vs : List Value) : Array Value := (cs.toList.take o ++ vs ++ cs.toList.drop (o + vs.length)).toArray
theorem splice_all (cs : Array Value) (vs : List Value) (h : vs.length = cs.size) : splice cs 0 vs = vs.toArray := by
  unfold splice
  rw [List.drop_of_length_le (by simp [h])]
  simp
theorem splice_get (cs : Array Value) (o : Nat) (vs : List Value) (ho : o + vs.length ≤ cs.size) (j : Nat) : (splice cs o vs)[j]? = if o ≤ j ∧ j < o + vs.length then vs[j - o]? else cs[j]? := by
  have hl : (cs.toList.take o).length = o := by rw [List.length_take, Array.length_toList]; omega
  have e : (splice cs o vs)[j]? = (cs.toList.take o ++ (vs ++ cs.toList.drop (o + vs.length)))[j]? := by
    unfold splice
    rw [List.append_assoc]
    exact List.getElem?_toArray ..
  have e2 : cs[j]? = cs.toList[j]? := (Array.getElem?_toList ..).symm
  rw [e, e2]
  by_cases h4 : j < o
  · rw [if_neg (by omega), List.getElem?_append_left (by omega), List.getElem?_take, if_pos h4]
  · rw [List.getElem?_append_right (by omega), hl]
    by_cases h5 : j < o + vs.length
    · rw [if_pos (by omega), List.getElem?_append_left (by omega)]
    · rw [if_neg (by omega), List.getElem?_append_right (by omega), List.getElem?_drop]
      congr 1
      omega
section
variable {P : Program} {w : World} {g : Nat} {t : TypeId} {cs : Array Value}
theorem blk_there (h : w.heap[g]? = some (.cells cs t (0, 0))) (o n : Nat) (hn : o + n ≤ cs.size) : w.there g o n := fun j hj => by
  rw [blk_cell h, blk_frozen h, Array.getElem?_eq_getElem (by omega)]
  exact ⟨rfl, rfl⟩
theorem set_blk (h : w.heap[g]? = some (.cells cs t (0, 0))) (o : Nat) (vs : List Value) (ho : o + vs.length ≤ cs.size) : (w.setCells g o vs).heap[g]? = some (.cells (splice cs o vs) t (0, 0)) := by
  obtain ⟨cur', h1, h2, h3⟩ := setCells_row vs o w cs h ho
  rw [h1, show cur' = splice cs o vs from Array.ext_getElem? (fun j => (h3 j).trans (splice_get cs o vs ho j).symm)]
theorem run_store_blk (h : w.heap[g]? = some (.cells cs t (0, 0))) (ty : TypeId) (o : Nat) (cells : Array Value) (hfit : o + cells.size ≤ cs.size) (hi : (P.info? ty).map (·.size) = some cells.size) (h1 : cells.all (·.oneCell') = true) :
    ∃ w', (Instr.storeAt ty (.pointer (some ⟨g, o, none⟩)) (.agg cells)).run P w = .ok () w' ∧ w.grownBy w' (some g) ∧ w'.heap.size = w.heap.size ∧ w'.heap[g]? = some (.cells (splice cs o cells.toList) t (0, 0)) :=
  ⟨_, run_storeAt_mid w g o ty cells (blk_there h o _ hfit) hi h1, setCells_grown g o _ w, (setCells_same g _ o w).2.2.2, set_blk h o _ (by simpa using hfit)⟩
theorem wpList_store_blk {ops : Array Oper} {rest : List Oper} {op : Oper} {a : Act} {Q : Exit → Act → World → Prop} (hb : w.heap[g]? = some (.cells cs t (0, 0))) (ty : TypeId) (o : Nat) (cells : Array Value)
    (hfit : o + cells.size ≤ cs.size) (hi : (P.info? ty).map (·.size) = some cells.size) (h1 : cells.all (·.oneCell') = true)
    (x y : Operand) (ho : op.op = .store ty x y) (hx : a.eval x = .pointer (some ⟨g, o, none⟩)) (hy : a.eval y = .agg cells) (hw : Region.wanted op (yielded ops a.tmps) = true)
    (h : ∀ w', w.grownBy w' (some g) → w'.heap.size = w.heap.size → w'.heap[g]? = some (.cells (splice cs o cells.toList) t (0, 0)) → wpList P ops Q rest (a.put op.dst undef) w') : wpList P ops Q (op :: rest) a w := by
  obtain ⟨w', hr, h2, h3, h4⟩ := run_store_blk (P := P) hb ty o cells hfit hi h1
  refine wpList_step (fun K hK => ?_)
  rw [if_pos hw]
  unfold Oper.wp execOp
  simp only [ho, hx, hy, Sem.run_bind, hr, Result.andThen_ok, Sem.run_pure]
  exact hK _ _ (h w' h2 h3 h4)
theorem oper_store_blk {op : Oper} {a : Act} {K : Act → World → Prop} {Q : Exit → Act → World → Prop} (hb : w.heap[g]? = some (.cells cs t (0, 0))) (ty : TypeId) (o : Nat) (cells : Array Value)
    (hfit : o + cells.size ≤ cs.size) (hi : (P.info? ty).map (·.size) = some cells.size) (h1 : cells.all (·.oneCell') = true)
    (x y : Operand) (ho : op.op = .store ty x y) (hx : a.eval x = .pointer (some ⟨g, o, none⟩)) (hy : a.eval y = .agg cells)
    (h : ∀ w', w.grownBy w' (some g) → w'.heap.size = w.heap.size → w'.heap[g]? = some (.cells (splice cs o cells.toList) t (0, 0)) → K (a.put op.dst undef) w') : op.wp P a w K Q := by
  obtain ⟨w', hr, h2, h3, h4⟩ := run_store_blk (P := P) hb ty o cells hfit hi h1
  unfold Oper.wp execOp
  simp only [ho, hx, hy, Sem.run_bind, hr, Result.andThen_ok, Sem.run_pure]
  exact h w' h2 h3 h4
theorem loadVar_of {ty : TypeId} {ad : Addr} {v : Value} (h : (Instr.loadAt ty (.pointer (some ad))).run P w = .ok v w) : (loadVar ty ad).run P w = .ok v w := by
  simpa only [Instr.loadAt, Instr.sureAddr, Sem.run_bind, Sem.run_pure, Result.andThen_ok] using h
theorem results_c1 {fn : Func} {p : Tmp} {ty : TypeId} {ad : Addr} {v : Value} {tmps : Array Value} (h : fn.results = #[.cell p ty]) (hp : tmps.getD p undef = .pointer (some ad)) (hl : (Instr.loadAt ty (.pointer (some ad))).run P w = .ok v w) :
    (results fn tmps).run P w = .ok v w := by
  have hp' : tmps[p]?.getD undef = .pointer (some ad) := by simpa using hp
  simp [results, h, hp', asAddr, loadVar_of hl]
theorem results_c2 {fn : Func} {p u : Tmp} {ty : TypeId} {ad : Addr} {v : Value} {tmps : Array Value} (h : fn.results = #[.cell p ty, .tmp u]) (hp : tmps.getD p undef = .pointer (some ad)) (hl : (Instr.loadAt ty (.pointer (some ad))).run P w = .ok v w) :
    (results fn tmps).run P w = .ok (.tuple #[v, tmps.getD u undef]) w := by
  have hp' : tmps[p]?.getD undef = .pointer (some ad) := by simpa using hp
  simp [results, h, hp', asAddr, loadVar_of hl]
theorem results_c3 {fn : Func} {p u x : Tmp} {ty : TypeId} {ad : Addr} {v : Value} {tmps : Array Value} (h : fn.results = #[.cell p ty, .tmp u, .tmp x]) (hp : tmps.getD p undef = .pointer (some ad)) (hl : (Instr.loadAt ty (.pointer (some ad))).run P w = .ok v w) :
    (results fn tmps).run P w = .ok (.tuple #[v, tmps.getD u undef, tmps.getD x undef]) w := by
  have hp' : tmps[p]?.getD undef = .pointer (some ad) := by simpa using hp
  simp [results, h, hp', asAddr, loadVar_of hl]
end
theorem oper_exec {P : Program} {o : Oper} {a : Act} {w w' : World} {K : Act → World → Prop} {Q : Exit → Act → World → Prop} {v : Value} (hrun : (execOp a.eval o).run P w = .ok (.value v) w') (h : K (a.put o.dst v) w') : o.wp P a w K Q := by
  unfold Oper.wp
  rw [hrun]
  exact h
theorem oper_append_bytes {o : Oper} {a : Act} {K : Act → World → Prop} {Q : Exit → Act → World → Prop} {W : World} (s x : Operand) (ho : o.op = .call { callee := .builtin .append, args := #[s, x], argTypes := #[35, 35] })
    {base : Nat} {A : Option Addr} {n c : Nat} {xs : List Int} {A2 : Option Addr} {m c2 : Nat} {ys : List Int} (hs : a.eval s = .slice A n c) (hx : a.eval x = .slice A2 m c2)
    (HO : OB W base A n c xs) (HR : RB W A2 m c2 ys) (hbase : base ≤ W.heap.size) (hl : n + m ≤ 140737488355328)
    (h : ∀ A' c' w', OB w' base A' (n + m) c' (xs ++ ys) → W.grownBy w' ((Value.slice A n c).ownBlock) → (A' = A ∨ ∀ ad, A' = some ad → W.heap.size ≤ ad.block) → K (a.put o.dst (.slice A' (n + m) c')) w') : o.wp Tryd.prog a W K Q := by
  obtain ⟨A', c', w', h1, h2, h3, h4⟩ := run_append_bytes W base o.type A n c xs A2 m c2 ys HO HR hbase hl
  exact oper_exec (exec_append s x _ ho hs hx h1) (h _ _ _ h2 h3 h4)
/-- Behind a write to a block of the call's own. -/
theorem below_grown {w w1 w2 : World} {g : Nat} (hb : Below w.heap.size w w1) (hg : w1.grownBy w2 (some g)) (h : w.heap.size ≤ g) : Below w.heap.size w w2 :=
  hb.grown hg hb.size (fun k hk => by injection hk with hk; omega)
end Go.Proofs.YtcloepjeckbmoaaDoor
