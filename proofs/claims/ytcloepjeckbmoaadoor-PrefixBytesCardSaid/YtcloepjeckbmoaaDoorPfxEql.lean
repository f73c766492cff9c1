/- Two prefixes, two addresses, held equal. -/
import Derived.Test.YtcloepjeckbmoaaDoorAggP
import Derived.Test.YtcloepjeckbmoaaDoorArrEq2
import Derived.DeepKeys
namespace Go.Proofs.YtcloepjeckbmoaaDoor
open Go.RowKit
set_option linter.unusedVariables false
set_option linter.unusedSimpArgs false

def lits (k : IntKind) (l : List Int) : List Lit := l.map fun x => .int k x
theorem keyl_arr (l : List Int) (hl : B16 l) : Tryd.prog.keyLits 2 22 (nums .u8 l) = some (lits .u8 l) := by
  have hk := keys_arr l hl
  have he : (arrV l).toList = nums .u8 l := by simp [arrV]
  rw [he] at hk
  unfold Program.keyLits
  rw [Tryd.underlying22]
  simp only
  rw [if_pos (by rw [show (nums .u8 l).length = 16 by simp [nums, hl.len]]; kernel_rfl), hk]
  simp only [Option.map_some, flat1]
  congr 1
  unfold lits
  apply List.ext_getElem
  · simp [hl.len]
  · intro i h1 h2
    simp only [List.length_map, List.length_range] at h1
    simp [rd, List.getD_eq_getElem?_getD, hl.len, h1]
theorem keyl_int (d : Nat) (v : Int) (hv : (Lit.int .i64 v).wf = true) : Tryd.prog.keyLits (d + 1) 3 [.int .i64 v] = some [.int .i64 v] := by
  unfold Program.keyLits
  rw [Tryd.underlying3]
  simp only
  rw [if_pos ⟨trivial, hv⟩]
theorem keyl_adr (v : Int) (l : List Int) (hl : B16 l) (hv : (Lit.int .i64 v).wf = true) : Tryd.prog.keyLits 3 24 (adrV v l).toList = some (.int .i64 v :: lits .u8 l) := by
  unfold Program.keyLits
  rw [Tryd.underlying24]
  simp only
  have h1 : (adrV v l).toList = .int .i64 v :: nums .u8 l := by simp [adrV]
  rw [h1, if_pos ⟨by rw [show (Value.int IntKind.i64 v :: nums .u8 l).length = 17 by simp [nums, hl.len]]; kernel_rfl, by kernel_rfl⟩]
  have c1 : Tryd.prog.cellsOf 3 = 1 := by kernel_rfl
  have c2 : Tryd.prog.cellsOf 22 = 16 := by kernel_rfl
  simp only [List.mapM_cons, List.mapM_nil, c1, c2, List.drop_zero, List.take_succ_cons, List.take_zero, List.drop_succ_cons]
  rw [keyl_int 1 v hv, List.take_of_length_le (by simp [nums, hl.len]), keyl_arr l hl]
  simp
theorem keyl_pfx (v : Int) (l : List Int) (b : Int) (hl : B16 l) (hv : (Lit.int .i64 v).wf = true) (hb : (Lit.int .i64 b).wf = true) : Tryd.prog.keyLits 4 26 (pfxV v l b).toList = some (.int .i64 v :: lits .u8 l ++ [.int .i64 b]) := by
  unfold Program.keyLits
  rw [Tryd.underlying26]
  simp only
  have h1 : (pfxV v l b).toList = .int .i64 v :: (nums .u8 l ++ [.int .i64 b]) := by simp [pfxV]
  rw [h1, if_pos ⟨by rw [show (Value.int IntKind.i64 v :: (nums .u8 l ++ [Value.int IntKind.i64 b])).length = 18 by simp [nums, hl.len]]; kernel_rfl, by kernel_rfl⟩]
  have c1 : Tryd.prog.cellsOf 24 = 17 := by kernel_rfl
  have c2 : Tryd.prog.cellsOf 3 = 1 := by kernel_rfl
  have hln : (nums .u8 l).length = 16 := by simp [nums, hl.len]
  have e1 : (Value.int IntKind.i64 v :: (nums .u8 l ++ [Value.int IntKind.i64 b])).take 17 = (adrV v l).toList := by
    simp [adrV, List.take_append, hln]
  have e2 : (Value.int IntKind.i64 v :: (nums .u8 l ++ [Value.int IntKind.i64 b])).drop 17 = [.int .i64 b] := by
    simp [List.drop_append, hln]
  simp only [List.mapM_cons, List.mapM_nil, c1, c2, List.drop_zero]
  rw [e1, e2, keyl_adr v l hl hv]
  simp only [List.take_succ_cons, List.take_zero]
  rw [keyl_int 2 b hb]
  simp
theorem lits_inj {k : IntKind} : ∀ {l m : List Int}, lits k l = lits k m → l = m
  | [], [], _ => rfl
  | [], _ :: _, h => by simp [lits] at h
  | _ :: _, [], h => by simp [lits] at h
  | a :: l, b :: m, h => by
    simp only [lits, List.map_cons, List.cons.injEq, Lit.int.injEq, true_and] at h
    rw [h.1, lits_inj (l := l) (m := m) h.2]
theorem pfx_formed (v : Int) (l : List Int) (b : Int) (hl : B16 l) : (Value.agg (pfxV v l b)).formed Tryd.prog 26 = true := by
  simp only [Value.formed, Tryd.underlying26, pfx_size hl.len]
  kernel_rfl
theorem adr_formed (v : Int) (l : List Int) (hl : B16 l) : (Value.agg (adrV v l)).formed Tryd.prog 24 = true := by
  simp only [Value.formed, Tryd.underlying24, adr_size hl.len]
  kernel_rfl
structure Pfx.ok (p : Pfx) : Prop where
  l : B16 p.l
  v : (Lit.int .i64 p.v).wf = true
  b : (Lit.int .i64 p.b).wf = true
def Pfx.eqB (p q : Pfx) : Bool := decide (p.v = q.v) && decide (p.l = q.l) && decide (p.b = q.b)
theorem Pfx.eqB_iff (p q : Pfx) : p.eqB q = true ↔ p = q := by
  unfold Pfx.eqB
  simp only [Bool.and_eq_true, decide_eq_true_eq]
  constructor
  · rintro ⟨⟨h1, h2⟩, h3⟩
    cases p; cases q
    simp_all
  · rintro rfl
    exact ⟨⟨rfl, rfl⟩, rfl⟩
theorem pfx_equal (p q : Pfx) (hp : p.ok) (hq : q.ok) (w : World) : (Op.equal 26 (.agg (pfxV p.v p.l p.b)) (.agg (pfxV q.v q.l q.b))).run Tryd.prog w = .ok (p.eqB q) w := by
  obtain ⟨r, hr, hiff⟩ := run_equalIn_deep (P := Tryd.prog) 9996 4 26 (by kernel_rfl) w 4 4 (.agg (pfxV p.v p.l p.b)) (.agg (pfxV q.v q.l q.b)) _ _ (pfx_formed _ _ _ hp.l) (pfx_formed _ _ _ hq.l) (keyl_pfx _ _ _ hp.l hp.v hp.b) (keyl_pfx _ _ _ hq.l hq.v hq.b)
  have h2 : (Op.equal 26 (.agg (pfxV p.v p.l p.b)) (.agg (pfxV q.v q.l q.b))).run Tryd.prog w = .ok r w := hr
  rw [h2]
  congr 1
  rw [Bool.eq_iff_iff, hiff, Pfx.eqB_iff]
  constructor
  · intro h
    simp only [List.cons_append, List.cons.injEq, Lit.int.injEq, true_and] at h
    obtain ⟨h3, h4⟩ := h
    obtain ⟨h5, h6⟩ := List.append_inj h4 (by simp [lits, hp.l.len, hq.l.len])
    simp only [List.cons.injEq, Lit.int.injEq, true_and, and_true] at h6
    cases p; cases q
    simp only at h3 h5 h6
    rw [h3, lits_inj h5, h6]
  · rintro rfl
    rfl
theorem adr_equal (v : Int) (l : List Int) (v' : Int) (l' : List Int) (hl : B16 l) (hl' : B16 l') (hv : (Lit.int .i64 v).wf = true) (hv' : (Lit.int .i64 v').wf = true) (w : World) :
    (Op.equal 24 (.agg (adrV v l)) (.agg (adrV v' l'))).run Tryd.prog w = .ok (decide (v = v') && decide (l = l')) w := by
  obtain ⟨r, hr, hiff⟩ := run_equalIn_deep (P := Tryd.prog) 9997 3 24 (by kernel_rfl) w 3 3 (.agg (adrV v l)) (.agg (adrV v' l')) _ _ (adr_formed _ _ hl) (adr_formed _ _ hl') (keyl_adr _ _ hl hv) (keyl_adr _ _ hl' hv')
  have h2 : (Op.equal 24 (.agg (adrV v l)) (.agg (adrV v' l'))).run Tryd.prog w = .ok r w := hr
  rw [h2]
  congr 1
  rw [Bool.eq_iff_iff, hiff]
  simp only [Bool.and_eq_true, decide_eq_true_eq, List.cons.injEq, Lit.int.injEq, true_and]
  exact ⟨fun h => ⟨h.1, lits_inj h.2⟩, fun h => ⟨h.1, by rw [h.2]⟩⟩
section
variable {r : Operand → Value} {o : Oper} {x y : Operand} {ty : TypeId}
theorem exec_eql (t : TypeId) (hgt : Tryd.prog.eqGuardType Tryd.prog.depth t = false) (ho : o.op = .binOp .eql t x y ty) (cx cy : Array Value) (hx : r x = .agg cx) (hy : r y = .agg cy) (w : World) {b : Bool}
    (he : (Op.equal t (.agg cx) (.agg cy)).run Tryd.prog w = .ok b w) : (execOp r o).run Tryd.prog w = .ok (.value (.bool b)) w := by
  have hg : (eqGuard .eql t x y (.agg cx) (.agg cy)).run Tryd.prog w = .ok () w := by
    simp [eqGuard, Sem.run_bind, run_program, hgt]
  have hq : (binOp .eql t (.agg cx) (.agg cy)).run Tryd.prog w = .ok (.bool b) w := by
    show ((do pure (Value.bool (← Op.equal t (.agg cx) (.agg cy))) : Sem Value)).run Tryd.prog w = _
    rw [Sem.run_bind, he]
    rfl
  unfold execOp
  simp only [ho, hx, hy, Sem.run_bind, hg, hq, Result.andThen_ok, Sem.run_pure]
theorem exec_neq (t : TypeId) (hgt : Tryd.prog.eqGuardType Tryd.prog.depth t = false) (ho : o.op = .binOp .neq t x y ty) (cx cy : Array Value) (hx : r x = .agg cx) (hy : r y = .agg cy) (w : World) {b : Bool}
    (he : (Op.equal t (.agg cx) (.agg cy)).run Tryd.prog w = .ok b w) : (execOp r o).run Tryd.prog w = .ok (.value (.bool (!b))) w := by
  have hg : (eqGuard .neq t x y (.agg cx) (.agg cy)).run Tryd.prog w = .ok () w := by
    simp [eqGuard, Sem.run_bind, run_program, hgt]
  have hq : (binOp .neq t (.agg cx) (.agg cy)).run Tryd.prog w = .ok (.bool (!b)) w := by
    show ((do pure (Value.bool (!(← Op.equal t (.agg cx) (.agg cy)))) : Sem Value)).run Tryd.prog w = _
    rw [Sem.run_bind, he]
    rfl
  unfold execOp
  simp only [ho, hx, hy, Sem.run_bind, hg, hq, Result.andThen_ok, Sem.run_pure]
theorem pfx_eql_exec (ho : o.op = .binOp .eql 26 x y ty) (p q : Pfx) (hx : r x = .agg (pfxV p.v p.l p.b)) (hy : r y = .agg (pfxV q.v q.l q.b)) (hp : p.ok) (hq : q.ok) (w : World) : (execOp r o).run Tryd.prog w = .ok (.value (.bool (p.eqB q))) w :=
  exec_eql 26 (by kernel_rfl) ho _ _ hx hy w (pfx_equal p q hp hq w)
theorem pfx_neq_exec (ho : o.op = .binOp .neq 26 x y ty) (p q : Pfx) (hx : r x = .agg (pfxV p.v p.l p.b)) (hy : r y = .agg (pfxV q.v q.l q.b)) (hp : p.ok) (hq : q.ok) (w : World) : (execOp r o).run Tryd.prog w = .ok (.value (.bool (!p.eqB q))) w :=
  exec_neq 26 (by kernel_rfl) ho _ _ hx hy w (pfx_equal p q hp hq w)
theorem adr_eql_exec (ho : o.op = .binOp .eql 24 x y ty) (v : Int) (l : List Int) (v' : Int) (l' : List Int) (hx : r x = .agg (adrV v l)) (hy : r y = .agg (adrV v' l')) (hl : B16 l) (hl' : B16 l') (hv : (Lit.int .i64 v).wf = true) (hv' : (Lit.int .i64 v').wf = true) (w : World) : (execOp r o).run Tryd.prog w = .ok (.value (.bool (decide (v = v') && decide (l = l')))) w :=
  exec_eql 24 (by kernel_rfl) ho _ _ hx hy w (adr_equal v l v' l' hl hl' hv hv' w)
theorem adr_neq_exec (ho : o.op = .binOp .neq 24 x y ty) (v : Int) (l : List Int) (v' : Int) (l' : List Int) (hx : r x = .agg (adrV v l)) (hy : r y = .agg (adrV v' l')) (hl : B16 l) (hl' : B16 l') (hv : (Lit.int .i64 v).wf = true) (hv' : (Lit.int .i64 v').wf = true) (w : World) : (execOp r o).run Tryd.prog w = .ok (.value (.bool (!(decide (v = v') && decide (l = l'))))) w :=
  exec_neq 24 (by kernel_rfl) ho _ _ hx hy w (adr_equal v l v' l' hl hl' hv hv' w)
end
end Go.Proofs.YtcloepjeckbmoaaDoor
