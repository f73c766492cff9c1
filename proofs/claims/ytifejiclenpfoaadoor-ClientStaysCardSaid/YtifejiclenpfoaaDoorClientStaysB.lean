/- The document's answer for layer 5 (junctionboxref05): Right. -/
import Derived.IntWalk
import Derived.Test.YtifejiclenpfoaaDoorClientStaysA
namespace Go.Proofs.YtifejiclenpfoaaDoor
open Go.RowKit
set_option linter.unusedVariables false
set_option linter.unusedSimpArgs false
set_option maxRecDepth 4000

end Go.Proofs.YtifejiclenpfoaaDoor

/- The document's answer for layer 9: Right. -/
namespace Go.Proofs.YtifejiclenpfoaaDoor
open Go.RowKit
set_option linter.unusedVariables false
set_option linter.unusedSimpArgs false
set_option maxRecDepth 4000

def Oks (t : List Row) : Prop := ∀ r ∈ t, r.ok
theorem Oks.at_ {t : List Row} (h : Oks t) {i : Nat} (hi : i < t.length) : (rowAt t i).ok := h _ (List.mem_of_getElem? (rowAt_get hi))
end Go.Proofs.YtifejiclenpfoaaDoor

/- Arguments that are rows and tables, opened. -/
namespace Go.Proofs.YtifejiclenpfoaaDoor
open Go.ChangeShapes Go.WideShapes Go.ChangeAt Go.RowKit
set_option linter.unusedVariables false
set_option linter.unusedSimpArgs false
set_option maxRecDepth 4000
section
variable {H : Type} {enc : TypeId × Value → H} {W : World} {base : Nat} {spare : Nat → Bool} {held : Bool}
end
end Go.Proofs.YtifejiclenpfoaaDoor

/- Layer 11 (route): candidates (Rte, 21 cells) and updates (Upd, 22 cells) in memory, built, held equal. -/
namespace Go.Proofs.YtifejiclenpfoaaDoor
open Go.RowKit
set_option linter.unusedVariables false
set_option linter.unusedSimpArgs false
set_option maxRecDepth 4000
theorem loadr_bool {w : World} {ad : Addr} {v : Value} (h : w.cell? ad = some v) : (Instr.loadAt 4 (.pointer (some ad))).run Tryd.prog w = .ok v w := by
  go_simp
theorem keylr_bool (d : Nat) (f : Bool) : Tryd.prog.keyLits (d + 1) 4 [.bool f] = some [.bool f] := by
  unfold Program.keyLits
  rw [Tryd.underlying4]
structure Rte where
  p : Pfx
  s : Int
  f : Int
  h : Int
structure Upd where
  p : Pfx
  s : Int
  g : Bool
  f : Int
  h : Int
def Rte.fits (r : Rte) : Prop := B16 r.p.l
def Upd.fits (r : Upd) : Prop := B16 r.p.l

def rteC (r : Rte) : List Value := (pfxV r.p.v r.p.l r.p.b).toList ++ [.int .i64 r.s, .int .i64 r.f, .int .i64 r.h]
def rteV (r : Rte) : Array Value := (rteC r).toArray
theorem rteP_len {r : Rte} (h : r.fits) : (pfxV r.p.v r.p.l r.p.b).toList.length = 18 := by rw [Array.length_toList]; exact pfx_size h.len
theorem rteC_len {r : Rte} (h : r.fits) : (rteC r).length = 21 := by
  unfold rteC
  rw [List.length_append, rteP_len h]
  rfl
theorem rteV_size {r : Rte} (h : r.fits) : (rteV r).size = 21 := by simp [rteV, rteC_len h]
theorem rteC_one (r : Rte) : ∀ u ∈ rteC r, u.oneCell' = true := by
  intro u hu
  rcases List.mem_append.1 hu with hu | hu
  · have := pfx_one r.p.v r.p.b r.p.l
    rw [← Array.all_toList, List.all_eq_true] at this
    exact this u hu
  · simp only [List.mem_cons, List.not_mem_nil, or_false] at hu
    rcases hu with rfl | rfl | rfl <;> rfl
def rteZ : Rte := ⟨⟨0, zero16, 0⟩, 0, 0, 0⟩
theorem rteZ_fits : rteZ.fits := zero16_B
theorem zero_rte : (Tryd.prog.info? 121).map (fun i => (i.zero, i.size, i.bytes)) = some (some (.agg (rteV rteZ)), 21, 56) := by kernel_rfl
theorem info_rte {r : Rte} (h : r.fits) : (Tryd.prog.info? 121).map (·.size) = some (rteV r).size := by rw [rteV_size h]; kernel_rfl
def rteK : Shape Rte where
  t := 121
  ts := 35
  sz := 21
  bytes := 56
  z := rteZ
  ok := Rte.fits
  enc := rteC
  val := fun r => .agg (rteV r)
  len := fun _ h => rteC_len h
  one := rteC_one
  okz := rteZ_fits
  pos := by omega
  bpos := by omega
  blt := by omega
  und := Tryd.underlying35
  info := zero_rte
  venc := fun _ => rfl
  ld := fun _ _ _ r hr h => load_cells (cs := rteV r) h Tryd.underlying121 rfl (info_rte hr)
structure Rte.ok (r : Rte) : Prop where
  p : r.p.ok
  s : (Lit.int .i64 r.s).wf = true
  f : (Lit.int .i64 r.f).wf = true
  h : (Lit.int .i64 r.h).wf = true
theorem Rte.ok.fits {r : Rte} (h : r.ok) : r.fits := h.p.l
def Rte.eqB (r s : Rte) : Bool := r.p.eqB s.p && decide (r.s = s.s) && decide (r.f = s.f) && decide (r.h = s.h)
theorem Rte.eqB_iff (r s : Rte) : r.eqB s = true ↔ r = s := by
  unfold Rte.eqB
  simp only [Bool.and_eq_true, decide_eq_true_eq, Pfx.eqB_iff, beq_iff_eq]
  constructor
  · rintro h
    cases r; cases s
    simp_all
  · rintro rfl
    simp
theorem keyl_rte (r : Rte) (h : r.ok) : Tryd.prog.keyLits 5 121 (rteV r).toList = some ((.int .i64 r.p.v :: lits .u8 r.p.l ++ [.int .i64 r.p.b]) ++ [.int .i64 r.s, .int .i64 r.f, .int .i64 r.h]) := by
  unfold Program.keyLits
  rw [Tryd.underlying121]
  simp only
  rw [if_pos ⟨by rw [show (rteV r).toList.length = 21 by rw [Array.length_toList, rteV_size h.fits]]; kernel_rfl, by kernel_rfl⟩]
  have c1 : Tryd.prog.cellsOf 102 = 18 := by kernel_rfl
  have c2 : Tryd.prog.cellsOf 3 = 1 := by kernel_rfl
  have e0 : (rteV r).toList = (pfxV r.p.v r.p.l r.p.b).toList ++ [.int .i64 r.s, .int .i64 r.f, .int .i64 r.h] := rfl
  have hl18 := rteP_len h.fits
  have e1 : (rteV r).toList.take 18 = (pfxV r.p.v r.p.l r.p.b).toList := by rw [e0, List.take_left' hl18]
  have e2 : ((rteV r).toList.drop 18).take 1 = [.int .i64 r.s] := by rw [e0, List.drop_append, hl18, List.drop_of_length_le (by rw [hl18]; omega)]; rfl
  have e3 : ((rteV r).toList.drop 19).take 1 = [.int .i64 r.f] := by rw [e0, List.drop_append, hl18, List.drop_of_length_le (by rw [hl18]; omega)]; rfl
  have e4 : ((rteV r).toList.drop 20).take 1 = [.int .i64 r.h] := by rw [e0, List.drop_append, hl18, List.drop_of_length_le (by rw [hl18]; omega)]; rfl
  simp only [List.mapM_cons, List.mapM_nil, c1, c2, List.drop_zero]
  rw [e1, e2, e3, e4, keyl_pfx _ _ _ h.p.l h.p.v h.p.b, keyl_int 3 r.s h.s, keyl_int 3 r.f h.f, keyl_int 3 r.h h.h]
  simp
theorem rte_formed (r : Rte) (h : r.fits) : (Value.agg (rteV r)).formed Tryd.prog 121 = true := by
  simp only [Value.formed, Tryd.underlying121, rteV_size h]
  kernel_rfl
theorem rte_equal (r s : Rte) (hr : r.ok) (hs : s.ok) (w : World) : (Op.equal 121 (.agg (rteV r)) (.agg (rteV s))).run Tryd.prog w = .ok (r.eqB s) w := by
  obtain ⟨b, hb, hiff⟩ := run_equalIn_deep (P := Tryd.prog) 9995 5 121 (by kernel_rfl) w 5 5 (.agg (rteV r)) (.agg (rteV s)) _ _ (rte_formed _ hr.fits) (rte_formed _ hs.fits) (keyl_rte r hr) (keyl_rte s hs)
  have h2 : (Op.equal 121 (.agg (rteV r)) (.agg (rteV s))).run Tryd.prog w = .ok b w := hb
  suffices hs2 : b = r.eqB s by rw [h2, hs2]
  rw [Bool.eq_iff_iff, hiff, Rte.eqB_iff]
  constructor
  · intro h
    obtain ⟨h1, h2⟩ := List.append_inj h (by simp [lits, hr.p.l.len, hs.p.l.len])
    simp only [List.cons_append, List.cons.injEq, Lit.int.injEq, Lit.bool.injEq, true_and, and_true] at h1 h2
    obtain ⟨h3, h4⟩ := h1
    obtain ⟨h5, h6⟩ := List.append_inj h4 (by simp [lits, hr.p.l.len, hs.p.l.len])
    simp only [List.cons.injEq, Lit.int.injEq, true_and, and_true] at h6
    obtain ⟨⟨a, b, c⟩, d0, d1, d2⟩ := r
    obtain ⟨⟨a', b', c'⟩, e0, e1, e2⟩ := s
    simp only at h2 h3 h5 h6
    obtain ⟨k0, k1, k2⟩ := h2
    rw [h3, lits_inj h5, h6, k0, k1, k2]
  · rintro rfl
    rfl
section
variable {r : Operand → Value} {o : Oper} {x y : Operand} {ty : TypeId}
theorem rte_eql_exec (ho : o.op = .binOp .eql 121 x y ty) (p q : Rte) (hx : r x = .agg (rteV p)) (hy : r y = .agg (rteV q)) (hp : p.ok) (hq : q.ok) (w : World) : (execOp r o).run Tryd.prog w = .ok (.value (.bool (p.eqB q))) w :=
  exec_eql 121 (by kernel_rfl) ho _ _ hx hy w (rte_equal p q hp hq w)
theorem rte_neq_exec (ho : o.op = .binOp .neq 121 x y ty) (p q : Rte) (hx : r x = .agg (rteV p)) (hy : r y = .agg (rteV q)) (hp : p.ok) (hq : q.ok) (w : World) : (execOp r o).run Tryd.prog w = .ok (.value (.bool (!p.eqB q))) w :=
  exec_neq 121 (by kernel_rfl) ho _ _ hx hy w (rte_equal p q hp hq w)
end
def rteE : ShapeEq rteK where
  okE := Rte.ok
  eqB := Rte.eqB
  iff := Rte.eqB_iff
  eql := fun ho a b hx hy ha hb w => rte_eql_exec ho a b hx hy ha hb w
  neq := fun ho a b hx hy ha hb w => rte_neq_exec ho a b hx hy ha hb w
def updC (r : Upd) : List Value := (pfxV r.p.v r.p.l r.p.b).toList ++ [.int .i64 r.s, .bool r.g, .int .i64 r.f, .int .i64 r.h]
def updV (r : Upd) : Array Value := (updC r).toArray
theorem updP_len {r : Upd} (h : r.fits) : (pfxV r.p.v r.p.l r.p.b).toList.length = 18 := by rw [Array.length_toList]; exact pfx_size h.len
theorem updC_len {r : Upd} (h : r.fits) : (updC r).length = 22 := by
  unfold updC
  rw [List.length_append, updP_len h]
  rfl
theorem updV_size {r : Upd} (h : r.fits) : (updV r).size = 22 := by simp [updV, updC_len h]
theorem updC_one (r : Upd) : ∀ u ∈ updC r, u.oneCell' = true := by
  intro u hu
  rcases List.mem_append.1 hu with hu | hu
  · have := pfx_one r.p.v r.p.b r.p.l
    rw [← Array.all_toList, List.all_eq_true] at this
    exact this u hu
  · simp only [List.mem_cons, List.not_mem_nil, or_false] at hu
    rcases hu with rfl | rfl | rfl | rfl <;> rfl
def updZ : Upd := ⟨⟨0, zero16, 0⟩, 0, false, 0, 0⟩
theorem updZ_fits : updZ.fits := zero16_B
theorem zero_upd : (Tryd.prog.info? 104).map (fun i => (i.zero, i.size, i.bytes)) = some (some (.agg (updV updZ)), 22, 64) := by kernel_rfl
theorem info_upd {r : Upd} (h : r.fits) : (Tryd.prog.info? 104).map (·.size) = some (updV r).size := by rw [updV_size h]; kernel_rfl
def updK : Shape Upd where
  t := 104
  ts := 23
  sz := 22
  bytes := 64
  z := updZ
  ok := Upd.fits
  enc := updC
  val := fun r => .agg (updV r)
  len := fun _ h => updC_len h
  one := updC_one
  okz := updZ_fits
  pos := by omega
  bpos := by omega
  blt := by omega
  und := Tryd.underlying23
  info := zero_upd
  venc := fun _ => rfl
  ld := fun _ _ _ r hr h => load_cells (cs := updV r) h Tryd.underlying104 rfl (info_upd hr)
theorem updV_one (r : Upd) : (updV r).all (·.oneCell') = true := by
  rw [← Array.all_toList, List.all_eq_true]
  exact fun u hu => updC_one r u (by simpa [updV] using hu)
/-- What loads of it tell. -/
structure UpdLd (w : World) (g o : Nat) (r : Upd) : Prop where
  all : (Instr.loadAt 104 (.pointer (some ⟨g, o, none⟩))).run Tryd.prog w = .ok (.agg (updV r)) w
  pfx : (Instr.loadAt 102 (.pointer (some ⟨g, o, none⟩))).run Tryd.prog w = .ok (.agg (pfxV r.p.v r.p.l r.p.b)) w
  src : (Instr.loadAt 3 (.pointer (some ⟨g, o + 18, none⟩))).run Tryd.prog w = .ok (.int .i64 r.s) w
  gon : (Instr.loadAt 4 (.pointer (some ⟨g, o + 19, none⟩))).run Tryd.prog w = .ok (.bool r.g) w
  prf : (Instr.loadAt 3 (.pointer (some ⟨g, o + 20, none⟩))).run Tryd.prog w = .ok (.int .i64 r.f) w
  hop : (Instr.loadAt 3 (.pointer (some ⟨g, o + 21, none⟩))).run Tryd.prog w = .ok (.int .i64 r.h) w
theorem updLd_of {w : World} {g o : Nat} {r : Upd} (hf : r.fits) (h : CellsAt w g o (updC r)) : UpdLd w g o r := by
  have h1 : CellsAt w g o (pfxV r.p.v r.p.l r.p.b).toList := h.left
  have h2 : CellsAt w g (o + 18) [.int .i64 r.s, .bool r.g, .int .i64 r.f, .int .i64 r.h] := by
    have := h.right
    rw [updP_len hf] at this
    exact this
  exact ⟨load_cells (cs := updV r) h Tryd.underlying104 rfl (info_upd hf), load_cells h1 Tryd.underlying102 rfl (info_pfx hf.len), load_int (h2 0 _ rfl), loadr_bool (h2 1 _ rfl), load_int (h2 2 _ rfl), load_int (h2 3 _ rfl)⟩
structure UpdAt (w : World) (g : Nat) (r : Upd) : Prop where
  all : ∀ w0, Below w.heap.size w w0 → UpdLd w0 g 0 r
theorem upd_at {w : World} {g : Nat} {t : TypeId} {r : Upd} (hr : r.fits) (h : w.heap[g]? = some (.cells (updV r) t (0, 0))) : UpdAt w g r :=
  ⟨fun w0 hb => updLd_of hr (cells_blk (blk_below h hb))⟩
structure Upd.ok (r : Upd) : Prop where
  p : r.p.ok
  s : (Lit.int .i64 r.s).wf = true
  f : (Lit.int .i64 r.f).wf = true
  h : (Lit.int .i64 r.h).wf = true
theorem Upd.ok.fits {r : Upd} (h : r.ok) : r.fits := h.p.l
def Upd.eqB (r s : Upd) : Bool := r.p.eqB s.p && decide (r.s = s.s) && (r.g == s.g) && decide (r.f = s.f) && decide (r.h = s.h)
theorem Upd.eqB_iff (r s : Upd) : r.eqB s = true ↔ r = s := by
  unfold Upd.eqB
  simp only [Bool.and_eq_true, decide_eq_true_eq, Pfx.eqB_iff, beq_iff_eq]
  constructor
  · rintro h
    cases r; cases s
    simp_all
  · rintro rfl
    simp
theorem keyl_upd (r : Upd) (h : r.ok) : Tryd.prog.keyLits 5 104 (updV r).toList = some ((.int .i64 r.p.v :: lits .u8 r.p.l ++ [.int .i64 r.p.b]) ++ [.int .i64 r.s, .bool r.g, .int .i64 r.f, .int .i64 r.h]) := by
  unfold Program.keyLits
  rw [Tryd.underlying104]
  simp only
  rw [if_pos ⟨by rw [show (updV r).toList.length = 22 by rw [Array.length_toList, updV_size h.fits]]; kernel_rfl, by kernel_rfl⟩]
  have c1 : Tryd.prog.cellsOf 102 = 18 := by kernel_rfl
  have c2 : Tryd.prog.cellsOf 3 = 1 := by kernel_rfl
  have c3 : Tryd.prog.cellsOf 4 = 1 := by kernel_rfl
  have e0 : (updV r).toList = (pfxV r.p.v r.p.l r.p.b).toList ++ [.int .i64 r.s, .bool r.g, .int .i64 r.f, .int .i64 r.h] := rfl
  have hl18 := updP_len h.fits
  have e1 : (updV r).toList.take 18 = (pfxV r.p.v r.p.l r.p.b).toList := by rw [e0, List.take_left' hl18]
  have e2 : ((updV r).toList.drop 18).take 1 = [.int .i64 r.s] := by rw [e0, List.drop_append, hl18, List.drop_of_length_le (by rw [hl18]; omega)]; rfl
  have e3 : ((updV r).toList.drop 19).take 1 = [.bool r.g] := by rw [e0, List.drop_append, hl18, List.drop_of_length_le (by rw [hl18]; omega)]; rfl
  have e4 : ((updV r).toList.drop 20).take 1 = [.int .i64 r.f] := by rw [e0, List.drop_append, hl18, List.drop_of_length_le (by rw [hl18]; omega)]; rfl
  have e5 : ((updV r).toList.drop 21).take 1 = [.int .i64 r.h] := by rw [e0, List.drop_append, hl18, List.drop_of_length_le (by rw [hl18]; omega)]; rfl
  simp only [List.mapM_cons, List.mapM_nil, c1, c2, c3, List.drop_zero]
  rw [e1, e2, e3, e4, e5, keyl_pfx _ _ _ h.p.l h.p.v h.p.b, keyl_int 3 r.s h.s, keylr_bool 3 r.g, keyl_int 3 r.f h.f, keyl_int 3 r.h h.h]
  simp
theorem upd_formed (r : Upd) (h : r.fits) : (Value.agg (updV r)).formed Tryd.prog 104 = true := by
  simp only [Value.formed, Tryd.underlying104, updV_size h]
  kernel_rfl
theorem upd_equal (r s : Upd) (hr : r.ok) (hs : s.ok) (w : World) : (Op.equal 104 (.agg (updV r)) (.agg (updV s))).run Tryd.prog w = .ok (r.eqB s) w := by
  obtain ⟨b, hb, hiff⟩ := run_equalIn_deep (P := Tryd.prog) 9995 5 104 (by kernel_rfl) w 5 5 (.agg (updV r)) (.agg (updV s)) _ _ (upd_formed _ hr.fits) (upd_formed _ hs.fits) (keyl_upd r hr) (keyl_upd s hs)
  have h2 : (Op.equal 104 (.agg (updV r)) (.agg (updV s))).run Tryd.prog w = .ok b w := hb
  suffices hs2 : b = r.eqB s by rw [h2, hs2]
  rw [Bool.eq_iff_iff, hiff, Upd.eqB_iff]
  constructor
  · intro h
    obtain ⟨h1, h2⟩ := List.append_inj h (by simp [lits, hr.p.l.len, hs.p.l.len])
    simp only [List.cons_append, List.cons.injEq, Lit.int.injEq, Lit.bool.injEq, true_and, and_true] at h1 h2
    obtain ⟨h3, h4⟩ := h1
    obtain ⟨h5, h6⟩ := List.append_inj h4 (by simp [lits, hr.p.l.len, hs.p.l.len])
    simp only [List.cons.injEq, Lit.int.injEq, true_and, and_true] at h6
    obtain ⟨⟨a, b, c⟩, d0, d1, d2, d3⟩ := r
    obtain ⟨⟨a', b', c'⟩, e0, e1, e2, e3⟩ := s
    simp only at h2 h3 h5 h6
    obtain ⟨k0, k1, k2, k3⟩ := h2
    rw [h3, lits_inj h5, h6, k0, k1, k2, k3]
  · rintro rfl
    rfl
section
variable {r : Operand → Value} {o : Oper} {x y : Operand} {ty : TypeId}
theorem upd_eql_exec (ho : o.op = .binOp .eql 104 x y ty) (p q : Upd) (hx : r x = .agg (updV p)) (hy : r y = .agg (updV q)) (hp : p.ok) (hq : q.ok) (w : World) : (execOp r o).run Tryd.prog w = .ok (.value (.bool (p.eqB q))) w :=
  exec_eql 104 (by kernel_rfl) ho _ _ hx hy w (upd_equal p q hp hq w)
theorem upd_neq_exec (ho : o.op = .binOp .neq 104 x y ty) (p q : Upd) (hx : r x = .agg (updV p)) (hy : r y = .agg (updV q)) (hp : p.ok) (hq : q.ok) (w : World) : (execOp r o).run Tryd.prog w = .ok (.value (.bool (!p.eqB q))) w :=
  exec_neq 104 (by kernel_rfl) ho _ _ hx hy w (upd_equal p q hp hq w)
end
def updE : ShapeEq updK where
  okE := Upd.ok
  eqB := Upd.eqB
  iff := Upd.eqB_iff
  eql := fun ho a b hx hy ha hb w => upd_eql_exec ho a b hx hy ha hb w
  neq := fun ho a b hx hy ha hb w => upd_neq_exec ho a b hx hy ha hb w
theorem store_upd_fit {cs : Array Value} {r : Upd} (hf : r.fits) (h : cs.size = 22) : 0 + (updV r).size ≤ cs.size := by rw [updV_size hf, h]; omega
theorem splice_upd {cs : Array Value} {r : Upd} (hf : r.fits) (h : cs.size = 22) : splice cs 0 (updV r).toList = updV r := splice_all _ _ (by rw [Array.length_toList, updV_size hf, h])
end Go.Proofs.YtifejiclenpfoaaDoor

/- Plain laws of lists in order by a key (rows of numbers): the place, put, take away; the document's way of putting. -/
namespace Go.Proofs.YtifejiclenpfoaaDoor
set_option linter.unusedVariables false
set_option linter.unusedSimpArgs false
set_option maxRecDepth 4000
section
variable {α : Type} (K : α → List Int)
def cK (a b : α) : Int := cmpI (K a) (K b)
variable {K}
end
end Go.Proofs.YtifejiclenpfoaaDoor

/- Plain laws of layer 11 (route): batches, RIBs, and what comes of a RIB behind a batch. -/
namespace Go.Proofs.YtifejiclenpfoaaDoor
set_option linter.unusedVariables false
set_option linter.unusedSimpArgs false
set_option maxRecDepth 4000
set_option maxRecDepth 4000

abbrev rteAt (l : List Rte) (i : Nat) : Rte := l.getD i rteZ
abbrev updAt (l : List Upd) (i : Nat) : Upd := l.getD i updZ
theorem getD_get {α : Type} {l : List α} {i : Nat} {z : α} (h : i < l.length) : l[i]? = some (l.getD i z) := by
  rw [List.getD_eq_getElem?_getD, List.getElem?_eq_getElem h]
  rfl
theorem getD_mem {α : Type} {l : List α} {i : Nat} {z : α} (h : i < l.length) : l.getD i z ∈ l := List.mem_of_getElem? (getD_get h)
theorem take_getD {α : Type} {l : List α} {i : Nat} (z : α) (h : i < l.length) : l.take (i + 1) = l.take i ++ [l.getD i z] := by
  rw [List.take_add_one, getD_get (z := z) h]
  rfl
def Rte.key (r : Rte) : List Int := r.p.row ++ [r.s]
def Okr (l : List Rte) : Prop := ∀ r ∈ l, r.ok
def Oku (l : List Upd) : Prop := ∀ u ∈ l, u.ok
theorem Okr.at_ {l : List Rte} (h : Okr l) {i : Nat} (hi : i < l.length) : (rteAt l i).ok := h _ (getD_mem hi)
theorem Oku.at_ {l : List Upd} (h : Oku l) {i : Nat} (hi : i < l.length) : (updAt l i).ok := h _ (getD_mem hi)
def fitB (p : Pfx) (s f h : Int) : Bool := p.right && decide (1 ≤ s) && decide (s ≤ 4) && decide (0 ≤ f) && decide (f ≤ 255) && decide (1 ≤ h) && decide (h ≤ 255)
def updB (u : Upd) : Bool := if u.g then decide (u.f = 0) && decide (u.h = 0) && fitB u.p u.s 0 1 else fitB u.p u.s u.f u.h
def twin (a b : Upd) : Bool := a.p.eqB b.p && decide (a.s = b.s)
def batsB (l : List Upd) : Bool := decide (∀ j, j < l.length → updB (updAt l j) = true ∧ ∀ k, k < j → twin (updAt l k) (updAt l j) = false)
def batB (l : List Upd) : Bool := decide (1 ≤ l.length) && decide (l.length ≤ 8) && batsB l
/-! How many prefixes. -/
/-- The order of candidates. -/
def cR (a b : Rte) : Int := cK Rte.key a b
end Go.Proofs.YtifejiclenpfoaaDoor

/- Layer 11 (route): fits, update, the closures of CheckBatch and Best, order, better; the document's fits and ahead. -/
namespace Go.Proofs.YtifejiclenpfoaaDoor
open Go.RowKit
set_option linter.unusedVariables false
set_option linter.unusedSimpArgs false
set_option maxRecDepth 4000
structure RibAt (w : World) (g : Nat) (A : Option Addr) (n c : Nat) : Prop where
  all : ∀ w0, Below w.heap.size w w0 → (Instr.loadAt 37 (.pointer (some ⟨g, 0, none⟩))).run Tryd.prog w0 = .ok (.agg (tabV A n c)) w0 ∧ (Instr.loadAt 35 (.pointer (some ⟨g, 0, none⟩))).run Tryd.prog w0 = .ok (.slice A n c) w0
theorem load_rtes {w : World} {ad : Addr} {v : Value} (h : w.cell? ad = some v) : (Instr.loadAt 35 (.pointer (some ad))).run Tryd.prog w = .ok v w := by
  go_simp
theorem load_upds {w : World} {ad : Addr} {v : Value} (h : w.cell? ad = some v) : (Instr.loadAt 23 (.pointer (some ad))).run Tryd.prog w = .ok v w := by
  go_simp
theorem rib_at {w : World} {g : Nat} {A : Option Addr} {n c : Nat} (h : w.heap[g]? = some (.cells (tabV A n c) 37 (0, 0))) : RibAt w g A n c := by
  refine ⟨fun w0 hb => ?_⟩
  have h0 := cells_blk (blk_below h hb)
  exact ⟨load_cells h0 Tryd.underlying37 rfl (by kernel_rfl), load_rtes (h0 0 _ rfl)⟩
structure BatAt (w : World) (g : Nat) (A : Option Addr) (n c : Nat) : Prop where
  all : ∀ w0, Below w.heap.size w w0 → (Instr.loadAt 25 (.pointer (some ⟨g, 0, none⟩))).run Tryd.prog w0 = .ok (.agg (tabV A n c)) w0 ∧ (Instr.loadAt 23 (.pointer (some ⟨g, 0, none⟩))).run Tryd.prog w0 = .ok (.slice A n c) w0
theorem bat_at {w : World} {g : Nat} {A : Option Addr} {n c : Nat} (h : w.heap[g]? = some (.cells (tabV A n c) 25 (0, 0))) : BatAt w g A n c := by
  refine ⟨fun w0 hb => ?_⟩
  have h0 := cells_blk (blk_below h hb)
  exact ⟨load_cells h0 Tryd.underlying25 rfl (by kernel_rfl), load_upds (h0 0 _ rfl)⟩
/-! Two prefixes held equal: what the comparison yields. -/
theorem pfx_eq_hex {p q : Pfx} {b : Bool} (hp : p.ok) (hq : q.ok) (h : p.eqB q = b) (r : Operand → Value) (o : Oper) (x y : Operand) (ty : TypeId) (ho : o.op = .binOp .eql 102 x y ty) (hx : r x = .agg (pfxV p.v p.l p.b)) (hy : r y = .agg (pfxV q.v q.l q.b)) (w : World) : (execOp r o).run Tryd.prog w = .ok (.value (.bool b)) w := by
  rw [← h]
  exact pfx_eql_exec ho p q hx hy hp hq w
set_option maxHeartbeats 2000000 in
theorem rfits_any (p : Pfx) (s f h : Int) (w : World) (hL : Laid w) (hp : B16 p.l) : Calls Tryd.prog 93 #[.agg (pfxV p.v p.l p.b), .int .i64 s, .int .i64 f, .int .i64 h] w fun e w' => e = .returned (.bool (fitB p s f h)) ∧ Below w.heap.size w w' := by
  have hblk1 := blk_new w (.cells (pfxV p.v p.l p.b) 102)
  have hbel1 : Below w.heap.size w (w.alloc (.cells (pfxV p.v p.l p.b) 102)) := below_alloc (Below.refl _ _) _
  have HP1 := Lib.hid (pfx_at hp hblk1)
  have HBK1 := Lib.hid hblk1
  have HBE := Lib.hid hbel1
  have HL := Lib.hid (hL.below HBE.out)
  obtain ⟨cs1, hcs1⟩ : ∃ cs, pfxV p.v p.l p.b = cs := ⟨_, rfl⟩
  simp only [hcs1] at HBE HL HP1 HBK1 ⊢
  have HC1 := Lib.hid hcs1
  clear hL hcs1 hblk1 hbel1
  have hl0 := (HP1.out.all _ (Below.refl _ _)).2.2.2.2
  rw [HC1.out] at hl0
  go_enter Tryd.func93, Tryd.ntmps93
  go_wp2_with (first | ((with_reducible show wpList _ _ _ (Oper.mk _ (Op.load _ _) _ _ _ _ :: _) _ _); refine wpList_load_g hl0 _ rfl rfl (by go_simp) ?_))
  have hck := check_any p.v p.l p.b _ HL.out hp
  rw [HC1.out] at hck
  refine hck.mono ?_
  clear hck hl0
  rintro e w1 ⟨rfl, hb1⟩
  have HB1 := Lib.hid (below_step HBE.out hb1)
  clear hb1
  cases h0 : p.right with
  | false =>
    (rw [show errP p.v p.l p.b = 151 by unfold errP; rw [show rightP p.v p.l p.b = false from h0]; rfl])
    have HV : Hid (fitB p s f h = false) := Lib.hid (by unfold fitB; simp [*])
    go_wp2_with fail
    go_ret
    rw [HV.out]
    exact ⟨rfl, HB1.out⟩
  | true =>
    (rw [show errP p.v p.l p.b = 0 by unfold errP; rw [show rightP p.v p.l p.b = true from h0]; rfl])
    by_cases g1 : 1 ≤ s
    case neg =>
      have h1 : decide (1 ≤ s) = false := decide_eq_false g1
      clear g1
      have HV : Hid (fitB p s f h = false) := Lib.hid (by unfold fitB; simp [*])
      go_wp2_with fail
      go_ret
      rw [HV.out]
      exact ⟨rfl, HB1.out⟩
    case pos =>
      have h1 : decide (1 ≤ s) = true := decide_eq_true g1
      by_cases g2 : s ≤ 4
      case neg =>
        have h2 : decide (s ≤ 4) = false := decide_eq_false g2
        clear g1 g2
        have HV : Hid (fitB p s f h = false) := Lib.hid (by unfold fitB; simp [*])
        go_wp2_with fail
        go_ret
        rw [HV.out]
        exact ⟨rfl, HB1.out⟩
      case pos =>
        have h2 : decide (s ≤ 4) = true := decide_eq_true g2
        clear g1 g2
        by_cases g3 : 0 ≤ f
        case neg =>
          have h3 : decide (0 ≤ f) = false := decide_eq_false g3
          clear g3
          have HV : Hid (fitB p s f h = false) := Lib.hid (by unfold fitB; simp [*])
          go_wp2_with fail
          go_ret
          rw [HV.out]
          exact ⟨rfl, HB1.out⟩
        case pos =>
          have h3 : decide (0 ≤ f) = true := decide_eq_true g3
          by_cases g4 : f ≤ 255
          case neg =>
            have h4 : decide (f ≤ 255) = false := decide_eq_false g4
            clear g3 g4
            have HV : Hid (fitB p s f h = false) := Lib.hid (by unfold fitB; simp [*])
            go_wp2_with fail
            go_ret
            rw [HV.out]
            exact ⟨rfl, HB1.out⟩
          case pos =>
            have h4 : decide (f ≤ 255) = true := decide_eq_true g4
            clear g3 g4
            by_cases g5 : 1 ≤ h
            case neg =>
              have h5 : decide (1 ≤ h) = false := decide_eq_false g5
              clear g5
              have HV : Hid (fitB p s f h = false) := Lib.hid (by unfold fitB; simp [*])
              go_wp2_with fail
              go_ret
              rw [HV.out]
              exact ⟨rfl, HB1.out⟩
            case pos =>
              have h5 : decide (1 ≤ h) = true := decide_eq_true g5
              cases h6 : decide (h ≤ 255) with
              | false =>
                clear g5
                have HV : Hid (fitB p s f h = false) := Lib.hid (by unfold fitB; simp [*])
                go_wp2_with fail
                go_ret
                rw [HV.out]
                exact ⟨rfl, HB1.out⟩
              | true =>
                clear g5
                have HV : Hid (fitB p s f h = true) := Lib.hid (by unfold fitB; rw [h0, h1, h2, h3, h4, h5, h6]; rfl)
                go_wp2_with fail
                go_ret
                rw [HV.out]
                exact ⟨rfl, HB1.out⟩
set_option maxHeartbeats 2000000 in
theorem update_any (u : Upd) (w : World) (hL : Laid w) (hu : u.fits) : Calls Tryd.prog 62 #[.agg (updV u)] w fun e w' => e = .returned (.bool (updB u)) ∧ Below w.heap.size w w' := by
  have hblk1 := blk_new w (.cells (updV u) 104)
  have hbel1 : Below w.heap.size w (w.alloc (.cells (updV u) 104)) := below_alloc (Below.refl _ _) _
  have HP1 := Lib.hid (upd_at hu hblk1)
  have HBK1 := Lib.hid hblk1
  have HBE := Lib.hid hbel1
  have HL := Lib.hid (hL.below HBE.out)
  obtain ⟨cs1, hcs1⟩ : ∃ cs, updV u = cs := ⟨_, rfl⟩
  simp only [hcs1] at HBE HL HP1 HBK1 ⊢
  have HC1 := Lib.hid hcs1
  clear hL hcs1 hblk1 hbel1
  obtain ⟨p, s, g, f, h⟩ := u
  have hr := (HP1.out.all _ (Below.refl _ _))
  have HLD := Lib.hid hr
  clear hr
  go_enter Tryd.func62, Tryd.ntmps62
  cases g with
  | true =>
    by_cases g1 : f = 0
    case neg =>
      have h1 : (f == 0) = false := by simpa using g1
      have HV : Hid (updB ⟨p, s, true, f, h⟩ = false) := Lib.hid (by simp [updB, g1])
      clear g1
      go_wp2_with (first | ((with_reducible show wpList _ _ _ (Oper.mk _ (Op.load _ _) _ _ _ _ :: _) _ _); refine wpList_load_g (HLD.out.gon) _ rfl rfl (by go_simp) ?_) | ((with_reducible show wpList _ _ _ (Oper.mk _ (Op.load _ _) _ _ _ _ :: _) _ _); refine wpList_load_g (HLD.out.prf) _ rfl rfl (by go_simp) ?_) | ((with_reducible show wpList _ _ _ (Oper.mk _ (Op.load _ _) _ _ _ _ :: _) _ _); refine wpList_load_g (HLD.out.hop) _ rfl rfl (by go_simp) ?_) | ((with_reducible show wpList _ _ _ (Oper.mk _ (Op.load _ _) _ _ _ _ :: _) _ _); refine wpList_load_g (HLD.out.src) _ rfl rfl (by go_simp) ?_) | ((with_reducible show wpList _ _ _ (Oper.mk _ (Op.load _ _) _ _ _ _ :: _) _ _); refine wpList_load_g (HLD.out.pfx) _ rfl rfl (by go_simp) ?_))
      go_ret
      rw [HV.out]
      exact ⟨rfl, HBE.out⟩
    case pos =>
      subst g1
      by_cases g2 : h = 0
      case neg =>
        have h2 : (h == 0) = false := by simpa using g2
        have HV : Hid (updB ⟨p, s, true, 0, h⟩ = false) := Lib.hid (by simp [updB, g2])
        clear g2
        go_wp2_with (first | ((with_reducible show wpList _ _ _ (Oper.mk _ (Op.load _ _) _ _ _ _ :: _) _ _); refine wpList_load_g (HLD.out.gon) _ rfl rfl (by go_simp) ?_) | ((with_reducible show wpList _ _ _ (Oper.mk _ (Op.load _ _) _ _ _ _ :: _) _ _); refine wpList_load_g (HLD.out.prf) _ rfl rfl (by go_simp) ?_) | ((with_reducible show wpList _ _ _ (Oper.mk _ (Op.load _ _) _ _ _ _ :: _) _ _); refine wpList_load_g (HLD.out.hop) _ rfl rfl (by go_simp) ?_) | ((with_reducible show wpList _ _ _ (Oper.mk _ (Op.load _ _) _ _ _ _ :: _) _ _); refine wpList_load_g (HLD.out.src) _ rfl rfl (by go_simp) ?_) | ((with_reducible show wpList _ _ _ (Oper.mk _ (Op.load _ _) _ _ _ _ :: _) _ _); refine wpList_load_g (HLD.out.pfx) _ rfl rfl (by go_simp) ?_))
        go_ret
        rw [HV.out]
        exact ⟨rfl, HBE.out⟩
      case pos =>
        subst g2
        have HV : Hid (updB ⟨p, s, true, 0, 0⟩ = fitB p s 0 1) := Lib.hid (by simp [updB])
        go_wp2_with (first | ((with_reducible show wpList _ _ _ (Oper.mk _ (Op.load _ _) _ _ _ _ :: _) _ _); refine wpList_load_g (HLD.out.gon) _ rfl rfl (by go_simp) ?_) | ((with_reducible show wpList _ _ _ (Oper.mk _ (Op.load _ _) _ _ _ _ :: _) _ _); refine wpList_load_g (HLD.out.prf) _ rfl rfl (by go_simp) ?_) | ((with_reducible show wpList _ _ _ (Oper.mk _ (Op.load _ _) _ _ _ _ :: _) _ _); refine wpList_load_g (HLD.out.hop) _ rfl rfl (by go_simp) ?_) | ((with_reducible show wpList _ _ _ (Oper.mk _ (Op.load _ _) _ _ _ _ :: _) _ _); refine wpList_load_g (HLD.out.src) _ rfl rfl (by go_simp) ?_) | ((with_reducible show wpList _ _ _ (Oper.mk _ (Op.load _ _) _ _ _ _ :: _) _ _); refine wpList_load_g (HLD.out.pfx) _ rfl rfl (by go_simp) ?_))
        refine (rfits_any p s 0 1 _ HL.out hu).mono ?_
        rintro e w1 ⟨rfl, hb1⟩
        have HB1 := Lib.hid (below_step HBE.out hb1)
        clear hb1
        rw [← HV.out]
        go_wp2
        go_ret
        exact ⟨rfl, HB1.out⟩
  | false =>
    have HV : Hid (updB ⟨p, s, false, f, h⟩ = fitB p s f h) := Lib.hid (by simp [updB])
    go_wp2_with (first | ((with_reducible show wpList _ _ _ (Oper.mk _ (Op.load _ _) _ _ _ _ :: _) _ _); refine wpList_load_g (HLD.out.gon) _ rfl rfl (by go_simp) ?_) | ((with_reducible show wpList _ _ _ (Oper.mk _ (Op.load _ _) _ _ _ _ :: _) _ _); refine wpList_load_g (HLD.out.prf) _ rfl rfl (by go_simp) ?_) | ((with_reducible show wpList _ _ _ (Oper.mk _ (Op.load _ _) _ _ _ _ :: _) _ _); refine wpList_load_g (HLD.out.hop) _ rfl rfl (by go_simp) ?_) | ((with_reducible show wpList _ _ _ (Oper.mk _ (Op.load _ _) _ _ _ _ :: _) _ _); refine wpList_load_g (HLD.out.src) _ rfl rfl (by go_simp) ?_) | ((with_reducible show wpList _ _ _ (Oper.mk _ (Op.load _ _) _ _ _ _ :: _) _ _); refine wpList_load_g (HLD.out.pfx) _ rfl rfl (by go_simp) ?_))
    refine (rfits_any p s f h _ HL.out hu).mono ?_
    rintro e w1 ⟨rfl, hb1⟩
    have HB1 := Lib.hid (below_step HBE.out hb1)
    clear hb1
    rw [← HV.out]
    go_wp2
    go_ret
    exact ⟨rfl, HB1.out⟩
set_option maxHeartbeats 2000000 in
theorem twin1_any (x u : Upd) (g : Nat) (w : World) (hxo : x.ok) (huo : u.ok) (hg : UpdAt w g u) : Calls Tryd.prog 61 #[.agg (updV x), .pointer (some ⟨g, 0, none⟩)] w fun e w' => e = .returned (.bool (twin x u)) ∧ Below w.heap.size w w' := by
  have hx := hxo.fits
  have hblk1 := blk_new w (.cells (updV x) 104)
  have hbel1 : Below w.heap.size w (w.alloc (.cells (updV x) 104)) := below_alloc (Below.refl _ _) _
  have HP1 := Lib.hid (upd_at hx hblk1)
  have HBK1 := Lib.hid hblk1
  have HBE := Lib.hid hbel1
  obtain ⟨cs1, hcs1⟩ : ∃ cs, updV x = cs := ⟨_, rfl⟩
  simp only [hcs1] at HBE HP1 HBK1 ⊢
  have HC1 := Lib.hid hcs1
  clear hcs1 hblk1 hbel1
  have HG := Lib.hid (hg.all _ HBE.out)
  have HLD := Lib.hid (HP1.out.all _ (Below.refl _ _))
  clear hg
  go_enter Tryd.func61, Tryd.ntmps61
  cases h0 : x.p.eqB u.p with
  | false =>
    have HV : Hid (twin x u = false) := Lib.hid (by unfold twin; rw [h0]; rfl)
    have HEX := Lib.hid (pfx_eq_hex hxo.p huo.p h0)
    clear h0
    go_wp2_with (first | ((with_reducible show wpList _ _ _ (Oper.mk _ (Op.load _ _) _ _ _ _ :: _) _ _); refine wpList_load_g (HLD.out.pfx) _ rfl rfl (by go_simp) ?_) | ((with_reducible show wpList _ _ _ (Oper.mk _ (Op.load _ _) _ _ _ _ :: _) _ _); refine wpList_load_g (HG.out.pfx) _ rfl rfl (by go_simp) ?_) | ((with_reducible show wpList _ _ _ (Oper.mk _ (Op.binOp _ _ _ _ _) _ _ _ _ :: _) _ _); refine wpList_exw rfl (HEX.out _ _ _ _ _ rfl rfl rfl _) ?_))
    go_ret
    rw [HV.out]
    exact ⟨rfl, HBE.out⟩
  | true =>
    have HV : Hid (twin x u = decide (x.s = u.s)) := Lib.hid (by unfold twin; rw [h0]; rfl)
    have HEX := Lib.hid (pfx_eq_hex hxo.p huo.p h0)
    clear h0
    go_wp2_with (first | ((with_reducible show wpList _ _ _ (Oper.mk _ (Op.load _ _) _ _ _ _ :: _) _ _); refine wpList_load_g (HLD.out.pfx) _ rfl rfl (by go_simp) ?_) | ((with_reducible show wpList _ _ _ (Oper.mk _ (Op.load _ _) _ _ _ _ :: _) _ _); refine wpList_load_g (HG.out.pfx) _ rfl rfl (by go_simp) ?_) | ((with_reducible show wpList _ _ _ (Oper.mk _ (Op.load _ _) _ _ _ _ :: _) _ _); refine wpList_load_g (HLD.out.src) _ rfl rfl (by go_simp) ?_) | ((with_reducible show wpList _ _ _ (Oper.mk _ (Op.load _ _) _ _ _ _ :: _) _ _); refine wpList_load_g (HG.out.src) _ rfl rfl (by go_simp) ?_) | ((with_reducible show wpList _ _ _ (Oper.mk _ (Op.binOp _ _ _ _ _) _ _ _ _ :: _) _ _); refine wpList_exw rfl (HEX.out _ _ _ _ _ rfl rfl rfl _) ?_))
    go_ret
    rw [HV.out]
    exact ⟨rfl, HBE.out⟩
end Go.Proofs.YtifejiclenpfoaaDoor

/- Arguments that are RIBs and batches, opened. -/
namespace Go.Proofs.YtifejiclenpfoaaDoor
open Go.ChangeShapes Go.WideShapes Go.ChangeAt Go.RowKit
set_option linter.unusedVariables false
set_option linter.unusedSimpArgs false
set_option maxRecDepth 4000
theorem parts4 {α : Type} (l : List α) (a : Nat) : l = l.take a ++ ((l.drop a).take 1 ++ ((l.drop (a + 1)).take 1 ++ l.drop (a + 2))) := by
  have h1 : l.drop a = (l.drop a).take 1 ++ l.drop (a + 1) := by
    conv => lhs; rw [← List.take_append_drop 1 (l.drop a)]
    rw [List.drop_drop]
  have h2 : l.drop (a + 1) = (l.drop (a + 1)).take 1 ++ l.drop (a + 2) := by
    conv => lhs; rw [← List.take_append_drop 1 (l.drop (a + 1))]
    rw [List.drop_drop]
  rw [← h2, ← h1, List.take_append_drop]
section
variable {H : Type} {enc : TypeId × Value → H} {W : World} {base : Nat} {spare : Nat → Bool} {held : Bool}
theorem open_rte_cells {fuel : Nat} {cs : List Value} {x : DataW H × List MemPlace} (h : DataW.trod enc Tryd.prog W base spare held fuel 121 cs = some x) : ∃ r : Rte, cs = rteC r ∧ r.ok := by
  obtain ⟨xs, m, -, -, hlen, hxl, hg⟩ := DataW.trod_struct Tryd.underlying121 h
  have c1 : Tryd.prog.cellsOf 3 = 1 := by kernel_rfl
  have c2 : Tryd.prog.cellsOf 102 = 18 := by kernel_rfl
  have c3 : Tryd.prog.cellsOf 121 = 21 := by kernel_rfl
  have h0 : DataW.trod enc Tryd.prog W base spare held m 102 ((cs.drop 0).take (Tryd.prog.cellsOf 102)) = xs[0]? := hg 0 _ rfl
  have h1 : DataW.trod enc Tryd.prog W base spare held m 3 ((cs.drop 18).take (Tryd.prog.cellsOf 3)) = xs[1]? := hg 1 _ rfl
  have h2 : DataW.trod enc Tryd.prog W base spare held m 3 ((cs.drop 19).take (Tryd.prog.cellsOf 3)) = xs[2]? := hg 2 _ rfl
  have h3 : DataW.trod enc Tryd.prog W base spare held m 3 ((cs.drop 20).take (Tryd.prog.cellsOf 3)) = xs[3]? := hg 3 _ rfl
  rw [c3] at hlen
  rw [c2, List.drop_zero] at h0
  rw [c1] at h1 h2 h3
  have hx4 : xs.length = 4 := hxl
  match xs, hx4 with
  | [x0, x1, x2, x3], _ =>
    obtain ⟨v, l, b, hvl, hb, hw, hwb⟩ := open_pfx_cells (show DataW.trod enc Tryd.prog W base spare held m 102 (cs.take 18) = some x0 from h0)
    obtain ⟨s1, hv1, -, hw1⟩ := DataW.trod_int Tryd.underlying3 (show DataW.trod enc Tryd.prog W base spare held m 3 ((cs.drop 18).take 1) = some x1 from h1)
    obtain ⟨s2, hv2, -, hw2⟩ := DataW.trod_int Tryd.underlying3 (show DataW.trod enc Tryd.prog W base spare held m 3 ((cs.drop 19).take 1) = some x2 from h2)
    obtain ⟨s3, hv3, -, hw3⟩ := DataW.trod_int Tryd.underlying3 (show DataW.trod enc Tryd.prog W base spare held m 3 ((cs.drop 20).take 1) = some x3 from h3)
    rw [List.take_of_length_le (by rw [List.length_drop]; omega)] at hv3
    refine ⟨⟨⟨v, l, b⟩, s1, s2, s3⟩, ?_, ⟨hb, hw, hwb⟩, hw1, hw2, hw3⟩
    rw [parts4 cs 18, hvl, hv1, hv2, hv3]
    rw [show rteC ⟨⟨v, l, b⟩, s1, s2, s3⟩ = (pfxV v l b).toList ++ [.int .i64 s1, .int .i64 s2, .int .i64 s3] from rfl, pfxV_list]
    simp
theorem open_upd_cells {fuel : Nat} {cs : List Value} {x : DataW H × List MemPlace} (h : DataW.trod enc Tryd.prog W base spare held fuel 104 cs = some x) : ∃ r : Upd, cs = updC r ∧ r.ok := by
  obtain ⟨xs, m, -, -, hlen, hxl, hg⟩ := DataW.trod_struct Tryd.underlying104 h
  have c1 : Tryd.prog.cellsOf 3 = 1 := by kernel_rfl
  have c4 : Tryd.prog.cellsOf 4 = 1 := by kernel_rfl
  have c2 : Tryd.prog.cellsOf 102 = 18 := by kernel_rfl
  have c3 : Tryd.prog.cellsOf 104 = 22 := by kernel_rfl
  have h0 : DataW.trod enc Tryd.prog W base spare held m 102 ((cs.drop 0).take (Tryd.prog.cellsOf 102)) = xs[0]? := hg 0 _ rfl
  have h1 : DataW.trod enc Tryd.prog W base spare held m 3 ((cs.drop 18).take (Tryd.prog.cellsOf 3)) = xs[1]? := hg 1 _ rfl
  have h2 : DataW.trod enc Tryd.prog W base spare held m 4 ((cs.drop 19).take (Tryd.prog.cellsOf 4)) = xs[2]? := hg 2 _ rfl
  have h3 : DataW.trod enc Tryd.prog W base spare held m 3 ((cs.drop 20).take (Tryd.prog.cellsOf 3)) = xs[3]? := hg 3 _ rfl
  have h4 : DataW.trod enc Tryd.prog W base spare held m 3 ((cs.drop 21).take (Tryd.prog.cellsOf 3)) = xs[4]? := hg 4 _ rfl
  rw [c3] at hlen
  rw [c2, List.drop_zero] at h0
  rw [c1] at h1 h3 h4
  rw [c4] at h2
  have hx5 : xs.length = 5 := hxl
  match xs, hx5 with
  | [x0, x1, x2, x3, x4], _ =>
    obtain ⟨v, l, b, hvl, hb, hw, hwb⟩ := open_pfx_cells (show DataW.trod enc Tryd.prog W base spare held m 102 (cs.take 18) = some x0 from h0)
    obtain ⟨s1, hv1, -, hw1⟩ := DataW.trod_int Tryd.underlying3 (show DataW.trod enc Tryd.prog W base spare held m 3 ((cs.drop 18).take 1) = some x1 from h1)
    obtain ⟨g, hv2, -⟩ := DataW.trod_bool Tryd.underlying4 (show DataW.trod enc Tryd.prog W base spare held m 4 ((cs.drop 19).take 1) = some x2 from h2)
    obtain ⟨s3, hv3, -, hw3⟩ := DataW.trod_int Tryd.underlying3 (show DataW.trod enc Tryd.prog W base spare held m 3 ((cs.drop 20).take 1) = some x3 from h3)
    obtain ⟨s4, hv4, -, hw4⟩ := DataW.trod_int Tryd.underlying3 (show DataW.trod enc Tryd.prog W base spare held m 3 ((cs.drop 21).take 1) = some x4 from h4)
    rw [List.take_of_length_le (by rw [List.length_drop]; omega)] at hv4
    refine ⟨⟨⟨v, l, b⟩, s1, g, s3, s4⟩, ?_, ⟨hb, hw, hwb⟩, hw1, hw3, hw4⟩
    have e2 : cs.drop 20 = (cs.drop 20).take 1 ++ cs.drop 21 := by
      conv => lhs; rw [← List.take_append_drop 1 (cs.drop 20)]
      rw [List.drop_drop]
    rw [parts4 cs 18, hvl, hv1, hv2, show 18 + 2 = 20 from rfl, e2, hv3, hv4]
    rw [show updC ⟨⟨v, l, b⟩, s1, g, s3, s4⟩ = (pfxV v l b).toList ++ [.int .i64 s1, .bool g, .int .i64 s3, .int .i64 s4] from rfl, pfxV_list]
    simp
theorem open_rib_cells {fuel : Nat} {cs : List Value} {x : DataW H × List MemPlace} (h : DataW.trod enc Tryd.prog W base spare held fuel 37 cs = some x) (hl : Light Tryd.prog 37 x.1) : ∃ A n c t, cs = [.slice A n c] ∧ RS rteK W A n c t ∧ (∀ a ∈ t, a.ok) ∧ n * 56 ≤ 140737488351232 := by
  obtain ⟨xs, m, -, hx, hlen, hxl, hg⟩ := DataW.trod_struct Tryd.underlying37 h
  have c1 : Tryd.prog.cellsOf 35 = 1 := by kernel_rfl
  have c3 : Tryd.prog.cellsOf 37 = 1 := by kernel_rfl
  have h0 : DataW.trod enc Tryd.prog W base spare held m 35 ((cs.drop 0).take (Tryd.prog.cellsOf 35)) = xs[0]? := hg 0 _ rfl
  rw [c3] at hlen
  rw [c1, List.drop_zero, List.take_of_length_le (by omega)] at h0
  have hx1 : xs.length = 1 := hxl
  subst hx
  match xs, hx1 with
  | [x0], _ =>
    have hl0 : Light Tryd.prog 35 x0.1 := light_field Tryd.underlying37 hl (i := 0) (f := _) rfl rfl
    obtain ⟨A, n, c, t, e1, e2, e3, e4⟩ := open_shp rteK Rte.ok (by show Tryd.prog.cellsOf 121 = 21; kernel_rfl) (by show 0 < Tryd.prog.bytesOf 121; exact of_decide_eq_true (by kernel_rfl)) (fun fuel cs y hy _ => by
      obtain ⟨r, e, hr⟩ := open_rte_cells hy
      exact ⟨r, e, hr.fits, hr⟩) (show DataW.trod enc Tryd.prog W base spare held m 35 cs = some x0 from h0) hl0
    refine ⟨A, n, c, t, e1, e2, e3, ?_⟩
    have hb : Tryd.prog.bytesOf (rteK).t = 56 := by show Tryd.prog.bytesOf 121 = 56; kernel_rfl
    rw [hb] at e4
    exact e4
theorem open_bat_cells {fuel : Nat} {cs : List Value} {x : DataW H × List MemPlace} (h : DataW.trod enc Tryd.prog W base spare held fuel 25 cs = some x) (hl : Light Tryd.prog 25 x.1) : ∃ A n c t, cs = [.slice A n c] ∧ RS updK W A n c t ∧ (∀ a ∈ t, a.ok) ∧ n * 64 ≤ 140737488351232 := by
  obtain ⟨xs, m, -, hx, hlen, hxl, hg⟩ := DataW.trod_struct Tryd.underlying25 h
  have c1 : Tryd.prog.cellsOf 23 = 1 := by kernel_rfl
  have c3 : Tryd.prog.cellsOf 25 = 1 := by kernel_rfl
  have h0 : DataW.trod enc Tryd.prog W base spare held m 23 ((cs.drop 0).take (Tryd.prog.cellsOf 23)) = xs[0]? := hg 0 _ rfl
  rw [c3] at hlen
  rw [c1, List.drop_zero, List.take_of_length_le (by omega)] at h0
  have hx1 : xs.length = 1 := hxl
  subst hx
  match xs, hx1 with
  | [x0], _ =>
    have hl0 : Light Tryd.prog 23 x0.1 := light_field Tryd.underlying25 hl (i := 0) (f := _) rfl rfl
    obtain ⟨A, n, c, t, e1, e2, e3, e4⟩ := open_shp updK Upd.ok (by show Tryd.prog.cellsOf 104 = 22; kernel_rfl) (by show 0 < Tryd.prog.bytesOf 104; exact of_decide_eq_true (by kernel_rfl)) (fun fuel cs y hy _ => by
      obtain ⟨r, e, hr⟩ := open_upd_cells hy
      exact ⟨r, e, hr.fits, hr⟩) (show DataW.trod enc Tryd.prog W base spare held m 23 cs = some x0 from h0) hl0
    refine ⟨A, n, c, t, e1, e2, e3, ?_⟩
    have hb : Tryd.prog.bytesOf (updK).t = 64 := by show Tryd.prog.bytesOf 104 = 64; kernel_rfl
    rw [hb] at e4
    exact e4
end
end Go.Proofs.YtifejiclenpfoaaDoor

/- The first place where something holds. -/
namespace Go.Proofs.YtifejiclenpfoaaDoor
open Go.RowKit
set_option linter.unusedVariables false
set_option linter.unusedSimpArgs false
set_option maxRecDepth 4000
def idxE {α : Type} (q : α → Bool) (t : List α) : Int := match t.findIdx? q with | some i => i | none => -1
theorem idxE_at {α : Type} {S : Shape α} {q : α → Bool} {t : List α} {i : Nat} (hi : i < t.length) (h : q (S.at_ t i) = true) (hl : ∀ k, k < i → q (S.at_ t k) = false) : idxE q t = (i : Int) := by
  have : t.findIdx? q = some i := by
    rw [List.findIdx?_eq_some_iff_getElem]
    have hg : ∀ k (hk : k < t.length), t[k] = S.at_ t k := fun k hk => by
      have := Shape.at_get (S := S) hk
      rw [List.getElem?_eq_getElem hk] at this
      exact Option.some.inj this
    refine ⟨hi, by rw [hg i hi]; exact h, fun k hk => ?_⟩
    rw [hg k (by omega), hl k hk]
    simp
  unfold idxE
  rw [this]
theorem idxE_none {α : Type} {S : Shape α} {q : α → Bool} {t : List α} (hl : ∀ k, k < t.length → q (S.at_ t k) = false) : idxE q t = -1 := by
  have : t.findIdx? q = none := by
    rw [List.findIdx?_eq_none_iff]
    intro x hx
    obtain ⟨k, hk, e⟩ := List.getElem_of_mem hx
    have := Shape.at_get (S := S) hk
    rw [List.getElem?_eq_getElem hk, e] at this
    rw [Option.some.inj this]
    exact hl k hk
  unfold idxE
  rw [this]
theorem idxE_any {α : Type} (q : α → Bool) (t : List α) : decide (0 ≤ idxE q t) = t.any q := by
  unfold idxE
  cases h : t.findIdx? q with
  | none =>
    rw [List.findIdx?_eq_none_iff] at h
    have : t.any q = false := by
      rw [List.any_eq_false]
      intro x hx
      rw [h x hx]
      decide
    rw [this]
    decide
  | some i =>
    rw [List.findIdx?_eq_some_iff_getElem] at h
    obtain ⟨hi, h1, _⟩ := h
    have : t.any q = true := by
      rw [List.any_eq_true]
      exact ⟨_, List.getElem_mem hi, h1⟩
    rw [this]
    exact decide_eq_true (Int.natCast_nonneg i)
end Go.Proofs.YtifejiclenpfoaaDoor

/- Layer 11 (route): the library's functions over slices of candidates and of updates. -/
namespace Go.Proofs.YtifejiclenpfoaaDoor
open Go.RowKit
set_option linter.unusedVariables false
set_option linter.unusedSimpArgs false
set_option maxRecDepth 4000
set_option maxHeartbeats 1000000 in
theorem equalQ_any (A : Option Addr) (n c : Nat) (t : List Rte) (A2 : Option Addr) (m c2 : Nat) (u : List Rte) (w : World) (h1 : RS rteK w A n c t) (h2 : RS rteK w A2 m c2 u) (o1 : rteE.all t) (o2 : rteE.all u) (hn : n ≤ 1000000) (hm : m ≤ 1000000) :
    Calls Tryd.prog 80 #[.slice A n c, .slice A2 m c2] w fun e w' => e = .returned (.bool (rteE.eqL t u)) ∧ Below w.heap.size w w' := by
  have H1 := Lib.hid h1
  have H2 := Lib.hid h2
  have O1 := Lib.hid o1
  have O2 := Lib.hid o2
  clear h1 h2 o1 o2
  by_cases hnm : n = m
  · subst hnm
    have hlen : t.length = u.length := by rw [H1.out.len, H2.out.len]
    have HLEN := Lib.hid hlen
    clear hlen
    go_enter Tryd.func80, Tryd.ntmps80
    go_wp2_with fail
    go_loopw [13] (fun x wr => ∃ i : Nat, x = .int .i64 i ∧ Hid (i ≤ n ∧ (∀ k, k < i → rteE.eqB (Shape.at_ rteK t k) (Shape.at_ rteK u k) = true) ∧ Below w.heap.size w wr)) (fun x _ => n - (intOf x).toNat)
    case atStart => exact ⟨0, rfl, Nat.zero_le _, fun k h => by omega, Below.refl _ _⟩
    case round =>
      obtain ⟨i, rfl, HH⟩ := hrel
      by_cases hlt : i < n
      · have hlt' : (i : Int) < n := by omega
        obtain ⟨b, o, rfl, hc⟩ := H1.out.at_ (by omega)
        obtain ⟨b2, o2, rfl, hc2⟩ := H2.out.at_ (by omega)
        have HC1 := Lib.hid (hc i hlt)
        have HC2 := Lib.hid (hc2 i hlt)
        clear hc hc2
        go_wp2_with fail
        refine wp_region_mix (fun w0 => Below (wr).heap.size (wr) w0) [(0, 0), (1, 0), (2, 0), (3, 0), (4, 0), (5, 0), (6, 0), (7, 0), (8, 0)] (by kernel_rfl) (by kernel_rfl) (below_drew1 _) ?_
        simp only [List.map_cons, List.map_nil]
        iterate 3 (refine wpO_step0 rfl rfl (fun K hK => ?_); go_simp; refine hK _ _ ?_; clear hK K)
        refine wpO_loadW (t := 121) (ad := ⟨b, (o+i*21), none⟩) rfl rfl ?hw rfl rfl ((fun w0 hS => Shape.ld rteK w0 b _ _ (H1.out.fits_at hlt) (HC1.out.below (below_step HH.out.2.2 hS)))) ?_
        case hw => go_simp
        iterate 3 (refine wpO_step0 rfl rfl (fun K hK => ?_); go_simp; refine hK _ _ ?_; clear hK K)
        refine wpO_loadW (t := 121) (ad := ⟨b2, (o2+i*21), none⟩) rfl rfl ?hw rfl rfl ((fun w0 hS => Shape.ld rteK w0 b2 _ _ (H2.out.fits_at hlt) (HC2.out.below (below_step HH.out.2.2 hS)))) ?_
        case hw => go_simp
        refine wpO_step0 rfl rfl (fun K hK => ?_)
        rw [if_pos (show Region.wanted _ _ = true from rfl)]
        refine ⟨_, fun w0 => ShapeEq.neq rteE rfl (Shape.at_ rteK t i) (Shape.at_ rteK u i) rfl rfl (ShapeEq.all_at O1.out (by rw [H1.out.len]; exact hlt)) (ShapeEq.all_at O2.out (by rw [H2.out.len]; exact hlt)) w0, hK _ _ ?_⟩
        clear hK K
        refine wpO_nil ?_
        cases hq : rteE.eqB (Shape.at_ rteK t i) (Shape.at_ rteK u i) with
        | true =>
          have HQ := Lib.hid hq
          clear hq
          go_wp2_with fail
          go_roundw
          case measure => simp [intOf]; omega
          case rel =>
            refine ⟨i + 1, by go_num, by omega, fun k hk => ?_, below_step HH.out.2.2 (below_drew1 _)⟩
            by_cases hki : k < i
            · exact HH.out.2.1 k hki
            · rw [show k = i by omega]; exact HQ.out
        | false =>
          have HE : Hid (rteE.eqL t u = false) := Lib.hid (ShapeEq.eqL_no (by rw [H1.out.len]; exact hlt) (by rw [H2.out.len]; exact hlt) hq)
          clear hq
          go_wp2
          go_ret
          rw [HE.out]
          exact ⟨rfl, below_step HH.out.2.2 (below_drew1 _)⟩
      · have hlt' : decide (i < n) = false := decide_eq_false hlt
        have HE : Hid (rteE.eqL t u = true) := Lib.hid (ShapeEq.eqL_yes HLEN.out (fun k hk => HH.out.2.1 k (by rw [H1.out.len] at hk; have := HH.out.1; omega)))
        clear hlt
        go_wp2
        go_ret
        rw [HE.out]
        exact ⟨rfl, HH.out.2.2⟩
  · have HE : Hid (rteE.eqL t u = false) := Lib.hid (ShapeEq.eqL_len (by rw [H1.out.len, H2.out.len]; exact hnm))
    have hnm' : (n == m) = false := by simpa using hnm
    clear hnm
    go_enter Tryd.func80, Tryd.ntmps80
    go_wp2
    go_ret
    rw [HE.out]
    exact ⟨rfl, Below.refl _ _⟩
set_option maxHeartbeats 1000000 in
theorem equalU_any (A : Option Addr) (n c : Nat) (t : List Upd) (A2 : Option Addr) (m c2 : Nat) (u : List Upd) (w : World) (h1 : RS updK w A n c t) (h2 : RS updK w A2 m c2 u) (o1 : updE.all t) (o2 : updE.all u) (hn : n ≤ 1000000) (hm : m ≤ 1000000) :
    Calls Tryd.prog 49 #[.slice A n c, .slice A2 m c2] w fun e w' => e = .returned (.bool (updE.eqL t u)) ∧ Below w.heap.size w w' := by
  have H1 := Lib.hid h1
  have H2 := Lib.hid h2
  have O1 := Lib.hid o1
  have O2 := Lib.hid o2
  clear h1 h2 o1 o2
  by_cases hnm : n = m
  · subst hnm
    have hlen : t.length = u.length := by rw [H1.out.len, H2.out.len]
    have HLEN := Lib.hid hlen
    clear hlen
    go_enter Tryd.func49, Tryd.ntmps49
    go_wp2_with fail
    go_loopw [13] (fun x wr => ∃ i : Nat, x = .int .i64 i ∧ Hid (i ≤ n ∧ (∀ k, k < i → updE.eqB (Shape.at_ updK t k) (Shape.at_ updK u k) = true) ∧ Below w.heap.size w wr)) (fun x _ => n - (intOf x).toNat)
    case atStart => exact ⟨0, rfl, Nat.zero_le _, fun k h => by omega, Below.refl _ _⟩
    case round =>
      obtain ⟨i, rfl, HH⟩ := hrel
      by_cases hlt : i < n
      · have hlt' : (i : Int) < n := by omega
        obtain ⟨b, o, rfl, hc⟩ := H1.out.at_ (by omega)
        obtain ⟨b2, o2, rfl, hc2⟩ := H2.out.at_ (by omega)
        have HC1 := Lib.hid (hc i hlt)
        have HC2 := Lib.hid (hc2 i hlt)
        clear hc hc2
        go_wp2_with fail
        refine wp_region_mix (fun w0 => Below (wr).heap.size (wr) w0) [(0, 0), (1, 0), (2, 0), (3, 0), (4, 0), (5, 0), (6, 0), (7, 0), (8, 0)] (by kernel_rfl) (by kernel_rfl) (below_drew1 _) ?_
        simp only [List.map_cons, List.map_nil]
        iterate 3 (refine wpO_step0 rfl rfl (fun K hK => ?_); go_simp; refine hK _ _ ?_; clear hK K)
        refine wpO_loadW (t := 104) (ad := ⟨b, (o+i*22), none⟩) rfl rfl ?hw rfl rfl ((fun w0 hS => Shape.ld updK w0 b _ _ (H1.out.fits_at hlt) (HC1.out.below (below_step HH.out.2.2 hS)))) ?_
        case hw => go_simp
        iterate 3 (refine wpO_step0 rfl rfl (fun K hK => ?_); go_simp; refine hK _ _ ?_; clear hK K)
        refine wpO_loadW (t := 104) (ad := ⟨b2, (o2+i*22), none⟩) rfl rfl ?hw rfl rfl ((fun w0 hS => Shape.ld updK w0 b2 _ _ (H2.out.fits_at hlt) (HC2.out.below (below_step HH.out.2.2 hS)))) ?_
        case hw => go_simp
        refine wpO_step0 rfl rfl (fun K hK => ?_)
        rw [if_pos (show Region.wanted _ _ = true from rfl)]
        refine ⟨_, fun w0 => ShapeEq.neq updE rfl (Shape.at_ updK t i) (Shape.at_ updK u i) rfl rfl (ShapeEq.all_at O1.out (by rw [H1.out.len]; exact hlt)) (ShapeEq.all_at O2.out (by rw [H2.out.len]; exact hlt)) w0, hK _ _ ?_⟩
        clear hK K
        refine wpO_nil ?_
        cases hq : updE.eqB (Shape.at_ updK t i) (Shape.at_ updK u i) with
        | true =>
          have HQ := Lib.hid hq
          clear hq
          go_wp2_with fail
          go_roundw
          case measure => simp [intOf]; omega
          case rel =>
            refine ⟨i + 1, by go_num, by omega, fun k hk => ?_, below_step HH.out.2.2 (below_drew1 _)⟩
            by_cases hki : k < i
            · exact HH.out.2.1 k hki
            · rw [show k = i by omega]; exact HQ.out
        | false =>
          have HE : Hid (updE.eqL t u = false) := Lib.hid (ShapeEq.eqL_no (by rw [H1.out.len]; exact hlt) (by rw [H2.out.len]; exact hlt) hq)
          clear hq
          go_wp2
          go_ret
          rw [HE.out]
          exact ⟨rfl, below_step HH.out.2.2 (below_drew1 _)⟩
      · have hlt' : decide (i < n) = false := decide_eq_false hlt
        have HE : Hid (updE.eqL t u = true) := Lib.hid (ShapeEq.eqL_yes HLEN.out (fun k hk => HH.out.2.1 k (by rw [H1.out.len] at hk; have := HH.out.1; omega)))
        clear hlt
        go_wp2
        go_ret
        rw [HE.out]
        exact ⟨rfl, HH.out.2.2⟩
  · have HE : Hid (updE.eqL t u = false) := Lib.hid (ShapeEq.eqL_len (by rw [H1.out.len, H2.out.len]; exact hnm))
    have hnm' : (n == m) = false := by simpa using hnm
    clear hnm
    go_enter Tryd.func49, Tryd.ntmps49
    go_wp2
    go_ret
    rw [HE.out]
    exact ⟨rfl, Below.refl _ _⟩
set_option maxHeartbeats 1000000 in
theorem indexfU_any (A : Option Addr) (n c : Nat) (t : List Upd) (w : World) (g : Nat) (hr : RS updK w A n c t) (hn : n ≤ 1000000) (q : Upd → Bool)
    (hq : ∀ i, i < n → ∀ w1, Below w.heap.size w w1 → Calls Tryd.prog 61 #[updK.val (updK.at_ t i), .pointer (some ⟨g, 0, none⟩)] w1 fun e w2 => e = .returned (.bool (q (updK.at_ t i))) ∧ Below w1.heap.size w1 w2) :
    Calls Tryd.prog 92 #[.slice A n c, .func (Fn.func 61) #[] #[.pointer (some ⟨g, 0, none⟩)]] w fun e w' => e = .returned (.int .i64 (idxE q t)) ∧ Below w.heap.size w w' := by
  have HR := Lib.hid hr
  have HQ := Lib.hid hq
  clear hr hq
  go_enter Tryd.func92, Tryd.ntmps92
  go_wp2_with fail
  go_loopw [8] (fun x wr => ∃ i : Nat, x = .int .i64 i ∧ Hid (i ≤ n ∧ (∀ k, k < i → q (updK.at_ t k) = false) ∧ Below w.heap.size w wr)) (fun x _ => n - (intOf x).toNat)
  case atStart => exact ⟨0, rfl, Nat.zero_le _, fun k h => by omega, Below.refl _ _⟩
  case round =>
    obtain ⟨i, rfl, HH⟩ := hrel
    by_cases hlt : i < n
    · have hlt' : (i : Int) < n := by omega
      obtain ⟨b, o, rfl, hc⟩ := RS.at_ HR.out (by omega)
      have hld := Shape.ld updK wr b _ _ (RS.fits_at HR.out hlt) ((hc i hlt).below HH.out.2.2)
      have HIL := Lib.hid (show i < t.length by rw [HR.out.len]; exact hlt)
      clear hc
      go_wp2_with (first | ((with_reducible show wpList _ _ _ (Oper.mk _ (Op.load _ _) _ _ _ _ :: _) _ _); refine wpList_load_g hld _ rfl rfl (by go_simp) ?_))
      refine (HQ.out i hlt wr HH.out.2.2).mono ?_
      rintro e w2 ⟨rfl, hb2⟩
      have HB2 := Lib.hid (below_step HH.out.2.2 hb2)
      clear hb2 hld
      cases hqq : q (updK.at_ t i) with
      | true =>
        have HE : Hid (idxE q t = (i : Int)) := Lib.hid (idxE_at (S := updK) HIL.out hqq HH.out.2.1)
        clear hqq
        go_wp2
        go_ret
        rw [HE.out]
        exact ⟨rfl, HB2.out⟩
      | false =>
        have HN := Lib.hid hqq
        clear hqq
        go_wp2_with fail
        go_roundw
        case measure => simp [intOf]; omega
        case rel =>
          refine ⟨i + 1, by go_num, by omega, fun k hk => ?_, HB2.out⟩
          by_cases hki : k < i
          · exact HH.out.2.1 k hki
          · rw [show k = i by omega]; exact HN.out
    · have hlt' : decide (i < n) = false := decide_eq_false hlt
      have HE : Hid (idxE q t = -1) := Lib.hid (idxE_none (S := updK) (fun k hk => HH.out.2.1 k (by rw [HR.out.len] at hk; omega)))
      clear hlt
      go_wp2
      go_ret
      rw [HE.out]
      exact ⟨rfl, HH.out.2.2⟩
theorem containsU_any (A : Option Addr) (n c : Nat) (t : List Upd) (w : World) (g : Nat) (hr : RS updK w A n c t) (hn : n ≤ 1000000) (q : Upd → Bool)
    (hq : ∀ i, i < n → ∀ w1, Below w.heap.size w w1 → Calls Tryd.prog 61 #[updK.val (updK.at_ t i), .pointer (some ⟨g, 0, none⟩)] w1 fun e w2 => e = .returned (.bool (q (updK.at_ t i))) ∧ Below w1.heap.size w1 w2) :
    Calls Tryd.prog 60 #[.slice A n c, .func (Fn.func 61) #[] #[.pointer (some ⟨g, 0, none⟩)]] w fun e w' => e = .returned (.bool (t.any q)) ∧ Below w.heap.size w w' := by
  have HI := Lib.hid (indexfU_any A n c t w g hr hn q hq)
  clear hq hr
  go_enter Tryd.func60, Tryd.ntmps60
  go_wp2_with fail
  refine HI.out.mono ?_
  rintro e w1 ⟨rfl, hb1⟩
  have HB1 := Lib.hid hb1
  clear hb1
  go_wp2
  go_ret
  rw [idxE_any]
  exact ⟨rfl, HB1.out⟩
end Go.Proofs.YtifejiclenpfoaaDoor

/- Layer 11 (route): prefixes, Check, CheckBatch; the document's prefixes, Right, RightBatch. -/
namespace Go.Proofs.YtifejiclenpfoaaDoor
open Go.RowKit
set_option linter.unusedVariables false
set_option linter.unusedSimpArgs false
set_option maxRecDepth 4000
def batE (l : List Upd) : Int := if batB l then 0 else 210
theorem any_twin (l : List Upd) {i : Nat} (hi : i < l.length) : (l.take i).any (fun x => twin x (updAt l i)) = false ↔ ∀ k, k < i → twin (updAt l k) (updAt l i) = false := by
  rw [List.any_eq_false]
  constructor
  · intro h k hk
    rw [Bool.eq_false_iff]
    refine h _ ?_
    refine List.mem_of_getElem? (i := k) ?_
    rw [List.getElem?_take, if_pos hk]
    exact getD_get (by omega)
  · intro h x hx
    obtain ⟨k, hk, he⟩ := List.getElem_of_mem hx
    rw [List.length_take] at hk
    have h1 := h k (by omega)
    have : updAt l k = x := by
      rw [← he, List.getElem_take]
      have h2 := getD_get (z := updZ) (show k < l.length by omega)
      rw [List.getElem?_eq_getElem (by omega)] at h2
      exact (Option.some.inj h2).symm
    rw [this] at h1
    rw [h1]
    decide
theorem batsB_iff (l : List Upd) : batsB l = true ↔ ∀ j, j < l.length → updB (updAt l j) = true ∧ ∀ k, k < j → twin (updAt l k) (updAt l j) = false := by
  unfold batsB
  rw [decide_eq_true_eq]
theorem batE_no {l : List Upd} {i : Nat} (hi : i < l.length) (h : updB (updAt l i) = false ∨ (l.take i).any (fun x => twin x (updAt l i)) = true) : batE l = 210 := by
  unfold batE
  rw [if_neg]
  intro hb
  unfold batB at hb
  rw [Bool.and_eq_true, batsB_iff] at hb
  rcases h with h | h
  · rw [(hb.2 i hi).1] at h; cases h
  · rw [(any_twin l hi).2 (hb.2 i hi).2] at h; cases h
set_option maxHeartbeats 4000000 in
theorem rcheckb_any (A : Option Addr) (n c : Nat) (l : List Upd) (w : World) (hL : Laid w) (hr : RS updK w A n c l) (ok : Oku l) (hn : n ≤ 100000) : Calls Tryd.prog 40 #[.agg (tabV A n c)] w fun e w' => e = .returned (.int .i64 (batE l)) ∧ Below w.heap.size w w' := by
  have hblk1 := blk_new w (.cells (tabV A n c) 25)
  have hbel1 : Below w.heap.size w (w.alloc (.cells (tabV A n c) 25)) := below_alloc (Below.refl _ _) _
  have HP1 := Lib.hid (bat_at hblk1)
  have HBK1 := Lib.hid hblk1
  have HBE := Lib.hid hbel1
  have HL := Lib.hid (hL.below HBE.out)
  obtain ⟨cs1, hcs1⟩ : ∃ cs, tabV A n c = cs := ⟨_, rfl⟩
  simp only [hcs1] at HBE HL HP1 HBK1 ⊢
  have HC1 := Lib.hid hcs1
  clear hL hcs1 hblk1 hbel1
  have HR := Lib.hid (hr.below HBE.out)
  have OK := Lib.hid ok
  clear hr ok
  go_enter Tryd.func40, Tryd.ntmps40
  by_cases h1 : n < 1
  · have h1b : decide ((n : Int) < 1) = true := decide_eq_true (by omega)
    have HE : Hid (batE l = 210) := Lib.hid (by unfold batE batB; rw [HR.out.len, decide_eq_false (show ¬ 1 ≤ n by omega)]; rfl)
    go_wp2_with (first | ((with_reducible show wpList _ _ _ (Oper.mk _ (Op.load _ _) _ _ _ _ :: _) _ _); refine wpList_load_g ((HP1.out.all _ (Below.refl _ _)).2) _ rfl rfl (by go_simp) ?_))
    go_ret
    rw [HE.out]
    exact ⟨rfl, HBE.out⟩
  · have h1b : decide ((n : Int) < 1) = false := decide_eq_false (by omega)
    by_cases h8 : 8 < n
    · have h8b : decide ((8 : Int) < n) = true := decide_eq_true (by omega)
      have HE : Hid (batE l = 210) := Lib.hid (by unfold batE batB; rw [HR.out.len, decide_eq_false (show ¬ n ≤ 8 by omega), Bool.and_false]; rfl)
      go_wp2_with (first | ((with_reducible show wpList _ _ _ (Oper.mk _ (Op.load _ _) _ _ _ _ :: _) _ _); refine wpList_load_g ((HP1.out.all _ (Below.refl _ _)).2) _ rfl rfl (by go_simp) ?_))
      go_ret
      rw [HE.out]
      exact ⟨rfl, HBE.out⟩
    · have h8b : decide ((8 : Int) < n) = false := decide_eq_false (by omega)
      go_wp2_with (first | ((with_reducible show wpList _ _ _ (Oper.mk _ (Op.load _ _) _ _ _ _ :: _) _ _); refine wpList_load_g ((HP1.out.all _ (Below.refl _ _)).2) _ rfl rfl (by go_simp) ?_))
      go_loopw [19] (fun s19 wr => ∃ i : Nat, s19 = .int .i64 i ∧ Hid (i ≤ n ∧ (∀ j, j < i → updB (updAt l j) = true ∧ ∀ k, k < j → twin (updAt l k) (updAt l j) = false) ∧ Below (w.alloc (.cells cs1 25)).heap.size (w.alloc (.cells cs1 25)) wr)) (fun x _ => n - (intOf x).toNat)
      case atStart => exact ⟨0, rfl, Nat.zero_le _, fun j h => by omega, Below.refl _ _⟩
      case round =>
        obtain ⟨i, rfl, HI⟩ := hrel
        have hcap := HR.out.cap
        by_cases hlt : i < n
        · have hlt' : (i : Int) < n := by omega
          obtain ⟨b, o, hA, hc⟩ := RS.at_ HR.out (by omega)
          have hil : i < l.length := by rw [HR.out.len]; exact hlt
          have HIL := Lib.hid hil
          have HXO := Lib.hid (OK.out.at_ hil)
          have hla := Shape.ld updK wr b _ _ HXO.out.fits ((hc i hlt).below HI.out.2.2)
          have hla : (Instr.loadAt 104 (.pointer (some ⟨b, o + i * 22, none⟩))).run Tryd.prog wr = .ok (.agg (updV (updAt l i))) wr := hla
          obtain ⟨x, hx⟩ : ∃ x, updAt l i = x := ⟨_, rfl⟩
          rw [hx] at hla HXO
          have HX := Lib.hid hx
          have HBI := Lib.hid HI.out.2.2
          have HB2f := Lib.hid (fun (W : World) (h : (wr.alloc (.cells (updV updZ) 104)).grownBy W (some wr.heap.size)) => below_grown (below_alloc (Below.refl wr.heap.size wr) (.cells (updV updZ) 104)) h (Nat.le_refl _))
          subst hA
          clear hc hx hil
          have hile : i ≤ c := by omega
          have HRI := Lib.hid (RS.take HR.out i (by omega))
          go_wp2_with (first | ((with_reducible show wpList _ _ _ (Oper.mk _ (Op.load _ _) _ _ _ _ :: _) _ _); refine wpList_load_g hla _ rfl rfl (by go_simp) ?_) | ((with_reducible show wpList _ _ _ (Oper.mk _ (Op.store _ _ _) _ _ _ _ :: _) _ _); refine wpList_store_blk (blk_new wr _) 104 0 (updV x) (store_upd_fit HXO.out.fits rfl) (info_upd HXO.out.fits) (updV_one _) _ _ rfl rfl rfl rfl ?_; intro w2 hg9 hs9 hb9; rw [splice_upd HXO.out.fits rfl] at hb9; have H2 := Lib.hid (And.intro hg9 hb9); clear hg9 hs9 hb9) | ((with_reducible show wpList _ _ _ (Oper.mk _ (Op.load _ _) _ _ _ _ :: _) _ _); refine wpList_load_g ((HP1.out.all _ (below_step HBI.out (HB2f.out _ H2.out.1))).2) _ rfl rfl (by go_simp) ?_))
          have HBR := Lib.hid (HB2f.out _ H2.out.1)
          have HB2 := Lib.hid (below_step HBI.out HBR.out)
          have HG2 := Lib.hid H2.out.2
          have OKT : Hid (Oku (l.take i)) := Lib.hid (fun u hu => OK.out u (List.mem_of_mem_take hu))
          have HTL : Hid ((l.take i).length = i) := Lib.hid (by rw [List.length_take]; have := HIL.out; omega)
          clear HB2f H2 hla
          refine (containsU_any (some ⟨b, o, none⟩) i c (l.take i) w2 wr.heap.size (HRI.out.below HB2.out) (by omega) (fun z => twin z x) (fun k hk w1 hb => twin1_any (updK.at_ (l.take i) k) x wr.heap.size w1 (OKT.out.at_ (by rw [HTL.out]; exact hk)) HXO.out (upd_at HXO.out.fits (blk_below HG2.out hb)))).mono ?_
          rintro e w3 ⟨rfl, hb3⟩
          obtain ⟨T, hT⟩ : ∃ T, (l.take i).any (fun z => twin z x) = T := ⟨_, rfl⟩
          rw [hT]
          have HT := Lib.hid hT
          have HB3 := Lib.hid (below_step HB2.out hb3)
          have HG3 := Lib.hid (blk_below HG2.out hb3)
          clear hb3 hT HG2 hile
          go_wp2_with (first | ((with_reducible show wpList _ _ _ (Oper.mk _ (Op.load _ _) _ _ _ _ :: _) _ _); refine wpList_load_g (((upd_at HXO.out.fits HG3.out).all _ (Below.refl _ _)).all) _ rfl rfl (by go_simp) ?_))
          refine (update_any x w3 (HL.out.below HB3.out) HXO.out.fits).mono ?_
          rintro e w4 ⟨rfl, hb4⟩
          have HB4 := Lib.hid (below_step HB3.out hb4)
          clear hb4
          cases hU : updB x with
          | false =>
            have HE := Lib.hid (batE_no HIL.out (.inl (by rw [show updAt l i = x from HX.out, hU])))
            clear hU
            go_wp2_with fail
            go_ret
            rw [HE.out]
            exact ⟨rfl, below_step HBE.out HB4.out⟩
          | true =>
            cases T with
            | true =>
              have HE := Lib.hid (batE_no HIL.out (.inr (by rw [show updAt l i = x from HX.out]; exact HT.out)))
              clear hU
              go_wp2_with fail
              go_ret
              rw [HE.out]
              exact ⟨rfl, below_step HBE.out HB4.out⟩
            | false =>
              have HN : Hid (∀ j, j < i + 1 → updB (updAt l j) = true ∧ ∀ k, k < j → twin (updAt l k) (updAt l j) = false) := Lib.hid (fun j hj => by
                rcases Nat.lt_or_ge j i with h | h
                · exact HI.out.2.1 j h
                · obtain rfl : j = i := by omega
                  have ht := HT.out
                  rw [← show updAt l j = x from HX.out] at ht hU
                  exact ⟨hU, (any_twin l HIL.out).1 ht⟩)
              clear hU
              go_wp2_with fail
              go_roundw
              case measure => simp [intOf]; omega
              case rel => exact ⟨i + 1, by go_num, by omega, HN.out, HB4.out⟩
        · have hlt' : decide (i < n) = false := decide_eq_false hlt
          have hin : i = n := by have := HI.out.1; omega
          have HE : Hid (batE l = 0) := Lib.hid (by
            unfold batE batB
            rw [(batsB_iff l).2 (by rw [HR.out.len, ← hin]; exact HI.out.2.1), HR.out.len, decide_eq_true (show 1 ≤ n by omega), decide_eq_true (show n ≤ 8 by omega)]
            rfl)
          clear hlt hin
          go_wp2
          go_ret
          rw [HE.out]
          exact ⟨rfl, below_step HBE.out HI.out.2.2⟩
end Go.Proofs.YtifejiclenpfoaaDoor

/- Layer 11 (route): Same, SameBatch; the document's Same, SameBatch, prefixes, Right, RightBatch. -/
namespace Go.Proofs.YtifejiclenpfoaaDoor
open Go.RowKit
set_option linter.unusedVariables false
set_option linter.unusedSimpArgs false
set_option maxRecDepth 4000
theorem rsame_any (A : Option Addr) (n c : Nat) (t : List Rte) (A2 : Option Addr) (m c2 : Nat) (u : List Rte) (w : World) (ht : RS rteK w A n c t) (hu : RS rteK w A2 m c2 u) (ot : Okr t) (ou : Okr u) (hn : n ≤ 100000) (hm : m ≤ 100000) :
    Calls Tryd.prog 46 #[.agg (tabV A n c), .agg (tabV A2 m c2)] w fun e w' => e = .returned (.bool (rteE.eqL t u)) ∧ Below w.heap.size w w' := by
  have hblk1 := blk_new w (.cells (tabV A n c) 37)
  have hbel1 : Below w.heap.size w (w.alloc (.cells (tabV A n c) 37)) := below_alloc (Below.refl _ _) _
  have hblk2 := blk_new (w.alloc (.cells (tabV A n c) 37)) (.cells (tabV A2 m c2) 37)
  have hbel2 : Below w.heap.size w ((w.alloc (.cells (tabV A n c) 37)).alloc (.cells (tabV A2 m c2) 37)) := below_alloc (hbel1) _
  rw [show (w.alloc (.cells (tabV A n c) 37)).heap.size = w.heap.size + 1 by simp] at hblk2
  replace hblk1 := blk_below hblk1 (below_alloc (Below.refl _ _) (.cells (tabV A2 m c2) 37))
  have HP1 := Lib.hid (rib_at hblk1)
  have HBK1 := Lib.hid hblk1
  have HP2 := Lib.hid (rib_at hblk2)
  have HBK2 := Lib.hid hblk2
  have HBE := Lib.hid hbel2
  obtain ⟨cs1, hcs1⟩ : ∃ cs, tabV A n c = cs := ⟨_, rfl⟩
  obtain ⟨cs2, hcs2⟩ : ∃ cs, tabV A2 m c2 = cs := ⟨_, rfl⟩
  simp only [hcs1, hcs2] at HBE HP1 HP2 HBK1 HBK2 ⊢
  have HC1 := Lib.hid hcs1
  have HC2 := Lib.hid hcs2
  clear hcs1 hblk1 hbel1 hcs2 hblk2 hbel2
  have H1 := Lib.hid (ht.below HBE.out)
  have H2 := Lib.hid (hu.below HBE.out)
  clear ht hu
  go_enter Tryd.func46, Tryd.ntmps46
  go_wp2_with (first | ((with_reducible show wpList _ _ _ (Oper.mk _ (Op.load _ _) _ _ _ _ :: _) _ _); refine wpList_load_g ((HP1.out.all _ (Below.refl _ _)).2) _ rfl rfl (by go_simp) ?_) | ((with_reducible show wpList _ _ _ (Oper.mk _ (Op.load _ _) _ _ _ _ :: _) _ _); refine wpList_load_g ((HP2.out.all _ (Below.refl _ _)).2) _ rfl rfl (by go_simp) ?_))
  refine (equalQ_any A n c t A2 m c2 u _ H1.out H2.out ot ou (by omega) (by omega)).mono ?_
  rintro e w1 ⟨rfl, hb1⟩
  have HB1 := Lib.hid (below_step HBE.out hb1)
  clear hb1
  go_wp2
  go_ret
  exact ⟨rfl, HB1.out⟩
theorem rsameb_any (A : Option Addr) (n c : Nat) (t : List Upd) (A2 : Option Addr) (m c2 : Nat) (u : List Upd) (w : World) (ht : RS updK w A n c t) (hu : RS updK w A2 m c2 u) (ot : Oku t) (ou : Oku u) (hn : n ≤ 100000) (hm : m ≤ 100000) :
    Calls Tryd.prog 23 #[.agg (tabV A n c), .agg (tabV A2 m c2)] w fun e w' => e = .returned (.bool (updE.eqL t u)) ∧ Below w.heap.size w w' := by
  have hblk1 := blk_new w (.cells (tabV A n c) 25)
  have hbel1 : Below w.heap.size w (w.alloc (.cells (tabV A n c) 25)) := below_alloc (Below.refl _ _) _
  have hblk2 := blk_new (w.alloc (.cells (tabV A n c) 25)) (.cells (tabV A2 m c2) 25)
  have hbel2 : Below w.heap.size w ((w.alloc (.cells (tabV A n c) 25)).alloc (.cells (tabV A2 m c2) 25)) := below_alloc (hbel1) _
  rw [show (w.alloc (.cells (tabV A n c) 25)).heap.size = w.heap.size + 1 by simp] at hblk2
  replace hblk1 := blk_below hblk1 (below_alloc (Below.refl _ _) (.cells (tabV A2 m c2) 25))
  have HP1 := Lib.hid (bat_at hblk1)
  have HBK1 := Lib.hid hblk1
  have HP2 := Lib.hid (bat_at hblk2)
  have HBK2 := Lib.hid hblk2
  have HBE := Lib.hid hbel2
  obtain ⟨cs1, hcs1⟩ : ∃ cs, tabV A n c = cs := ⟨_, rfl⟩
  obtain ⟨cs2, hcs2⟩ : ∃ cs, tabV A2 m c2 = cs := ⟨_, rfl⟩
  simp only [hcs1, hcs2] at HBE HP1 HP2 HBK1 HBK2 ⊢
  have HC1 := Lib.hid hcs1
  have HC2 := Lib.hid hcs2
  clear hcs1 hblk1 hbel1 hcs2 hblk2 hbel2
  have H1 := Lib.hid (ht.below HBE.out)
  have H2 := Lib.hid (hu.below HBE.out)
  clear ht hu
  go_enter Tryd.func23, Tryd.ntmps23
  go_wp2_with (first | ((with_reducible show wpList _ _ _ (Oper.mk _ (Op.load _ _) _ _ _ _ :: _) _ _); refine wpList_load_g ((HP1.out.all _ (Below.refl _ _)).2) _ rfl rfl (by go_simp) ?_) | ((with_reducible show wpList _ _ _ (Oper.mk _ (Op.load _ _) _ _ _ _ :: _) _ _); refine wpList_load_g ((HP2.out.all _ (Below.refl _ _)).2) _ rfl rfl (by go_simp) ?_))
  refine (equalU_any A n c t A2 m c2 u _ H1.out H2.out ot ou (by omega) (by omega)).mono ?_
  rintro e w1 ⟨rfl, hb1⟩
  have HB1 := Lib.hid (below_step HBE.out hb1)
  clear hb1
  go_wp2
  go_ret
  exact ⟨rfl, HB1.out⟩
/-! The document's prefixes. -/
theorem Okr.fits {l : List Rte} (h : Okr l) : ∀ r ∈ l, r.fits := fun r hr => (h r hr).fits
end Go.Proofs.YtifejiclenpfoaaDoor

/- Slices of elements of whatever shape: made, cut, one element stored. -/
namespace Go.Proofs.YtifejiclenpfoaaDoor
open Go.RowKit
set_option linter.unusedVariables false
set_option linter.unusedSimpArgs false
set_option maxRecDepth 4000
theorem OS.made {α : Type} (S : Shape α) (W : World) (base n : Nat) (hb : base ≤ W.heap.size) (hn : n ≤ 1000000000) : OS S (W.alloc (.cells (S.cells (List.replicate n S.z)).toArray S.t)) base (some ⟨W.heap.size, 0, none⟩) n n (List.replicate n S.z) := by
  have := OS.new S W base (List.replicate n S.z) hb (fun a ha => by rw [List.eq_of_mem_replicate ha]; exact S.okz) (by simp; omega)
  rwa [List.length_replicate] at this
theorem blk_ownN {w w1 : World} {g : Nat} {o : Obj} {A : Option Addr} {n c : Nat} (h : w.heap[g]? = some o) (hg : w.grownBy w1 ((Value.slice A n c).ownBlock)) (ha : ∀ ad, A = some ad → ad.block ≠ g) : w1.heap[g]? = some o :=
  blk_grown h hg (fun e => by
    obtain ⟨ad, e1, e2⟩ := own_of e.symm
    exact ha ad e1 e2)
theorem kw_cast {α : Type} {K : α → World → Prop} {a : α} {w v : World} (h : w = v) (k : K a v) : K a w := h ▸ k
theorem OS.two {α : Type} (S : Shape α) (W : World) (base : Nat) (a b : α) (hb : base ≤ W.heap.size) (ha : S.ok a) (hbo : S.ok b) : OS S (W.alloc (.cells (S.cells [a, b]).toArray S.t)) base (some ⟨W.heap.size, 0, none⟩) 2 2 [a, b] :=
  OS.new S W base [a, b] hb (fun c hc => by
    rcases List.mem_cons.1 hc with rfl | hc
    · exact ha
    · rw [List.mem_singleton] at hc; rw [hc]; exact hbo) (by simp)
end Go.Proofs.YtifejiclenpfoaaDoor

/- Layer 9 (table): Get, Drop. -/
namespace Go.Proofs.YtifejiclenpfoaaDoor
open Go.RowKit
set_option linter.unusedVariables false
set_option linter.unusedSimpArgs false
set_option maxRecDepth 4000
end Go.Proofs.YtifejiclenpfoaaDoor

/- Layer 9 (table): Drop, Same, Set. -/
namespace Go.Proofs.YtifejiclenpfoaaDoor
open Go.RowKit
set_option linter.unusedVariables false
set_option linter.unusedSimpArgs false
set_option maxRecDepth 4000
theorem tab_one (A : Option Addr) (n c : Nat) : (tabV A n c).all (·.oneCell') = true := by simp [tabV, Value.oneCell']
theorem splice_tab (A A2 : Option Addr) (n c n2 c2 : Nat) : splice (tabV A n c) 0 (tabV A2 n2 c2).toList = tabV A2 n2 c2 := splice_all _ _ rfl
end Go.Proofs.YtifejiclenpfoaaDoor

/- Layer 9 (table): Set. -/
namespace Go.Proofs.YtifejiclenpfoaaDoor
open Go.RowKit
set_option linter.unusedVariables false
set_option linter.unusedSimpArgs false
set_option maxRecDepth 4000
end Go.Proofs.YtifejiclenpfoaaDoor

/- Layer 11 (route): Apply. -/
namespace Go.Proofs.YtifejiclenpfoaaDoor
open Go.RowKit
set_option linter.unusedVariables false
set_option linter.unusedSimpArgs false
set_option maxRecDepth 4000
/-- What the loop of Apply keeps: the rows of its own, and the cell that holds them. -/
structure AppS (w0 w : World) (g : Nat) (A : Option Addr) (n c : Nat) (l : List Rte) : Prop where
  own : OS rteK w w0.heap.size A n c l
  cell : w.heap[g]? = some (.cells (tabV A n c) 37 (0, 0))
  ne : ∀ ad, A = some ad → ad.block ≠ g
  bel : Below w0.heap.size w0 w
  gle : w0.heap.size ≤ g
theorem AppS.step {w0 w w1 : World} {g : Nat} {A : Option Addr} {n c : Nat} {l : List Rte} (h : AppS w0 w g A n c l) (hb : Below w.heap.size w w1) : AppS w0 w1 g A n c l := ⟨h.own.below hb, blk_below h.cell hb, h.ne, below_step h.bel hb, h.gle⟩
theorem AppS.put {w0 w w1 : World} {g : Nat} {ad : Addr} {n c : Nat} {l l' : List Rte} (h : AppS w0 w g (some ad) n c l) (ho : OS rteK w1 w0.heap.size (some ad) n c l') (hg : w.grownBy w1 (some ad.block)) : AppS w0 w1 g (some ad) n c l' :=
  ⟨ho, blk_grown h.cell hg (fun e => by injection e with e; exact h.ne ad rfl e.symm), h.ne, below_grown h.bel hg (h.own.base_ ad rfl), h.gle⟩
end Go.Proofs.YtifejiclenpfoaaDoor

/- Layer 11 (route): the document's Apply. -/
namespace Go.Proofs.YtifejiclenpfoaaDoor
open Go.RowKit
set_option linter.unusedVariables false
set_option linter.unusedSimpArgs false
set_option maxRecDepth 4000
end Go.Proofs.YtifejiclenpfoaaDoor

/- Layer 11 (route): slices of batches; what comes of batches one behind the other. -/
namespace Go.Proofs.YtifejiclenpfoaaDoor
open Go.RowKit
set_option linter.unusedVariables false
set_option linter.unusedSimpArgs false
set_option maxRecDepth 4000
end Go.Proofs.YtifejiclenpfoaaDoor

/- Plain laws of layer 11 (route): the best of each prefix. -/
namespace Go.Proofs.YtifejiclenpfoaaDoor
set_option linter.unusedVariables false
set_option linter.unusedSimpArgs false
set_option maxRecDepth 4000
set_option maxRecDepth 4000
def Rte.row (x : Rte) : Row := ⟨x.p, x.h⟩
end Go.Proofs.YtifejiclenpfoaaDoor

/- A region that draws its order, where two operations that act may stand in either order: both orders are walked. -/
namespace Go.Proofs.YtifejiclenpfoaaDoor
open Go.RowKit
set_option linter.unusedVariables false
set_option linter.unusedSimpArgs false
set_option maxRecDepth 4000

section
variable {P : Program} {S : World → Prop} {ops : Array Oper} {md : Region.Mode} {cl : Nat → Nat}
theorem notOut (X : Act → World → Prop) : ¬ LetsOut (onlyNormal X) := fun ⟨_, _, h⟩ => h
theorem wpOp_normal {X Y K : Act → World → Prop} {i : Nat} {a : Act} {w : World} (h : wpOp P ops (onlyNormal X) i K a w) : wpOp P ops (onlyNormal Y) i K a w := by
  unfold wpOp at *
  cases hi : ops[i]? with
  | none => rw [hi] at h; exact h
  | some o =>
    rw [hi] at h
    simp only at h ⊢
    split
    · rename_i hw
      rw [if_pos hw] at h
      rcases h with h | ⟨_, h⟩
      · refine .inl ?_
        unfold Oper.wp at *
        generalize (execOp a.eval o).run P w = r at *
        cases r with
        | ok n w' =>
          cases n <;> simp only [Oper.upon] at h ⊢
          case value u => exact h
          case skip => exact h
          case defer d => exact h
          case enter f args =>
            refine Calls.mono h fun e w'' he => ?_
            cases e with
            | returned u => exact he
            | panicked c => exact he.elim
            | outgrown => exact (notOut _ he).elim
          case row row args => exact h
        | halt x w' =>
          cases x <;> simp only [Oper.upon] at h ⊢
          case panic u => exact h.elim
      · exact (notOut _ h).elim
    · rename_i hw
      rw [if_neg hw] at h
      exact h
theorem mOp_normal {X Y K K' : Act → World → Prop} {i : Nat} {a : Act} {w : World} (hk : ∀ a w, K a w → K' a w) (h : mOp P S ops (onlyNormal X) cl i K a w) : mOp P S ops (onlyNormal Y) cl i K' a w := by
  refine mOp_mono hk ?_
  unfold mOp at *
  cases hi : ops[i]? with
  | none => rw [hi] at h; exact h
  | some o =>
    rw [hi] at h
    simp only at h ⊢
    split at h
    · exact h
    · exact h
    · exact wpOp_normal h
    · exact h
    · exact wpOp_normal h

inductive OrdT where
  | lin (l : List Nat)
  | fork (l : List Nat) (i j : Nat) (r s : OrdT)
def OrdT.len : OrdT → Nat
  | .lin l => l.length
  | .fork l _ _ r _ => l.length + (r.len + 1)
def wpF (P : Program) (S : World → Prop) (ops : Array Oper) (cl : Nat → Nat) (K : Act → World → Prop) : OrdT → Act → World → Prop
  | .lin l, a, w => wpO P S ops (onlyNormal K) cl l a w
  | .fork l i j r s, a, w => wpO P S ops (onlyNormal fun a w => wpO P S ops (onlyNormal (wpF P S ops cl K r)) cl [i] a w ∧ wpO P S ops (onlyNormal (wpF P S ops cl K s)) cl [j] a w) cl l a w
def afterL (l : List Nat) (listed : Array Bool) : Array Bool := l.foldl (fun b i => b.setIfInBounds i true) listed
def ordP (md : Region.Mode) (ops : Array Oper) (cl : Nat → Nat) : List Nat → Array Bool → Bool
  | [], _ => true
  | i :: l, listed => (match cl i with
    | 0 => (Region.ready md ops listed).contains i && Region.free md ops listed i
    | 1 => (Region.ready md ops listed).contains i && Region.free md ops listed i && (List.range ops.size).all fun j => listed.getD j true || cl j == 0 || cl j == 1 || reach md ops i ops.size j
    | 4 => (Region.ready md ops listed).contains i && Region.free md ops listed i
    | _ => Region.ready md ops listed == [i]) && ordP md ops cl l (listed.setIfInBounds i true)
def ordF (md : Region.Mode) (ops : Array Oper) (cl : Nat → Nat) : OrdT → Array Bool → Bool
  | .lin l, listed => ordB md ops cl l listed
  | .fork l i j r s, listed => ordP md ops cl l listed && (Region.ready md ops (afterL l listed) == [i, j]) && decide (r.len = s.len) && ordF md ops cl r ((afterL l listed).setIfInBounds i true) && ordF md ops cl s ((afterL l listed).setIfInBounds j true)

theorem wpM_prefix (hf : Fin md ops cl) (hs : Region.noSelect ops = true) {X K : Act → World → Prop} {n : Nat} : ∀ (l : List Nat) (listed : Array Bool) (a : Act) (w : World), Closed md ops listed → ordP md ops cl l listed = true →
    wpO P S ops (onlyNormal X) cl l a w → (∀ a w, Closed md ops (afterL l listed) → X a w → wpM P S md ops (onlyNormal K) cl n (afterL l listed) a w) → wpM P S md ops (onlyNormal K) cl (n + l.length) listed a w
  | [], listed, a, w, hcl, _, h, hX => hX a w hcl h
  | i :: l, listed, a, w, hcl, hB, h, hX => by
    simp only [ordP, Bool.and_eq_true] at hB
    obtain ⟨hB1, hB2⟩ := hB
    simp only [wpO] at h
    have h0 := h
    have hX' : ∀ a w, Closed md ops (afterL l (listed.setIfInBounds i true)) → X a w → wpM P S md ops (onlyNormal K) cl n (afterL l (listed.setIfInBounds i true)) a w := fun a w hc hx => hX a w hc hx
    show wpM P S md ops (onlyNormal K) cl (n + l.length + 1) listed a w
    unfold mOp at h
    split at hB1
    · rename_i hc
      simp only [Bool.and_eq_true, List.contains_iff_mem] at hB1
      obtain ⟨_, oi, hoi, _⟩ := mem_ready.1 hB1.1
      rw [hoi] at h
      simp only [hc] at h
      obtain ⟨v, hy, hk⟩ := h
      exact wpM_first0 hf hoi hc (Region.noSelect_spec hs) (fun c a w h => h) (n + l.length) listed a w hcl (Region.free_spec hoi hB1.2) hB1.1 hy (wpM_prefix hf hs l _ _ w (hcl.set hB1.1) hB2 hk hX')
    · rename_i hc
      simp only [Bool.and_eq_true, List.contains_iff_mem, List.all_eq_true, List.mem_range, Bool.or_eq_true, beq_iff_eq] at hB1
      obtain ⟨_, oi, hoi, _⟩ := mem_ready.1 hB1.1.1
      rw [hoi] at h
      simp only [hc] at h
      obtain ⟨v, hy, hk⟩ := h
      refine wpM_first1 (N := ops.size) hoi hc (Region.noSelect_spec hs) (n + l.length) listed a hcl (fun j oj hj hun => ?_) (Region.free_spec hoi hB1.1.2) hB1.1.1 hy (wpM_prefix hf hs l _ _ w (hcl.set hB1.1.1) hB2 hk hX')
      have := hB1.2 j (Array.getElem?_eq_some_iff.1 hj).1
      rw [hun] at this
      simpa [or_assoc] using this
    · rename_i hc
      simp only [Bool.and_eq_true, List.contains_iff_mem] at hB1
      obtain ⟨_, oi, hoi, _⟩ := mem_ready.1 hB1.1
      rw [hoi] at h
      simp only [hc] at h
      obtain ⟨v, hy, hk⟩ := h
      exact wpM_first4 hoi hc (Region.noSelect_spec hs) (fun c a w h => h) (n + l.length) listed a w hcl (Region.free_spec hoi hB1.2) hB1.1 hy (wpM_prefix hf hs l _ _ w (hcl.set hB1.1) hB2 hk hX')
    · simp only [beq_iff_eq] at hB1
      have hr : i ∈ Region.ready md ops listed := by rw [hB1]; exact List.mem_singleton.2 rfl
      exact wpM_only hB1 (mOp_normal (fun a' w' h' => wpM_prefix hf hs l _ a' w' (hcl.set hr) hB2 h' hX') h0)
theorem wpM_of_wpF (hf : Fin md ops cl) (hs : Region.noSelect ops = true) {K : Act → World → Prop} : ∀ (t : OrdT) (listed : Array Bool) (a : Act) (w : World), Closed md ops listed → ordF md ops cl t listed = true → wpF P S ops cl K t a w →
    wpM P S md ops (onlyNormal K) cl t.len listed a w
  | .lin l, listed, a, w, hcl, hB, h => wpM_of_wpO hf hs (fun c dst v a w h => h) l listed a w hcl hB h
  | .fork l i j r s, listed, a, w, hcl, hB, h => by
    simp only [ordF, Bool.and_eq_true, decide_eq_true_eq, beq_iff_eq] at hB
    obtain ⟨⟨⟨⟨h1, h2⟩, h3⟩, h4⟩, h5⟩ := hB
    show wpM P S md ops (onlyNormal K) cl (l.length + (r.len + 1)) listed a w
    rw [Nat.add_comm]
    refine wpM_prefix hf hs l listed a w hcl h1 h (fun a w hc hx => ?_)
    refine ⟨fun h => (by rw [h2] at h; cases h), fun k hk => ?_⟩
    have hri : i ∈ Region.ready md ops (afterL l listed) := by rw [h2]; simp
    have hrj : j ∈ Region.ready md ops (afterL l listed) := by rw [h2]; simp
    rw [h2] at hk
    rcases List.mem_cons.1 hk with rfl | hk
    · exact mOp_normal (fun a' w' h' => wpM_of_wpF hf hs r _ a' w' (hc.set hri) h4 h') hx.1
    · rw [List.mem_singleton] at hk
      subst hk
      exact mOp_normal (fun a' w' h' => by rw [h3]; exact wpM_of_wpF hf hs s _ a' w' (hc.set hrj) h5 h') hx.2
end
theorem wp_region_fork {P : Program} (S : World → Prop) {ops : Array Oper} {id : Nat} {Q : Exit → Act → World → Prop} {a : Act} {w : World} (t : OrdT) (l : List (Nat × Nat)) (hm : P.follows .mixedOrders = true)
    (hB : (finB .any ops l && Region.noSelect ops && decide (t.len = ops.size) && ordF .any ops (clOf l) t (Array.replicate ops.size false)) = true)
    (hS : S w.drew) (h : wpF P S ops (clOf l) (Q .normal) t a w.drew) : (Code.region id ops true).wp P Q a w := by
  simp only [Bool.and_eq_true, decide_eq_true_eq] at hB
  refine wp_mono (Q := onlyNormal (Q .normal)) (wp_region_any hm (wpAny_of_wpM (S := S) (cl := clOf l) (fin_of hB.1.1.1) _ _ _ _ (Closed.start _) hS ?_)) (fun e a w hq => ?_)
  · have := wpM_of_wpF (P := P) (S := S) (md := .any) (cl := clOf l) (fin_of hB.1.1.1) hB.1.1.2 t (Array.replicate ops.size false) a w.drew (Closed.start _) hB.2 h
    rw [hB.1.2] at this
    exact this
  · cases e <;> first | exact hq | exact hq.elim
end Go.Proofs.YtifejiclenpfoaaDoor

/- Layer 11 (route): Best. -/
namespace Go.Proofs.YtifejiclenpfoaaDoor
open Go.RowKit
set_option linter.unusedVariables false
set_option linter.unusedSimpArgs false
set_option maxRecDepth 4000
end Go.Proofs.YtifejiclenpfoaaDoor

/- Layer 5 (prefix): Bit; the document's Bit. -/
namespace Go.Proofs.YtifejiclenpfoaaDoor
open Go.RowKit
set_option linter.unusedVariables false
set_option linter.unusedSimpArgs false
set_option maxRecDepth 4000

end Go.Proofs.YtifejiclenpfoaaDoor

/- Layer 5 (prefix): Nibble; the document's Nibble. -/
namespace Go.Proofs.YtifejiclenpfoaaDoor
open Go.RowKit
set_option linter.unusedVariables false
set_option linter.unusedSimpArgs false
set_option maxRecDepth 4000

end Go.Proofs.YtifejiclenpfoaaDoor

/- Layer 5 (prefix): a whole prefix out of a block. -/
namespace Go.Proofs.YtifejiclenpfoaaDoor
open Go.RowKit
set_option linter.unusedVariables false
set_option linter.unusedSimpArgs false
set_option maxRecDepth 4000

end Go.Proofs.YtifejiclenpfoaaDoor

/- Layer 5 (prefix): Has. -/
namespace Go.Proofs.YtifejiclenpfoaaDoor
open Go.RowKit
set_option linter.unusedVariables false
set_option linter.unusedSimpArgs false
set_option maxRecDepth 4000

end Go.Proofs.YtifejiclenpfoaaDoor

/- Layer 5 (prefix): Holds. -/
namespace Go.Proofs.YtifejiclenpfoaaDoor
open Go.RowKit
set_option linter.unusedVariables false
set_option linter.unusedSimpArgs false
set_option maxRecDepth 4000

end Go.Proofs.YtifejiclenpfoaaDoor

/- Layer 5 (prefix): EncodeAddr, Encode; the document's bytes. -/
namespace Go.Proofs.YtifejiclenpfoaaDoor
open Go.RowKit
set_option linter.unusedVariables false
set_option linter.unusedSimpArgs false
set_option maxRecDepth 4000

def encPE (p : Pfx) : List Int := if p.right then encP p else []
theorem encPE_no {p : Pfx} (h : p.right = false) : encPE p = [] := by unfold encPE; rw [h]; rfl
theorem encPE_yes {p : Pfx} (h : p.right = true) : encPE p = encP p := by unfold encPE; rw [h]; rfl
theorem full_any (b : Int) (w : World) (h0 : 0 ≤ b) (h1 : b ≤ 128) : Calls Tryd.prog 133 #[.int .i64 b] w fun e w' => e = .returned (.int .i64 ((b + 7) / 8)) ∧ w = w' := by
  go_enter Tryd.func133, Tryd.ntmps133
  go_wp2
  go_ret
  exact ⟨rfl, rfl⟩
theorem OB.two (W : World) (x y : Int) (hx : 0 ≤ x ∧ x < 256) (hy : 0 ≤ y ∧ y < 256) (base : Nat) (hb : base ≤ W.heap.size) : OB (W.alloc (.cells #[.int .u8 x, .int .u8 y] 5)) base (some ⟨W.heap.size, 0, none⟩) 2 2 [x, y] :=
  OB.new W base [x, y] hb (by simp) (fun z hz => by simp at hz; omega)
theorem OB.one (W : World) (x : Int) (hx : 0 ≤ x ∧ x < 256) (base : Nat) (hb : base ≤ W.heap.size) : OB (W.alloc (.cells #[.int .u8 x] 5)) base (some ⟨W.heap.size, 0, none⟩) 1 1 [x] :=
  OB.new W base [x] hb (by simp) (fun z hz => by simp at hz; omega)

set_option maxHeartbeats 2000000 in
theorem encode_any (p : Pfx) (w : World) (hL : Laid w) (hp : B16 p.l) : Calls Tryd.prog 123 #[.agg (pfxV p.v p.l p.b)] w fun e w' => ∃ A n c, e = .returned (.tuple #[.slice A n c, .int .i64 (errP p.v p.l p.b)]) ∧ OB w' w.heap.size A n c (encPE p) ∧ Below w.heap.size w w' := by
  have hblk1 := blk_new w (.cells (pfxV p.v p.l p.b) 102)
  have hbel1 : Below w.heap.size w (w.alloc (.cells (pfxV p.v p.l p.b) 102)) := below_alloc (Below.refl _ _) _
  have HP1 := Lib.hid (pfx_at hp hblk1)
  have HBK1 := Lib.hid hblk1
  have HBE := Lib.hid hbel1
  have HL := Lib.hid (hL.below HBE.out)
  obtain ⟨cs1, hcs1⟩ : ∃ cs, pfxV p.v p.l p.b = cs := ⟨_, rfl⟩
  simp only [hcs1] at HBE HL HP1 HBK1 ⊢
  have HC1 := Lib.hid hcs1
  clear hL hcs1 hblk1 hbel1
  have hla := (HP1.out.all _ (Below.refl _ _)).2.2.2.2
  go_enter Tryd.func123, Tryd.ntmps123
  go_wp2_with ((with_reducible show wpList _ _ _ (Oper.mk _ (Op.load _ _) _ _ _ _ :: _) _ _); refine wpList_load_g hla _ rfl rfl (by go_simp) ?_)
  refine (check_any p.v p.l p.b _ HL.out hp).mono ?_
  rintro e w1 ⟨rfl, hbb1⟩
  have HB1 := Lib.hid hbb1
  clear hbb1 hla
  cases hR : rightP p.v p.l p.b with
  | false =>
    have HE := Lib.hid (encPE_no (p := p) hR)
    have HE2 := Lib.hid (errP_false hR)
    rw [HE2.out]
    clear hR
    go_wp2
    go_ret2
    rw [HE.out, HE2.out]
    exact ⟨_, _, _, rfl, OB.nil _ _, below_step HBE.out HB1.out⟩
  | true =>
    have HY := Lib.hid (encPE_yes (p := p) hR)
    have HE2 := Lib.hid (errP_true hR)
    rw [HE2.out]
    have hb0 := (p.right_iff.1 hR).2.1
    have hb1 : p.b ≤ 128 := by have := (p.right_iff.1 hR).2.2.1; have := widthA_le p.v; omega
    clear hR
    go_wp2_with fail
    have hfq := fun w0 => full_any p.b w0 hb0 hb1
    have hkb := blk_below HBK1.out HB1.out
    rw [← HC1.out] at hkb
    have HRB := Lib.hid (rb_pfx hp hkb)
    obtain ⟨k, hk⟩ : ∃ k, fullB p.b = k := ⟨_, rfl⟩
    have hkk : (p.b + 7) / 8 = (k : Int) := by rw [← hk]; unfold fullB; omega
    have HE : Hid (encP p = p.v % 256 :: p.b % 256 :: p.l.take k) := by unfold encP; rw [hk]; exact rfl
    have hk16 : (k : Int) ≤ 16 := by omega
    have hk0 : 0 ≤ (k : Int) := by omega
    have hv8 : IntKind.u8.wrap p.v = p.v % 256 := by simp [IntKind.wrap, IntKind.bits, IntKind.signed]
    have hv9 : IntKind.u8.wrap p.b = p.b % 256 := by simp [IntKind.wrap, IntKind.bits, IntKind.signed]
    rw [hkk] at hfq
    clear hkb hk hkk hb0 hb1
    refine wp_region_mix (fun w0 => Below (w1).heap.size (w1) w0) [(0, 0), (1, 0), (2, 0), (3, 0), (4, 0), (5, 0), (6, 0), (8, 0), (9, 0), (10, 0), (11, 0), (12, 0), (13, 0), (7, 2), (14, 2), (15, 0), (16, 0)] (by kernel_rfl) (by kernel_rfl) (below_drew1 _) ?_
    simp only [List.map_cons, List.map_nil]
    iterate 2 (refine wpO_step0 rfl rfl (fun K hK => ?_); go_simp; refine hK _ _ ?_; clear hK K)
    refine wpO_loadW (t := 3) (ad := ⟨w.heap.size, 0, none⟩) rfl rfl ?hw rfl rfl ((fun w0 hS => (HP1.out.all w0 (below_step HB1.out hS)).2.2.1)) ?_
    case hw => go_simp
    iterate 2 (refine wpO_step0 rfl rfl (fun K hK => ?_); go_simp; refine hK _ _ ?_; clear hK K)
    refine wpO_loadW (t := 3) (ad := ⟨w.heap.size, 17, none⟩) rfl rfl ?hw rfl rfl ((fun w0 hS => (HP1.out.all w0 (below_step HB1.out hS)).2.1)) ?_
    case hw => go_simp
    iterate 4 (refine wpO_step0 rfl rfl (fun K hK => ?_); go_simp; refine hK _ _ ?_; clear hK K)
    refine wpO_loadW (t := 3) (ad := ⟨w.heap.size, 17, none⟩) rfl rfl ?hw rfl rfl ((fun w0 hS => (HP1.out.all w0 (below_step HB1.out hS)).2.1)) ?_
    case hw => go_simp
    refine wpO_quiet rfl rfl ?hw Tryd.func133 (by kernel_rfl) (by kernel_rfl) rfl rfl (fun w0 hS => hfq w0) ?_
    case hw => go_simp
    iterate 1 (refine wpO_step0 rfl rfl (fun K hK => ?_); go_simp; refine hK _ _ ?_; clear hK K)
    refine wpO_step2 rfl rfl (below_drew1 _) (fun K hK => ?_)
    go_simp
    have hsz := HB1.out.size
    simp at hsz
    have HO := Lib.hid ((OB.two w1 (p.v % 256) (p.b % 256) (by omega) (by omega) w.heap.size (by omega)).below (below_drew1 _))
    refine hK _ _ ⟨(below_alloc (Below.refl _ _) _).drew, ?_⟩
    clear hK K
    have HR := Lib.hid ((HRB.out.take k (by omega)).below (below_step (below_alloc (Below.refl _ _) (.cells #[.int .u8 (p.v % 256), .int .u8 (p.b % 256)] 5)) (below_drew1 _)))
    refine wpO_step2 rfl rfl ((below_alloc (Below.refl _ _) _).drew) (fun K hK => ?_)
    rw [if_pos (show Region.wanted _ _ = true from rfl)]
    refine oper_append_bytes (.tmp 17) (.tmp 23) rfl rfl rfl HO.out HR.out (by simp; omega) (by omega) ?_
    intro A3 c3 w3 h1 h2 h3
    have hb3 : Below w1.heap.size w1 w3 := (below_step (below_alloc (Below.refl _ _) (.cells #[.int .u8 (p.v % 256), .int .u8 (p.b % 256)] 5)) (below_drew1 _)).grown h2 (by simp) (own_row (fun ad e => by injection e with e; rw [← e]; exact Nat.le_refl _))
    have H3 := Lib.hid (And.intro h1 hb3)
    clear h1 h2 h3 hb3
    refine hK _ _ ⟨H3.out.2, ?_⟩
    clear hK K
    iterate 2 (refine wpO_step0 rfl rfl (fun K hK => ?_); go_simp; refine hK _ _ ?_; clear hK K)
    refine wpO_nil ?_
    go_wp2
    go_ret2
    rw [HY.out, HE.out, HE2.out]
    exact ⟨_, _, _, rfl, H3.out.1, below_step HBE.out (below_step HB1.out H3.out.2)⟩

end Go.Proofs.YtifejiclenpfoaaDoor

/- Layer 5 (prefix): the reader's version and some. -/
namespace Go.Proofs.YtifejiclenpfoaaDoor
open Go.RowKit
set_option linter.unusedVariables false
set_option linter.unusedSimpArgs false
set_option maxRecDepth 4000

theorem Laid.grown {w w1 : World} (h : Laid w) {g : Nat} (hg : w.grownBy w1 (some g)) (h0 : g ≠ 0) : Laid w1 :=
  ⟨fun i hi => hg.cell (h.at_ i hi) (fun e => by injection e with e; exact h0 e.symm)⟩
theorem Rdr.short {w : World} {lo g : Nat} {xs : List Int} {e : Int} (h : Rdr w lo g xs e) : xs.length ≤ 281474976710656 := by
  obtain ⟨A, n, c, -, hr, -⟩ := h
  rw [hr.len]
  exact hr.small
/-- The reader of the package: a box that holds the pointer. -/
abbrev rdV (g : Nat) : Array Value := #[.pointer (some ⟨g, 0, none⟩)]

def SomeRest (lo g : Nat) (xs : List Int) (bits : Nat) (wrong : Int) (w : World) : Prop := ∃ rest e1, Rdr w lo g rest e1 ∧ (someE xs bits wrong = 0 → rest = xs.drop (fullB bits) ∧ e1 = 0)
end Go.Proofs.YtifejiclenpfoaaDoor

/- Layer 5 (prefix): DecodeAddr. -/
namespace Go.Proofs.YtifejiclenpfoaaDoor
open Go.RowKit
set_option linter.unusedVariables false
set_option linter.unusedSimpArgs false
set_option maxRecDepth 4000

/-- What holds while the bytes are read: the reader's box, the result's cell. -/
structure DecS (w : World) (rb zb g : Nat) (z : Obj) (w0 : World) : Prop where
  below : Below w.heap.size w w0
  box : w0.heap[rb]? = some (.cells (rdV g) 195 (0, 0))
  zero : w0.heap[zb]? = some z
theorem DecS.step {w w0 w1 : World} {rb zb g : Nat} {z : Obj} (h : DecS w rb zb g z w0) (hb : Below w0.heap.size w0 w1) : DecS w rb zb g z w1 := ⟨below_step h.below hb, blk_below h.box hb, blk_below h.zero hb⟩
theorem SomeRest.below {lo g : Nat} {xs : List Int} {bits : Nat} {wrong : Int} {w w1 : World} (h : SomeRest lo g xs bits wrong w) (hb : Below w.heap.size w w1) : SomeRest lo g xs bits wrong w1 := by
  obtain ⟨r, e, h1, h2⟩ := h
  exact ⟨r, e, h1.below hb, h2⟩
theorem SomeRest.grown {lo g c : Nat} {xs : List Int} {bits : Nat} {wrong : Int} {w w1 : World} (h : SomeRest lo g xs bits wrong w) (hg : w.grownBy w1 (some c)) (hc : g < c) : SomeRest lo g xs bits wrong w1 := by
  obtain ⟨r, e, h1, h2⟩ := h
  exact ⟨r, e, h1.grown hg (fun b hb => by injection hb with hb; omega), h2⟩
/-- What the reading has left: the bytes in a block of their own, the reader behind them. -/
structure DecR (w : World) (rb zb g gb lo : Nat) (z : Obj) (sl : List Int) (ys : List Int) (bits : Nat) (wrong : Int) (w0 : World) : Prop where
  s : DecS w rb zb g z w0
  arr : w0.heap[gb]? = some (.cells (arrV sl) 98 (0, 0))
  rest : SomeRest lo g ys bits wrong w0
theorem DecR.drew {w w0 : World} {rb zb g gb lo : Nat} {z : Obj} {sl ys : List Int} {bits : Nat} {wrong : Int} (h : DecR w rb zb g gb lo z sl ys bits wrong w0) : DecR w rb zb g gb lo z sl ys bits wrong w0.drew :=
  ⟨h.s.step (below_drew1 _), h.arr, h.rest.below (below_drew1 _)⟩
structure DecT (w : World) (rb g gb : Nat) (sl : List Int) (w0 : World) : Prop where
  below : Below w.heap.size w w0
  box : w0.heap[rb]? = some (.cells (rdV g) 195 (0, 0))
  arr : w0.heap[gb]? = some (.cells (arrV sl) 98 (0, 0))
theorem DecR.t {w w0 : World} {rb zb g gb lo : Nat} {z : Obj} {sl ys : List Int} {bits : Nat} {wrong : Int} (h : DecR w rb zb g gb lo z sl ys bits wrong w0) : DecT w rb g gb sl w0 := ⟨h.s.below, h.s.box, h.arr⟩
end Go.Proofs.YtifejiclenpfoaaDoor

/- Layer 5 (prefix): Decode. -/
namespace Go.Proofs.YtifejiclenpfoaaDoor
open Go.RowKit
set_option linter.unusedVariables false
set_option linter.unusedSimpArgs false
set_option maxRecDepth 4000

end Go.Proofs.YtifejiclenpfoaaDoor

/- Layer 5: wakes. -/
namespace Go.Proofs.YtifejiclenpfoaaDoor
open Go.RowKit
set_option linter.unusedVariables false
set_option linter.unusedSimpArgs false
set_option maxRecDepth 4000

def ten8 : List Int := [10, 0, 0, 0, 0, 0, 0, 0, 0, 0, 0, 0, 0, 0, 0, 0]
theorem ten8_B : B16 ten8 := ⟨rfl, fun x hx => by simp [ten8] at hx; omega⟩
/-- A whole prefix stored into a cell just made. -/
structure WakS (w : World) (g h : Nat) (w0 : World) : Prop where
  below : Below w.heap.size w w0
  p : w0.heap[g]? = some (.cells (pfxV 4 ten8 8) 102 (0, 0))
  q : w0.heap[h]? = some (.cells (pfxV 4 ten8 8) 102 (0, 0))
theorem WakS.step {w w0 w1 : World} {g h : Nat} (s : WakS w g h w0) (hb : Below w0.heap.size w0 w1) : WakS w g h w1 := ⟨below_step s.below hb, blk_below s.p hb, blk_below s.q hb⟩
end Go.Proofs.YtifejiclenpfoaaDoor

/- Layer 11 (route): the law's eight, over, own, wakes. -/
namespace Go.Proofs.YtifejiclenpfoaaDoor
open Go.RowKit
set_option linter.unusedVariables false
set_option linter.unusedSimpArgs false
set_option maxRecDepth 4000
theorem built_upd (p : Pfx) (s f h : Int) (hl : p.l.length = 16) : Tryd.prog.built 104 [(0, .agg (pfxV p.v p.l p.b)), (1, .int .i64 s), (3, .int .i64 f), (4, .int .i64 h)] = some (updV ⟨p, s, false, f, h⟩) := by
  obtain ⟨a, b, c, d, e, f, g, h1, i, j, k, m, n, o, q, r, hh⟩ := len16 hl
  obtain ⟨v, l, x⟩ := p
  simp only at hh
  subst hh
  kernel_rfl
theorem run_build_upd (w : World) (p : Pfx) (s f h : Int) (hl : p.l.length = 16) : (Instr.build 104 #[(0, .agg (pfxV p.v p.l p.b)), (1, .int .i64 s), (3, .int .i64 f), (4, .int .i64 h)]).run Tryd.prog w = .ok (.agg (updV ⟨p, s, false, f, h⟩)) w := run_build w _ _ _ (built_upd p s f h hl)
def wkP : Pfx := ⟨4, ten8, 8⟩
def wkU2 : Upd := ⟨wkP, 1, false, 5, 9⟩
end Go.Proofs.YtifejiclenpfoaaDoor

/- Layer 11 (route): the law's own. -/
namespace Go.Proofs.YtifejiclenpfoaaDoor
open Go.RowKit
set_option linter.unusedVariables false
set_option linter.unusedSimpArgs false
set_option maxRecDepth 4000
theorem results_c2c {P : Program} {w : World} {fn : Func} {p q : Tmp} {ty ty2 : TypeId} {ad ad2 : Addr} {v v2 : Value} {tmps : Array Value} (h : fn.results = #[.cell p ty, .cell q ty2]) (hp : tmps.getD p undef = .pointer (some ad)) (hl : (Instr.loadAt ty (.pointer (some ad))).run P w = .ok v w) (hq : tmps.getD q undef = .pointer (some ad2)) (hl2 : (Instr.loadAt ty2 (.pointer (some ad2))).run P w = .ok v2 w) :
    (results fn tmps).run P w = .ok (.tuple #[v, v2]) w := by
  have hp' : tmps[p]?.getD undef = .pointer (some ad) := by simpa using hp
  have hq' : tmps[q]?.getD undef = .pointer (some ad2) := by simpa using hq
  simp [results, h, hp', hq', asAddr, loadVar_of hl, loadVar_of hl2]
theorem info_bat (A : Option Addr) (n c : Nat) : (Tryd.prog.info? 25).map (·.size) = some (tabV A n c).size := by show _ = some 1; kernel_rfl
theorem load_bat {w : World} {g : Nat} {A : Option Addr} {n c : Nat} (h : w.heap[g]? = some (.cells (tabV A n c) 25 (0, 0))) : (Instr.loadAt 25 (.pointer (some ⟨g, 0, none⟩))).run Tryd.prog w = .ok (.agg (tabV A n c)) w := ((bat_at h).all _ (Below.refl _ _)).1
end Go.Proofs.YtifejiclenpfoaaDoor

/- Layer 20 (client): clients in memory. -/
namespace Go.Proofs.YtifejiclenpfoaaDoor
open Go.RowKit
set_option linter.unusedVariables false
set_option linter.unusedSimpArgs false
set_option maxRecDepth 4000
/-- A client: its numbers, and the batch under way. -/
structure Ck where
  num : Int
  seq : Int
  away : Bool
  t : List Upd
structure Ck.ok (k : Ck) : Prop where
  num : (Lit.int .i64 k.num).wf = true
  seq : (Lit.int .u32 k.seq).wf = true
  t : Oku k.t
/-- A client, and where its batch lies. -/
structure Cli where
  k : Ck
  A : Option Addr
  n : Nat
  c : Nat
def ckZ : Ck := ⟨0, 0, false, []⟩
def cliV (k : Ck) (A : Option Addr) (n c : Nat) : Array Value := #[.int .i64 k.num, .int .u32 k.seq, .slice A n c, .bool k.away]
def cliC (k : Ck) (A : Option Addr) (n c : Nat) : List Value := [.int .i64 k.num, .int .u32 k.seq, .slice A n c, .bool k.away]
theorem info_cli (k : Ck) (A : Option Addr) (n c : Nat) : (Tryd.prog.info? 27).map (·.size) = some (cliV k A n c).size := by show _ = some 4; kernel_rfl
theorem cli_one (k : Ck) (A : Option Addr) (n c : Nat) : (cliV k A n c).all (·.oneCell') = true := by simp [cliV, Value.oneCell']
theorem splice_cli (k : Ck) (A : Option Addr) (n c : Nat) (k2 : Ck) (A2 : Option Addr) (n2 c2 : Nat) : splice (cliV k A n c) 0 (cliV k2 A2 n2 c2).toList = cliV k2 A2 n2 c2 := splice_all _ _ rfl
theorem load_u32k {w : World} {ad : Addr} {v : Value} (h : w.cell? ad = some v) : (Instr.loadAt 22 (.pointer (some ad))).run Tryd.prog w = .ok v w := by
  go_simp
structure CliLd (w : World) (g o : Nat) (k : Ck) (A : Option Addr) (n c : Nat) : Prop where
  all : (Instr.loadAt 27 (.pointer (some ⟨g, o, none⟩))).run Tryd.prog w = .ok (.agg (cliV k A n c)) w
  num : (Instr.loadAt 3 (.pointer (some ⟨g, o, none⟩))).run Tryd.prog w = .ok (.int .i64 k.num) w
  seq : (Instr.loadAt 22 (.pointer (some ⟨g, o + 1, none⟩))).run Tryd.prog w = .ok (.int .u32 k.seq) w
  bat : (Instr.loadAt 25 (.pointer (some ⟨g, o + 2, none⟩))).run Tryd.prog w = .ok (.agg (tabV A n c)) w
  upd : (Instr.loadAt 23 (.pointer (some ⟨g, o + 2, none⟩))).run Tryd.prog w = .ok (.slice A n c) w
  away : (Instr.loadAt 4 (.pointer (some ⟨g, o + 3, none⟩))).run Tryd.prog w = .ok (.bool k.away) w
theorem cliLd_of {w : World} {g o : Nat} {k : Ck} {A : Option Addr} {n c : Nat} (h : CellsAt w g o (cliC k A n c)) : CliLd w g o k A n c := by
  have h2 : CellsAt w g (o + 2) [.slice A n c] := fun j v hv => by
    cases j with
    | zero => exact h 2 v hv
    | succ j => simp at hv
  exact ⟨load_cells (cs := cliV k A n c) h Tryd.underlying27 rfl (info_cli _ _ _ _), load_int (h 0 _ rfl), load_u32k (h 1 _ rfl), load_cells (cs := tabV A n c) h2 Tryd.underlying25 rfl (info_bat _ _ _), load_upds (h 2 _ rfl), loadr_bool (h 3 _ rfl)⟩
structure CliAt (w : World) (g : Nat) (k : Ck) (A : Option Addr) (n c : Nat) : Prop where
  all : ∀ w0, Below w.heap.size w w0 → CliLd w0 g 0 k A n c
theorem cli_at {w : World} {g : Nat} {k : Ck} {A : Option Addr} {n c : Nat} (h : w.heap[g]? = some (.cells (cliV k A n c) 27 (0, 0))) : CliAt w g k A n c :=
  ⟨fun w0 hb => cliLd_of (cells_blk (blk_below h hb))⟩
end Go.Proofs.YtifejiclenpfoaaDoor

/- Layer 15 (frame): messages in memory. -/
namespace Go.Proofs.YtifejiclenpfoaaDoor
open Go.RowKit
set_option linter.unusedVariables false
set_option linter.unusedSimpArgs false
set_option maxRecDepth 4000
/-- A message: what counts here by name, the other cells as they are. -/
structure Mg where
  kind : Int
  frm : Int
  tgt : Int
  epoch : Int
  p1 : List Value
  ok : Bool
  index : Int
  p2 : List Value
  seq : Int
  A : Option Addr
  n : Nat
  c : Nat
  err : Int
  t : List Upd
structure Mg.fits (m : Mg) : Prop where
  l1 : m.p1.length = 4
  l2 : m.p2.length = 10
  o1 : ∀ v ∈ m.p1, v.oneCell' = true
  o2 : ∀ v ∈ m.p2, v.oneCell' = true
def msgC (m : Mg) : List Value := [.int .i64 m.kind, .int .i64 m.frm, .int .i64 m.tgt, .int .u64 m.epoch] ++ (m.p1 ++ ([.bool m.ok, .int .u64 m.index] ++ (m.p2 ++ [.int .u32 m.seq, .slice m.A m.n m.c, .int .i64 m.err])))
def msgV (m : Mg) : Array Value := (msgC m).toArray
theorem msgC_len {m : Mg} (h : m.fits) : (msgC m).length = 23 := by simp [msgC, h.l1, h.l2]
theorem msgV_size {m : Mg} (h : m.fits) : (msgV m).size = 23 := by simp [msgV, msgC_len h]
theorem info_msg {m : Mg} (h : m.fits) : (Tryd.prog.info? 45).map (·.size) = some (msgV m).size := by rw [msgV_size h]; kernel_rfl
theorem load_u64k {w : World} {ad : Addr} {v : Value} (h : w.cell? ad = some v) : (Instr.loadAt 31 (.pointer (some ad))).run Tryd.prog w = .ok v w := by
  go_simp
theorem load_errk {w : World} {ad : Addr} {v : Value} (h : w.cell? ad = some v) : (Instr.loadAt 43 (.pointer (some ad))).run Tryd.prog w = .ok v w := by
  go_simp
structure MsgLd (w : World) (g : Nat) (m : Mg) : Prop where
  all : (Instr.loadAt 45 (.pointer (some ⟨g, 0, none⟩))).run Tryd.prog w = .ok (.agg (msgV m)) w
  kind : (Instr.loadAt 3 (.pointer (some ⟨g, 0, none⟩))).run Tryd.prog w = .ok (.int .i64 m.kind) w
  frm : (Instr.loadAt 3 (.pointer (some ⟨g, 1, none⟩))).run Tryd.prog w = .ok (.int .i64 m.frm) w
  tgt : (Instr.loadAt 3 (.pointer (some ⟨g, 2, none⟩))).run Tryd.prog w = .ok (.int .i64 m.tgt) w
  epoch : (Instr.loadAt 31 (.pointer (some ⟨g, 3, none⟩))).run Tryd.prog w = .ok (.int .u64 m.epoch) w
  ok : (Instr.loadAt 4 (.pointer (some ⟨g, 8, none⟩))).run Tryd.prog w = .ok (.bool m.ok) w
  index : (Instr.loadAt 31 (.pointer (some ⟨g, 9, none⟩))).run Tryd.prog w = .ok (.int .u64 m.index) w
  seq : (Instr.loadAt 22 (.pointer (some ⟨g, 20, none⟩))).run Tryd.prog w = .ok (.int .u32 m.seq) w
  bat : (Instr.loadAt 25 (.pointer (some ⟨g, 21, none⟩))).run Tryd.prog w = .ok (.agg (tabV m.A m.n m.c)) w
  err : (Instr.loadAt 43 (.pointer (some ⟨g, 22, none⟩))).run Tryd.prog w = .ok (.int .i64 m.err) w
theorem msg_ld {w : World} {g : Nat} {m : Mg} (hm : m.fits) (hb : w.heap[g]? = some (.cells (msgV m) 45 (0, 0))) : MsgLd w g m := by
  have h : CellsAt w g 0 (msgC m) := cells_blk hb
  have h1 : CellsAt w g 4 (m.p1 ++ ([.bool m.ok, .int .u64 m.index] ++ (m.p2 ++ [.int .u32 m.seq, .slice m.A m.n m.c, .int .i64 m.err]))) := h.right
  have h2 := h1.right
  rw [hm.l1] at h2
  have h3 := h2.right
  have h4 := h3.right
  rw [hm.l2] at h4
  have h5 : CellsAt w g 21 [.slice m.A m.n m.c] := fun j v hv => by
    cases j with
    | zero => exact h4 1 v hv
    | succ j => simp at hv
  exact ⟨load_cells (cs := msgV m) h Tryd.underlying45 rfl (info_msg hm), load_int (h 0 _ rfl), load_int (h 1 _ rfl), load_int (h 2 _ rfl), load_u64k (h 3 _ rfl), loadr_bool (h2 0 _ rfl), load_u64k (h2 1 _ rfl), load_u32k (h4 0 _ rfl), load_cells (cs := tabV m.A m.n m.c) h5 Tryd.underlying25 rfl (by kernel_rfl), load_errk (h4 2 _ rfl)⟩
structure MsgAt (w : World) (g : Nat) (m : Mg) : Prop where
  all : ∀ w0, Below w.heap.size w w0 → MsgLd w0 g m
theorem msg_at {w : World} {g : Nat} {m : Mg} (hm : m.fits) (h : w.heap[g]? = some (.cells (msgV m) 45 (0, 0))) : MsgAt w g m := ⟨fun w0 hb => msg_ld hm (blk_below h hb)⟩
end Go.Proofs.YtifejiclenpfoaaDoor

/- Layer 15 (frame): what a client asks, in memory. -/
namespace Go.Proofs.YtifejiclenpfoaaDoor
open Go.RowKit
set_option linter.unusedVariables false
set_option linter.unusedSimpArgs false
set_option maxRecDepth 4000
/-- A message of which only the kind, the ends, the Seq and the batch are not zero. -/
structure Gm where
  kd : Int
  frm : Int
  tgt : Int
  seq : Int
  t : List Upd
def gmZ : Gm := ⟨0, 0, 0, 0, []⟩
def gmC (g : Gm) (A : Option Addr) (n c : Nat) : List Value :=
  [.int .i64 g.kd, .int .i64 g.frm, .int .i64 g.tgt, .int .u64 0, .int .u64 0, .int .u64 0, .slice none 0 0, .int .u64 0, .bool false, .int .u64 0, .int .u64 0, .int .u64 0, .int .u64 0, .slice none 0 0, .int .u32 0, .int .u64 0, .int .u32 0, .int .u64 0, .int .u32 0, .int .u64 0, .int .u32 g.seq, .slice A n c, .int .i64 0]
def gmV (g : Gm) (A : Option Addr) (n c : Nat) : Array Value := (gmC g A n c).toArray
theorem cells_mid {w : World} {g : Nat} {cs : List Value} (h : CellsAt w g 0 cs) (k m : Nat) : CellsAt w g k ((cs.drop k).take m) := fun j v hv => by
  rw [List.getElem?_take] at hv
  split at hv
  · rw [List.getElem?_drop] at hv
    have := h (k + j) v hv
    rwa [Nat.zero_add] at this
  · cases hv
theorem info_gm (m : Gm) (A : Option Addr) (n c : Nat) : (Tryd.prog.info? 45).map (·.size) = some (gmV m A n c).size := by show _ = some 23; kernel_rfl
theorem gm_one (m : Gm) (A : Option Addr) (n c : Nat) : (gmV m A n c).all (·.oneCell') = true := by simp [gmV, gmC, Value.oneCell']
theorem splice_gm (m : Gm) (A : Option Addr) (n c : Nat) (m2 : Gm) (A2 : Option Addr) (n2 c2 : Nat) : splice (gmV m A n c) 0 (gmV m2 A2 n2 c2).toList = gmV m2 A2 n2 c2 := splice_all _ _ rfl
theorem run_build_gm_nil (w : World) : (Instr.build 45 #[]).run Tryd.prog w = .ok (.agg (gmV gmZ none 0 0)) w := run_build w _ _ _ (by kernel_rfl)
theorem run_build_gm (w : World) (m : Gm) (A : Option Addr) (n c : Nat) : (Instr.build 45 #[(0, .int .i64 m.kd), (1, .int .i64 m.frm), (2, .int .i64 m.tgt), (11, .int .u32 m.seq), (12, .agg (tabV A n c))]).run Tryd.prog w = .ok (.agg (gmV m A n c)) w := run_build w _ _ _ (by kernel_rfl)
def at0 : Array Value := #[.int .u64 0, .int .u64 0]
def last0 : Array Value := #[.int .u32 0, .int .u64 0, .int .u32 0, .int .u64 0, .int .u32 0, .int .u64 0]
theorem load_ents0 {w : World} {ad : Addr} {v : Value} (h : w.cell? ad = some v) : (Instr.loadAt 34 (.pointer (some ad))).run Tryd.prog w = .ok v w := by
  go_simp
structure GmLd (w : World) (g : Nat) (m : Gm) (A : Option Addr) (n c : Nat) : Prop where
  all : (Instr.loadAt 45 (.pointer (some ⟨g, 0, none⟩))).run Tryd.prog w = .ok (.agg (gmV m A n c)) w
  kind : (Instr.loadAt 3 (.pointer (some ⟨g, 0, none⟩))).run Tryd.prog w = .ok (.int .i64 m.kd) w
  frm : (Instr.loadAt 3 (.pointer (some ⟨g, 1, none⟩))).run Tryd.prog w = .ok (.int .i64 m.frm) w
  tgt : (Instr.loadAt 3 (.pointer (some ⟨g, 2, none⟩))).run Tryd.prog w = .ok (.int .i64 m.tgt) w
  epoch : (Instr.loadAt 31 (.pointer (some ⟨g, 3, none⟩))).run Tryd.prog w = .ok (.int .u64 0) w
  prev : (Instr.loadAt 33 (.pointer (some ⟨g, 4, none⟩))).run Tryd.prog w = .ok (.agg at0) w
  pidx : (Instr.loadAt 31 (.pointer (some ⟨g, 4, none⟩))).run Tryd.prog w = .ok (.int .u64 0) w
  pepo : (Instr.loadAt 31 (.pointer (some ⟨g, 5, none⟩))).run Tryd.prog w = .ok (.int .u64 0) w
  ents : (Instr.loadAt 34 (.pointer (some ⟨g, 6, none⟩))).run Tryd.prog w = .ok (.slice none 0 0) w
  done : (Instr.loadAt 31 (.pointer (some ⟨g, 7, none⟩))).run Tryd.prog w = .ok (.int .u64 0) w
  ok : (Instr.loadAt 4 (.pointer (some ⟨g, 8, none⟩))).run Tryd.prog w = .ok (.bool false) w
  index : (Instr.loadAt 31 (.pointer (some ⟨g, 9, none⟩))).run Tryd.prog w = .ok (.int .u64 0) w
  stamp : (Instr.loadAt 31 (.pointer (some ⟨g, 10, none⟩))).run Tryd.prog w = .ok (.int .u64 0) w
  bat_ : (Instr.loadAt 33 (.pointer (some ⟨g, 11, none⟩))).run Tryd.prog w = .ok (.agg at0) w
  brib : (Instr.loadAt 37 (.pointer (some ⟨g, 13, none⟩))).run Tryd.prog w = .ok (.agg (tabV none 0 0)) w
  last : (Instr.loadAt 40 (.pointer (some ⟨g, 14, none⟩))).run Tryd.prog w = .ok (.agg last0) w
  seq : (Instr.loadAt 22 (.pointer (some ⟨g, 20, none⟩))).run Tryd.prog w = .ok (.int .u32 m.seq) w
  bat : (Instr.loadAt 25 (.pointer (some ⟨g, 21, none⟩))).run Tryd.prog w = .ok (.agg (tabV A n c)) w
  err : (Instr.loadAt 43 (.pointer (some ⟨g, 22, none⟩))).run Tryd.prog w = .ok (.int .i64 0) w
theorem gm_ld {w : World} {g : Nat} {m : Gm} {A : Option Addr} {n c : Nat} (hb : w.heap[g]? = some (.cells (gmV m A n c) 45 (0, 0))) : GmLd w g m A n c := by
  have h : CellsAt w g 0 (gmC m A n c) := cells_blk hb
  exact ⟨load_cells (cs := gmV m A n c) h Tryd.underlying45 rfl (info_gm _ _ _ _), load_int (h 0 _ rfl), load_int (h 1 _ rfl), load_int (h 2 _ rfl), load_u64k (h 3 _ rfl), load_cells (cs := at0) (cells_mid h 4 2) Tryd.underlying33 rfl (by kernel_rfl), load_u64k (h 4 _ rfl), load_u64k (h 5 _ rfl),
    load_ents0 (h 6 _ rfl), load_u64k (h 7 _ rfl), loadr_bool (h 8 _ rfl), load_u64k (h 9 _ rfl), load_u64k (h 10 _ rfl), load_cells (cs := at0) (cells_mid h 11 2) Tryd.underlying33 rfl (by kernel_rfl), load_cells (cs := tabV none 0 0) (cells_mid h 13 1) Tryd.underlying37 rfl (by kernel_rfl),
    load_cells (cs := last0) (cells_mid h 14 6) Tryd.underlying40 rfl (by kernel_rfl), load_u32k (h 20 _ rfl), load_cells (cs := tabV A n c) (cells_mid h 21 1) Tryd.underlying25 rfl (by kernel_rfl), load_errk (h 22 _ rfl)⟩
structure GmAt (w : World) (g : Nat) (m : Gm) (A : Option Addr) (n c : Nat) : Prop where
  all : ∀ w0, Below w.heap.size w w0 → GmLd w0 g m A n c
theorem gm_at {w : World} {g : Nat} {m : Gm} {A : Option Addr} {n c : Nat} (h : w.heap[g]? = some (.cells (gmV m A n c) 45 (0, 0))) : GmAt w g m A n c := ⟨fun w0 hb => gm_ld (blk_below h hb)⟩
end Go.Proofs.YtifejiclenpfoaaDoor

/- Layer 15 (frame): entries, and whole messages, in memory. -/
namespace Go.Proofs.YtifejiclenpfoaaDoor
open Go.RowKit
set_option linter.unusedVariables false
set_option linter.unusedSimpArgs false
set_option maxRecDepth 4000
theorem exec_build9 {P : Program} {r : Operand → Value} {o : Oper} {w : World} {t : TypeId} {i0 i1 i2 i3 i4 i5 i6 i7 i8 : Nat} {x0 x1 x2 x3 x4 x5 x6 x7 x8 : Operand} {v0 v1 v2 v3 v4 v5 v6 v7 v8 v : Value} (ho : o.op = .build t #[(i0, x0), (i1, x1), (i2, x2), (i3, x3), (i4, x4), (i5, x5), (i6, x6), (i7, x7), (i8, x8)]) (h0 : r x0 = v0) (h1 : r x1 = v1) (h2 : r x2 = v2) (h3 : r x3 = v3) (h4 : r x4 = v4) (h5 : r x5 = v5) (h6 : r x6 = v6) (h7 : r x7 = v7) (h8 : r x8 = v8) (hr : (Instr.build t #[(i0, v0), (i1, v1), (i2, v2), (i3, v3), (i4, v4), (i5, v5), (i6, v6), (i7, v7), (i8, v8)]).run P w = .ok v w) : (execOp r o).run P w = .ok (.value v) w :=
  exec_build t _ ho #[(i0, v0), (i1, v1), (i2, v2), (i3, v3), (i4, v4), (i5, v5), (i6, v6), (i7, v7), (i8, v8)] (by simp [h0, h1, h2, h3, h4, h5, h6, h7, h8]) hr
/-- An entry of a journal, and where its batch lies. -/
structure En where
  epoch : Int
  client : Int
  seq : Int
  A : Option Addr
  n : Nat
  c : Nat
  t : List Upd
def enC (e : En) : List Value := [.int .u64 e.epoch, .int .i64 e.client, .int .u32 e.seq, .slice e.A e.n e.c]
def enV (e : En) : Array Value := #[.int .u64 e.epoch, .int .i64 e.client, .int .u32 e.seq, .slice e.A e.n e.c]
def enZ : En := ⟨0, 0, 0, none, 0, 0, []⟩
theorem zero_en : (Tryd.prog.info? 95).map (fun i => (i.zero, i.size, i.bytes)) = some (some (.agg (enV enZ)), 4, 48) := by kernel_rfl
theorem info_en (e : En) : (Tryd.prog.info? 95).map (·.size) = some (enV e).size := by show _ = some 4; kernel_rfl
def enK : Shape En where
  t := 95
  ts := 34
  sz := 4
  bytes := 48
  z := enZ
  ok := fun _ => True
  enc := enC
  val := fun x => .agg (enV x)
  len := fun _ _ => rfl
  one := fun x u hu => by
    simp only [enC, List.mem_cons, List.not_mem_nil, or_false] at hu
    rcases hu with rfl | rfl | rfl | rfl <;> rfl
  okz := trivial
  pos := by omega
  bpos := by omega
  blt := by omega
  und := Tryd.underlying34
  info := zero_en
  venc := fun _ => rfl
  ld := fun w b o x _ h => load_cells (cs := enV x) h Tryd.underlying95 rfl (info_en _)
structure En.ok (e : En) : Prop where
  epoch : (Lit.int .u64 e.epoch).wf = true
  client : (Lit.int .i64 e.client).wf = true
  seq : (Lit.int .u32 e.seq).wf = true
  t : Oku e.t
/-- What holds of entries that were handed in. -/
structure EnIn (W : World) (e : En) : Prop where
  rs : RS updK W e.A e.n e.c e.t
  ok : e.ok
  small : e.n * 64 ≤ 140737488351232
/-- A whole message, and where its parts lie. -/
structure Fm where
  kd : Int
  frm : Int
  tgt : Int
  epo : Int
  pi : Int
  pe : Int
  EA : Option Addr
  en : Nat
  ec : Nat
  done : Int
  ok : Bool
  idx : Int
  stm : Int
  bi : Int
  be : Int
  RA : Option Addr
  rn : Nat
  rc : Nat
  s0 : Int
  i0 : Int
  s1 : Int
  i1 : Int
  s2 : Int
  i2 : Int
  seq : Int
  BA : Option Addr
  bn : Nat
  bc : Nat
  err : Int
  es : List En
  rib : List Rte
  t : List Upd
def fmC (m : Fm) : List Value :=
  [.int .i64 m.kd, .int .i64 m.frm, .int .i64 m.tgt, .int .u64 m.epo, .int .u64 m.pi, .int .u64 m.pe, .slice m.EA m.en m.ec, .int .u64 m.done, .bool m.ok, .int .u64 m.idx, .int .u64 m.stm, .int .u64 m.bi, .int .u64 m.be, .slice m.RA m.rn m.rc,
   .int .u32 m.s0, .int .u64 m.i0, .int .u32 m.s1, .int .u64 m.i1, .int .u32 m.s2, .int .u64 m.i2, .int .u32 m.seq, .slice m.BA m.bn m.bc, .int .i64 m.err]
def fmV (m : Fm) : Array Value := (fmC m).toArray
def fmZ : Fm := ⟨0, 0, 0, 0, 0, 0, none, 0, 0, 0, false, 0, 0, 0, 0, none, 0, 0, 0, 0, 0, 0, 0, 0, 0, none, 0, 0, 0, [], [], []⟩
theorem info_fm (m : Fm) : (Tryd.prog.info? 45).map (·.size) = some (fmV m).size := by show _ = some 23; kernel_rfl
theorem fm_one (m : Fm) : (fmV m).all (·.oneCell') = true := by simp [fmV, fmC, Value.oneCell']
theorem splice_fm (m m2 : Fm) : splice (fmV m) 0 (fmV m2).toList = fmV m2 := splice_all _ _ rfl
def atV (i e : Int) : Array Value := #[.int .u64 i, .int .u64 e]
def lastV (m : Fm) : Array Value := #[.int .u32 m.s0, .int .u64 m.i0, .int .u32 m.s1, .int .u64 m.i1, .int .u32 m.s2, .int .u64 m.i2]
def baseV (m : Fm) : Array Value := #[.int .u64 m.bi, .int .u64 m.be, .slice m.RA m.rn m.rc, .int .u32 m.s0, .int .u64 m.i0, .int .u32 m.s1, .int .u64 m.i1, .int .u32 m.s2, .int .u64 m.i2]
structure FmLd (w : World) (g : Nat) (m : Fm) : Prop where
  all : (Instr.loadAt 45 (.pointer (some ⟨g, 0, none⟩))).run Tryd.prog w = .ok (.agg (fmV m)) w
  kind : (Instr.loadAt 3 (.pointer (some ⟨g, 0, none⟩))).run Tryd.prog w = .ok (.int .i64 m.kd) w
  frm : (Instr.loadAt 3 (.pointer (some ⟨g, 1, none⟩))).run Tryd.prog w = .ok (.int .i64 m.frm) w
  tgt : (Instr.loadAt 3 (.pointer (some ⟨g, 2, none⟩))).run Tryd.prog w = .ok (.int .i64 m.tgt) w
  epoch : (Instr.loadAt 31 (.pointer (some ⟨g, 3, none⟩))).run Tryd.prog w = .ok (.int .u64 m.epo) w
  prev : (Instr.loadAt 33 (.pointer (some ⟨g, 4, none⟩))).run Tryd.prog w = .ok (.agg (atV m.pi m.pe)) w
  pidx : (Instr.loadAt 31 (.pointer (some ⟨g, 4, none⟩))).run Tryd.prog w = .ok (.int .u64 m.pi) w
  pepo : (Instr.loadAt 31 (.pointer (some ⟨g, 5, none⟩))).run Tryd.prog w = .ok (.int .u64 m.pe) w
  ents : (Instr.loadAt 34 (.pointer (some ⟨g, 6, none⟩))).run Tryd.prog w = .ok (.slice m.EA m.en m.ec) w
  done : (Instr.loadAt 31 (.pointer (some ⟨g, 7, none⟩))).run Tryd.prog w = .ok (.int .u64 m.done) w
  ok : (Instr.loadAt 4 (.pointer (some ⟨g, 8, none⟩))).run Tryd.prog w = .ok (.bool m.ok) w
  index : (Instr.loadAt 31 (.pointer (some ⟨g, 9, none⟩))).run Tryd.prog w = .ok (.int .u64 m.idx) w
  stamp : (Instr.loadAt 31 (.pointer (some ⟨g, 10, none⟩))).run Tryd.prog w = .ok (.int .u64 m.stm) w
  bat_ : (Instr.loadAt 33 (.pointer (some ⟨g, 11, none⟩))).run Tryd.prog w = .ok (.agg (atV m.bi m.be)) w
  base : (Instr.loadAt 42 (.pointer (some ⟨g, 11, none⟩))).run Tryd.prog w = .ok (.agg (baseV m)) w
  brib : (Instr.loadAt 37 (.pointer (some ⟨g, 13, none⟩))).run Tryd.prog w = .ok (.agg (tabV m.RA m.rn m.rc)) w
  brts : (Instr.loadAt 35 (.pointer (some ⟨g, 13, none⟩))).run Tryd.prog w = .ok (.slice m.RA m.rn m.rc) w
  last : (Instr.loadAt 40 (.pointer (some ⟨g, 14, none⟩))).run Tryd.prog w = .ok (.agg (lastV m)) w
  seq : (Instr.loadAt 22 (.pointer (some ⟨g, 20, none⟩))).run Tryd.prog w = .ok (.int .u32 m.seq) w
  bat : (Instr.loadAt 25 (.pointer (some ⟨g, 21, none⟩))).run Tryd.prog w = .ok (.agg (tabV m.BA m.bn m.bc)) w
  upd : (Instr.loadAt 23 (.pointer (some ⟨g, 21, none⟩))).run Tryd.prog w = .ok (.slice m.BA m.bn m.bc) w
  err : (Instr.loadAt 43 (.pointer (some ⟨g, 22, none⟩))).run Tryd.prog w = .ok (.int .i64 m.err) w
theorem fm_ld {w : World} {g : Nat} {m : Fm} (hb : w.heap[g]? = some (.cells (fmV m) 45 (0, 0))) : FmLd w g m := by
  have h : CellsAt w g 0 (fmC m) := cells_blk hb
  exact ⟨load_cells (cs := fmV m) h Tryd.underlying45 rfl (info_fm _), load_int (h 0 _ rfl), load_int (h 1 _ rfl), load_int (h 2 _ rfl), load_u64k (h 3 _ rfl), load_cells (cs := atV m.pi m.pe) (cells_mid h 4 2) Tryd.underlying33 rfl (by show _ = some 2; kernel_rfl), load_u64k (h 4 _ rfl), load_u64k (h 5 _ rfl),
    load_ents0 (h 6 _ rfl), load_u64k (h 7 _ rfl), loadr_bool (h 8 _ rfl), load_u64k (h 9 _ rfl), load_u64k (h 10 _ rfl), load_cells (cs := atV m.bi m.be) (cells_mid h 11 2) Tryd.underlying33 rfl (by show _ = some 2; kernel_rfl), load_cells (cs := baseV m) (cells_mid h 11 9) Tryd.underlying42 rfl (by show _ = some 9; kernel_rfl), load_cells (cs := tabV m.RA m.rn m.rc) (cells_mid h 13 1) Tryd.underlying37 rfl (by show _ = some 1; kernel_rfl), load_rtes (h 13 _ rfl),
    load_cells (cs := lastV m) (cells_mid h 14 6) Tryd.underlying40 rfl (by show _ = some 6; kernel_rfl), load_u32k (h 20 _ rfl), load_cells (cs := tabV m.BA m.bn m.bc) (cells_mid h 21 1) Tryd.underlying25 rfl (by show _ = some 1; kernel_rfl), load_upds (h 21 _ rfl), load_errk (h 22 _ rfl)⟩
structure FmAt (w : World) (g : Nat) (m : Fm) : Prop where
  all : ∀ w0, Below w.heap.size w w0 → FmLd w0 g m
theorem fm_at {w : World} {g : Nat} {m : Fm} (h : w.heap[g]? = some (.cells (fmV m) 45 (0, 0))) : FmAt w g m := ⟨fun w0 hb => fm_ld (blk_below h hb)⟩
structure Fm.wf (m : Fm) : Prop where
  kd : (Lit.int .i64 m.kd).wf = true
  frm : (Lit.int .i64 m.frm).wf = true
  tgt : (Lit.int .i64 m.tgt).wf = true
  epo : (Lit.int .u64 m.epo).wf = true
  pi : (Lit.int .u64 m.pi).wf = true
  pe : (Lit.int .u64 m.pe).wf = true
  done : (Lit.int .u64 m.done).wf = true
  idx : (Lit.int .u64 m.idx).wf = true
  stm : (Lit.int .u64 m.stm).wf = true
  bi : (Lit.int .u64 m.bi).wf = true
  be : (Lit.int .u64 m.be).wf = true
  s0 : (Lit.int .u32 m.s0).wf = true
  i0 : (Lit.int .u64 m.i0).wf = true
  s1 : (Lit.int .u32 m.s1).wf = true
  i1 : (Lit.int .u64 m.i1).wf = true
  s2 : (Lit.int .u32 m.s2).wf = true
  i2 : (Lit.int .u64 m.i2).wf = true
  seq : (Lit.int .u32 m.seq).wf = true
  err : (Lit.int .i64 m.err).wf = true
/-- What holds of a message that was handed in, and of what it has. -/
structure FmIn (W : World) (m : Fm) : Prop where
  wf : m.wf
  es : RS enK W m.EA m.en m.ec m.es
  each : ∀ e ∈ m.es, EnIn W e
  rib : RS rteK W m.RA m.rn m.rc m.rib
  okr : Okr m.rib
  t : RS updK W m.BA m.bn m.bc m.t
  oku : Oku m.t
  esm : m.en * 48 ≤ 140737488351232
  rsm : m.rn * 56 ≤ 140737488351232
  tsm : m.bn * 64 ≤ 140737488351232
theorem EnIn.below {W W1 : World} {e : En} (h : EnIn W e) (hb : Below W.heap.size W W1) : EnIn W1 e := ⟨h.rs.below hb, h.ok, h.small⟩
theorem FmIn.below {W W1 : World} {m : Fm} (h : FmIn W m) (hb : Below W.heap.size W W1) : FmIn W1 m :=
  ⟨h.wf, h.es.below hb, fun e he => (h.each e he).below hb, h.rib.below hb, h.okr, h.t.below hb, h.oku, h.esm, h.rsm, h.tsm⟩
/-- What counts of a message in layer 20. -/
def Fm.mg (m : Fm) : Mg := ⟨m.kd, m.frm, m.tgt, m.epo, [.int .u64 m.pi, .int .u64 m.pe, .slice m.EA m.en m.ec, .int .u64 m.done], m.ok, m.idx, [.int .u64 m.stm, .int .u64 m.bi, .int .u64 m.be, .slice m.RA m.rn m.rc,
   .int .u32 m.s0, .int .u64 m.i0, .int .u32 m.s1, .int .u64 m.i1, .int .u32 m.s2, .int .u64 m.i2], m.seq, m.BA, m.bn, m.bc, m.err, m.t⟩
theorem mg_fits (m : Fm) : m.mg.fits := ⟨rfl, rfl, by simp [Fm.mg, Value.oneCell'], by simp [Fm.mg, Value.oneCell']⟩
end Go.Proofs.YtifejiclenpfoaaDoor

/- Arguments that are entries and messages, opened. -/
namespace Go.Proofs.YtifejiclenpfoaaDoor
open Go.ChangeShapes Go.WideShapes Go.ChangeAt Go.RowKit
set_option linter.unusedVariables false
set_option linter.unusedSimpArgs false
set_option maxRecDepth 4000
section
variable {H : Type} {enc : TypeId × Value → H} {W : World} {base : Nat} {spare : Nat → Bool} {held : Bool}
theorem open_en_cells {fuel : Nat} {cs : List Value} {y : DataW H × List MemPlace} (h : DataW.trod enc Tryd.prog W base spare held fuel 95 cs = some y) (hl : Light Tryd.prog 95 y.1) : ∃ e : En, cs = enC e ∧ EnIn W e := by
  obtain ⟨xs, m, -, hx, hlen, hxl, hg⟩ := DataW.trod_struct Tryd.underlying95 h
  have c0 : Tryd.prog.cellsOf 31 = 1 := by kernel_rfl
  have c1 : Tryd.prog.cellsOf 3 = 1 := by kernel_rfl
  have c2 : Tryd.prog.cellsOf 22 = 1 := by kernel_rfl
  have c4 : Tryd.prog.cellsOf 25 = 1 := by kernel_rfl
  have c3 : Tryd.prog.cellsOf 95 = 4 := by kernel_rfl
  have h0 : DataW.trod enc Tryd.prog W base spare held m 31 ((cs.drop 0).take (Tryd.prog.cellsOf 31)) = xs[0]? := hg 0 _ rfl
  have h1 : DataW.trod enc Tryd.prog W base spare held m 3 ((cs.drop 1).take (Tryd.prog.cellsOf 3)) = xs[1]? := hg 1 _ rfl
  have h2 : DataW.trod enc Tryd.prog W base spare held m 22 ((cs.drop 2).take (Tryd.prog.cellsOf 22)) = xs[2]? := hg 2 _ rfl
  have h3 : DataW.trod enc Tryd.prog W base spare held m 25 ((cs.drop 3).take (Tryd.prog.cellsOf 25)) = xs[3]? := hg 3 _ rfl
  rw [c3] at hlen
  rw [c0] at h0
  rw [c1] at h1
  rw [c2] at h2
  rw [c4] at h3
  have hx4 : xs.length = 4 := hxl
  subst hx
  match cs, hlen, xs, hx4 with
  | [d0, d1, d2, d3], _, [x0, x1, x2, x3], _ =>
    obtain ⟨ep, hv0, -, hw0⟩ := DataW.trod_int Tryd.underlying31 (show DataW.trod enc Tryd.prog W base spare held m 31 [d0] = some x0 from h0)
    obtain ⟨cl, hv1, -, hw1⟩ := DataW.trod_int Tryd.underlying3 (show DataW.trod enc Tryd.prog W base spare held m 3 [d1] = some x1 from h1)
    obtain ⟨sq, hv2, -, hw2⟩ := DataW.trod_int Tryd.underlying22 (show DataW.trod enc Tryd.prog W base spare held m 22 [d2] = some x2 from h2)
    have hl3 : Light Tryd.prog 25 x3.1 := light_field Tryd.underlying95 hl (i := 3) (f := _) rfl rfl
    obtain ⟨A, n, c, t, e1, e2, e3, e4⟩ := open_bat_cells (show DataW.trod enc Tryd.prog W base spare held m 25 [d3] = some x3 from h3) hl3
    refine ⟨⟨ep, cl, sq, A, n, c, t⟩, ?_, e2, ⟨hw0, hw1, hw2, e3⟩, e4⟩
    injection hv0 with hv0
    injection hv1 with hv1
    injection hv2 with hv2
    injection e1 with e1
    subst hv0 hv1 hv2 e1
    rfl
theorem open_ens_cells {fuel : Nat} {cs : List Value} {x : DataW H × List MemPlace} (hf : DataW.trod enc Tryd.prog W base spare held fuel 34 cs = some x) (hl : Light Tryd.prog 34 x.1) : ∃ A n c l, cs = [.slice A n c] ∧ RS enK W A n c l ∧ (∀ e ∈ l, EnIn W e) ∧ n * 48 ≤ 140737488351232 := by
  obtain ⟨A, n, c, t, e1, e2, e3, e4⟩ := open_shp enK (fun x => EnIn W x) (by show Tryd.prog.cellsOf 95 = 4; kernel_rfl) (by show 0 < Tryd.prog.bytesOf 95; exact of_decide_eq_true (by kernel_rfl)) (fun fuel cs y hy hly => by
    obtain ⟨e, f1, f2⟩ := open_en_cells hy hly
    exact ⟨e, f1, trivial, f2⟩) hf hl
  have hb : Tryd.prog.bytesOf enK.t = 48 := by show Tryd.prog.bytesOf 95 = 48; kernel_rfl
  rw [hb] at e4
  exact ⟨A, n, c, t, e1, e2, e3, e4⟩
theorem open_at_cells {fuel : Nat} {cs : List Value} {x : DataW H × List MemPlace} (h : DataW.trod enc Tryd.prog W base spare held fuel 33 cs = some x) : ∃ i e : Int, cs = [.int .u64 i, .int .u64 e] ∧ (Lit.int .u64 i).wf = true ∧ (Lit.int .u64 e).wf = true := by
  obtain ⟨xs, m, -, hx, hlen, hxl, hg⟩ := DataW.trod_struct Tryd.underlying33 h
  have c0 : Tryd.prog.cellsOf 31 = 1 := by kernel_rfl
  have c3 : Tryd.prog.cellsOf 33 = 2 := by kernel_rfl
  have h0 : DataW.trod enc Tryd.prog W base spare held m 31 ((cs.drop 0).take (Tryd.prog.cellsOf 31)) = xs[0]? := hg 0 _ rfl
  have h1 : DataW.trod enc Tryd.prog W base spare held m 31 ((cs.drop 1).take (Tryd.prog.cellsOf 31)) = xs[1]? := hg 1 _ rfl
  rw [c3] at hlen
  rw [c0] at h0 h1
  have hx4 : xs.length = 2 := hxl
  match cs, hlen, xs, hx4 with
  | [d0, d1], _, [x0, x1], _ =>
    obtain ⟨a, hv0, -, hw0⟩ := DataW.trod_int Tryd.underlying31 (show DataW.trod enc Tryd.prog W base spare held m 31 [d0] = some x0 from h0)
    obtain ⟨b, hv1, -, hw1⟩ := DataW.trod_int Tryd.underlying31 (show DataW.trod enc Tryd.prog W base spare held m 31 [d1] = some x1 from h1)
    refine ⟨a, b, ?_, hw0, hw1⟩
    injection hv0 with hv0
    injection hv1 with hv1
    subst hv0 hv1
    rfl
theorem open_lst_cells {fuel : Nat} {cs : List Value} {x : DataW H × List MemPlace} (h : DataW.trod enc Tryd.prog W base spare held fuel 39 cs = some x) : ∃ i e : Int, cs = [.int .u32 i, .int .u64 e] ∧ (Lit.int .u32 i).wf = true ∧ (Lit.int .u64 e).wf = true := by
  obtain ⟨xs, m, -, hx, hlen, hxl, hg⟩ := DataW.trod_struct Tryd.underlying39 h
  have c0 : Tryd.prog.cellsOf 22 = 1 := by kernel_rfl
  have c1 : Tryd.prog.cellsOf 31 = 1 := by kernel_rfl
  have c3 : Tryd.prog.cellsOf 39 = 2 := by kernel_rfl
  have h0 : DataW.trod enc Tryd.prog W base spare held m 22 ((cs.drop 0).take (Tryd.prog.cellsOf 22)) = xs[0]? := hg 0 _ rfl
  have h1 : DataW.trod enc Tryd.prog W base spare held m 31 ((cs.drop 1).take (Tryd.prog.cellsOf 31)) = xs[1]? := hg 1 _ rfl
  rw [c3] at hlen
  rw [c0] at h0
  rw [c1] at h1
  have hx4 : xs.length = 2 := hxl
  match cs, hlen, xs, hx4 with
  | [d0, d1], _, [x0, x1], _ =>
    obtain ⟨a, hv0, -, hw0⟩ := DataW.trod_int Tryd.underlying22 (show DataW.trod enc Tryd.prog W base spare held m 22 [d0] = some x0 from h0)
    obtain ⟨b, hv1, -, hw1⟩ := DataW.trod_int Tryd.underlying31 (show DataW.trod enc Tryd.prog W base spare held m 31 [d1] = some x1 from h1)
    refine ⟨a, b, ?_, hw0, hw1⟩
    injection hv0 with hv0
    injection hv1 with hv1
    subst hv0 hv1
    rfl
theorem open_lst3_cells {fuel : Nat} {cs : List Value} {x : DataW H × List MemPlace} (h : DataW.trod enc Tryd.prog W base spare held fuel 40 cs = some x) : ∃ s0 i0 s1 i1 s2 i2 : Int, cs = [.int .u32 s0, .int .u64 i0, .int .u32 s1, .int .u64 i1, .int .u32 s2, .int .u64 i2] ∧
    ((Lit.int .u32 s0).wf = true ∧ (Lit.int .u64 i0).wf = true) ∧ ((Lit.int .u32 s1).wf = true ∧ (Lit.int .u64 i1).wf = true) ∧ ((Lit.int .u32 s2).wf = true ∧ (Lit.int .u64 i2).wf = true) := by
  obtain ⟨xs, m, -, -, hlen, hxl, hel⟩ := DataW.trod_array Tryd.underlying40 h
  have c1 : Tryd.prog.cellsOf 39 = 2 := by kernel_rfl
  have c2 : Tryd.prog.cellsOf 40 = 6 := by kernel_rfl
  rw [c2] at hlen
  have hat : ∀ i, i < 3 → ∃ a b : Int, (cs.drop (i * 2)).take 2 = [.int .u32 a, .int .u64 b] ∧ (Lit.int .u32 a).wf = true ∧ (Lit.int .u64 b).wf = true := by
    intro i hi
    have h1 := hel i hi
    rw [c1] at h1
    cases hx : xs[i]? with
    | none =>
      exfalso
      have : xs.length ≤ i := List.getElem?_eq_none_iff.1 hx
      omega
    | some x0 =>
      rw [hx] at h1
      exact open_lst_cells h1
  obtain ⟨s0, i0, e0, w0⟩ := hat 0 (by omega)
  obtain ⟨s1, i1, e1, w1⟩ := hat 1 (by omega)
  obtain ⟨s2, i2, e2, w2⟩ := hat 2 (by omega)
  refine ⟨s0, i0, s1, i1, s2, i2, ?_, w0, w1, w2⟩
  match cs, hlen with
  | [d0, d1, d2, d3, d4, d5], _ =>
    simp only [Nat.zero_mul, Nat.one_mul, List.drop_zero, List.take_succ_cons, List.take_zero, List.drop_succ_cons, List.cons.injEq, and_true, Nat.reduceMul] at e0 e1 e2
    obtain ⟨rfl, rfl⟩ := e0
    obtain ⟨rfl, rfl⟩ := e1
    obtain ⟨rfl, rfl⟩ := e2
    rfl
theorem open_base_cells {fuel : Nat} {cs : List Value} {y : DataW H × List MemPlace} (h : DataW.trod enc Tryd.prog W base spare held fuel 42 cs = some y) (hl : Light Tryd.prog 42 y.1) : ∃ m : Fm, cs = (baseV m).toList ∧ RS rteK W m.RA m.rn m.rc m.rib ∧ Okr m.rib ∧ m.rn * 56 ≤ 140737488351232 ∧
    ((Lit.int .u64 m.bi).wf = true ∧ (Lit.int .u64 m.be).wf = true) ∧ ((Lit.int .u32 m.s0).wf = true ∧ (Lit.int .u64 m.i0).wf = true) ∧ ((Lit.int .u32 m.s1).wf = true ∧ (Lit.int .u64 m.i1).wf = true) ∧ ((Lit.int .u32 m.s2).wf = true ∧ (Lit.int .u64 m.i2).wf = true) := by
  obtain ⟨xs, m, -, hx, hlen, hxl, hg⟩ := DataW.trod_struct Tryd.underlying42 h
  have c0 : Tryd.prog.cellsOf 33 = 2 := by kernel_rfl
  have c1 : Tryd.prog.cellsOf 37 = 1 := by kernel_rfl
  have c2 : Tryd.prog.cellsOf 40 = 6 := by kernel_rfl
  have c3 : Tryd.prog.cellsOf 42 = 9 := by kernel_rfl
  have h0 : DataW.trod enc Tryd.prog W base spare held m 33 ((cs.drop 0).take (Tryd.prog.cellsOf 33)) = xs[0]? := hg 0 _ rfl
  have h1 : DataW.trod enc Tryd.prog W base spare held m 37 ((cs.drop 2).take (Tryd.prog.cellsOf 37)) = xs[1]? := hg 1 _ rfl
  have h2 : DataW.trod enc Tryd.prog W base spare held m 40 ((cs.drop 3).take (Tryd.prog.cellsOf 40)) = xs[2]? := hg 2 _ rfl
  rw [c3] at hlen
  rw [c0] at h0
  rw [c1] at h1
  rw [c2] at h2
  have hx4 : xs.length = 3 := hxl
  subst hx
  match cs, hlen, xs, hx4 with
  | [d0, d1, d2, d3, d4, d5, d6, d7, d8], _, [x0, x1, x2], _ =>
    obtain ⟨bi, be, hv0, hw0⟩ := open_at_cells (show DataW.trod enc Tryd.prog W base spare held m 33 [d0, d1] = some x0 from h0)
    have hl1 : Light Tryd.prog 37 x1.1 := light_field Tryd.underlying42 hl (i := 1) (f := _) rfl rfl
    obtain ⟨A, n, c, t, e1, e2, e3, e4⟩ := open_rib_cells (show DataW.trod enc Tryd.prog W base spare held m 37 [d2] = some x1 from h1) hl1
    obtain ⟨s0, i0, s1, i1, s2, i2, hv2, hw2⟩ := open_lst3_cells (show DataW.trod enc Tryd.prog W base spare held m 40 [d3, d4, d5, d6, d7, d8] = some x2 from h2)
    refine ⟨⟨0, 0, 0, 0, 0, 0, none, 0, 0, 0, false, 0, 0, bi, be, A, n, c, s0, i0, s1, i1, s2, i2, 0, none, 0, 0, 0, [], t, []⟩, ?_, e2, e3, e4, hw0, hw2⟩
    simp only [List.cons.injEq, and_true] at hv0 e1 hv2
    obtain ⟨rfl, rfl⟩ := hv0
    obtain ⟨rfl, rfl, rfl, rfl, rfl, rfl⟩ := hv2
    rw [e1]
    rfl
theorem open_msg_cells {fuel : Nat} {cs : List Value} {y : DataW H × List MemPlace} (h : DataW.trod enc Tryd.prog W base spare held fuel 45 cs = some y) (hl : Light Tryd.prog 45 y.1) : ∃ m : Fm, cs = fmC m ∧ FmIn W m := by
  obtain ⟨xs, m, -, hx, hlen, hxl, hg⟩ := DataW.trod_struct Tryd.underlying45 h
  have cI : Tryd.prog.cellsOf 3 = 1 := by kernel_rfl
  have cU : Tryd.prog.cellsOf 31 = 1 := by kernel_rfl
  have c4 : Tryd.prog.cellsOf 22 = 1 := by kernel_rfl
  have cA : Tryd.prog.cellsOf 33 = 2 := by kernel_rfl
  have cE : Tryd.prog.cellsOf 34 = 1 := by kernel_rfl
  have cB : Tryd.prog.cellsOf 4 = 1 := by kernel_rfl
  have cS : Tryd.prog.cellsOf 42 = 9 := by kernel_rfl
  have cT : Tryd.prog.cellsOf 25 = 1 := by kernel_rfl
  have cR : Tryd.prog.cellsOf 43 = 1 := by kernel_rfl
  have cM : Tryd.prog.cellsOf 45 = 23 := by kernel_rfl
  have h0 : DataW.trod enc Tryd.prog W base spare held m 3 ((cs.drop 0).take (Tryd.prog.cellsOf 3)) = xs[0]? := hg 0 _ rfl
  have h1 : DataW.trod enc Tryd.prog W base spare held m 3 ((cs.drop 1).take (Tryd.prog.cellsOf 3)) = xs[1]? := hg 1 _ rfl
  have h2 : DataW.trod enc Tryd.prog W base spare held m 3 ((cs.drop 2).take (Tryd.prog.cellsOf 3)) = xs[2]? := hg 2 _ rfl
  have h3 : DataW.trod enc Tryd.prog W base spare held m 31 ((cs.drop 3).take (Tryd.prog.cellsOf 31)) = xs[3]? := hg 3 _ rfl
  have h4 : DataW.trod enc Tryd.prog W base spare held m 33 ((cs.drop 4).take (Tryd.prog.cellsOf 33)) = xs[4]? := hg 4 _ rfl
  have h5 : DataW.trod enc Tryd.prog W base spare held m 34 ((cs.drop 6).take (Tryd.prog.cellsOf 34)) = xs[5]? := hg 5 _ rfl
  have h6 : DataW.trod enc Tryd.prog W base spare held m 31 ((cs.drop 7).take (Tryd.prog.cellsOf 31)) = xs[6]? := hg 6 _ rfl
  have h7 : DataW.trod enc Tryd.prog W base spare held m 4 ((cs.drop 8).take (Tryd.prog.cellsOf 4)) = xs[7]? := hg 7 _ rfl
  have h8 : DataW.trod enc Tryd.prog W base spare held m 31 ((cs.drop 9).take (Tryd.prog.cellsOf 31)) = xs[8]? := hg 8 _ rfl
  have h9 : DataW.trod enc Tryd.prog W base spare held m 31 ((cs.drop 10).take (Tryd.prog.cellsOf 31)) = xs[9]? := hg 9 _ rfl
  have h10 : DataW.trod enc Tryd.prog W base spare held m 42 ((cs.drop 11).take (Tryd.prog.cellsOf 42)) = xs[10]? := hg 10 _ rfl
  have h11 : DataW.trod enc Tryd.prog W base spare held m 22 ((cs.drop 20).take (Tryd.prog.cellsOf 22)) = xs[11]? := hg 11 _ rfl
  have h12 : DataW.trod enc Tryd.prog W base spare held m 25 ((cs.drop 21).take (Tryd.prog.cellsOf 25)) = xs[12]? := hg 12 _ rfl
  have h13 : DataW.trod enc Tryd.prog W base spare held m 43 ((cs.drop 22).take (Tryd.prog.cellsOf 43)) = xs[13]? := hg 13 _ rfl
  rw [cM] at hlen
  rw [cI] at h0 h1 h2
  rw [cU] at h3 h6 h8 h9
  rw [cA] at h4
  rw [cE] at h5
  rw [cB] at h7
  rw [cS] at h10
  rw [c4] at h11
  rw [cT] at h12
  rw [cR] at h13
  have hx14 : xs.length = 14 := hxl
  subst hx
  match cs, hlen, xs, hx14 with
  | [d0, d1, d2, d3, d4, d5, d6, d7, d8, d9, d10, d11, d12, d13, d14, d15, d16, d17, d18, d19, d20, d21, d22], _, [x0, x1, x2, x3, x4, x5, x6, x7, x8, x9, x10, x11, x12, x13], _ =>
    obtain ⟨kd, hv0, -, hw0⟩ := DataW.trod_int Tryd.underlying3 (show DataW.trod enc Tryd.prog W base spare held m 3 [d0] = some x0 from h0)
    obtain ⟨fr, hv1, -, hw1⟩ := DataW.trod_int Tryd.underlying3 (show DataW.trod enc Tryd.prog W base spare held m 3 [d1] = some x1 from h1)
    obtain ⟨tg, hv2, -, hw2⟩ := DataW.trod_int Tryd.underlying3 (show DataW.trod enc Tryd.prog W base spare held m 3 [d2] = some x2 from h2)
    obtain ⟨ep, hv3, -, hw3⟩ := DataW.trod_int Tryd.underlying31 (show DataW.trod enc Tryd.prog W base spare held m 31 [d3] = some x3 from h3)
    obtain ⟨pi, pe, hv4, hw4, hw4'⟩ := open_at_cells (show DataW.trod enc Tryd.prog W base spare held m 33 [d4, d5] = some x4 from h4)
    have hl5 : Light Tryd.prog 34 x5.1 := light_field Tryd.underlying45 hl (i := 5) (f := _) rfl rfl
    obtain ⟨EA, en, ec, es, hv5, he5, hx5, hs5⟩ := open_ens_cells (show DataW.trod enc Tryd.prog W base spare held m 34 [d6] = some x5 from h5) hl5
    obtain ⟨dn, hv6, -, hw6⟩ := DataW.trod_int Tryd.underlying31 (show DataW.trod enc Tryd.prog W base spare held m 31 [d7] = some x6 from h6)
    obtain ⟨ok, hv7, -⟩ := DataW.trod_bool Tryd.underlying4 (show DataW.trod enc Tryd.prog W base spare held m 4 [d8] = some x7 from h7)
    obtain ⟨ix, hv8, -, hw8⟩ := DataW.trod_int Tryd.underlying31 (show DataW.trod enc Tryd.prog W base spare held m 31 [d9] = some x8 from h8)
    obtain ⟨st, hv9, -, hw9⟩ := DataW.trod_int Tryd.underlying31 (show DataW.trod enc Tryd.prog W base spare held m 31 [d10] = some x9 from h9)
    have hl10 : Light Tryd.prog 42 x10.1 := light_field Tryd.underlying45 hl (i := 10) (f := _) rfl rfl
    obtain ⟨b, hv10, hr10, ho10, hs10, hwb, hw10, hw11, hw12⟩ := open_base_cells (show DataW.trod enc Tryd.prog W base spare held m 42 [d11, d12, d13, d14, d15, d16, d17, d18, d19] = some x10 from h10) hl10
    obtain ⟨sq, hv11, -, hw13⟩ := DataW.trod_int Tryd.underlying22 (show DataW.trod enc Tryd.prog W base spare held m 22 [d20] = some x11 from h11)
    have hl12 : Light Tryd.prog 25 x12.1 := light_field Tryd.underlying45 hl (i := 12) (f := _) rfl rfl
    obtain ⟨BA, bn, bc, t, hv12, hr12, ho12, hs12⟩ := open_bat_cells (show DataW.trod enc Tryd.prog W base spare held m 25 [d21] = some x12 from h12) hl12
    obtain ⟨er, hv13, -, hw14⟩ := DataW.trod_int Tryd.underlying43 (show DataW.trod enc Tryd.prog W base spare held m 43 [d22] = some x13 from h13)
    refine ⟨⟨kd, fr, tg, ep, pi, pe, EA, en, ec, dn, ok, ix, st, b.bi, b.be, b.RA, b.rn, b.rc, b.s0, b.i0, b.s1, b.i1, b.s2, b.i2, sq, BA, bn, bc, er, es, b.rib, t⟩, ?_,
      ⟨hw0, hw1, hw2, hw3, hw4, hw4', hw6, hw8, hw9, hwb.1, hwb.2, hw10.1, hw10.2, hw11.1, hw11.2, hw12.1, hw12.2, hw13, hw14⟩, he5, hx5, hr10, ho10, hr12, ho12, hs5, hs10, hs12⟩
    simp only [baseV, List.cons.injEq, and_true] at hv0 hv1 hv2 hv3 hv4 hv5 hv6 hv7 hv8 hv9 hv10 hv11 hv12 hv13
    obtain ⟨rfl, rfl⟩ := hv4
    obtain ⟨rfl, rfl, rfl, rfl, rfl, rfl, rfl, rfl, rfl⟩ := hv10
    subst hv0 hv1 hv2 hv3 hv5 hv6 hv7 hv8 hv9 hv11 hv12 hv13
    rfl
end
end Go.Proofs.YtifejiclenpfoaaDoor

/- Plain laws of layer 20 (client). -/
namespace Go.Proofs.YtifejiclenpfoaaDoor
set_option linter.unusedVariables false
set_option linter.unusedSimpArgs false
set_option maxRecDepth 4000
set_option maxRecDepth 4000
/-- May a client be? -/
def ckB (k : Ck) : Bool := decide (1 ≤ k.num) && decide (k.num ≤ 2) && (if k.away then decide (0 < k.seq) && batB k.t else decide (k.t.length = 0))
def ckE (k : Ck) : Int := if ckB k then 0 else 300
/-- What comes of submitting. -/
def subN (k : Ck) (b : List Upd) : Int := if ckB k then (if k.away then 301 else if batB b then (if k.seq = 4294967295 then 6 else 0) else 210) else 300
def subK (k : Ck) (b : List Upd) : Ck := if subN k b = 0 then ⟨k.num, k.seq + 1, true, b⟩ else ckZ
/-- What is asked. -/
def askN (k : Ck) (tg : Int) : Int := if ckB k then (if 1 ≤ tg ∧ tg ≤ 2 then (if k.away then 0 else 4) else 2) else 300
/-- What is learnt. -/
structure Hd where
  done : Bool
  err : Int
  seq : Int
  index : Int
  t : List Upd
def hdZ : Hd := ⟨false, 0, 0, 0, []⟩
/-- Is a message heard? Its kind, to, seq, err. -/
def hearB (k : Ck) (kind tg seq err : Int) : Bool := decide (kind = 7) && decide (tg = 2 + k.num) && decide (seq = k.seq) && k.away && !decide (err = 270)
/-- A client behind a message; what is learnt. -/
def hearK (k : Ck) (h : Bool) : Ck := if ckB k then (if h then ⟨k.num, k.seq, false, []⟩ else k) else ckZ
def hearH (k : Ck) (h : Bool) (err index : Int) : Hd := if ckB k && h then ⟨true, err, k.seq, if err = 0 then index else 0, k.t⟩ else hdZ
end Go.Proofs.YtifejiclenpfoaaDoor

/- Layer 20 (client): Check, New, Same; the document's Right, Same. -/
namespace Go.Proofs.YtifejiclenpfoaaDoor
open Go.RowKit
set_option linter.unusedVariables false
set_option linter.unusedSimpArgs false
set_option maxRecDepth 4000
set_option maxHeartbeats 2000000 in
theorem ccheck20_any (k : Ck) (A : Option Addr) (n c : Nat) (w : World) (hL : Laid w) (hr : RS updK w A n c k.t) (ok : Oku k.t) (hn : n ≤ 100000) : Calls Tryd.prog 20 #[.agg (cliV k A n c)] w fun e w' => e = .returned (.int .i64 (ckE k)) ∧ Below w.heap.size w w' := by
  have hblk1 := blk_new w (.cells (cliV k A n c) 27)
  have hbel1 : Below w.heap.size w (w.alloc (.cells (cliV k A n c) 27)) := below_alloc (Below.refl _ _) _
  have HP1 := Lib.hid (cli_at hblk1)
  have HBK1 := Lib.hid hblk1
  have HBE := Lib.hid hbel1
  have HL := Lib.hid (hL.below HBE.out)
  obtain ⟨cs1, hcs1⟩ : ∃ cs, cliV k A n c = cs := ⟨_, rfl⟩
  simp only [hcs1] at HBE HL HP1 HBK1 ⊢
  have HC1 := Lib.hid hcs1
  clear hL hcs1 hblk1 hbel1
  have HR := Lib.hid (hr.below HBE.out)
  have OK := Lib.hid ok
  have HLN := Lib.hid hr.len
  have HLD := Lib.hid (HP1.out.all _ (Below.refl _ _))
  clear hr ok
  go_enter Tryd.func20, Tryd.ntmps20
  by_cases hnum : 1 ≤ k.num ∧ k.num ≤ 2
  · have h1 : decide (1 ≤ k.num) = true := decide_eq_true hnum.1
    have h2 : decide (k.num ≤ 2) = true := decide_eq_true hnum.2
    cases ha : k.away with
    | true =>
      have HAW := Lib.hid HLD.out.away
      rw [ha] at HAW
      have HB : Hid (ckB k = (decide (0 < k.seq) && batB k.t)) := Lib.hid (by unfold ckB; rw [h1, h2, ha]; rfl)
      by_cases hs : 0 < k.seq
      · have h3 : decide (0 < k.seq) = true := decide_eq_true hs
        have HE0 : Hid (ckB k = batB k.t) := Lib.hid (by rw [HB.out, h3]; rfl)
        clear ha hnum hs
        go_wp2_with (first | ((with_reducible show wpList _ _ _ (Oper.mk _ (Op.load _ _) _ _ _ _ :: _) _ _); refine wpList_load_g (HLD.out.num) _ rfl rfl (by go_simp) ?_) | ((with_reducible show wpList _ _ _ (Oper.mk _ (Op.load _ _) _ _ _ _ :: _) _ _); refine wpList_load_g (HAW.out) _ rfl rfl (by go_simp) ?_) | ((with_reducible show wpList _ _ _ (Oper.mk _ (Op.load _ _) _ _ _ _ :: _) _ _); refine wpList_load_g (HLD.out.seq) _ rfl rfl (by go_simp) ?_) | ((with_reducible show wpList _ _ _ (Oper.mk _ (Op.load _ _) _ _ _ _ :: _) _ _); refine wpList_load_g (HLD.out.bat) _ rfl rfl (by go_simp) ?_))
        refine (rcheckb_any A n c k.t _ HL.out HR.out OK.out (by omega)).mono ?_
        rintro e w2 ⟨rfl, hb2⟩
        have HB2 := Lib.hid hb2
        clear hb2
        cases hb : batB k.t with
        | true =>
          have HE : Hid (ckE k = 0) := Lib.hid (by unfold ckE; rw [HE0.out, hb]; rfl)
          rw [show batE k.t = 0 by unfold batE; rw [hb]; rfl]
          clear hb
          go_wp2_with fail
          go_ret
          rw [HE.out]
          exact ⟨rfl, below_step HBE.out HB2.out⟩
        | false =>
          have HE : Hid (ckE k = 300) := Lib.hid (by unfold ckE; rw [HE0.out, hb]; rfl)
          rw [show batE k.t = 210 by unfold batE; rw [hb]; rfl]
          clear hb
          go_wp2_with fail
          go_ret
          rw [HE.out]
          exact ⟨rfl, below_step HBE.out HB2.out⟩
      · have h3 : decide (0 < k.seq) = false := decide_eq_false hs
        have HE : Hid (ckE k = 300) := Lib.hid (by unfold ckE; rw [HB.out, h3]; rfl)
        clear ha hnum hs
        go_wp2_with (first | ((with_reducible show wpList _ _ _ (Oper.mk _ (Op.load _ _) _ _ _ _ :: _) _ _); refine wpList_load_g (HLD.out.num) _ rfl rfl (by go_simp) ?_) | ((with_reducible show wpList _ _ _ (Oper.mk _ (Op.load _ _) _ _ _ _ :: _) _ _); refine wpList_load_g (HAW.out) _ rfl rfl (by go_simp) ?_) | ((with_reducible show wpList _ _ _ (Oper.mk _ (Op.load _ _) _ _ _ _ :: _) _ _); refine wpList_load_g (HLD.out.seq) _ rfl rfl (by go_simp) ?_) | ((with_reducible show wpList _ _ _ (Oper.mk _ (Op.load _ _) _ _ _ _ :: _) _ _); refine wpList_load_g (HLD.out.bat) _ rfl rfl (by go_simp) ?_))
        go_ret
        rw [HE.out]
        exact ⟨rfl, HBE.out⟩
    | false =>
      have HAW := Lib.hid HLD.out.away
      rw [ha] at HAW
      have HB : Hid (ckB k = decide (k.t.length = 0)) := Lib.hid (by unfold ckB; rw [h1, h2, ha]; rfl)
      by_cases hz : n = 0
      · have HE : Hid (ckE k = 0) := Lib.hid (by unfold ckE; rw [HB.out, HLN.out, hz]; rfl)
        subst hz
        clear ha hnum
        go_wp2_with (first | ((with_reducible show wpList _ _ _ (Oper.mk _ (Op.load _ _) _ _ _ _ :: _) _ _); refine wpList_load_g (HLD.out.num) _ rfl rfl (by go_simp) ?_) | ((with_reducible show wpList _ _ _ (Oper.mk _ (Op.load _ _) _ _ _ _ :: _) _ _); refine wpList_load_g (HAW.out) _ rfl rfl (by go_simp) ?_) | ((with_reducible show wpList _ _ _ (Oper.mk _ (Op.load _ _) _ _ _ _ :: _) _ _); refine wpList_load_g (HLD.out.upd) _ rfl rfl (by go_simp) ?_))
        go_ret
        rw [HE.out]
        exact ⟨rfl, HBE.out⟩
      · have HE : Hid (ckE k = 300) := Lib.hid (by unfold ckE; rw [HB.out, HLN.out, decide_eq_false hz]; rfl)
        have hzb : ((n : Int) == 0) = false := by simpa using hz
        clear ha hnum
        go_wp2_with (first | ((with_reducible show wpList _ _ _ (Oper.mk _ (Op.load _ _) _ _ _ _ :: _) _ _); refine wpList_load_g (HLD.out.num) _ rfl rfl (by go_simp) ?_) | ((with_reducible show wpList _ _ _ (Oper.mk _ (Op.load _ _) _ _ _ _ :: _) _ _); refine wpList_load_g (HAW.out) _ rfl rfl (by go_simp) ?_) | ((with_reducible show wpList _ _ _ (Oper.mk _ (Op.load _ _) _ _ _ _ :: _) _ _); refine wpList_load_g (HLD.out.upd) _ rfl rfl (by go_simp) ?_))
        go_ret
        rw [HE.out]
        exact ⟨rfl, HBE.out⟩
  · have HE : Hid (ckE k = 300) := Lib.hid (by
      unfold ckE ckB
      by_cases h : 1 ≤ k.num
      · rw [decide_eq_false (show ¬ k.num ≤ 2 from fun e => hnum ⟨h, e⟩)]; simp
      · rw [decide_eq_false h]; simp)
    have HAW := Lib.hid HLD.out.away
    by_cases h1 : 1 ≤ k.num
    · have h1b : decide (1 ≤ k.num) = true := decide_eq_true h1
      have h2 : decide (k.num ≤ 2) = false := decide_eq_false (fun e => hnum ⟨h1, e⟩)
      clear hnum h1
      cases ha : k.away with
      | true =>
        rw [ha] at HAW
        clear ha
        go_wp2_with (first | ((with_reducible show wpList _ _ _ (Oper.mk _ (Op.load _ _) _ _ _ _ :: _) _ _); refine wpList_load_g (HLD.out.num) _ rfl rfl (by go_simp) ?_) | ((with_reducible show wpList _ _ _ (Oper.mk _ (Op.load _ _) _ _ _ _ :: _) _ _); refine wpList_load_g (HAW.out) _ rfl rfl (by go_simp) ?_) | ((with_reducible show wpList _ _ _ (Oper.mk _ (Op.load _ _) _ _ _ _ :: _) _ _); refine wpList_load_g (HLD.out.upd) _ rfl rfl (by go_simp) ?_))
        go_ret
        rw [HE.out]
        exact ⟨rfl, HBE.out⟩
      | false =>
        rw [ha] at HAW
        clear ha
        go_wp2_with (first | ((with_reducible show wpList _ _ _ (Oper.mk _ (Op.load _ _) _ _ _ _ :: _) _ _); refine wpList_load_g (HLD.out.num) _ rfl rfl (by go_simp) ?_) | ((with_reducible show wpList _ _ _ (Oper.mk _ (Op.load _ _) _ _ _ _ :: _) _ _); refine wpList_load_g (HAW.out) _ rfl rfl (by go_simp) ?_) | ((with_reducible show wpList _ _ _ (Oper.mk _ (Op.load _ _) _ _ _ _ :: _) _ _); refine wpList_load_g (HLD.out.upd) _ rfl rfl (by go_simp) ?_))
        go_ret
        rw [HE.out]
        exact ⟨rfl, HBE.out⟩
    · have h1b : decide (1 ≤ k.num) = false := decide_eq_false h1
      clear hnum h1
      cases ha : k.away with
      | true =>
        rw [ha] at HAW
        clear ha
        go_wp2_with (first | ((with_reducible show wpList _ _ _ (Oper.mk _ (Op.load _ _) _ _ _ _ :: _) _ _); refine wpList_load_g (HLD.out.num) _ rfl rfl (by go_simp) ?_) | ((with_reducible show wpList _ _ _ (Oper.mk _ (Op.load _ _) _ _ _ _ :: _) _ _); refine wpList_load_g (HAW.out) _ rfl rfl (by go_simp) ?_) | ((with_reducible show wpList _ _ _ (Oper.mk _ (Op.load _ _) _ _ _ _ :: _) _ _); refine wpList_load_g (HLD.out.upd) _ rfl rfl (by go_simp) ?_))
        go_ret
        rw [HE.out]
        exact ⟨rfl, HBE.out⟩
      | false =>
        rw [ha] at HAW
        clear ha
        go_wp2_with (first | ((with_reducible show wpList _ _ _ (Oper.mk _ (Op.load _ _) _ _ _ _ :: _) _ _); refine wpList_load_g (HLD.out.num) _ rfl rfl (by go_simp) ?_) | ((with_reducible show wpList _ _ _ (Oper.mk _ (Op.load _ _) _ _ _ _ :: _) _ _); refine wpList_load_g (HAW.out) _ rfl rfl (by go_simp) ?_) | ((with_reducible show wpList _ _ _ (Oper.mk _ (Op.load _ _) _ _ _ _ :: _) _ _); refine wpList_load_g (HLD.out.upd) _ rfl rfl (by go_simp) ?_))
        go_ret
        rw [HE.out]
        exact ⟨rfl, HBE.out⟩
end Go.Proofs.YtifejiclenpfoaaDoor

/- Layer 20 (client): copied; the law's batch, short; the document's Batch, Copy. -/
namespace Go.Proofs.YtifejiclenpfoaaDoor
open Go.RowKit
set_option linter.unusedVariables false
set_option linter.unusedSimpArgs false
set_option maxRecDepth 4000
theorem cloneU_any (A : Option Addr) (n c : Nat) (t : List Upd) (w : World) (hr : RS updK w A n c t) (hn : n ≤ 1000000) :
    Calls Tryd.prog 63 #[.slice A n c] w fun e w' => ∃ A' c', e = .returned (.slice A' n c') ∧ OS updK w' w.heap.size A' n c' t ∧ Below w.heap.size w w' := by
  have hnil := fun (w : World) (A : Option Addr) (n c : Nat) => Lib.run_eql_slice_nil (P := Tryd.prog) w 23 104 A n c 0 0 Tryd.underlying23
  cases A with
  | none =>
    have h0 : n = 0 := by
      rcases Nat.eq_zero_or_pos n with h | h
      · exact h
      · obtain ⟨ad, e, _⟩ := hr.rv.cells h
        cases e
    subst h0
    obtain rfl : t = [] := List.eq_nil_of_length_eq_zero hr.len
    go_enter Tryd.func63, Tryd.ntmps63
    go_wp2
    go_ret
    exact ⟨_, _, rfl, OS.nil _ _ _, Below.refl _ _⟩
  | some ad =>
    go_enter Tryd.func63, Tryd.ntmps63
    go_wp2_with (at_builtin; refine wpList_append_shp updK rfl (.tmp 5) (.tmp 6) rfl rfl rfl (OS.empty updK w w.heap.size (Nat.le_refl _)) (hr.below (below_alloc (Below.refl _ _) _)) (by simp) (by omega) ?_; intro A' c' w' h1 h2 h3; rw [Nat.zero_add, List.nil_append] at h1; rw [Nat.zero_add])
    go_ret
    exact ⟨_, _, rfl, h1, below_own (below_alloc (Below.refl _ _) _) h2 (fun ad h => by injection h with h; subst h; exact Nat.le_refl _)⟩
theorem ccopied_any (A : Option Addr) (n c : Nat) (t : List Upd) (w : World) (hr : RS updK w A n c t) (hn : n ≤ 1000000) :
    Calls Tryd.prog 41 #[.agg (tabV A n c)] w fun e w' => ∃ A' c', e = .returned (.agg (tabV A' n c')) ∧ OS updK w' w.heap.size A' n c' t ∧ Below w.heap.size w w' := by
  have hblk1 := blk_new w (.cells (tabV A n c) 25)
  have hbel1 : Below w.heap.size w (w.alloc (.cells (tabV A n c) 25)) := below_alloc (Below.refl _ _) _
  have HP1 := Lib.hid (bat_at hblk1)
  have HBK1 := Lib.hid hblk1
  have HBE := Lib.hid hbel1
  obtain ⟨cs1, hcs1⟩ : ∃ cs, tabV A n c = cs := ⟨_, rfl⟩
  simp only [hcs1] at HBE HP1 HBK1 ⊢
  have HC1 := Lib.hid hcs1
  clear hcs1 hblk1 hbel1
  have hs0 : (w.alloc (.cells cs1 25)).heap.size = w.heap.size + 1 := by simp
  obtain ⟨W1, hW1⟩ : ∃ W1, (w.alloc (.cells cs1 25)).alloc (.cells #[.slice none 0 0] 25) = W1 := ⟨_, rfl⟩
  have HB1 : Hid (Below w.heap.size w W1) := Lib.hid (hW1 ▸ below_alloc HBE.out _)
  have HZ1 : Hid (W1.heap[w.heap.size + 1]? = some (.cells (tabV none 0 0) 25 (0, 0))) := Lib.hid (by rw [← hW1, ← hs0]; exact blk_new _ _)
  have HX1 : Hid (W1.heap[w.heap.size]? = some (.cells (tabV A n c) 25 (0, 0))) := Lib.hid (by rw [← hW1, HC1.out]; exact blk_below HBK1.out (below_alloc (Below.refl _ _) _))
  have HS1 : Hid (W1.heap.size = w.heap.size + 2) := Lib.hid (by rw [← hW1]; simp)
  have HR1 := Lib.hid (hr.below HB1.out)
  clear hr hs0
  go_enter Tryd.func41, Tryd.ntmps41
  go_wp2_with (first | ((with_reducible show wpList _ _ _ (Oper.mk _ (Op.load _ _) _ _ _ _ :: _) _ _); refine wpList_load_g (((bat_at HX1.out).all _ (Below.refl _ _)).2) _ rfl rfl (by go_simp) ?_))
  clear hW1
  refine (cloneU_any A n c t W1 HR1.out hn).mono ?_
  rintro e w2 ⟨A2, c2, rfl, hO2, hb2⟩
  have HO2 := Lib.hid hO2
  have HB2 := Lib.hid (below_step HB1.out hb2)
  have HZ2 := Lib.hid (blk_below HZ1.out hb2)
  have HX2 := Lib.hid (blk_below HX1.out hb2)
  clear hO2 hb2 HB1 HZ1 HX1 HR1
  go_wp2_with (first | ((with_reducible show wpList _ _ _ (Oper.mk _ (Op.store _ _ _) _ _ _ _ :: _) _ _); refine wpList_store_cell HX2.out 23 0 (.slice A2 n c2) (Nat.le_refl _) (by kernel_rfl) rfl rfl _ _ rfl rfl rfl rfl ?_; intro w3 hg9 hs9 hb9; have H3 := Lib.hid (And.intro hg9 (show (World.heap w3)[w.heap.size]? = some (.cells (tabV A2 n c2) 25 (0, 0)) from hb9)); clear hg9 hs9 hb9) | ((with_reducible show wpList _ _ _ (Oper.mk _ (Op.load _ _) _ _ _ _ :: _) _ _); refine wpList_load_g (load_bat H3.out.2) _ rfl rfl (by go_simp) ?_) | ((with_reducible show wpList _ _ _ (Oper.mk _ (Op.store _ _ _) _ _ _ _ :: _) _ _); refine wpList_store_blk (blk_grown HZ2.out H3.out.1 (fun e => by injection e with e; omega)) 25 0 (tabV A2 n c2) (Nat.le_refl _) (info_bat _ _ _) (tab_one _ _ _) _ _ rfl rfl rfl rfl ?_; intro w4 hg9 hs9 hb9; rw [splice_tab] at hb9; have H4 := Lib.hid (And.intro hg9 hb9); clear hg9 hs9 hb9))
  refine bodyPost_ret (results_c1 rfl rfl (load_bat H4.out.2)) rfl ?_
  have hs := HS1.out
  exact ⟨A2, c2, rfl, ((HO2.out.grown H3.out.1 (fun ad e h => by have := HO2.out.base_ ad e; injection h with h; omega)).grown H4.out.1 (fun ad e h => by have := HO2.out.base_ ad e; injection h with h; omega)).lower (by omega), below_grown (below_grown HB2.out H3.out.1 (Nat.le_refl _)) H4.out.1 (by omega)⟩
theorem run_build_bat20 (w : World) (A : Option Addr) (n c : Nat) : (Instr.build 25 #[(0, .slice A n c)]).run Tryd.prog w = .ok (.agg (tabV A n c)) w := run_build w _ _ _ (by kernel_rfl)
theorem cut_upd (A : Option Addr) (n c j : Nat) (h : j ≤ c) : ∀ W : World, (Instr.slice 23 (.slice A n c) none (some (.int .i64 (j : Int))) none).run Tryd.prog W = .ok (.slice A j c) W := by
  intro W
  have hj : (j : Int) ≤ (c : Int) := by omega
  have h0 : (0 : Int) ≤ (j : Int) := by omega
  go_simp
theorem min_len (n : Nat) : min (n : Int) 10 = ((min n 10 : Nat) : Int) := by omega
set_option maxHeartbeats 2000000 in
theorem lbatch_any (A : Option Addr) (n c : Nat) (t : List Upd) (w : World) (hr : RS updK w A n c t) (hn : n ≤ 140737488355328) :
    Calls Tryd.prog 14 #[.agg (tabV A n c)] w fun e w' => ∃ A' c', e = .returned (.agg (tabV A' (min n 10) c')) ∧ OS updK w' w.heap.size A' (min n 10) c' (t.take 10) ∧ Below w.heap.size w w' := by
  have hblk1 := blk_new w (.cells (tabV A n c) 25)
  have hbel1 : Below w.heap.size w (w.alloc (.cells (tabV A n c) 25)) := below_alloc (Below.refl _ _) _
  have HP1 := Lib.hid (bat_at hblk1)
  have HBK1 := Lib.hid hblk1
  have HBE := Lib.hid hbel1
  obtain ⟨cs1, hcs1⟩ : ∃ cs, tabV A n c = cs := ⟨_, rfl⟩
  simp only [hcs1] at HBE HP1 HBK1 ⊢
  have HC1 := Lib.hid hcs1
  clear hcs1 hblk1 hbel1
  have hs0 : (w.alloc (.cells cs1 25)).heap.size = w.heap.size + 1 := by simp
  obtain ⟨W1, hW1⟩ : ∃ W1, (w.alloc (.cells cs1 25)).alloc (.cells #[.slice none 0 0] 25) = W1 := ⟨_, rfl⟩
  have HB1 : Hid (Below w.heap.size w W1) := Lib.hid (hW1 ▸ below_alloc HBE.out _)
  have HBR : Hid (Below (w.alloc (.cells cs1 25)).heap.size (w.alloc (.cells cs1 25)) W1) := Lib.hid (hW1 ▸ below_alloc (Below.refl _ _) _)
  have HZ1 : Hid (W1.heap[w.heap.size + 1]? = some (.cells (tabV none 0 0) 25 (0, 0))) := Lib.hid (by rw [← hW1, ← hs0]; exact blk_new _ _)
  have HS1 : Hid (W1.heap.size = w.heap.size + 2) := Lib.hid (by rw [← hW1]; simp)
  have HR1 := Lib.hid (hr.below HB1.out)
  clear hr hs0
  have hml := min_len n
  have hcp := HR1.out.cap
  obtain ⟨q, hq⟩ : ∃ q, min n 10 = q := ⟨_, rfl⟩
  have hq2 : q ≤ n ∧ q ≤ 10 := by omega
  have HTK : Hid (RS updK W1 A q c (t.take 10)) := Lib.hid (by
    have h1 := HR1.out.take q hq2.1
    have h2 : t.take q = t.take 10 := by
      by_cases h : n ≤ 10
      · have : q = n := by omega
        rw [this, ← HR1.out.len, List.take_length, List.take_of_length_le (by rw [HR1.out.len]; exact h)]
      · have : q = 10 := by omega
        rw [this]
    rw [h2] at h1
    exact h1)
  rw [hq] at hml ⊢
  have hcu := cut_upd A n c q (by omega)
  clear hq hcp
  go_enter Tryd.func14, Tryd.ntmps14
  go_wp2_with (first | ((with_reducible show wpList _ _ _ (Oper.mk _ (Op.load _ _) _ _ _ _ :: _) _ _); refine wpList_load_g ((HP1.out.all _ (below_step HBR.out (below_alloc (Below.refl _ _) (.cells #[] 104)))).2) _ rfl rfl (by go_simp) ?_) | (at_builtin; refine wpList_append_shp updK rfl (.tmp 3) (.tmp 10) rfl rfl rfl (OS.empty updK W1 W1.heap.size (Nat.le_refl _)) ((HTK.out.below (below_alloc (Below.refl _ _) _))) (by simp) (by omega) ?_; intro A2 c2 w2 h1 h2 h3; rw [Nat.zero_add, List.nil_append] at h1; rw [Nat.zero_add]; have H2 := Lib.hid (And.intro h1 ((below_alloc (Below.refl W1.heap.size W1) (.cells #[] 104)).grown h2 (by simp) (own_row (fun ad e => by injection e with e; rw [← e]; exact Nat.le_refl _)))); clear h1 h2 h3) | ((with_reducible show wpList _ _ _ (Oper.mk _ (Op.build 25 _) _ _ _ _ :: _) _ _); refine wpList_exw rfl (exec_build1 rfl rfl (run_build_bat20 _ A2 q c2)) ?_) | ((with_reducible show wpList _ _ _ (Oper.mk _ (Op.store _ _ _) _ _ _ _ :: _) _ _); refine wpList_store_blk (blk_below HZ1.out H2.out.2) 25 0 (tabV A2 q c2) (Nat.le_refl _) (info_bat _ _ _) (tab_one _ _ _) _ _ rfl rfl rfl rfl ?_; intro w3 hg9 hs9 hb9; rw [splice_tab] at hb9; have H3 := Lib.hid (And.intro hg9 hb9); clear hg9 hs9 hb9))
  clear hW1
  refine bodyPost_ret (results_c1 rfl rfl (load_bat H3.out.2)) rfl ?_
  have hs := HS1.out
  exact ⟨A2, c2, rfl, (H2.out.1.grown H3.out.1 (fun ad e h => by have := H2.out.1.base_ ad e; injection h with h; omega)).lower (by omega), below_grown (below_step HB1.out H2.out.2) H3.out.1 (by omega)⟩
end Go.Proofs.YtifejiclenpfoaaDoor

/- Layer 20 (client): Submit; the document's Submit. -/
namespace Go.Proofs.YtifejiclenpfoaaDoor
open Go.RowKit
set_option linter.unusedVariables false
set_option linter.unusedSimpArgs false
set_option maxRecDepth 4000
theorem run_build_cli_nil (w : World) : (Instr.build 27 #[]).run Tryd.prog w = .ok (.agg (cliV ckZ none 0 0)) w := run_build w _ _ _ (by kernel_rfl)
theorem run_build_cli (w : World) (num seq : Int) (aw : Bool) (t : List Upd) (A : Option Addr) (n c : Nat) : (Instr.build 27 #[(0, .int .i64 num), (1, .int .u32 seq), (2, .agg (tabV A n c)), (3, .bool aw)]).run Tryd.prog w = .ok (.agg (cliV ⟨num, seq, aw, t⟩ A n c)) w := run_build w _ _ _ (by kernel_rfl)
theorem load_cli {w : World} {g : Nat} {k : Ck} {A : Option Addr} {n c : Nat} (h : w.heap[g]? = some (.cells (cliV k A n c) 27 (0, 0))) : (Instr.loadAt 27 (.pointer (some ⟨g, 0, none⟩))).run Tryd.prog w = .ok (.agg (cliV k A n c)) w := ((cli_at h).all _ (Below.refl _ _)).all
theorem sub_no {k : Ck} {b : List Upd} {e : Int} (h : subN k b = e) (h0 : e ≠ 0) : subN k b = e ∧ subK k b = ckZ := ⟨h, by unfold subK; rw [if_neg (by rw [h]; exact h0)]⟩
theorem u32_wf {x : Int} (h : (Lit.int .u32 x).wf = true) : 0 ≤ x ∧ x ≤ 4294967295 := by
  simp only [Lit.wf, Bool.and_eq_true, decide_eq_true_eq] at h
  exact h
set_option maxHeartbeats 4000000 in
set_option maxRecDepth 100000 in
theorem csubmit_any (k : Ck) (A : Option Addr) (n c : Nat) (A2 : Option Addr) (m c2 : Nat) (b : List Upd) (w : World) (hL : Laid w) (hr : RS updK w A n c k.t) (ok : k.ok) (hn : n ≤ 100000) (hu : RS updK w A2 m c2 b) (oku : Oku b) (hm : m ≤ 100000) :
    Calls Tryd.prog 13 #[.agg (cliV k A n c), .agg (tabV A2 m c2)] w fun e w' => ∃ A' n' c', e = .returned (.tuple #[.agg (cliV (subK k b) A' n' c'), .int .i64 (subN k b)]) ∧ OS updK w' w.heap.size A' n' c' (subK k b).t ∧ Below w.heap.size w w' := by
  have hblk1 := blk_new w (.cells (cliV k A n c) 27)
  have hbel1 : Below w.heap.size w (w.alloc (.cells (cliV k A n c) 27)) := below_alloc (Below.refl _ _) _
  have hblk2 := blk_new (w.alloc (.cells (cliV k A n c) 27)) (.cells (tabV A2 m c2) 25)
  have hbel2 : Below w.heap.size w ((w.alloc (.cells (cliV k A n c) 27)).alloc (.cells (tabV A2 m c2) 25)) := below_alloc (hbel1) _
  rw [show (w.alloc (.cells (cliV k A n c) 27)).heap.size = w.heap.size + 1 by simp] at hblk2
  replace hblk1 := blk_below hblk1 (below_alloc (Below.refl _ _) (.cells (tabV A2 m c2) 25))
  have HP1 := Lib.hid (cli_at hblk1)
  have HBK1 := Lib.hid hblk1
  have HP2 := Lib.hid (bat_at hblk2)
  have HBK2 := Lib.hid hblk2
  have HBE := Lib.hid hbel2
  have HL := Lib.hid (hL.below HBE.out)
  obtain ⟨cs1, hcs1⟩ : ∃ cs, cliV k A n c = cs := ⟨_, rfl⟩
  obtain ⟨cs2, hcs2⟩ : ∃ cs, tabV A2 m c2 = cs := ⟨_, rfl⟩
  simp only [hcs1, hcs2] at HBE HL HP1 HP2 HBK1 HBK2 ⊢
  have HC1 := Lib.hid hcs1
  have HC2 := Lib.hid hcs2
  clear hL hcs1 hblk1 hbel1 hcs2 hblk2 hbel2
  have hs0 : ((w.alloc (.cells cs1 27)).alloc (.cells cs2 25)).heap.size = w.heap.size + 2 := by simp
  obtain ⟨W1, hW1⟩ : ∃ W1, ((w.alloc (.cells cs1 27)).alloc (.cells cs2 25)).alloc (.cells #[.int .i64 0, .int .u32 0, .slice none 0 0, .bool false] 27) = W1 := ⟨_, rfl⟩
  have HBR : Hid (Below ((w.alloc (.cells cs1 27)).alloc (.cells cs2 25)).heap.size ((w.alloc (.cells cs1 27)).alloc (.cells cs2 25)) W1) := Lib.hid (hW1 ▸ below_alloc (Below.refl _ _) _)
  have HB1 : Hid (Below w.heap.size w W1) := Lib.hid (below_step HBE.out HBR.out)
  have HZ1 : Hid (W1.heap[w.heap.size + 2]? = some (.cells (cliV ckZ none 0 0) 27 (0, 0))) := Lib.hid (by rw [← hW1, ← hs0]; exact blk_new _ _)
  have HR := Lib.hid (hr.below HB1.out)
  have HU := Lib.hid (hu.below HB1.out)
  have OK := Lib.hid ok
  have OKU := Lib.hid oku
  have hsq := u32_wf ok.seq
  clear hr hu ok oku hs0
  go_enter Tryd.func13, Tryd.ntmps13
  go_wp2_with (first | ((with_reducible show wpList _ _ _ (Oper.mk _ (Op.load _ _) _ _ _ _ :: _) _ _); refine wpList_load_g ((HP1.out.all _ HBR.out).all) _ rfl rfl (by go_simp) ?_))
  clear hW1
  refine (ccheck20_any k A n c W1 (HL.out.below HBR.out) HR.out OK.out.t hn).mono ?_
  rintro e w2 ⟨rfl, hb2⟩
  have HB2 := Lib.hid (below_step HB1.out hb2)
  have HBR2 := Lib.hid (below_step HBR.out hb2)
  have HZ2 := Lib.hid (blk_below HZ1.out hb2)
  have HU2 := Lib.hid (HU.out.below hb2)
  clear hb2
  cases hc : ckB k with
  | false =>
    have HE := Lib.hid (sub_no (k := k) (b := b) (e := 300) (by unfold subN; rw [hc]; rfl) (by decide))
    rw [show ckE k = 300 by unfold ckE; rw [hc]; rfl]
    clear hc
    go_wp2_with (first | ((with_reducible show wpList _ _ _ (Oper.mk _ (Op.build _ _) _ _ _ _ :: _) _ _); refine wpList_exw rfl (exec_build 27 #[] rfl #[] rfl ((run_build_cli_nil _))) ?_) | ((with_reducible show wpList _ _ _ (Oper.mk _ (Op.store _ _ _) _ _ _ _ :: _) _ _); refine wpList_store_blk HZ2.out 27 0 (cliV ckZ none 0 0) (Nat.le_refl _) (info_cli _ _ _ _) (cli_one _ _ _ _) _ _ rfl rfl rfl rfl ?_; intro w9 hg9 hs9 hb9; rw [splice_cli] at hb9; have H9 := Lib.hid (And.intro hg9 hb9); clear hg9 hs9 hb9))
    refine bodyPost_ret (results_c2 rfl rfl (load_cli H9.out.2)) rfl ?_
    rw [HE.out.1, HE.out.2]
    exact ⟨none, 0, 0, rfl, OS.nil _ _ _, below_grown HB2.out H9.out.1 (by omega)⟩
  | true =>
    rw [show ckE k = 0 by unfold ckE; rw [hc]; rfl]
    cases ha : k.away with
    | true =>
      have HAW := Lib.hid (HP1.out.all _ HBR2.out).away
      rw [ha] at HAW
      have HE := Lib.hid (sub_no (k := k) (b := b) (e := 301) (by unfold subN; rw [hc, ha]; rfl) (by decide))
      clear hc ha
      go_wp2_with (first | ((with_reducible show wpList _ _ _ (Oper.mk _ (Op.load _ _) _ _ _ _ :: _) _ _); refine wpList_load_g (HAW.out) _ rfl rfl (by go_simp) ?_) | ((with_reducible show wpList _ _ _ (Oper.mk _ (Op.build _ _) _ _ _ _ :: _) _ _); refine wpList_exw rfl (exec_build 27 #[] rfl #[] rfl ((run_build_cli_nil _))) ?_) | ((with_reducible show wpList _ _ _ (Oper.mk _ (Op.store _ _ _) _ _ _ _ :: _) _ _); refine wpList_store_blk HZ2.out 27 0 (cliV ckZ none 0 0) (Nat.le_refl _) (info_cli _ _ _ _) (cli_one _ _ _ _) _ _ rfl rfl rfl rfl ?_; intro w9 hg9 hs9 hb9; rw [splice_cli] at hb9; have H9 := Lib.hid (And.intro hg9 hb9); clear hg9 hs9 hb9))
      refine bodyPost_ret (results_c2 rfl rfl (load_cli H9.out.2)) rfl ?_
      rw [HE.out.1, HE.out.2]
      exact ⟨none, 0, 0, rfl, OS.nil _ _ _, below_grown HB2.out H9.out.1 (by omega)⟩
    | false =>
      have HAW := Lib.hid (HP1.out.all _ HBR2.out).away
      rw [ha] at HAW
      have HN : Hid (subN k b = if batB b then (if k.seq = 4294967295 then 6 else 0) else 210) := Lib.hid (by unfold subN; rw [hc, ha]; rfl)
      clear hc ha
      go_wp2_with (first | ((with_reducible show wpList _ _ _ (Oper.mk _ (Op.load _ _) _ _ _ _ :: _) _ _); refine wpList_load_g (HAW.out) _ rfl rfl (by go_simp) ?_) | ((with_reducible show wpList _ _ _ (Oper.mk _ (Op.load _ _) _ _ _ _ :: _) _ _); refine wpList_load_g ((HP2.out.all _ HBR2.out).1) _ rfl rfl (by go_simp) ?_))
      refine (rcheckb_any A2 m c2 b w2 (HL.out.below HBR2.out) HU2.out OKU.out hm).mono ?_
      rintro e w3 ⟨rfl, hb3⟩
      have HB3 := Lib.hid (below_step HB2.out hb3)
      have HBR3 := Lib.hid (below_step HBR2.out hb3)
      have HZ3 := Lib.hid (blk_below HZ2.out hb3)
      have HU3 := Lib.hid (HU2.out.below hb3)
      clear hb3 HB2 HBR2 HZ2 HU2
      cases hb : batB b with
      | false =>
        have HE := Lib.hid (sub_no (k := k) (b := b) (e := 210) (by rw [HN.out, hb]; rfl) (by decide))
        rw [show batE b = 210 by unfold batE; rw [hb]; rfl]
        clear hb
        go_wp2_with (first | ((with_reducible show wpList _ _ _ (Oper.mk _ (Op.build _ _) _ _ _ _ :: _) _ _); refine wpList_exw rfl (exec_build 27 #[] rfl #[] rfl ((run_build_cli_nil _))) ?_) | ((with_reducible show wpList _ _ _ (Oper.mk _ (Op.store _ _ _) _ _ _ _ :: _) _ _); refine wpList_store_blk HZ3.out 27 0 (cliV ckZ none 0 0) (Nat.le_refl _) (info_cli _ _ _ _) (cli_one _ _ _ _) _ _ rfl rfl rfl rfl ?_; intro w9 hg9 hs9 hb9; rw [splice_cli] at hb9; have H9 := Lib.hid (And.intro hg9 hb9); clear hg9 hs9 hb9))
        refine bodyPost_ret (results_c2 rfl rfl (load_cli H9.out.2)) rfl ?_
        rw [HE.out.1, HE.out.2]
        exact ⟨none, 0, 0, rfl, OS.nil _ _ _, below_grown HB3.out H9.out.1 (by omega)⟩
      | true =>
        rw [show batE b = 0 by unfold batE; rw [hb]; rfl]
        by_cases hs : k.seq = 4294967295
        · have hws : IntKind.u32.wrap (k.seq + 1) = 0 := by rw [hs]; rfl
          have HE := Lib.hid (sub_no (k := k) (b := b) (e := 6) (by rw [HN.out, hb, hs]; rfl) (by decide))
          clear hb hs
          go_wp2_with (first | ((with_reducible show wpList _ _ _ (Oper.mk _ (Op.load _ _) _ _ _ _ :: _) _ _); refine wpList_load_g ((HP1.out.all _ HBR3.out).seq) _ rfl rfl (by go_simp) ?_) | ((with_reducible show wpList _ _ _ (Oper.mk _ (Op.build _ _) _ _ _ _ :: _) _ _); refine wpList_exw rfl (exec_build 27 #[] rfl #[] rfl ((run_build_cli_nil _))) ?_) | ((with_reducible show wpList _ _ _ (Oper.mk _ (Op.store _ _ _) _ _ _ _ :: _) _ _); refine wpList_store_blk HZ3.out 27 0 (cliV ckZ none 0 0) (Nat.le_refl _) (info_cli _ _ _ _) (cli_one _ _ _ _) _ _ rfl rfl rfl rfl ?_; intro w9 hg9 hs9 hb9; rw [splice_cli] at hb9; have H9 := Lib.hid (And.intro hg9 hb9); clear hg9 hs9 hb9))
          refine bodyPost_ret (results_c2 rfl rfl (load_cli H9.out.2)) rfl ?_
          rw [HE.out.1, HE.out.2]
          exact ⟨none, 0, 0, rfl, OS.nil _ _ _, below_grown HB3.out H9.out.1 (by omega)⟩
        · have hws : IntKind.u32.wrap (k.seq + 1) = k.seq + 1 := by
            show (k.seq + 1) % 4294967296 = _
            omega
          have hwz : (k.seq + 1 == 0) = false := by simp; omega
          have HE0 : Hid (subN k b = 0) := Lib.hid (by rw [HN.out, hb, if_pos rfl, if_neg hs])
          have HE : Hid (subN k b = 0 ∧ subK k b = ⟨k.num, k.seq + 1, true, b⟩) := Lib.hid ⟨HE0.out, by unfold subK; rw [if_pos HE0.out]⟩
          clear hb hs
          go_upto_region 11 with (first | ((with_reducible show wpList _ _ _ (Oper.mk _ (Op.load _ _) _ _ _ _ :: _) _ _); refine wpList_load_g ((HP1.out.all _ HBR3.out).seq) _ rfl rfl (by go_simp) ?_))
          refine wp_region_mix ((fun w0 => Below w3.heap.size w3 w0)) [(0, 4), (1, 0), (2, 4), (3, 0), (4, 0), (5, 0), (6, 2), (7, 0), (8, 3), (9, 3)] (by kernel_rfl) (by kernel_rfl) ((below_drew1 _)) ?_
          simp only [List.map_cons, List.map_nil]
          iterate 1 (refine wpO_step4 rfl rfl (fun K hK => ?_); go_simp; refine hK _ _ ?_; clear hK K)
          refine wpO_loadW (t := 3) (ad := ⟨w.heap.size, 0, none⟩) rfl rfl ?hw rfl rfl ((fun w0 hS => (HP1.out.all w0 (below_step HBR3.out hS)).num)) ?_
          case hw => go_simp
          iterate 1 (refine wpO_step4 rfl rfl (fun K hK => ?_); go_simp; refine hK _ _ ?_; clear hK K)
          refine wpO_loadW (t := 22) (ad := ⟨w.heap.size, 1, none⟩) rfl rfl ?hw rfl rfl ((fun w0 hS => (HP1.out.all w0 (below_step HBR3.out hS)).seq)) ?_
          case hw => go_simp
          iterate 1 (refine wpO_step0 rfl rfl (fun K hK => ?_); go_simp; refine hK _ _ ?_; clear hK K)
          refine wpO_loadW (t := 25) (ad := ⟨(w.heap.size+1), 0, none⟩) rfl rfl ?hw rfl rfl ((fun w0 hS => (HP2.out.all w0 (below_step HBR3.out hS)).1)) ?_
          case hw => go_simp
          refine wpO_step2 rfl rfl (below_drew1 _) (fun K hK => ?_)
          go_simp
          refine (ccopied_any A2 m c2 b _ (HU3.out.below (below_drew1 _)) (by omega)).mono ?_
          rintro e w4 ⟨A4, c4, rfl, hO4, hb4⟩
          have HV4 := Lib.hid (below_step (below_drew1 w3) hb4)
          have HO4 := Lib.hid (hO4.lower HB3.out.size)
          have HZ4 := Lib.hid (blk_below HZ3.out HV4.out)
          have HA4 := Lib.hid hO4.base_
          clear hO4 hb4
          refine hK _ _ ⟨HV4.out, ?_⟩
          clear hK K
          refine wpO_step0 rfl rfl (fun K hK => ?_)
          rw [if_pos (show Region.wanted _ _ = true from rfl)]
          refine ⟨_, fun w0 => exec_build4 rfl rfl rfl rfl rfl (run_build_cli w0 k.num (k.seq + 1) true b A4 m c4), hK _ _ ?_⟩
          clear hK K
          refine wpO_step3 rfl rfl (fun K hK => ?_)
          rw [if_pos (show Region.wanted _ _ = true from rfl)]
          refine oper_store_blk HZ4.out 27 0 (cliV ⟨k.num, k.seq + 1, true, b⟩ A4 m c4) (Nat.le_refl _) (info_cli _ _ _ _) (cli_one _ _ _ _) _ _ rfl rfl rfl ?_
          intro w5 hg5 hs5 hb5
          rw [splice_cli] at hb5
          have H5 := Lib.hid (And.intro hg5 hb5)
          clear hg5 hs5 hb5
          refine hK _ _ ?_
          clear hK K
          refine wpO_step3 rfl rfl (fun K hK => ?_); go_simp; refine hK _ _ ?_; clear hK K
          refine wpO_nil ?_
          go_wp2_with fail
          refine bodyPost_ret (results_c2 rfl rfl (load_cli H5.out.2)) rfl ?_
          rw [HE.out.1, HE.out.2]
          exact ⟨A4, m, c4, rfl, (HO4.out.grown H5.out.1 (fun ad e h => by have h1 : w3.heap.size ≤ ad.block := HA4.out ad e; have := blk_lt HZ3.out; injection h with h; omega)).lower (Nat.le_refl _), below_grown (below_step HB3.out HV4.out) H5.out.1 (by omega)⟩
end Go.Proofs.YtifejiclenpfoaaDoor

/- Layer 20 (client): Ask; the document's Ask. -/
namespace Go.Proofs.YtifejiclenpfoaaDoor
open Go.RowKit
set_option linter.unusedVariables false
set_option linter.unusedSimpArgs false
set_option maxRecDepth 4000
def askM (k : Ck) (tg : Int) : Gm := if askN k tg = 0 then ⟨6, 2 + k.num, tg, k.seq, k.t⟩ else gmZ
theorem load_gm {w : World} {g : Nat} {m : Gm} {A : Option Addr} {n c : Nat} (h : w.heap[g]? = some (.cells (gmV m A n c) 45 (0, 0))) : (Instr.loadAt 45 (.pointer (some ⟨g, 0, none⟩))).run Tryd.prog w = .ok (.agg (gmV m A n c)) w := (gm_ld h).all
theorem ask_no {k : Ck} {tg e : Int} (h : askN k tg = e) (h0 : e ≠ 0) : askN k tg = e ∧ askM k tg = gmZ := ⟨h, by unfold askM; rw [if_neg (by rw [h]; exact h0)]⟩
set_option maxHeartbeats 4000000 in
set_option maxRecDepth 100000 in
theorem cask_any (k : Ck) (A : Option Addr) (n c : Nat) (tg : Int) (w : World) (hL : Laid w) (hr : RS updK w A n c k.t) (ok : k.ok) (hn : n ≤ 100000) :
    Calls Tryd.prog 18 #[.agg (cliV k A n c), .int .i64 tg] w fun e w' => ∃ A' n' c', e = .returned (.tuple #[.agg (gmV (askM k tg) A' n' c'), .int .i64 (askN k tg)]) ∧ OS updK w' w.heap.size A' n' c' (askM k tg).t ∧ Below w.heap.size w w' := by
  have hblk1 := blk_new w (.cells (cliV k A n c) 27)
  have hbel1 : Below w.heap.size w (w.alloc (.cells (cliV k A n c) 27)) := below_alloc (Below.refl _ _) _
  have HP1 := Lib.hid (cli_at hblk1)
  have HBK1 := Lib.hid hblk1
  have HBE := Lib.hid hbel1
  have HL := Lib.hid (hL.below HBE.out)
  obtain ⟨cs1, hcs1⟩ : ∃ cs, cliV k A n c = cs := ⟨_, rfl⟩
  simp only [hcs1] at HBE HL HP1 HBK1 ⊢
  have HC1 := Lib.hid hcs1
  clear hL hcs1 hblk1 hbel1
  have hs0 : (w.alloc (.cells cs1 27)).heap.size = w.heap.size + 1 := by simp
  obtain ⟨W1, hW1⟩ : ∃ W1, (w.alloc (.cells cs1 27)).alloc (.cells #[.int .i64 0, .int .i64 0, .int .i64 0, .int .u64 0, .int .u64 0, .int .u64 0, .slice none 0 0, .int .u64 0, .bool false, .int .u64 0, .int .u64 0, .int .u64 0, .int .u64 0, .slice none 0 0, .int .u32 0, .int .u64 0, .int .u32 0, .int .u64 0, .int .u32 0, .int .u64 0, .int .u32 0, .slice none 0 0, .int .i64 0] 45) = W1 := ⟨_, rfl⟩
  have HBR : Hid (Below (w.alloc (.cells cs1 27)).heap.size (w.alloc (.cells cs1 27)) W1) := Lib.hid (hW1 ▸ below_alloc (Below.refl _ _) _)
  have HB1 : Hid (Below w.heap.size w W1) := Lib.hid (below_step HBE.out HBR.out)
  have HZ1 : Hid (W1.heap[w.heap.size + 1]? = some (.cells (gmV gmZ none 0 0) 45 (0, 0))) := Lib.hid (by rw [← hW1, ← hs0]; exact blk_new _ _)
  have HR := Lib.hid (hr.below HB1.out)
  have OK := Lib.hid ok
  have hnw := wf_i64 ok.num
  clear hr ok hs0
  go_enter Tryd.func18, Tryd.ntmps18
  go_wp2_with (first | ((with_reducible show wpList _ _ _ (Oper.mk _ (Op.load _ _) _ _ _ _ :: _) _ _); refine wpList_load_g ((HP1.out.all _ HBR.out).all) _ rfl rfl (by go_simp) ?_))
  clear hW1
  refine (ccheck20_any k A n c W1 (HL.out.below HBR.out) HR.out OK.out.t hn).mono ?_
  rintro e w2 ⟨rfl, hb2⟩
  have HB2 := Lib.hid (below_step HB1.out hb2)
  have HBR2 := Lib.hid (below_step HBR.out hb2)
  have HZ2 := Lib.hid (blk_below HZ1.out hb2)
  have HR2 := Lib.hid (HR.out.below hb2)
  clear hb2
  cases hc : ckB k with
  | false =>
    have HE := Lib.hid (ask_no (k := k) (tg := tg) (e := 300) (by unfold askN; rw [hc]; rfl) (by decide))
    rw [show ckE k = 300 by unfold ckE; rw [hc]; rfl]
    clear hc
    go_wp2_with (first | ((with_reducible show wpList _ _ _ (Oper.mk _ (Op.build _ _) _ _ _ _ :: _) _ _); refine wpList_exw rfl (exec_build 45 #[] rfl #[] rfl ((run_build_gm_nil _))) ?_) | ((with_reducible show wpList _ _ _ (Oper.mk _ (Op.store _ _ _) _ _ _ _ :: _) _ _); refine wpList_store_blk HZ2.out 45 0 (gmV gmZ none 0 0) (Nat.le_refl _) (info_gm _ _ _ _) (gm_one _ _ _ _) _ _ rfl rfl rfl rfl ?_; intro w9 hg9 hs9 hb9; rw [splice_gm] at hb9; have H9 := Lib.hid (And.intro hg9 hb9); clear hg9 hs9 hb9))
    refine bodyPost_ret (results_c2 rfl rfl (load_gm H9.out.2)) rfl ?_
    rw [HE.out.1, HE.out.2]
    exact ⟨none, 0, 0, rfl, OS.nil _ _ _, below_grown HB2.out H9.out.1 (by omega)⟩
  | true =>
    rw [show ckE k = 0 by unfold ckE; rw [hc]; rfl]
    have hk2 : 1 ≤ k.num ∧ k.num ≤ 2 := by
      unfold ckB at hc
      simp only [Bool.and_eq_true, decide_eq_true_eq] at hc
      exact hc.1
    by_cases ht : 1 ≤ tg ∧ tg ≤ 2
    · have ht1 : decide (tg < 1) = false := decide_eq_false (by omega)
      have ht2 : decide (2 < tg) = false := decide_eq_false (by omega)
      cases ha : k.away with
      | false =>
        have HAW := Lib.hid (HP1.out.all _ HBR2.out).away
        rw [ha] at HAW
        have HE := Lib.hid (ask_no (k := k) (tg := tg) (e := 4) (by unfold askN; rw [hc, if_pos rfl, if_pos ht, ha]; rfl) (by decide))
        clear hc ha ht
        go_wp2_with (first | ((with_reducible show wpList _ _ _ (Oper.mk _ (Op.load _ _) _ _ _ _ :: _) _ _); refine wpList_load_g (HAW.out) _ rfl rfl (by go_simp) ?_) | ((with_reducible show wpList _ _ _ (Oper.mk _ (Op.build _ _) _ _ _ _ :: _) _ _); refine wpList_exw rfl (exec_build 45 #[] rfl #[] rfl ((run_build_gm_nil _))) ?_) | ((with_reducible show wpList _ _ _ (Oper.mk _ (Op.store _ _ _) _ _ _ _ :: _) _ _); refine wpList_store_blk HZ2.out 45 0 (gmV gmZ none 0 0) (Nat.le_refl _) (info_gm _ _ _ _) (gm_one _ _ _ _) _ _ rfl rfl rfl rfl ?_; intro w9 hg9 hs9 hb9; rw [splice_gm] at hb9; have H9 := Lib.hid (And.intro hg9 hb9); clear hg9 hs9 hb9))
        refine bodyPost_ret (results_c2 rfl rfl (load_gm H9.out.2)) rfl ?_
        rw [HE.out.1, HE.out.2]
        exact ⟨none, 0, 0, rfl, OS.nil _ _ _, below_grown HB2.out H9.out.1 (by omega)⟩
      | true =>
        have HAW := Lib.hid (HP1.out.all _ HBR2.out).away
        rw [ha] at HAW
        have HE0 : Hid (askN k tg = 0) := Lib.hid (by unfold askN; rw [hc, if_pos rfl, if_pos ht, ha]; rfl)
        have HE : Hid (askN k tg = 0 ∧ askM k tg = ⟨6, 2 + k.num, tg, k.seq, k.t⟩) := Lib.hid ⟨HE0.out, by unfold askM; rw [if_pos HE0.out]⟩
        have hwn : IntKind.i64.wrap (2 + k.num) = 2 + k.num := IntWalk.i64_in _ (by omega)
        clear hc ha ht
        go_upto_region 9 with (first | ((with_reducible show wpList _ _ _ (Oper.mk _ (Op.load _ _) _ _ _ _ :: _) _ _); refine wpList_load_g (HAW.out) _ rfl rfl (by go_simp) ?_))
        refine wp_region_mix ((fun w0 => Below w2.heap.size w2 w0)) [(0, 4), (1, 0), (2, 0), (3, 4), (4, 4), (5, 0), (6, 4), (7, 0), (8, 2), (9, 0), (10, 3), (11, 3)] (by kernel_rfl) (by kernel_rfl) ((below_drew1 _)) ?_
        simp only [List.map_cons, List.map_nil]
        iterate 1 (refine wpO_step4 rfl rfl (fun K hK => ?_); go_simp; refine hK _ _ ?_; clear hK K)
        refine wpO_loadW (t := 3) (ad := ⟨w.heap.size, 0, none⟩) rfl rfl ?hw rfl rfl ((fun w0 hS => (HP1.out.all w0 (below_step HBR2.out hS)).num)) ?_
        case hw => go_simp
        iterate 1 (refine wpO_step0 rfl rfl (fun K hK => ?_); go_simp; refine hK _ _ ?_; clear hK K)
        iterate 2 (refine wpO_step4 rfl rfl (fun K hK => ?_); go_simp; refine hK _ _ ?_; clear hK K)
        refine wpO_loadW (t := 22) (ad := ⟨w.heap.size, 1, none⟩) rfl rfl ?hw rfl rfl ((fun w0 hS => (HP1.out.all w0 (below_step HBR2.out hS)).seq)) ?_
        case hw => go_simp
        iterate 1 (refine wpO_step4 rfl rfl (fun K hK => ?_); go_simp; refine hK _ _ ?_; clear hK K)
        refine wpO_loadW (t := 25) (ad := ⟨w.heap.size, 2, none⟩) rfl rfl ?hw rfl rfl ((fun w0 hS => (HP1.out.all w0 (below_step HBR2.out hS)).bat)) ?_
        case hw => go_simp
        refine wpO_step2 rfl rfl (below_drew1 _) (fun K hK => ?_)
        go_simp
        refine (ccopied_any A n c k.t _ (HR2.out.below (below_drew1 _)) (by omega)).mono ?_
        rintro e w4 ⟨A4, c4, rfl, hO4, hb4⟩
        have HV4 := Lib.hid (below_step (below_drew1 w2) hb4)
        have HO4 := Lib.hid (hO4.lower HB2.out.size)
        have HZ4 := Lib.hid (blk_below HZ2.out HV4.out)
        have HA4 := Lib.hid hO4.base_
        clear hO4 hb4
        refine hK _ _ ⟨HV4.out, ?_⟩
        clear hK K
        refine wpO_step0 rfl rfl (fun K hK => ?_)
        rw [if_pos (show Region.wanted _ _ = true from rfl)]
        refine ⟨_, fun w0 => exec_build5 rfl rfl rfl rfl rfl rfl (run_build_gm w0 ⟨6, 2 + k.num, tg, k.seq, k.t⟩ A4 n c4), hK _ _ ?_⟩
        clear hK K
        refine wpO_step3 rfl rfl (fun K hK => ?_)
        rw [if_pos (show Region.wanted _ _ = true from rfl)]
        refine oper_store_blk HZ4.out 45 0 (gmV ⟨6, 2 + k.num, tg, k.seq, k.t⟩ A4 n c4) (Nat.le_refl _) (info_gm _ _ _ _) (gm_one _ _ _ _) _ _ rfl rfl rfl ?_
        intro w5 hg5 hs5 hb5
        rw [splice_gm] at hb5
        have H5 := Lib.hid (And.intro hg5 hb5)
        clear hg5 hs5 hb5
        refine hK _ _ ?_
        clear hK K
        refine wpO_step3 rfl rfl (fun K hK => ?_); go_simp; refine hK _ _ ?_; clear hK K
        refine wpO_nil ?_
        go_wp2_with fail
        refine bodyPost_ret (results_c2 rfl rfl (load_gm H5.out.2)) rfl ?_
        rw [HE.out.1, HE.out.2]
        exact ⟨A4, n, c4, rfl, (HO4.out.grown H5.out.1 (fun ad e h => by have h1 : w2.heap.size ≤ ad.block := HA4.out ad e; have := blk_lt HZ2.out; injection h with h; omega)).lower (Nat.le_refl _), below_grown (below_step HB2.out HV4.out) H5.out.1 (by omega)⟩
    · have HE := Lib.hid (ask_no (k := k) (tg := tg) (e := 2) (by unfold askN; rw [hc, if_pos rfl, if_neg ht]) (by decide))
      by_cases h1 : tg < 1
      · have ht1 : decide (tg < 1) = true := decide_eq_true h1
        clear hc ht h1
        go_wp2_with (first | ((with_reducible show wpList _ _ _ (Oper.mk _ (Op.build _ _) _ _ _ _ :: _) _ _); refine wpList_exw rfl (exec_build 45 #[] rfl #[] rfl ((run_build_gm_nil _))) ?_) | ((with_reducible show wpList _ _ _ (Oper.mk _ (Op.store _ _ _) _ _ _ _ :: _) _ _); refine wpList_store_blk HZ2.out 45 0 (gmV gmZ none 0 0) (Nat.le_refl _) (info_gm _ _ _ _) (gm_one _ _ _ _) _ _ rfl rfl rfl rfl ?_; intro w9 hg9 hs9 hb9; rw [splice_gm] at hb9; have H9 := Lib.hid (And.intro hg9 hb9); clear hg9 hs9 hb9))
        refine bodyPost_ret (results_c2 rfl rfl (load_gm H9.out.2)) rfl ?_
        rw [HE.out.1, HE.out.2]
        exact ⟨none, 0, 0, rfl, OS.nil _ _ _, below_grown HB2.out H9.out.1 (by omega)⟩
      · have ht1 : decide (tg < 1) = false := decide_eq_false h1
        have ht2 : decide (2 < tg) = true := decide_eq_true (by omega)
        clear hc ht h1
        go_wp2_with (first | ((with_reducible show wpList _ _ _ (Oper.mk _ (Op.build _ _) _ _ _ _ :: _) _ _); refine wpList_exw rfl (exec_build 45 #[] rfl #[] rfl ((run_build_gm_nil _))) ?_) | ((with_reducible show wpList _ _ _ (Oper.mk _ (Op.store _ _ _) _ _ _ _ :: _) _ _); refine wpList_store_blk HZ2.out 45 0 (gmV gmZ none 0 0) (Nat.le_refl _) (info_gm _ _ _ _) (gm_one _ _ _ _) _ _ rfl rfl rfl rfl ?_; intro w9 hg9 hs9 hb9; rw [splice_gm] at hb9; have H9 := Lib.hid (And.intro hg9 hb9); clear hg9 hs9 hb9))
        refine bodyPost_ret (results_c2 rfl rfl (load_gm H9.out.2)) rfl ?_
        rw [HE.out.1, HE.out.2]
        exact ⟨none, 0, 0, rfl, OS.nil _ _ _, below_grown HB2.out H9.out.1 (by omega)⟩
end Go.Proofs.YtifejiclenpfoaaDoor
