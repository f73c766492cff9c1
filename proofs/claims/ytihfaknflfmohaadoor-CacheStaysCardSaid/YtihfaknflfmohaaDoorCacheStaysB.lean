/- Opening an argument: a slice whose elements take several cells; small numbers and truth values by their cells. -/
import Derived.ChangeKeysEq
import Derived.Deep.MidRow
import Derived.DeepKeys
import Derived.Great.BuildSlice
import Derived.Lib.Overlaps
import Derived.Test.YtihfaknflfmohaaDoorCacheStaysA
namespace Go.Proofs.YtihfaknflfmohaaDoor
open Go.ChangeShapes Go.WideShapes Go.ChangeAt Go.RowKit
set_option linter.unusedVariables false
variable {H : Type} {enc : TypeId × Value → H} {P : Program} {W : World} {base : Nat} {spare : Nat → Bool} {held : Bool}

theorem cell_spot {w : World} {a : Addr} {v : Value} (h : w.cell? a = some v) : a.spot = none := by
  unfold World.cell? at h
  split at h
  · split at h
    · simp at h
    · rename_i hs
      cases hsp : a.spot with
      | none => rfl
      | some x => simp [hsp] at hs
  · simp at h
theorem addr_form {a : Addr} (h : a.spot = none) : a = ⟨a.block, a.off, none⟩ := by
  cases a
  simp at h
  subst h
  rfl
theorem add_mid (b o j : Nat) : (⟨b, o, none⟩ : Addr).add j = ⟨b, o + j, none⟩ := by unfold Addr.add; split <;> simp_all
/-- A row's slice of whatever elements is no longer than its weight allows. -/
theorem sized_rows {t e : TypeId} {a : Option Addr} {len cap : Nat} {d : DataW H} {ps : List MemPlace} {ts : List TypeId} {ds : List (DataW H)} {j : Nat}
    (hsz : (DataW.weightsEach P ts ds).all (· ≤ reachBytes) = true) (ht : ts[j]? = some t) (hd : ds[j]? = some d) (hu : P.underlying t = some (.slice e)) {B : Nat} (hB : P.bytesOf e = B)
    (h : DataW.Trod enc P W base spare held t (.slice a len cap) d ps) : len * B ≤ 140737488351232 := by
  obtain ⟨fuel, hf⟩ := h
  rcases DataW.trod_slice hu hf with ⟨hcs, -⟩ | ⟨a', l, c, elems, rest, n, -, hcs, hx, -, -, -, hel, -, -, -⟩
  · simp [Value.cells] at hcs
    obtain ⟨rfl, rfl, rfl⟩ := hcs
    simp
  · simp [Value.cells] at hcs
    obtain ⟨rfl, rfl, rfl⟩ := hcs
    obtain ⟨hx, -⟩ := Prod.mk.inj hx
    subst hx
    have z := sized_slice hsz ht hd hu
    rw [hB, List.length_map, List.length_map, hel] at z
    exact Nat.le_trans (Nat.mul_le_mul_right _ (Nat.le_add_right _ _)) z
/-- A slice of elements of m cells each: the rows of cells, each of which reads as an element. -/
theorem open_rows {t e : TypeId} {m : Nat} (hu : P.underlying t = some (.slice e)) (hm : P.cellsOf e = m) {A : Option Addr} {len cap fuel : Nat} {x : DataW H × List MemPlace}
    (h : DataW.trod enc P W base spare held fuel t [.slice A len cap] = some x) :
    len ≤ cap ∧ (len = 0 ∨ ∃ (ad : Addr) (rows : Nat → List Value) (n : Nat), A = some ad ∧ ∀ i, i < len → (rows i).length = m ∧ (∀ j, j < m → W.cell? ((ad.add (i * m)).add j) = (rows i)[j]?) ∧ ∃ y, DataW.trod enc P W base spare held n e (rows i) = some y) := by
  rcases DataW.trod_slice hu h with ⟨hcs, -⟩ | ⟨a, l, c, elems, rest, n, -, hcs, -, -, hlc, -, hel, hc, -, -⟩
  · simp at hcs
    obtain ⟨rfl, rfl, rfl⟩ := hcs
    exact ⟨Nat.le_refl _, .inl rfl⟩
  · simp at hcs
    obtain ⟨rfl, rfl, rfl⟩ := hcs
    refine ⟨hlc, ?_⟩
    rcases Nat.eq_zero_or_pos len with h0 | h0
    · exact .inl h0
    · right
      rw [hm] at hc
      refine ⟨a, fun i => (W.cells? base (a.add (i * m)) m).getD [], n, rfl, fun i hi => ?_⟩
      have h1 := hc i hi
      cases hcs : W.cells? base (a.add (i * m)) m with
      | none =>
        rw [hcs] at h1
        simp at h1
        omega
      | some cs =>
        obtain ⟨-, hl, hcell⟩ := World.cells?_some hcs
        rw [hcs] at h1
        simp only [Option.bind_some] at h1
        simp only [hcs, Option.getD_some]
        refine ⟨hl, hcell, elems[i]'(by omega), ?_⟩
        rw [h1, List.getElem?_eq_getElem (by omega)]
end Go.Proofs.YtihfaknflfmohaaDoor

/- Values of several cells: out of a block, into a block, as results. -/
namespace Go.Proofs.YtihfaknflfmohaaDoor
open Go.RowKit
set_option linter.unusedVariables false
set_option linter.unusedSimpArgs false
set_option maxRecDepth 4000

/-- Cells written over others from a place on. -/
def splice (cs : Array Value) (o : Nat) (vs : List Value) : Array Value := (cs.toList.take o ++ vs ++ cs.toList.drop (o + vs.length)).toArray
theorem splice_all (cs : Array Value) (vs : List Value) (h : vs.length = cs.size) : splice cs 0 vs = vs.toArray := by
  unfold splice
  rw [List.drop_of_length_le (by simp [h])]
  simp
theorem splice_get (cs : Array Value) (o : Nat) (vs : List Value) (ho : o + vs.length ≤ cs.size) (j : Nat) : (splice cs o vs)[j]? = if o ≤ j ∧ j < o + vs.length then vs[j - o]? else cs[j]? := by
  have hl : (cs.toList.take o).length = o := by rw [List.length_take, Array.length_toList]; omega
  have e : (splice cs o vs)[j]? = (cs.toList.take o ++ (vs ++ cs.toList.drop (o + vs.length)))[j]? := by
    unfold splice
    rw [List.append_assoc]
    exact List.getElem?_toArray ..
  have e2 : cs[j]? = cs.toList[j]? := (Array.getElem?_toList ..).symm
  rw [e, e2]
  by_cases h4 : j < o
  · rw [if_neg (by omega), List.getElem?_append_left (by omega), List.getElem?_take, if_pos h4]
  · rw [List.getElem?_append_right (by omega), hl]
    by_cases h5 : j < o + vs.length
    · rw [if_pos (by omega), List.getElem?_append_left (by omega)]
    · rw [if_neg (by omega), List.getElem?_append_right (by omega), List.getElem?_drop]
      congr 1
      omega
section
variable {P : Program} {w : World} {g : Nat} {t : TypeId} {cs : Array Value}
theorem blk_there (h : w.heap[g]? = some (.cells cs t (0, 0))) (o n : Nat) (hn : o + n ≤ cs.size) : w.there g o n := fun j hj => by
  rw [blk_cell h, blk_frozen h, Array.getElem?_eq_getElem (by omega)]
  exact ⟨rfl, rfl⟩
theorem set_blk (h : w.heap[g]? = some (.cells cs t (0, 0))) (o : Nat) (vs : List Value) (ho : o + vs.length ≤ cs.size) : (w.setCells g o vs).heap[g]? = some (.cells (splice cs o vs) t (0, 0)) := by
  obtain ⟨cur', h1, h2, h3⟩ := setCells_row vs o w cs h ho
  rw [h1, show cur' = splice cs o vs from Array.ext_getElem? (fun j => (h3 j).trans (splice_get cs o vs ho j).symm)]
theorem run_store_blk (h : w.heap[g]? = some (.cells cs t (0, 0))) (ty : TypeId) (o : Nat) (cells : Array Value) (hfit : o + cells.size ≤ cs.size) (hi : (P.info? ty).map (·.size) = some cells.size) (h1 : cells.all (·.oneCell') = true) :
    ∃ w', (Instr.storeAt ty (.pointer (some ⟨g, o, none⟩)) (.agg cells)).run P w = .ok () w' ∧ w.grownBy w' (some g) ∧ w'.heap.size = w.heap.size ∧ w'.heap[g]? = some (.cells (splice cs o cells.toList) t (0, 0)) :=
  ⟨_, run_storeAt_mid w g o ty cells (blk_there h o _ hfit) hi h1, setCells_grown g o _ w, (setCells_same g _ o w).2.2.2, set_blk h o _ (by simpa using hfit)⟩
theorem wpList_store_blk {ops : Array Oper} {rest : List Oper} {op : Oper} {a : Act} {Q : Exit → Act → World → Prop} (hb : w.heap[g]? = some (.cells cs t (0, 0))) (ty : TypeId) (o : Nat) (cells : Array Value)
    (hfit : o + cells.size ≤ cs.size) (hi : (P.info? ty).map (·.size) = some cells.size) (h1 : cells.all (·.oneCell') = true)
    (x y : Operand) (ho : op.op = .store ty x y) (hx : a.eval x = .pointer (some ⟨g, o, none⟩)) (hy : a.eval y = .agg cells) (hw : Region.wanted op (yielded ops a.tmps) = true)
    (h : ∀ w', w.grownBy w' (some g) → w'.heap.size = w.heap.size → w'.heap[g]? = some (.cells (splice cs o cells.toList) t (0, 0)) → wpList P ops Q rest (a.put op.dst undef) w') : wpList P ops Q (op :: rest) a w := by
  obtain ⟨w', hr, h2, h3, h4⟩ := run_store_blk (P := P) hb ty o cells hfit hi h1
  refine wpList_step (fun K hK => ?_)
  rw [if_pos hw]
  unfold Oper.wp execOp
  simp only [ho, hx, hy, Sem.run_bind, hr, Result.andThen_ok, Sem.run_pure]
  exact hK _ _ (h w' h2 h3 h4)
theorem oper_store_blk {op : Oper} {a : Act} {K : Act → World → Prop} {Q : Exit → Act → World → Prop} (hb : w.heap[g]? = some (.cells cs t (0, 0))) (ty : TypeId) (o : Nat) (cells : Array Value)
    (hfit : o + cells.size ≤ cs.size) (hi : (P.info? ty).map (·.size) = some cells.size) (h1 : cells.all (·.oneCell') = true)
    (x y : Operand) (ho : op.op = .store ty x y) (hx : a.eval x = .pointer (some ⟨g, o, none⟩)) (hy : a.eval y = .agg cells)
    (h : ∀ w', w.grownBy w' (some g) → w'.heap.size = w.heap.size → w'.heap[g]? = some (.cells (splice cs o cells.toList) t (0, 0)) → K (a.put op.dst undef) w') : op.wp P a w K Q := by
  obtain ⟨w', hr, h2, h3, h4⟩ := run_store_blk (P := P) hb ty o cells hfit hi h1
  unfold Oper.wp execOp
  simp only [ho, hx, hy, Sem.run_bind, hr, Result.andThen_ok, Sem.run_pure]
  exact h w' h2 h3 h4
theorem loadVar_of {ty : TypeId} {ad : Addr} {v : Value} (h : (Instr.loadAt ty (.pointer (some ad))).run P w = .ok v w) : (loadVar ty ad).run P w = .ok v w := by
  simpa only [Instr.loadAt, Instr.sureAddr, Sem.run_bind, Sem.run_pure, Result.andThen_ok] using h
theorem results_c1 {fn : Func} {p : Tmp} {ty : TypeId} {ad : Addr} {v : Value} {tmps : Array Value} (h : fn.results = #[.cell p ty]) (hp : tmps.getD p undef = .pointer (some ad)) (hl : (Instr.loadAt ty (.pointer (some ad))).run P w = .ok v w) :
    (results fn tmps).run P w = .ok v w := by
  have hp' : tmps[p]?.getD undef = .pointer (some ad) := by simpa using hp
  simp [results, h, hp', asAddr, loadVar_of hl]
theorem results_c2 {fn : Func} {p u : Tmp} {ty : TypeId} {ad : Addr} {v : Value} {tmps : Array Value} (h : fn.results = #[.cell p ty, .tmp u]) (hp : tmps.getD p undef = .pointer (some ad)) (hl : (Instr.loadAt ty (.pointer (some ad))).run P w = .ok v w) :
    (results fn tmps).run P w = .ok (.tuple #[v, tmps.getD u undef]) w := by
  have hp' : tmps[p]?.getD undef = .pointer (some ad) := by simpa using hp
  simp [results, h, hp', asAddr, loadVar_of hl]
theorem results_c3 {fn : Func} {p u x : Tmp} {ty : TypeId} {ad : Addr} {v : Value} {tmps : Array Value} (h : fn.results = #[.cell p ty, .tmp u, .tmp x]) (hp : tmps.getD p undef = .pointer (some ad)) (hl : (Instr.loadAt ty (.pointer (some ad))).run P w = .ok v w) :
    (results fn tmps).run P w = .ok (.tuple #[v, tmps.getD u undef, tmps.getD x undef]) w := by
  have hp' : tmps[p]?.getD undef = .pointer (some ad) := by simpa using hp
  simp [results, h, hp', asAddr, loadVar_of hl]
end
theorem oper_exec {P : Program} {o : Oper} {a : Act} {w w' : World} {K : Act → World → Prop} {Q : Exit → Act → World → Prop} {v : Value} (hrun : (execOp a.eval o).run P w = .ok (.value v) w') (h : K (a.put o.dst v) w') : o.wp P a w K Q := by
  unfold Oper.wp
  rw [hrun]
  exact h
theorem oper_append_bytes {o : Oper} {a : Act} {K : Act → World → Prop} {Q : Exit → Act → World → Prop} {W : World} (s x : Operand) (ho : o.op = .call { callee := .builtin .append, args := #[s, x], argTypes := #[90, 90] })
    {base : Nat} {A : Option Addr} {n c : Nat} {xs : List Int} {A2 : Option Addr} {m c2 : Nat} {ys : List Int} (hs : a.eval s = .slice A n c) (hx : a.eval x = .slice A2 m c2)
    (HO : OB W base A n c xs) (HR : RB W A2 m c2 ys) (hbase : base ≤ W.heap.size) (hl : n + m ≤ 140737488355328)
    (h : ∀ A' c' w', OB w' base A' (n + m) c' (xs ++ ys) → W.grownBy w' ((Value.slice A n c).ownBlock) → (A' = A ∨ ∀ ad, A' = some ad → W.heap.size ≤ ad.block) → K (a.put o.dst (.slice A' (n + m) c')) w') : o.wp Tryd.prog a W K Q := by
  obtain ⟨A', c', w', h1, h2, h3, h4⟩ := run_append_bytes W base o.type A n c xs A2 m c2 ys HO HR hbase hl
  exact oper_exec (exec_append s x _ ho hs hx h1) (h _ _ _ h2 h3 h4)
/-- Behind a write to a block of the call's own. -/
theorem below_grown {w w1 w2 : World} {g : Nat} (hb : Below w.heap.size w w1) (hg : w1.grownBy w2 (some g)) (h : w.heap.size ≤ g) : Below w.heap.size w w2 :=
  hb.grown hg hb.size (fun k hk => by injection hk with hk; omega)
end Go.Proofs.YtihfaknflfmohaaDoor

/- Layer 5 (prefix): whole arrays and structs out of a block; CheckAddr, Check. -/
namespace Go.Proofs.YtihfaknflfmohaaDoor
open Go.RowKit
set_option linter.unusedVariables false
set_option linter.unusedSimpArgs false
set_option maxRecDepth 4000

theorem adr_v {w : World} {g : Nat} {t : TypeId} {v : Int} {l : List Int} (h : w.heap[g]? = some (.cells (adrV v l) t (0, 0))) : w.cell? ⟨g, 0, none⟩ = some (.int .i64 v) := by
  rw [blk_cell h]; rfl
theorem adr_b {w : World} {g : Nat} {t : TypeId} {v : Int} {l : List Int} (h : w.heap[g]? = some (.cells (adrV v l) t (0, 0))) (i : Nat) (hi : i < l.length) : w.cell? ⟨g, 1 + i, none⟩ = some (.int .u8 (rd l (i : Int))) := by
  rw [blk_cell h, Nat.add_comm]
  unfold adrV
  rw [List.getElem?_toArray, List.getElem?_cons_succ]
  exact nums_get .u8 l i hi
theorem load_arr {w : World} {b o : Nat} {l : List Int} (hl : B16 l) (hc : ∀ i, i < 16 → w.cell? ⟨b, o + i, none⟩ = some (.int .u8 (rd l (i : Int)))) :
    (Instr.loadAt 29 (.pointer (some ⟨b, o, none⟩))).run Tryd.prog w = .ok (.agg (arrV l)) w := by
  refine run_loadAt_mid w b o 29 (nums .u8 l) (.array 16 5) (fun j v hv => ?_) Tryd.underlying29 rfl ?_
  · have hj : j < l.length := by
      have := (List.getElem?_eq_some_iff.1 hv).1
      simpa [nums] using this
    rw [nums_get .u8 l j hj] at hv
    rw [hc j (by rw [← hl.len]; exact hj), ← hv]
    rfl
  · rw [show (nums .u8 l).length = 16 by simp [nums, hl.len]]
    kernel_rfl
theorem load_adr {w : World} {b o : Nat} {v : Int} {l : List Int} (hl : B16 l) (h0 : w.cell? ⟨b, o, none⟩ = some (.int .i64 v)) (hc : ∀ i, i < 16 → w.cell? ⟨b, o + 1 + i, none⟩ = some (.int .u8 (rd l (i : Int)))) :
    (Instr.loadAt 31 (.pointer (some ⟨b, o, none⟩))).run Tryd.prog w = .ok (.agg (adrV v l)) w := by
  refine run_loadAt_mid w b o 31 (.int .i64 v :: nums .u8 l) _ (fun j u hv => ?_) Tryd.underlying31 rfl ?_
  · cases j with
    | zero =>
      simp only [List.getElem?_cons_zero, Option.some.injEq] at hv
      rw [← hv]
      exact h0
    | succ j =>
      rw [List.getElem?_cons_succ] at hv
      have hj : j < l.length := by
        have := (List.getElem?_eq_some_iff.1 hv).1
        simpa [nums] using this
      rw [nums_get .u8 l j hj] at hv
      rw [show o + (j + 1) = o + 1 + j by omega, hc j (by rw [← hl.len]; exact hj), ← hv]
      rfl
  · rw [show (Value.int IntKind.i64 v :: nums .u8 l).length = 17 by simp [nums, hl.len]]
    kernel_rfl

/-- A load of several cells at once, told; a guard that lets it. -/
theorem wpList_load_g {P : Program} {ops : Array Oper} {rest : List Oper} {o : Oper} {a : Act} {Q : Exit → Act → World → Prop} {w : World} {t : TypeId} {ad : Addr} {v : Value} (hrun : (Instr.loadAt t (.pointer (some ad))).run P w = .ok v w)
    (x : Operand) (ho : o.op = .load t x) (hx : a.eval x = .pointer (some ad)) (hw : Region.wanted o (yielded ops a.tmps) = true) (h : wpList P ops Q rest (a.put o.dst v) w) : wpList P ops Q (o :: rest) a w := by
  refine wpList_step (fun K hK => ?_)
  rw [if_pos hw]
  unfold Oper.wp execOp
  simp only [ho, hx, Sem.run_bind, hrun, Result.andThen_ok, Sem.run_pure]
  exact hK _ _ h
theorem checkAddr_any (v : Int) (l : List Int) (w : World) (hL : Laid w) (hl : B16 l) : Calls Tryd.prog 57 #[.agg (adrV v l)] w fun e w' => e = .returned (.int .i64 (errA v l)) ∧ Below w.heap.size w w' := by
  have hb := blk_new w (.cells (adrV v l) 31)
  have hv := adr_v hb
  have hld := load_arr (b := w.heap.size) (o := 1) hl (fun i hi => adr_b hb i (by rw [hl.len]; exact hi))
  have hbe : Below w.heap.size w (w.alloc (.cells (adrV v l) 31)) := below_alloc (Below.refl _ _) _
  have HL := Lib.hid (hL.below hbe)
  have HBE := Lib.hid hbe
  obtain ⟨cs, hcs⟩ : ∃ cs, adrV v l = cs := ⟨_, rfl⟩
  rw [hcs] at hv hld HL HBE ⊢
  clear hb hcs hbe hL
  go_enter Tryd.func57, Tryd.ntmps57
  go_wp2_with fail
  refine (width_any v _ HL.out).mono ?_
  rintro e w1 ⟨rfl, rfl⟩
  by_cases hw : widthA v = 0
  · have hr : rightA v l = false := by unfold rightA; simp [hw]
    have HR : Hid (errA v l = 150) := by unfold errA; rw [hr]; rfl
    rw [hw]
    clear hr hw
    go_wp2
    go_ret
    rw [HR.out]
    exact ⟨rfl, HBE.out⟩
  · have hw0 : ((widthA v : Int) == 0) = false := by simp; omega
    have hw1 : ((widthA v) == 0) = false := by simp; omega
    have hr : rightA v l = clearA l (widthA v) := by unfold rightA; simp [hw]
    have HR := Lib.hid hr
    clear hr hw
    go_wp2_with (refine wpList_load_g hld _ rfl rfl (by go_simp) ?_)
    refine (clear_any l (widthA v) _ hl).mono ?_
    rintro e w2 ⟨rfl, hb2⟩
    have HB2 := Lib.hid (below_step HBE.out hb2)
    clear hb2 hv hld
    cases hc : clearA l (widthA v) with
    | false =>
      have HE : Hid (errA v l = 150) := by unfold errA; rw [HR.out, hc]; rfl
      go_wp2
      go_ret
      rw [HE.out]
      exact ⟨rfl, HB2.out⟩
    | true =>
      have HE : Hid (errA v l = 0) := by unfold errA; rw [HR.out, hc]; rfl
      go_wp2
      go_ret
      rw [HE.out]
      exact ⟨rfl, HB2.out⟩
end Go.Proofs.YtihfaknflfmohaaDoor

/- Layer 5 (prefix): Check. -/
namespace Go.Proofs.YtihfaknflfmohaaDoor
open Go.RowKit
set_option linter.unusedVariables false
set_option linter.unusedSimpArgs false
set_option maxRecDepth 4000

theorem pfx_cells (v : Int) (l : List Int) (b : Int) (hl : B16 l) : (pfxV v l b).toList.length = 18 := by simp [pfxV, nums, hl.len]
theorem load_pfx {w : World} {g : Nat} {v : Int} {l : List Int} {b : Int} (hl : B16 l) (h : w.heap[g]? = some (.cells (pfxV v l b) 36 (0, 0))) :
    (Instr.loadAt 36 (.pointer (some ⟨g, 0, none⟩))).run Tryd.prog w = .ok (.agg (pfxV v l b)) w := by
  refine run_loadAt_mid w g 0 36 (pfxV v l b).toList _ (fun j u hv => ?_) Tryd.underlying36 rfl ?_
  · rw [Nat.zero_add, blk_cell h]
    simpa using hv
  · rw [pfx_cells v l b hl]
    kernel_rfl
/-- What lies in a block that holds a prefix, in every world that goes on from one. -/
structure PfxAt (w : World) (g : Nat) (v : Int) (l : List Int) (b : Int) : Prop where
  all : ∀ w0, Below w.heap.size w w0 →
    (Instr.loadAt 31 (.pointer (some ⟨g, 0, none⟩))).run Tryd.prog w0 = .ok (.agg (adrV v l)) w0 ∧
    (Instr.loadAt 3 (.pointer (some ⟨g, 17, none⟩))).run Tryd.prog w0 = .ok (.int .i64 b) w0 ∧
    (Instr.loadAt 3 (.pointer (some ⟨g, 0, none⟩))).run Tryd.prog w0 = .ok (.int .i64 v) w0 ∧
    (Instr.loadAt 29 (.pointer (some ⟨g, 1, none⟩))).run Tryd.prog w0 = .ok (.agg (arrV l)) w0 ∧
    (Instr.loadAt 36 (.pointer (some ⟨g, 0, none⟩))).run Tryd.prog w0 = .ok (.agg (pfxV v l b)) w0
theorem load_int {w : World} {ad : Addr} {v : Value} (h : w.cell? ad = some v) : (Instr.loadAt 3 (.pointer (some ad))).run Tryd.prog w = .ok v w := by
  go_simp
theorem pfx_at {w : World} {g : Nat} {v : Int} {l : List Int} {b : Int} (hl : B16 l) (h : w.heap[g]? = some (.cells (pfxV v l b) 36 (0, 0))) : PfxAt w g v l b := by
  refine ⟨fun w0 hb => ?_⟩
  have h0 := blk_below h hb
  have c0 : w0.cell? ⟨g, 0, none⟩ = some (.int .i64 v) := by rw [blk_cell h0]; rfl
  have c1 : ∀ i, i < 16 → w0.cell? ⟨g, 1 + i, none⟩ = some (.int .u8 (rd l (i : Int))) := fun i hi => by
    rw [blk_cell h0, Nat.add_comm]
    unfold pfxV
    rw [List.getElem?_toArray, List.getElem?_cons_succ, List.getElem?_append_left (by simp [nums, hl.len]; exact hi)]
    exact nums_get .u8 l i (by rw [hl.len]; exact hi)
  have c2 : w0.cell? ⟨g, 17, none⟩ = some (.int .i64 b) := by
    rw [blk_cell h0]
    unfold pfxV
    rw [List.getElem?_toArray, List.getElem?_cons_succ, List.getElem?_append_right (by simp [nums, hl.len])]
    simp [nums, hl.len]
  exact ⟨load_adr hl c0 (fun i hi => by rw [show 0 + 1 + i = 1 + i by omega]; exact c1 i hi), load_int c2, load_int c0, load_arr hl c1, load_pfx hl h0⟩

set_option maxHeartbeats 2000000 in
theorem check_any (v : Int) (l : List Int) (b : Int) (w : World) (hL : Laid w) (hl : B16 l) : Calls Tryd.prog 62 #[.agg (pfxV v l b)] w fun e w' => e = .returned (.int .i64 (errP v l b)) ∧ Below w.heap.size w w' := by
  have hpa := pfx_at hl (blk_new w (.cells (pfxV v l b) 36))
  have hbe : Below w.heap.size w (w.alloc (.cells (pfxV v l b) 36)) := below_alloc (Below.refl _ _) _
  have HL := Lib.hid (hL.below hbe)
  have HBE := Lib.hid hbe
  obtain ⟨cs, hcs⟩ : ∃ cs, pfxV v l b = cs := ⟨_, rfl⟩
  rw [hcs] at hpa HL HBE ⊢
  have HP := Lib.hid hpa
  clear hcs hbe hL hpa
  go_enter Tryd.func62, Tryd.ntmps62
  go_wp2_with fail
  refine wp_region_mix (fun w0 => Below (w.alloc (.cells cs 36)).heap.size (w.alloc (.cells cs 36)) w0) [(0, 0), (1, 0), (2, 2), (3, 0), (4, 0), (5, 0), (6, 0), (7, 0), (8, 0), (9, 0), (10, 0), (11, 0), (12, 0), (13, 0), (14, 0), (15, 2), (16, 0), (17, 0), (18, 0), (19, 0), (20, 0), (21, 0), (22, 0), (23, 0), (24, 2), (25, 0), (26, 0)] (by kernel_rfl) (by kernel_rfl) (below_drew1 _) ?_
  simp only [List.map_cons, List.map_nil]
  iterate 1 (refine wpO_step0 rfl rfl (fun K hK => ?_); go_simp; refine hK _ _ ?_; clear hK K)
  refine wpO_loadW (t := 31) (ad := ⟨w.heap.size, 0, none⟩) rfl rfl ?hw rfl rfl (fun w0 hS => (HP.out.all w0 hS).1) ?_
  case hw => go_simp
  refine wpO_step2 rfl rfl (below_drew1 _) (fun K hK => ?_)
  go_simp
  refine (checkAddr_any v l _ (HL.out.below (below_drew1 _)) hl).mono ?_
  rintro e w1 ⟨rfl, hb1⟩
  have HS1 := Lib.hid (below_step (below_drew1 _) hb1)
  clear hb1
  refine hK _ _ ⟨HS1.out, ?_⟩
  clear hK K
  cases hA : rightA v l with
  | false =>
    have HE : Hid (errP v l b = 151) := by unfold errP rightP; rw [hA]; rfl
    have hEA : errA v l = 150 := by unfold errA; rw [hA]; rfl
    rw [hEA]
    clear hA hEA
    repeat first | (refine wpO_step0 rfl rfl (fun K hK => ?_); go_simp; refine hK _ _ ?_; clear hK K) | (refine wpO_step2 rfl rfl HS1.out (fun K hK => ?_); go_simp; refine hK _ _ ⟨HS1.out, ?_⟩; clear hK K)
    refine wpO_nil ?_
    go_wp2
    go_ret
    rw [HE.out]
    exact ⟨rfl, below_step HBE.out HS1.out⟩
  | true =>
    have hEA : errA v l = 0 := by unfold errA; rw [hA]; rfl
    rw [hEA]
    clear hEA
    iterate 3 (refine wpO_step0 rfl rfl (fun K hK => ?_); go_simp; refine hK _ _ ?_; clear hK K)
    refine wpO_loadW (t := 3) (ad := ⟨w.heap.size, 17, none⟩) rfl rfl ?hw rfl rfl (fun w0 hS => (HP.out.all w0 hS).2.1) ?_
    case hw => go_simp
    by_cases hb0 : b < 0
    · have HE : Hid (errP v l b = 151) := by
        have h1 : rightP v l b = false := by
          unfold rightP
          rw [decide_eq_false (show ¬ 0 ≤ b by omega)]
          cases rightA v l <;> rfl
        unfold errP
        rw [h1]
        rfl
      clear hA
      repeat first | (refine wpO_step0 rfl rfl (fun K hK => ?_); go_simp; refine hK _ _ ?_; clear hK K) | (refine wpO_step2 rfl rfl HS1.out (fun K hK => ?_); go_simp; refine hK _ _ ⟨HS1.out, ?_⟩; clear hK K)
      refine wpO_nil ?_
      go_wp2
      go_ret
      rw [HE.out]
      exact ⟨rfl, below_step HBE.out HS1.out⟩
    · have hb0' : 0 ≤ b := by omega
      clear hb0
      iterate 4 (refine wpO_step0 rfl rfl (fun K hK => ?_); go_simp; refine hK _ _ ?_; clear hK K)
      refine wpO_loadW (t := 3) (ad := ⟨w.heap.size, 17, none⟩) rfl rfl ?hw rfl rfl (fun w0 hS => (HP.out.all w0 hS).2.1) ?_
      case hw => go_simp
      iterate 2 (refine wpO_step0 rfl rfl (fun K hK => ?_); go_simp; refine hK _ _ ?_; clear hK K)
      refine wpO_loadW (t := 3) (ad := ⟨w.heap.size, 0, none⟩) rfl rfl ?hw rfl rfl (fun w0 hS => (HP.out.all w0 hS).2.2.1) ?_
      case hw => go_simp
      refine wpO_step2 rfl rfl HS1.out (fun K hK => ?_)
      go_simp
      refine (width_any v _ (HL.out.below HS1.out)).mono ?_
      rintro e w2 ⟨rfl, rfl⟩
      refine hK _ _ ⟨HS1.out, ?_⟩
      clear hK K
      have hwl := widthA_le v
      by_cases hbw : (widthA v : Int) < b
      · have HE : Hid (errP v l b = 151) := by
          have h1 : rightP v l b = false := by
            unfold rightP
            rw [decide_eq_false (show ¬ b ≤ widthA v by omega)]
            cases rightA v l <;> cases decide (0 ≤ b) <;> rfl
          unfold errP
          rw [h1]
          rfl
        clear hA
        repeat first | (refine wpO_step0 rfl rfl (fun K hK => ?_); go_simp; refine hK _ _ ?_; clear hK K) | (refine wpO_step2 rfl rfl HS1.out (fun K hK => ?_); go_simp; refine hK _ _ ⟨HS1.out, ?_⟩; clear hK K)
        refine wpO_nil ?_
        go_wp2
        go_ret
        rw [HE.out]
        exact ⟨rfl, below_step HBE.out HS1.out⟩
      · have hbw' : b ≤ (widthA v : Int) := by omega
        clear hbw
        obtain ⟨k, rfl⟩ := Int.eq_ofNat_of_zero_le hb0'
        have hbn : k ≤ widthA v := by omega
        iterate 5 (refine wpO_step0 rfl rfl (fun K hK => ?_); go_simp; refine hK _ _ ?_; clear hK K)
        refine wpO_loadW (t := 29) (ad := ⟨w.heap.size, 1, none⟩) rfl rfl ?hw rfl rfl (fun w0 hS => (HP.out.all w0 hS).2.2.2.1) ?_
        case hw => go_simp
        iterate 1 (refine wpO_step0 rfl rfl (fun K hK => ?_); go_simp; refine hK _ _ ?_; clear hK K)
        refine wpO_loadW (t := 3) (ad := ⟨w.heap.size, 17, none⟩) rfl rfl ?hw rfl rfl (fun w0 hS => (HP.out.all w0 hS).2.1) ?_
        case hw => go_simp
        refine wpO_step2 rfl rfl HS1.out (fun K hK => ?_)
        go_simp
        refine (clear_any l k _ hl).mono ?_
        rintro e w3 ⟨rfl, hb3⟩
        have HS3 := Lib.hid (below_step HS1.out hb3)
        clear hb3
        refine hK _ _ ⟨HS3.out, ?_⟩
        clear hK K
        cases hC : clearA l k with
        | false =>
          have HE : Hid (errP v l k = 151) := by
            have h1 : rightP v l k = false := by
              unfold rightP
              rw [show (k : Int).toNat = k by omega, hC]
              exact Bool.and_false _
            unfold errP
            rw [h1]
            rfl
          clear hA hC
          repeat first | (refine wpO_step0 rfl rfl (fun K hK => ?_); go_simp; refine hK _ _ ?_; clear hK K) | (refine wpO_step2 rfl rfl HS3.out (fun K hK => ?_); go_simp; refine hK _ _ ⟨HS3.out, ?_⟩; clear hK K)
          refine wpO_nil ?_
          go_wp2
          go_ret
          rw [HE.out]
          exact ⟨rfl, below_step HBE.out HS3.out⟩
        | true =>
          have HE : Hid (errP v l k = 0) := by
            unfold errP rightP
            rw [show (k : Int).toNat = k by omega, hC, hA, decide_eq_true hb0', decide_eq_true hbw']
            rfl
          clear hA hC
          repeat first | (refine wpO_step0 rfl rfl (fun K hK => ?_); go_simp; refine hK _ _ ?_; clear hK K) | (refine wpO_step2 rfl rfl HS3.out (fun K hK => ?_); go_simp; refine hK _ _ ⟨HS3.out, ?_⟩; clear hK K)
          refine wpO_nil ?_
          go_wp2
          go_ret
          rw [HE.out]
          exact ⟨rfl, below_step HBE.out HS3.out⟩
end Go.Proofs.YtihfaknflfmohaaDoor

/- Addresses and prefixes, built and written. -/
namespace Go.Proofs.YtihfaknflfmohaaDoor
open Go.RowKit
set_option linter.unusedVariables false
set_option linter.unusedSimpArgs false
set_option maxRecDepth 4000

theorem len16 {l : List Int} (h : l.length = 16) : ∃ a b c d e f g h i j k m n o p q : Int, l = [a, b, c, d, e, f, g, h, i, j, k, m, n, o, p, q] := by
  match l, h with
  | [a, b, c, d, e, f, g, h, i, j, k, m, n, o, p, q], _ => exact ⟨a, b, c, d, e, f, g, h, i, j, k, m, n, o, p, q, rfl⟩
abbrev zero16 : List Int := List.replicate 16 0
theorem zero16_B : B16 zero16 := ⟨rfl, fun x hx => by simp [zero16] at hx; omega⟩
theorem built_adr (v : Int) (l : List Int) (h : l.length = 16) : Tryd.prog.built 31 [(0, .int .i64 v), (1, .agg (arrV l))] = some (adrV v l) := by
  obtain ⟨a, b, c, d, e, f, g, h, i, j, k, m, n, o, p, q, rfl⟩ := len16 h
  kernel_rfl
theorem built_adr0 (v : Int) : Tryd.prog.built 31 [(0, .int .i64 v)] = some (adrV v zero16) := by
  kernel_rfl
theorem built_pfx (v : Int) (l : List Int) (x : Int) (h : l.length = 16) : Tryd.prog.built 36 [(0, .agg (adrV v l)), (1, .int .i64 x)] = some (pfxV v l x) := by
  obtain ⟨a, b, c, d, e, f, g, h, i, j, k, m, n, o, p, q, rfl⟩ := len16 h
  kernel_rfl
theorem run_build_adr (w : World) (v : Int) (l : List Int) (h : l.length = 16) : (Instr.build 31 #[(0, .int .i64 v), (1, .agg (arrV l))]).run Tryd.prog w = .ok (.agg (adrV v l)) w := run_build w _ _ _ (built_adr v l h)
theorem run_build_adr0 (w : World) (v : Int) : (Instr.build 31 #[(0, .int .i64 v)]).run Tryd.prog w = .ok (.agg (adrV v zero16)) w := run_build w _ _ _ (built_adr0 v)
theorem run_build_pfx (w : World) (v : Int) (l : List Int) (x : Int) (h : l.length = 16) : (Instr.build 36 #[(0, .agg (adrV v l)), (1, .int .i64 x)]).run Tryd.prog w = .ok (.agg (pfxV v l x)) w := run_build w _ _ _ (built_pfx v l x h)
theorem run_build_pfx_nil (w : World) : (Instr.build 36 #[]).run Tryd.prog w = .ok (.agg (pfxV 0 zero16 0)) w := run_build w _ _ _ (by kernel_rfl)
theorem run_build_adr_nil (w : World) : (Instr.build 31 #[]).run Tryd.prog w = .ok (.agg (adrV 0 zero16)) w := run_build w _ _ _ (by kernel_rfl)
theorem run_build_arr_nil (w : World) : (Instr.build 29 #[]).run Tryd.prog w = .ok (.agg (arrV zero16)) w := run_build w _ _ _ (by kernel_rfl)

theorem arr_size {l : List Int} (h : l.length = 16) : (arrV l).size = 16 := by simp [arrV, nums, h]
theorem adr_size {v : Int} {l : List Int} (h : l.length = 16) : (adrV v l).size = 17 := by simp [adrV, nums, h]
theorem pfx_size {v x : Int} {l : List Int} (h : l.length = 16) : (pfxV v l x).size = 18 := by simp [pfxV, nums, h]
theorem arr_one (l : List Int) : (arrV l).all (·.oneCell') = true := by simp [arrV, nums, Value.oneCell']
theorem adr_one (v : Int) (l : List Int) : (adrV v l).all (·.oneCell') = true := by simp [adrV, nums, Value.oneCell']
theorem pfx_one (v x : Int) (l : List Int) : (pfxV v l x).all (·.oneCell') = true := by simp [pfxV, nums, Value.oneCell']
theorem info_arr {l : List Int} (h : l.length = 16) : (Tryd.prog.info? 29).map (·.size) = some (arrV l).size := by rw [arr_size h]; kernel_rfl
theorem info_adr {v : Int} {l : List Int} (h : l.length = 16) : (Tryd.prog.info? 31).map (·.size) = some (adrV v l).size := by rw [adr_size h]; kernel_rfl
theorem info_pfx {v x : Int} {l : List Int} (h : l.length = 16) : (Tryd.prog.info? 36).map (·.size) = some (pfxV v l x).size := by rw [pfx_size h]; kernel_rfl
theorem splice_adr (v : Int) (l m : List Int) (hl : l.length = 16) (hm : m.length = 16) : splice (adrV v l) 1 (arrV m).toList = adrV v m := by
  unfold splice adrV arrV
  rw [show (Value.int IntKind.i64 v :: nums .u8 l).toArray.toList.drop (1 + (nums .u8 m).toArray.toList.length) = [] from List.drop_of_length_le (by simp [nums, hl, hm])]
  simp
theorem splice_pfx (c : Array Value) (v x : Int) (l : List Int) (hl : l.length = 16) (hc : c.size = 18) : splice c 0 (pfxV v l x).toList = pfxV v l x := by
  rw [splice_all _ _ (by rw [Array.length_toList, pfx_size hl, hc])]
theorem splice_adr0 (c : Array Value) (v : Int) (l : List Int) (hl : l.length = 16) (hc : c.size = 17) : splice c 0 (adrV v l).toList = adrV v l := by
  rw [splice_all _ _ (by rw [Array.length_toList, adr_size hl, hc])]
theorem splice_arr0 (c : Array Value) (l : List Int) (hl : l.length = 16) (hc : c.size = 16) : splice c 0 (arrV l).toList = arrV l := by
  rw [splice_all _ _ (by rw [Array.length_toList, arr_size hl, hc])]

theorem exec_build {P : Program} {r : Operand → Value} {o : Oper} {w : World} (t : TypeId) (parts : Array (Nat × Operand)) (ho : o.op = .build t parts) (vs : Array (Nat × Value)) (hv : (parts.map fun (i, x) => (i, r x)) = vs) {v : Value} (hr : (Instr.build t vs).run P w = .ok v w) :
    (execOp r o).run P w = .ok (.value v) w := by
  subst hv
  unfold execOp
  simp only [ho, Sem.run_bind, hr, Result.andThen_ok, Sem.run_pure]
theorem exec_build_pfx {r : Operand → Value} {o : Oper} {x y : Operand} {v b : Int} {l : List Int} (ho : o.op = .build 36 #[(0, x), (1, y)]) (hx : r x = .agg (adrV v l)) (hy : r y = .int .i64 b) (hl : l.length = 16) (w : World) :
    (execOp r o).run Tryd.prog w = .ok (.value (.agg (pfxV v l b))) w :=
  exec_build _ _ ho #[(0, .agg (adrV v l)), (1, .int .i64 b)] (by simp [hx, hy]) (run_build_pfx w v l b hl)
theorem exec_build_adr {r : Operand → Value} {o : Oper} {x y : Operand} {v : Int} {l : List Int} (ho : o.op = .build 31 #[(0, x), (1, y)]) (hx : r x = .int .i64 v) (hy : r y = .agg (arrV l)) (hl : l.length = 16) (w : World) :
    (execOp r o).run Tryd.prog w = .ok (.value (.agg (adrV v l))) w :=
  exec_build _ _ ho #[(0, .int .i64 v), (1, .agg (arrV l))] (by simp [hx, hy]) (run_build_adr w v l hl)
section
variable {ops : Array Oper} {rest : List Oper} {o : Oper} {a : Act} {Q : Exit → Act → World → Prop} {w : World} {x y : Operand} {v b : Int} {l : List Int}
theorem wpList_build_pfx (hgd : o.guard = none) (ho : o.op = .build 36 #[(0, x), (1, y)]) (hx : a.eval x = .agg (adrV v l)) (hy : a.eval y = .int .i64 b) (hl : l.length = 16)
    (h : wpList Tryd.prog ops Q rest (a.put o.dst (.agg (pfxV v l b))) w) : wpList Tryd.prog ops Q (o :: rest) a w := wpList_exec hgd (exec_build_pfx ho hx hy hl w) h
theorem wpList_build_adr (hgd : o.guard = none) (ho : o.op = .build 31 #[(0, x), (1, y)]) (hx : a.eval x = .int .i64 v) (hy : a.eval y = .agg (arrV l)) (hl : l.length = 16)
    (h : wpList Tryd.prog ops Q rest (a.put o.dst (.agg (adrV v l))) w) : wpList Tryd.prog ops Q (o :: rest) a w := wpList_exec hgd (exec_build_adr ho hx hy hl w) h
end
end Go.Proofs.YtihfaknflfmohaaDoor

/- Slices of elements of whatever shape: what is read (RS), what is the call's own (OS). -/
namespace Go.Proofs.YtihfaknflfmohaaDoor
open Go.RowKit
set_option linter.unusedVariables false
set_option linter.unusedSimpArgs false
set_option maxRecDepth 4000

/-- Cells that stand in a block from a place on. -/
def CellsAt (w : World) (b o : Nat) (cs : List Value) : Prop := ∀ j v, cs[j]? = some v → w.cell? ⟨b, o + j, none⟩ = some v
theorem CellsAt.mid {w : World} {b o : Nat} (xs : List Value) {ys zs : List Value} (h : CellsAt w b o (xs ++ (ys ++ zs))) : CellsAt w b (o + xs.length) ys := by
  intro j v hj
  rw [Nat.add_assoc]
  refine h _ _ ?_
  rw [List.getElem?_append_right (by omega), Nat.add_sub_cancel_left, List.getElem?_append_left (List.getElem?_eq_some_iff.1 hj).1]
  exact hj
theorem CellsAt.left {w : World} {b o : Nat} {xs ys : List Value} (h : CellsAt w b o (xs ++ ys)) : CellsAt w b o xs := fun j v hj => h j v (by rw [List.getElem?_append_left (List.getElem?_eq_some_iff.1 hj).1]; exact hj)
theorem CellsAt.right {w : World} {b o : Nat} {xs ys : List Value} (h : CellsAt w b o (xs ++ ys)) : CellsAt w b (o + xs.length) ys := by
  have := CellsAt.mid xs (ys := ys) (zs := []) (w := w) (b := b) (o := o) (by rw [List.append_nil]; exact h)
  exact this
theorem CellsAt.below {w w1 : World} {b o : Nat} {cs : List Value} (h : CellsAt w b o cs) (hb : Below w.heap.size w w1) : CellsAt w1 b o cs := fun j v hj => cell_below hb (h j v hj)
theorem CellsAt.grown {w w1 : World} {b o : Nat} {cs : List Value} (h : CellsAt w b o cs) {row : Option Nat} (hg : w.grownBy w1 row) (hne : some b ≠ row) : CellsAt w1 b o cs := fun j v hj => hg.cell (h j v hj) hne
theorem cells_blk {w : World} {g : Nat} {t : TypeId} {cs : Array Value} (h : w.heap[g]? = some (.cells cs t (0, 0))) : CellsAt w g 0 cs.toList := fun j v hj => by
  rw [blk_cell h, Nat.zero_add]
  simpa using hj
theorem cell_spot2 {w : World} {a : Addr} {v : Value} (h : w.cell? a = some v) : a.spot = none := by
  unfold World.cell? at h
  split at h
  · split at h
    · simp at h
    · rename_i hs
      cases hsp : a.spot with
      | none => rfl
      | some x => simp [hsp] at hs
  · simp at h
theorem add_plain2 (b o j : Nat) : (⟨b, o, none⟩ : Addr).add j = ⟨b, o + j, none⟩ := by unfold Addr.add; split <;> simp_all
theorem load_cells {P : Program} {w : World} {b o : Nat} {t : TypeId} {d : TypeDesc} {cs : Array Value} (h : CellsAt w b o cs.toList) (hu : P.underlying t = some d) (hd : d.isRow = true) (hi : (P.info? t).map (·.size) = some cs.size) :
    (Instr.loadAt t (.pointer (some ⟨b, o, none⟩))).run P w = .ok (.agg cs) w := by
  have := run_loadAt_mid (P := P) w b o t cs.toList d h hu hd (by rw [hi, Array.length_toList])
  simpa using this

theorem exec_build1 {P : Program} {r : Operand → Value} {o : Oper} {w : World} {t : TypeId} {i0 : Nat} {x0 : Operand} {v0 v : Value} (ho : o.op = .build t #[(i0, x0)]) (h0 : r x0 = v0) (hr : (Instr.build t #[(i0, v0)]).run P w = .ok v w) : (execOp r o).run P w = .ok (.value v) w :=
  exec_build t _ ho #[(i0, v0)] (by simp [h0]) hr
theorem exec_build2 {P : Program} {r : Operand → Value} {o : Oper} {w : World} {t : TypeId} {i0 i1 : Nat} {x0 x1 : Operand} {v0 v1 v : Value} (ho : o.op = .build t #[(i0, x0), (i1, x1)]) (h0 : r x0 = v0) (h1 : r x1 = v1) (hr : (Instr.build t #[(i0, v0), (i1, v1)]).run P w = .ok v w) : (execOp r o).run P w = .ok (.value v) w :=
  exec_build t _ ho #[(i0, v0), (i1, v1)] (by simp [h0, h1]) hr
theorem exec_build3 {P : Program} {r : Operand → Value} {o : Oper} {w : World} {t : TypeId} {i0 i1 i2 : Nat} {x0 x1 x2 : Operand} {v0 v1 v2 v : Value} (ho : o.op = .build t #[(i0, x0), (i1, x1), (i2, x2)]) (h0 : r x0 = v0) (h1 : r x1 = v1) (h2 : r x2 = v2) (hr : (Instr.build t #[(i0, v0), (i1, v1), (i2, v2)]).run P w = .ok v w) : (execOp r o).run P w = .ok (.value v) w :=
  exec_build t _ ho #[(i0, v0), (i1, v1), (i2, v2)] (by simp [h0, h1, h2]) hr
theorem exec_build4 {P : Program} {r : Operand → Value} {o : Oper} {w : World} {t : TypeId} {i0 i1 i2 i3 : Nat} {x0 x1 x2 x3 : Operand} {v0 v1 v2 v3 v : Value} (ho : o.op = .build t #[(i0, x0), (i1, x1), (i2, x2), (i3, x3)]) (h0 : r x0 = v0) (h1 : r x1 = v1) (h2 : r x2 = v2) (h3 : r x3 = v3) (hr : (Instr.build t #[(i0, v0), (i1, v1), (i2, v2), (i3, v3)]).run P w = .ok v w) : (execOp r o).run P w = .ok (.value v) w :=
  exec_build t _ ho #[(i0, v0), (i1, v1), (i2, v2), (i3, v3)] (by simp [h0, h1, h2, h3]) hr
theorem exec_build5 {P : Program} {r : Operand → Value} {o : Oper} {w : World} {t : TypeId} {i0 i1 i2 i3 i4 : Nat} {x0 x1 x2 x3 x4 : Operand} {v0 v1 v2 v3 v4 v : Value} (ho : o.op = .build t #[(i0, x0), (i1, x1), (i2, x2), (i3, x3), (i4, x4)]) (h0 : r x0 = v0) (h1 : r x1 = v1) (h2 : r x2 = v2) (h3 : r x3 = v3) (h4 : r x4 = v4) (hr : (Instr.build t #[(i0, v0), (i1, v1), (i2, v2), (i3, v3), (i4, v4)]).run P w = .ok v w) : (execOp r o).run P w = .ok (.value v) w :=
  exec_build t _ ho #[(i0, v0), (i1, v1), (i2, v2), (i3, v3), (i4, v4)] (by simp [h0, h1, h2, h3, h4]) hr
theorem exec_build6 {P : Program} {r : Operand → Value} {o : Oper} {w : World} {t : TypeId} {i0 i1 i2 i3 i4 i5 : Nat} {x0 x1 x2 x3 x4 x5 : Operand} {v0 v1 v2 v3 v4 v5 v : Value} (ho : o.op = .build t #[(i0, x0), (i1, x1), (i2, x2), (i3, x3), (i4, x4), (i5, x5)]) (h0 : r x0 = v0) (h1 : r x1 = v1) (h2 : r x2 = v2) (h3 : r x3 = v3) (h4 : r x4 = v4) (h5 : r x5 = v5) (hr : (Instr.build t #[(i0, v0), (i1, v1), (i2, v2), (i3, v3), (i4, v4), (i5, v5)]).run P w = .ok v w) : (execOp r o).run P w = .ok (.value v) w :=
  exec_build t _ ho #[(i0, v0), (i1, v1), (i2, v2), (i3, v3), (i4, v4), (i5, v5)] (by simp [h0, h1, h2, h3, h4, h5]) hr
/-- One operation whose run is known; its guard, if it has one, lets it by. -/
theorem wpList_exw {P : Program} {ops : Array Oper} {rest : List Oper} {o : Oper} {a : Act} {Q : Exit → Act → World → Prop} {W w' : World} {v : Value} (hw : Region.wanted o (yielded ops a.tmps) = true) (hrun : (execOp a.eval o).run P W = .ok (.value v) w') (h : wpList P ops Q rest (a.put o.dst v) w') : wpList P ops Q (o :: rest) a W := by
  refine wpList_step (fun K hK => ?_)
  rw [if_pos hw]
  unfold Oper.wp
  rw [hrun]
  exact hK _ _ h
/-- A kind of elements: type t, slice type ts; an element's cells and its value; z: the zero. -/
structure Shape (α : Type) where
  t : TypeId
  ts : TypeId
  sz : Nat
  bytes : Nat
  z : α
  ok : α → Prop
  enc : α → List Value
  val : α → Value
  len : ∀ a, ok a → (enc a).length = sz
  one : ∀ a, ∀ u ∈ enc a, u.oneCell' = true
  okz : ok z
  pos : 0 < sz
  bpos : 0 < bytes
  blt : bytes ≤ 10000
  und : Tryd.prog.underlying ts = some (.slice t)
  info : (Tryd.prog.info? t).map (fun i => (i.zero, i.size, i.bytes)) = some (some (val z), sz, bytes)
  venc : ∀ a, (val a).cells = (enc a).toArray
  ld : ∀ (w : World) (b o : Nat) (a : α), ok a → CellsAt w b o (enc a) → (Instr.loadAt t (.pointer (some ⟨b, o, none⟩))).run Tryd.prog w = .ok (val a) w
theorem Shape.zenc {α : Type} (S : Shape α) : (S.val S.z).cells = (S.enc S.z).toArray := S.venc _
theorem Shape.zc {α : Type} (S : Shape α) : (S.val S.z).cells.size = S.sz := by rw [S.zenc, List.size_toArray, S.len _ S.okz]
section
variable {α : Type} (S : Shape α)
def Shape.at_ (l : List α) (i : Nat) : α := l.getD i S.z
def Shape.cells (l : List α) : List Value := l.flatMap S.enc
def Shape.all (l : List α) : Prop := ∀ a ∈ l, S.ok a
variable {S}
theorem Shape.at_get {l : List α} {i : Nat} (h : i < l.length) : l[i]? = some (S.at_ l i) := by
  unfold Shape.at_
  rw [List.getD_eq_getElem?_getD, List.getElem?_eq_getElem h]
  rfl
theorem Shape.cells_append (l m : List α) : S.cells (l ++ m) = S.cells l ++ S.cells m := by simp [Shape.cells]
theorem Shape.cells_one (a : α) : S.cells [a] = S.enc a := by simp [Shape.cells]
theorem Shape.cells_cons (a : α) (l : List α) : S.cells (a :: l) = S.enc a ++ S.cells l := by simp [Shape.cells]
theorem Shape.cells_cell (l : List α) : ∀ u ∈ S.cells l, u.oneCell' = true := by
  intro u hu
  obtain ⟨r, _, h⟩ := List.mem_flatMap.1 hu
  exact S.one r u h
theorem Shape.all.tail {a : α} {l : List α} (h : S.all (a :: l)) : S.all l := fun r hr => h r (by simp [hr])
theorem Shape.all.take {l : List α} (h : S.all l) (n : Nat) : S.all (l.take n) := fun r hr => h r (List.mem_of_mem_take hr)
theorem Shape.all.drop {l : List α} (h : S.all l) (n : Nat) : S.all (l.drop n) := fun r hr => h r (List.mem_of_mem_drop hr)
theorem Shape.all.append {l m : List α} (h : S.all l) (k : S.all m) : S.all (l ++ m) := fun r hr => (List.mem_append.1 hr).elim (h r) (k r)
theorem Shape.all.at_ {l : List α} (h : S.all l) {i : Nat} (hi : i < l.length) : S.ok (S.at_ l i) := h _ (List.mem_of_getElem? (Shape.at_get hi))
theorem Shape.all_nil : S.all [] := fun r hr => by cases hr
theorem Shape.all_one {a : α} (h : S.ok a) : S.all [a] := fun r hr => by rw [List.mem_singleton] at hr; rw [hr]; exact h
theorem Shape.cells_len : ∀ {l : List α}, S.all l → (S.cells l).length = l.length * S.sz
  | [], _ => by simp [Shape.cells]
  | a :: l, h => by
    rw [Shape.cells_cons, List.length_append, Shape.cells_len h.tail, S.len a (h a (by simp)), List.length_cons, Nat.add_mul]
    omega
theorem Shape.cells_take {l : List α} (h : S.all l) (n : Nat) (hn : n ≤ l.length) : (S.cells l).take (n * S.sz) = S.cells (l.take n) := by
  have e : S.cells l = S.cells (l.take n) ++ S.cells (l.drop n) := by rw [← Shape.cells_append, List.take_append_drop]
  rw [e, List.take_left' (by rw [Shape.cells_len (h.take n), List.length_take, Nat.min_eq_left hn])]
theorem Shape.cells_drop {l : List α} (h : S.all l) (n : Nat) (hn : n ≤ l.length) : (S.cells l).drop (n * S.sz) = S.cells (l.drop n) := by
  have e : S.cells l = S.cells (l.take n) ++ S.cells (l.drop n) := by rw [← Shape.cells_append, List.take_append_drop]
  rw [e, List.drop_left' (by rw [Shape.cells_len (h.take n), List.length_take, Nat.min_eq_left hn])]
theorem Shape.split_at {l : List α} {i : Nat} (hi : i < l.length) : l = l.take i ++ (S.at_ l i :: l.drop (i + 1)) := by
  have h2 : l[i]'hi = S.at_ l i := by
    have := Shape.at_get (S := S) hi
    rw [List.getElem?_eq_getElem hi] at this
    exact Option.some.inj this
  rw [← h2, List.getElem_cons_drop, List.take_append_drop]
theorem Shape.take_succ {l : List α} {i : Nat} (hi : i < l.length) : l.take (i + 1) = l.take i ++ [S.at_ l i] := by
  rw [List.take_add_one, Shape.at_get (S := S) hi]
  rfl
end
/-- A slice of elements, read. -/
structure RS {α : Type} (S : Shape α) (w : World) (A : Option Addr) (n c : Nat) (l : List α) : Prop where
  rv : RV w S.sz A n c (S.cells l)
  fits : S.all l
/-- A slice of elements of the call's own. -/
structure OS {α : Type} (S : Shape α) (w : World) (base : Nat) (A : Option Addr) (n c : Nat) (l : List α) : Prop where
  ov : OV w base S.t S.sz A n c (S.cells l)
  fits : S.all l
section
variable {α : Type} {S : Shape α} {w w1 : World} {base base' : Nat} {A : Option Addr} {n c : Nat} {l : List α}
theorem RS.len (h : RS S w A n c l) : l.length = n := by
  have h1 := h.rv.len
  rw [Shape.cells_len h.fits] at h1
  exact Nat.eq_of_mul_eq_mul_right S.pos h1
theorem OS.len (h : OS S w base A n c l) : l.length = n := by
  have h1 := h.ov.len
  rw [Shape.cells_len h.fits] at h1
  exact Nat.eq_of_mul_eq_mul_right S.pos h1
theorem OS.reads (h : OS S w base A n c l) : RS S w A n c l := ⟨h.ov.reads, h.fits⟩
theorem RS.below (h : RS S w A n c l) (hb : Below w.heap.size w w1) : RS S w1 A n c l := ⟨h.rv.below hb, h.fits⟩
theorem OS.below (h : OS S w base A n c l) (hb : Below w.heap.size w w1) : OS S w1 base A n c l := ⟨h.ov.below hb, h.fits⟩
theorem OS.lower (h : OS S w base A n c l) (hb : base' ≤ base) : OS S w base' A n c l := ⟨h.ov.lower hb, h.fits⟩
theorem OS.grown (h : OS S w base A n c l) {row : Option Nat} (hg : w.grownBy w1 row) (hne : ∀ ad, A = some ad → some ad.block ≠ row) : OS S w1 base A n c l := ⟨h.ov.grown hg hne, h.fits⟩
theorem RS.grown (h : RS S w A n c l) {row : Option Nat} (hg : w.grownBy w1 row) (hne : ∀ ad, A = some ad → some ad.block ≠ row) : RS S w1 A n c l := ⟨h.rv.grown hg hne, h.fits⟩
theorem OS.cap (h : OS S w base A n c l) : n ≤ c := h.ov.cap
theorem RS.cap (h : RS S w A n c l) : n ≤ c := h.rv.cap
theorem RS.small (h : RS S w A n c l) : n ≤ 281474976710656 := h.rv.small
theorem OS.small (h : OS S w base A n c l) : n ≤ 281474976710656 := h.ov.small
theorem OS.base_ (h : OS S w base A n c l) : ∀ ad, A = some ad → base ≤ ad.block := h.ov.base_
theorem OS.lt (h : OS S w base A n c l) : ∀ ad, A = some ad → ad.block < w.heap.size := h.ov.lt
theorem RS.nil (S : Shape α) (w : World) (A : Option Addr) (c : Nat) : RS S w A 0 c [] := ⟨RV.nil w S.sz A c, Shape.all_nil⟩
theorem OS.nil (S : Shape α) (w : World) (base : Nat) : OS S w base none 0 0 [] := ⟨OV.nil w base _ S.sz, Shape.all_nil⟩
theorem RS.take (h : RS S w A n c l) (m : Nat) (hm : m ≤ n) : RS S w A m c (l.take m) := ⟨by rw [← Shape.cells_take h.fits m (by rw [h.len]; exact hm)]; exact h.rv.take m hm, h.fits.take m⟩
theorem OS.take (h : OS S w base A n c l) (m c' : Nat) (hm : m ≤ n) (hc : m ≤ c') (hc' : c' ≤ c) : OS S w base A m c' (l.take m) := ⟨by rw [← Shape.cells_take h.fits m (by rw [h.len]; exact hm)]; exact h.ov.take m c' hm hc hc', h.fits.take m⟩
theorem RS.drop (h : RS S w A n c l) (m : Nat) (hm : m ≤ n) : RS S w (if c = m then A else A.map (·.add (m * S.sz))) (n - m) (c - m) (l.drop m) := ⟨by rw [← Shape.cells_drop h.fits m (by rw [h.len]; exact hm)]; exact h.rv.drop m hm, h.fits.drop m⟩
theorem RS.capmono (h : RS S w A n c l) {c' : Nat} (hc : n ≤ c') : RS S w A n c' l := ⟨h.rv.capmono hc, h.fits⟩
theorem OS.new (S : Shape α) (W : World) (base : Nat) (l : List α) (hb : base ≤ W.heap.size) (hf : S.all l) (hn : l.length ≤ 281474976710656) : OS S (W.alloc (.cells (S.cells l).toArray S.t)) base (some ⟨W.heap.size, 0, none⟩) l.length l.length l := ⟨by
  have := OV.new W base S.t S.sz (S.cells l).toArray l.length hb (by rw [List.size_toArray, Shape.cells_len hf]) hn
  simpa using this, hf⟩
theorem OS.empty (S : Shape α) (W : World) (base : Nat) (hb : base ≤ W.heap.size) : OS S (W.alloc (.cells #[] S.t)) base (some ⟨W.heap.size, 0, none⟩) 0 0 [] := OS.new S W base [] hb Shape.all_nil (by simp)
theorem OS.one (S : Shape α) (W : World) (base : Nat) (a : α) (hb : base ≤ W.heap.size) (hf : S.ok a) : OS S (W.alloc (.cells (S.enc a).toArray S.t)) base (some ⟨W.heap.size, 0, none⟩) 1 1 [a] := by
  have := OS.new S W base [a] hb (Shape.all_one hf) (by simp)
  rw [Shape.cells_one] at this
  exact this
theorem RS.at_ (h : RS S w A n c l) (hp : 0 < n) : ∃ b o, A = some ⟨b, o, none⟩ ∧ ∀ i, i < n → CellsAt w b (o + i * S.sz) (S.enc (S.at_ l i)) := by
  obtain ⟨ad, rfl, hc⟩ := h.rv.cells hp
  have hlen := Shape.cells_len h.fits
  have hn := h.len
  have hpos := S.pos
  have hln : 0 < l.length * S.sz := Nat.mul_pos (by omega) hpos
  have hs : ad.spot = none := by
    cases hx : (S.cells l)[0]? with
    | none => rw [List.getElem?_eq_none_iff] at hx; omega
    | some v =>
      have := hc 0 v hx
      have k := cell_spot2 this
      unfold Addr.add at k
      simpa using k
  obtain ⟨b, o, s⟩ := ad
  simp only at hs
  subst hs
  refine ⟨b, o, rfl, fun i hi => ?_⟩
  have e : S.cells l = S.cells (l.take i) ++ (S.enc (S.at_ l i) ++ S.cells (l.drop (i + 1))) := by
    conv => lhs; rw [Shape.split_at (S := S) (l := l) (i := i) (by omega)]
    rw [Shape.cells_append]
    rfl
  have hm : CellsAt w b o (S.cells l) := fun j v hj => by
    have := hc j v hj
    rwa [add_plain2] at this
  rw [e] at hm
  have := hm.mid
  rwa [Shape.cells_len (h.fits.take i), List.length_take, Nat.min_eq_left (by omega)] at this
theorem RS.fits_at (h : RS S w A n c l) {i : Nat} (hi : i < n) : S.ok (S.at_ l i) := h.fits.at_ (by rw [h.len]; exact hi)
theorem RS.get (h : RS S w A n c l) {i : Nat} (hi : i < n) : l[i]? = some (S.at_ l i) := Shape.at_get (by rw [h.len]; exact hi)
end
theorem run_append_shp {α : Type} (S : Shape α) (W : World) (base : Nat) (ty : TypeId) (A : Option Addr) (n c : Nat) (t : List α) (A2 : Option Addr) (m c2 : Nat) (u : List α)
    (HO : OS S W base A n c t) (HR : RS S W A2 m c2 u) (hbase : base ≤ W.heap.size) (hl : n + m ≤ 10000000) :
    ∃ A' c' w', (Builtin.append_ #[S.ts, S.ts] ty #[.slice A n c, .slice A2 m c2]).run Tryd.prog W = .ok (.slice A' (n + m) c') w' ∧
      OS S w' base A' (n + m) c' (t ++ u) ∧ W.grownBy w' ((Value.slice A n c).ownBlock) ∧ (A' = A ∨ ∀ ad, A' = some ad → W.heap.size ≤ ad.block) := by
  have hb1 := S.blt
  have hb2 : (n + m) * S.bytes ≤ 10000000 * 10000 := Nat.mul_le_mul hl hb1
  obtain ⟨A', c', w', h1, h2, h3, h4⟩ := run_append_rows W base S.ts ty S.t S.sz S.bytes (S.val S.z) A n c (S.cells t) A2 m c2 (S.cells u) S.und S.info S.zc S.pos S.bpos HO.ov HR.rv (Shape.cells_cell u) hbase (by omega)
  exact ⟨A', c', w', h1, ⟨by rw [Shape.cells_append]; exact h2, HO.fits.append HR.fits⟩, h3, h4⟩
section
variable {α : Type} (S : Shape α) {ops : Array Oper} {rest : List Oper} {o : Oper} {a : Act} {Q : Exit → Act → World → Prop}
theorem wpList_append_shp {W : World} (hgd : o.guard = none) (s x : Operand) (ho : o.op = .call { callee := .builtin .append, args := #[s, x], argTypes := #[S.ts, S.ts] })
    {base : Nat} {A : Option Addr} {n c : Nat} {t : List α} {A2 : Option Addr} {m c2 : Nat} {u : List α} (hs : a.eval s = .slice A n c) (hx : a.eval x = .slice A2 m c2)
    (HO : OS S W base A n c t) (HR : RS S W A2 m c2 u) (hbase : base ≤ W.heap.size) (hl : n + m ≤ 10000000)
    (h : ∀ A' c' w', OS S w' base A' (n + m) c' (t ++ u) → W.grownBy w' ((Value.slice A n c).ownBlock) → (A' = A ∨ ∀ ad, A' = some ad → W.heap.size ≤ ad.block) → wpList Tryd.prog ops Q rest (a.put o.dst (.slice A' (n + m) c')) w') :
    wpList Tryd.prog ops Q (o :: rest) a W := by
  obtain ⟨A', c', w', h1, h2, h3, h4⟩ := run_append_shp S W base o.type A n c t A2 m c2 u HO HR hbase hl
  exact wpList_exec hgd (exec_append s x _ ho hs hx h1) (h _ _ _ h2 h3 h4)
theorem oper_append_shp {K : Act → World → Prop} {W : World} (s x : Operand) (ho : o.op = .call { callee := .builtin .append, args := #[s, x], argTypes := #[S.ts, S.ts] })
    {base : Nat} {A : Option Addr} {n c : Nat} {t : List α} {A2 : Option Addr} {m c2 : Nat} {u : List α} (hs : a.eval s = .slice A n c) (hx : a.eval x = .slice A2 m c2)
    (HO : OS S W base A n c t) (HR : RS S W A2 m c2 u) (hbase : base ≤ W.heap.size) (hl : n + m ≤ 10000000)
    (h : ∀ A' c' w', OS S w' base A' (n + m) c' (t ++ u) → W.grownBy w' ((Value.slice A n c).ownBlock) → (A' = A ∨ ∀ ad, A' = some ad → W.heap.size ≤ ad.block) → K (a.put o.dst (.slice A' (n + m) c')) w') :
    o.wp Tryd.prog a W K Q := by
  obtain ⟨A', c', w', h1, h2, h3, h4⟩ := run_append_shp S W base o.type A n c t A2 m c2 u HO HR hbase hl
  exact oper_exec (exec_append s x _ ho hs hx h1) (h _ _ _ h2 h3 h4)
end
end Go.Proofs.YtihfaknflfmohaaDoor

/- Slices of elements of whatever shape: copy into one's own, clear behind the end, grow. -/
namespace Go.Proofs.YtihfaknflfmohaaDoor
open Go.RowKit
set_option linter.unusedVariables false
set_option linter.unusedSimpArgs false
set_option maxRecDepth 4000

theorem OV.run_put {P : Program} {w : World} {base : Nat} {e : TypeId} {sz : Nat} {ad : Addr} {n c : Nat} {xs : List Value} (h : OV w base e sz (some ad) n c xs) (o : Nat) (vs : List Value) (ho : o + vs.length ≤ c * sz) (h1 : ∀ v ∈ vs, v.oneCell' = true) :
    (storeCells (ad.add o) vs).run P w = .ok () (w.setCells ad.block (ad.off + o) vs) := by
  obtain ⟨hb, hs, cur, hh, hfit, hcs⟩ := h.form ad rfl
  obtain ⟨g, off, s⟩ := ad
  simp only at hs hb hh hfit hcs
  subst hs
  rw [add_plain2]
  have := run_storeCells_cells (P := P) g (off + o) vs 0 w (fun j hj => by
    rw [Nat.add_zero, blk_cell hh, Array.getElem?_eq_getElem (by omega)]
    rfl) (fun j hj => blk_frozen hh _) h1
  rw [Nat.add_zero] at this
  exact this
theorem OV.put_in {w : World} {base : Nat} {e : TypeId} {sz : Nat} {ad : Addr} {n c : Nat} {xs : List Value} (h : OV w base e sz (some ad) n c xs) (o : Nat) (vs : List Value) (ho : o + vs.length ≤ n * sz) :
    OV (w.setCells ad.block (ad.off + o) vs) base e sz (some ad) n c (xs.take o ++ vs ++ xs.drop (o + vs.length)) := by
  obtain ⟨hb, hs, cur, hh, hfit, hcs⟩ := h.form ad rfl
  have hlen := h.len
  have hcap : n * sz ≤ c * sz := Nat.mul_le_mul_right _ h.cap
  obtain ⟨cur', h3, h4, h5⟩ := setCells_row vs (ad.off + o) w cur hh (by omega)
  refine ⟨by simp [hlen]; omega, h.cap, h.small, h.capmax, fun ad' ha => ?_, fun ha => by cases ha⟩
  injection ha with ha
  subst ha
  refine ⟨hb, hs, cur', h3, by rw [h4]; exact hfit, fun j v hj => ?_⟩
  have hsp := splice_get xs.toArray o vs (by rw [List.size_toArray]; omega) j
  have e1 : (splice xs.toArray o vs)[j]? = (xs.take o ++ vs ++ xs.drop (o + vs.length))[j]? := by simp [splice]
  rw [← e1, hsp] at hj
  rw [h5]
  by_cases hc : o ≤ j ∧ j < o + vs.length
  · rw [if_pos hc] at hj
    rw [if_pos (by omega), show ad.off + j - (ad.off + o) = j - o by omega]
    exact hj
  · rw [if_neg hc] at hj
    rw [if_neg (by omega)]
    exact hcs j v (by simpa using hj)
theorem OV.put_beyond {w : World} {base : Nat} {e : TypeId} {sz : Nat} {ad : Addr} {n c : Nat} {xs : List Value} (h : OV w base e sz (some ad) n c xs) (o : Nat) (vs : List Value) (ho : n * sz ≤ o) (h2 : o + vs.length ≤ c * sz) :
    OV (w.setCells ad.block (ad.off + o) vs) base e sz (some ad) n c xs := by
  obtain ⟨hb, hs, cur, hh, hfit, hcs⟩ := h.form ad rfl
  have hlen := h.len
  obtain ⟨cur', h3, h4, h5⟩ := setCells_row vs (ad.off + o) w cur hh (by omega)
  refine ⟨hlen, h.cap, h.small, h.capmax, fun ad' ha => ?_, fun ha => by cases ha⟩
  injection ha with ha
  subst ha
  refine ⟨hb, hs, cur', h3, by rw [h4]; exact hfit, fun j v hj => ?_⟩
  have hlt := (List.getElem?_eq_some_iff.1 hj).1
  rw [h5, if_neg (by omega)]
  exact hcs j v hj
theorem zero_cells (e : List Value) (h : 0 < e.length) : ∀ k : Nat, (Builtin.zeroCells e.toArray k).toList = (List.replicate k e).flatten
  | 0 => by simp [Builtin.zeroCells]
  | k + 1 => by
    have ih := zero_cells e h k
    simp only [Builtin.zeroCells, List.size_toArray, Array.toList_map, Array.toList_range] at ih ⊢
    rw [Nat.add_mul, Nat.one_mul, List.range_add, List.map_append, ih, List.replicate_succ', List.flatten_append]
    congr 1
    simp only [List.map_map, List.flatten_cons, List.flatten_nil, List.append_nil]
    apply List.ext_getElem (by simp)
    intro i h1 h2
    simp only [List.length_map, List.length_range] at h1
    simp only [List.getElem_map, List.getElem_range, Function.comp]
    rw [Nat.add_comm, Nat.add_mul_mod_self_right, Nat.mod_eq_of_lt h1]
    simp [h1]
theorem shp_replicate {α : Type} {S : Shape α} (k : Nat) : S.cells (List.replicate k S.z) = (List.replicate k (S.enc S.z)).flatten := by simp [Shape.cells, List.flatMap]
section
variable {α : Type} {S : Shape α} {w w1 : World} {base : Nat} {A : Option Addr} {n c : Nat} {l : List α}
theorem OS.put {ad : Addr} (h : OS S w base (some ad) n c l) (j : Nat) (u : List α) (hu : S.all u) (hj : j + u.length ≤ n) :
    OS S (w.setCells ad.block (ad.off + j * S.sz) (S.cells u)) base (some ad) n c (l.take j ++ u ++ l.drop (j + u.length)) := by
  have hul := Shape.cells_len hu
  have h2 : (j + u.length) * S.sz ≤ n * S.sz := Nat.mul_le_mul_right _ hj
  have hln := h.len
  refine ⟨?_, ((h.fits.take j).append hu).append (h.fits.drop _)⟩
  have h3 := h.ov.put_in (j * S.sz) (S.cells u) (by rw [hul, ← Nat.add_mul]; exact h2)
  rw [hul, ← Nat.add_mul, Shape.cells_take h.fits j (by omega), Shape.cells_drop h.fits (j + u.length) (by omega), ← Shape.cells_append, ← Shape.cells_append] at h3
  exact h3
/-- copy(s[j:], u) into a slice of one's own; u is read ahead of all writing. -/
theorem run_copy_rows {P : Program} {base : Nat} (W : World) (t ty e : TypeId) (sz : Nat) (ht : P.underlying t = some (.slice e)) (hinfo : (P.info? e).map (·.size) = some sz) (ad : Addr) (n c j : Nat) (xs : List Value) (A2 : Option Addr) (m c2 : Nat) (ys : List Value) (HO : OV W base e sz (some ad) n c xs) (HR : RV W sz A2 m c2 ys) (hj : j ≤ n)
    (hone : ∀ u ∈ ys.take (min m (n - j) * sz), u.oneCell' = true) {d : Option Addr} (hd : d = if c = j then some ad else some (ad.add (j * sz))) (dc : Nat) :
    ∃ w', (Builtin.copy_ #[t, t] ty #[.slice d (n - j) dc, .slice A2 m c2]).run P W = .ok (goInt ((min m (n - j) : Nat) : Int)) w' ∧ OV w' base e sz (some ad) n c (xs.take (j * sz) ++ ys.take (min m (n - j) * sz) ++ xs.drop ((j + min m (n - j)) * sz)) ∧ W.grownBy w' (some ad.block) := by
  obtain ⟨i0, hi, hz1⟩ := Option.map_eq_some_iff.1 hinfo
  have hcap := HO.cap
  have htl := HO.len
  obtain ⟨k, hk⟩ : ∃ k, min m (n - j) = k := ⟨_, rfl⟩
  have hkn : Nat.min m (n - j) = k := hk
  rw [hk] at hone ⊢
  have hRk := HR.take k (by omega)
  have hlk := hRk.len
  have hcells : (Builtin.firstCells i0.size k (.slice A2 m c2)).run P W = .ok (ys.take (k * sz)).toArray W := by
    cases A2 with
    | none =>
      have h0 : k = 0 := by
        rcases Nat.eq_zero_or_pos k with h0 | h0
        · exact h0
        · obtain ⟨ad, e, _⟩ := hRk.cells h0
          cases e
      subst h0
      simp [Builtin.firstCells]
    | some a2 =>
      have := run_loadCells_list (P := P) W a2 (ys.take (k * sz)) (fun q v hq => by
        rcases Nat.eq_zero_or_pos k with h0 | h0
        · subst h0
          simp at hq
        · obtain ⟨ad', e', hc'⟩ := hRk.cells h0
          injection e' with e'
          subst e'
          exact hc' q v hq)
      rw [hlk] at this
      simp only [Builtin.firstCells, hz1]
      exact this
  rcases Nat.eq_zero_or_pos k with h0 | h0
  · subst h0
    refine ⟨W, ?_, by simpa using HO, grown_refl _ _⟩
    have h2 : (Builtin.firstCells i0.size 0 (.slice A2 m c2)).run P W = .ok #[] W := by simpa using hcells
    cases d <;> simp [Builtin.copy_, run_underlying ht, sizeOf, typeInfo, hi, Builtin.lenOf, hkn, h2, storeCells]
  · have hcj : c ≠ j := by omega
    rw [if_neg hcj] at hd
    subst hd
    have hjk : (j + k) * sz ≤ c * sz := Nat.mul_le_mul_right _ (by omega)
    have hjn : (j + k) * sz ≤ n * sz := Nat.mul_le_mul_right _ (by omega)
    rw [Nat.add_mul] at hjk hjn
    have hrun := HO.run_put (P := P) (j * sz) (ys.take (k * sz)) (by rw [hlk]; exact hjk) hone
    refine ⟨W.setCells ad.block (ad.off + j * sz) (ys.take (k * sz)), ?_, ?_, setCells_grown _ _ _ _⟩
    · simp [Builtin.copy_, run_underlying ht, sizeOf, typeInfo, hi, Builtin.lenOf, hkn, hcells, hrun]
    · have := HO.put_in (j * sz) (ys.take (k * sz)) (by rw [hlk]; exact hjn)
      rw [hlk, ← Nat.add_mul] at this
      exact this
theorem Shape.size {α : Type} (S : Shape α) : (Tryd.prog.info? S.t).map (·.size) = some S.sz := by
  obtain ⟨i0, hi, hzz⟩ := Option.map_eq_some_iff.1 S.info
  simp only [Prod.mk.injEq] at hzz
  rw [hi]
  exact congrArg some hzz.2.1
theorem run_copy_shp (S : Shape α) (W : World) (ty : TypeId) (ad : Addr) (n c j : Nat) (t : List α) (A2 : Option Addr) (m c2 : Nat) (u : List α) (HO : OS S W base (some ad) n c t) (HR : RS S W A2 m c2 u) (hj : j ≤ n) {d : Option Addr} (hd : d = if c = j then some ad else some (ad.add (j * S.sz))) (dc : Nat) :
    ∃ w', (Builtin.copy_ #[S.ts, S.ts] ty #[.slice d (n - j) dc, .slice A2 m c2]).run Tryd.prog W = .ok (goInt ((min m (n - j) : Nat) : Int)) w' ∧ OS S w' base (some ad) n c (t.take j ++ u.take (min m (n - j)) ++ t.drop (j + min m (n - j))) ∧ W.grownBy w' (some ad.block) := by
  have htl := HO.len
  have hul := HR.len
  have e1 := Shape.cells_take HR.fits (min m (n - j)) (by omega)
  obtain ⟨w', h1, h2, h3⟩ := run_copy_rows (P := Tryd.prog) W S.ts ty S.t S.sz S.und S.size ad n c j (S.cells t) A2 m c2 (S.cells u) HO.ov HR.rv hj (by rw [e1]; exact Shape.cells_cell _) hd dc
  refine ⟨w', h1, ⟨?_, ((HO.fits.take j).append (HR.fits.take _)).append (HO.fits.drop _)⟩, h3⟩
  rw [e1, Shape.cells_take HO.fits j (by omega), Shape.cells_drop HO.fits _ (by omega), ← Shape.cells_append, ← Shape.cells_append] at h2
  exact h2
/-- What stands behind the end, turned to noughts. -/
theorem run_clear_shp (S : Shape α) (W : World) (ty : TypeId) (ad : Addr) (n c q : Nat) (t : List α) (HO : OS S W base (some ad) n c t) (hq : n + q ≤ c) {d : Option Addr} (hd : d = if c = n then some ad else some (ad.add (n * S.sz))) (dc : Nat) :
    ∃ w', (Builtin.clear_ #[S.ts] ty #[.slice d q dc]).run Tryd.prog W = .ok (.tuple #[]) w' ∧ OS S w' base (some ad) n c t ∧ W.grownBy w' (some ad.block) := by
  obtain ⟨i0, hi, hzz⟩ := Option.map_eq_some_iff.1 S.info
  simp only [Prod.mk.injEq] at hzz
  obtain ⟨hz0, hz1, hz2⟩ := hzz
  have hcap := HO.cap
  rcases Nat.eq_zero_or_pos q with h0 | h0
  · subst h0
    refine ⟨W, ?_, HO, grown_refl _ _⟩
    cases d <;> simp [Builtin.clear_, run_underlying S.und]
  · have hcj : c ≠ n := by omega
    rw [if_neg hcj] at hd
    subst hd
    have hqq : (n + q) * S.sz ≤ c * S.sz := Nat.mul_le_mul_right _ hq
    rw [Nat.add_mul] at hqq
    have hzl : (Builtin.zeroCells (S.val S.z).cells q).toList.length = q * S.sz := by
      rw [Array.length_toList]
      simp [Builtin.zeroCells, S.zc]
    have hz1c : ∀ v ∈ (Builtin.zeroCells (S.val S.z).cells q).toList, v.oneCell' = true := by
      rw [S.zenc, zero_cells _ (by rw [S.len _ S.okz]; exact S.pos), ← shp_replicate]
      exact Shape.cells_cell _
    have hrun := HO.ov.run_put (P := Tryd.prog) (n * S.sz) _ (by rw [hzl]; exact hqq) hz1c
    refine ⟨_, ?_, ⟨HO.ov.put_beyond (n * S.sz) _ (Nat.le_refl _) (by rw [hzl]; exact hqq), HO.fits⟩, setCells_grown _ _ _ _⟩
    obtain ⟨q', rfl⟩ : ∃ q', q = q' + 1 := ⟨q - 1, by omega⟩
    simp [Builtin.clear_, run_underlying S.und, zeroValue, typeInfo, hi, hz0, hrun]
/-- append(s[:i], make([]T, k)...) where there is no room: the first i elements at the begin of a new row, noughts behind them. -/
theorem run_growz_shp (S : Shape α) (W : World) (tn ty : TypeId) (kn kq : IntKind) (htn : Tryd.prog.underlying tn = some (.int kn)) (A : Option Addr) (i c k : Nat) (t : List α) (HR : RS S W A i c t) (h0 : 0 < k) (hg : c < i + k) (hl : i + k ≤ 1000000) (hbase : base ≤ W.heap.size) :
    ∃ ad' c' w', (Builtin.append_ #[S.ts, tn] ty #[.slice A i c, .int kq k]).run Tryd.prog W = .ok (.slice (some ad') (i + k) c') w' ∧ OS S w' base (some ad') (i + k) c' (t ++ List.replicate k S.z) ∧ Below W.heap.size W w' ∧ ad'.block = W.heap.size := by
  obtain ⟨i0, hi, hzz⟩ := Option.map_eq_some_iff.1 S.info
  simp only [Prod.mk.injEq] at hzz
  obtain ⟨hz0, hz1, hz2⟩ := hzz
  have hb1 := S.blt
  have hb2 : (i + k) * S.bytes ≤ 1000000 * 10000 := Nat.mul_le_mul hl hb1
  have hb3 : k * S.bytes ≤ (i + k) * S.bytes := Nat.mul_le_mul_right _ (by omega)
  have hpos := S.pos
  have hrv := HR.rv
  have hold : (Builtin.firstCells i0.size i (.slice A i c)).run Tryd.prog W.drew = .ok (S.cells t).toArray W.drew := by
    cases A with
    | none =>
      have h0 : i = 0 := by
        rcases Nat.eq_zero_or_pos i with h0 | h0
        · exact h0
        · obtain ⟨ad, e, _⟩ := hrv.cells h0
          cases e
      subst h0
      obtain rfl : t = [] := List.eq_nil_of_length_eq_zero HR.len
      rfl
    | some ad =>
      refine run_firstCells_some (P := Tryd.prog) W.drew i0.size i ad i c (S.cells t) (by rw [hz1]; exact hrv.len) (fun j u hu => ?_)
      rcases Nat.eq_zero_or_pos i with h0 | h0
      · subst h0
        have := hrv.len
        have hlt := (List.getElem?_eq_some_iff.1 hu).1
        omega
      · obtain ⟨ad', e', hc'⟩ := hrv.cells h0
        injection e' with e'
        subst e'
        exact hc' j u hu
  have hrun := Lib.run_append_grow_zeros (P := Tryd.prog) W S.ts tn ty S.t i0 (S.val S.z) kq kn S.und htn hi hz0 A i c (S.cells t) hold k h0 (by omega) hg (by omega) (by rw [hz2]; omega) (growslice_fits (by omega) (by rw [hz2]; omega))
  have hge := grownCap_ge W (i + k) c S.t
  have hmx := grownCap_le_maxLen W (i + k) c S.t (by simp only [maxLen]; omega)
  refine ⟨_, _, _, hrun, ⟨?_, HR.fits.append (fun a ha => by rw [List.eq_of_mem_replicate ha]; exact S.okz)⟩, ⟨rfl, rfl, rfl, by simp, fun q hq => Below.heap_alloc W.drew _ q hq⟩, rfl⟩
  have hcl : S.cells (t ++ List.replicate k S.z) = S.cells t ++ (Builtin.zeroCells (S.val S.z).cells k).toList := by
    rw [Shape.cells_append, shp_replicate, S.zenc, zero_cells _ (by rw [S.len _ S.okz]; exact hpos)]
  have hll : (S.cells t ++ (Builtin.zeroCells (S.val S.z).cells k).toList).length = (i + k) * S.sz := by
    rw [List.length_append, hrv.len, Array.length_toList, size_zeroCells, S.zc, ← Nat.add_mul]
  rw [hcl]
  refine ⟨hll, hge, by omega, hmx, fun ad ha => ?_, fun ha => by cases ha⟩
  injection ha with ha
  subst ha
  refine ⟨hbase, rfl, _, heap_alloc_new W.drew _, ?_, fun j v hj => ?_⟩
  · rw [Array.size_append, Array.size_append, show (S.cells t).toArray.size = i * S.sz by rw [List.size_toArray, hrv.len], size_zeroCells, size_zeroCells, S.zc, ← Nat.add_mul, ← Nat.add_mul]
    simp only [Nat.zero_add]
    exact Nat.mul_le_mul_right _ (by omega)
  · have hlt := (List.getElem?_eq_some_iff.1 hj).1
    show _[0 + j]? = some v
    rw [Nat.zero_add, Array.getElem?_append_left (by rw [Array.size_append, List.size_toArray]; rw [List.length_append, Array.length_toList] at hlt; exact hlt), ← Array.getElem?_toList, Array.toList_append]
    exact hj
end
/-- append(v, ys...) where there is room. -/
theorem run_append_room_rows {P : Program} {base : Nat} (W : World) (t ty e : TypeId) (sz : Nat) (ht : P.underlying t = some (.slice e)) (hinfo : (P.info? e).map (·.size) = some sz) (ad : Addr) (n c : Nat) (xs : List Value) (A2 : Option Addr) (m c2 : Nat) (ys : List Value)
    (HO : OV W base e sz (some ad) n c xs) (HR : RV W sz A2 m c2 ys) (hone : ∀ u ∈ ys, u.oneCell' = true) (hroom : n + m ≤ c) (hl : n + m ≤ 140737488355328) :
    ∃ w', (Builtin.append_ #[t, t] ty #[.slice (some ad) n c, .slice A2 m c2]).run P W = .ok (.slice (some ad) (n + m) c) w' ∧ OV w' base e sz (some ad) (n + m) c (xs ++ ys) ∧ W.grownBy w' (some ad.block) := by
  have hm : ys.length = m * sz := HR.len
  obtain ⟨i0, hi, hz1⟩ := Option.map_eq_some_iff.1 hinfo
  rcases A2 with _ | ad2
  · have h0 : m = 0 := by
      rcases Nat.eq_zero_or_pos m with h0 | h0
      · exact h0
      · obtain ⟨ad, e, _⟩ := HR.cells h0
        cases e
    subst h0
    obtain rfl : ys = [] := List.eq_nil_of_length_eq_zero (by simpa using hm)
    refine ⟨W, ?_, by simpa using HO, grown_refl _ _⟩
    have hcap := HO.cap
    simp [Builtin.append_, run_underlying ht, sizeOf, typeInfo, hi, Builtin.lenOf, Builtin.firstCells, hcap, storeCells]
  · have hcells : ∀ j u, ys[j]? = some u → W.cell? (ad2.add j) = some u := by
      intro j u hu
      have hj : j < ys.length := (List.getElem?_eq_some_iff.1 hu).1
      obtain ⟨ad', h', hc⟩ := HR.cells (by rcases Nat.eq_zero_or_pos m with h0 | h0; (subst h0; omega); exact h0)
      injection h' with h'
      subst h'
      exact hc j u hu
    obtain ⟨hb, hs, cur, hh, hfit, hcs⟩ := HO.form ad rfl
    obtain ⟨g, off, spot⟩ := ad
    simp only at hs hb hh hfit hcs
    subst hs
    have hns : (n + m) * sz ≤ c * sz := Nat.mul_le_mul_right _ hroom
    rw [Nat.add_mul] at hns
    subst hz1
    have hr := run_append_room_cells (P := P) W t ty e i0 ht hi g off n c ad2 m c2 ys hm hcells hone hroom
      (fun j hj => by rw [blk_cell hh, Array.getElem?_eq_getElem (by omega)]; rfl) (fun j _ => blk_frozen hh _)
    obtain ⟨cur', h3, h4, h5⟩ := setCells_row ys (off + n * i0.size) W cur hh (by omega)
    refine ⟨_, hr, ⟨by rw [List.length_append, HO.len, hm, Nat.add_mul], hroom, by omega, HO.capmax, fun ad' ha => ?_, fun ha => by cases ha⟩, setCells_grown _ _ _ _⟩
    injection ha with ha
    subst ha
    refine ⟨hb, rfl, cur', h3, by rw [h4]; exact hfit, fun j v hj => ?_⟩
    have hxl := HO.len
    show cur'[off + j]? = some v
    rw [h5]
    by_cases hjx : j < xs.length
    · rw [List.getElem?_append_left hjx] at hj
      rw [if_neg (by omega)]
      exact hcs j v hj
    · rw [List.getElem?_append_right (by omega)] at hj
      have hlt := (List.getElem?_eq_some_iff.1 hj).1
      rw [if_pos (by omega), show off + j - (off + n * i0.size) = j - xs.length by omega]
      exact hj
section
variable {α : Type} {base : Nat}
theorem run_append_room_shp (S : Shape α) (W : World) (ty : TypeId) (ad : Addr) (n c : Nat) (t : List α) (A2 : Option Addr) (m c2 : Nat) (u : List α) (HO : OS S W base (some ad) n c t) (HR : RS S W A2 m c2 u) (hroom : n + m ≤ c) (hl : n + m ≤ 10000000) :
    ∃ w', (Builtin.append_ #[S.ts, S.ts] ty #[.slice (some ad) n c, .slice A2 m c2]).run Tryd.prog W = .ok (.slice (some ad) (n + m) c) w' ∧ OS S w' base (some ad) (n + m) c (t ++ u) ∧ W.grownBy w' (some ad.block) := by
  obtain ⟨w', h1, h2, h3⟩ := run_append_room_rows (P := Tryd.prog) W S.ts ty S.t S.sz S.und S.size ad n c (S.cells t) A2 m c2 (S.cells u) HO.ov HR.rv (Shape.cells_cell _) hroom (by omega)
  exact ⟨w', h1, ⟨by rw [Shape.cells_append]; exact h2, HO.fits.append HR.fits⟩, h3⟩
end
section
variable {o : Oper} {a : Act}
theorem exec_copy {W w' : World} (d s : Operand) (ts : Array TypeId) (ho : o.op = .call { callee := .builtin .copy, args := #[d, s], argTypes := ts }) {vd vs v : Value} (hd : a.eval d = vd) (hs : a.eval s = vs)
    (hr : (Builtin.copy_ ts o.type #[vd, vs]).run Tryd.prog W = .ok v w') : (execOp a.eval o).run Tryd.prog W = .ok (.value v) w' := by
  unfold execOp
  simp only [ho, resolve, invoke, builtin, Sem.run_bind, Sem.run_pure, Result.andThen_ok, List.map_toArray, List.map_cons, List.map_nil, hd, hs, hr]
theorem exec_clear {W w' : World} (d : Operand) (ts : Array TypeId) (ho : o.op = .call { callee := .builtin .clear, args := #[d], argTypes := ts }) {vd v : Value} (hd : a.eval d = vd)
    (hr : (Builtin.clear_ ts o.type #[vd]).run Tryd.prog W = .ok v w') : (execOp a.eval o).run Tryd.prog W = .ok (.value v) w' := by
  unfold execOp
  simp only [ho, resolve, invoke, builtin, Sem.run_bind, Sem.run_pure, Result.andThen_ok, List.map_toArray, List.map_cons, List.map_nil, hd, hr]
end
section
variable {α : Type} (S : Shape α) (A : Option Addr) (n c : Nat)
theorem Shape.elem : Tryd.prog.elem S.ts = S.t := by
  have h := S.und
  simp [Program.elem, h]
theorem Shape.undE : Tryd.prog.underlying S.ts = some (.slice (Tryd.prog.elem S.ts)) := by rw [S.elem]; exact S.und
theorem Shape.run_size (W : World) : (sizeOf S.t).run Tryd.prog W = .ok S.sz W := by
  obtain ⟨i0, hi, hz1⟩ := Option.map_eq_some_iff.1 S.size
  simp [sizeOf, typeInfo, hi, hz1]
theorem cutL (q : Int) (j : Nat) (hq : q = j) (hj : j ≤ n) (W : World) : (Instr.slice S.ts (.slice A n c) (some (.int .i64 q)) none none).run Tryd.prog W = .ok (.slice (if c = j then A else A.map (·.add (j * S.sz))) (n - j) (c - j)) W := by
  subst hq
  rw [run_slice_l W S.ts A n c S.undE .i64 j (by omega) (by omega), S.elem, S.run_size]
  simp [sliced, Result.andThen]
theorem cutH (r : Int) (k : Nat) (hr : r = k) (hk : k ≤ c) (W : World) : (Instr.slice S.ts (.slice A n c) none (some (.int .i64 r)) none).run Tryd.prog W = .ok (.slice A k c) W := by
  subst hr
  rw [run_slice_h W S.ts A n c S.undE .i64 k (by omega) (by omega), S.elem, S.run_size]
  have h0 : (fun x : Addr => x.add 0) = id := by funext x; simp [Addr.add]
  simp [sliced, Result.andThen, h0]
theorem cutLH (q r : Int) (j k : Nat) (hq : q = j) (hr : r = k) (hj : j ≤ k) (hk : k ≤ c) (W : World) : (Instr.slice S.ts (.slice A n c) (some (.int .i64 q)) (some (.int .i64 r)) none).run Tryd.prog W = .ok (.slice (if c = j then A else A.map (·.add (j * S.sz))) (k - j) (c - j)) W := by
  subst hq; subst hr
  rw [run_slice_lh W S.ts A n c S.undE .i64 .i64 j k (by omega) (by omega) (by omega), S.elem, S.run_size]
  simp [sliced, Result.andThen]
theorem cutLHM (q r m : Int) (j k l : Nat) (hq : q = j) (hr : r = k) (hm : m = l) (hj : j ≤ k) (hk : k ≤ l) (hl : l ≤ c) (W : World) : (Instr.slice S.ts (.slice A n c) (some (.int .i64 q)) (some (.int .i64 r)) (some (.int .i64 m))).run Tryd.prog W = .ok (.slice (if l = j then A else A.map (·.add (j * S.sz))) (k - j) (l - j)) W := by
  subst hq; subst hr; subst hm
  rw [run_slice_lhm W S.ts A n c S.undE .i64 .i64 .i64 j k l (by omega) (by omega) (by omega) (by omega), S.elem, S.run_size]
  simp [sliced, Result.andThen]
end
theorem OV.extendTo {w : World} {base : Nat} {e : TypeId} {sz : Nat} {ad : Addr} {n c : Nat} {cs : List Value} (h : OV w base e sz (some ad) n c cs) (k : Nat) (hn : n ≤ k) (hk : k ≤ c) (hm : k ≤ 281474976710656) : ∃ more, OV w base e sz (some ad) k c (cs ++ more) := by
  have h1 := h.take n k (Nat.le_refl _) hn hk
  rw [List.take_of_length_le (by rw [h.len]; exact Nat.le_refl _)] at h1
  obtain ⟨more, h2⟩ := h1.extend hm
  refine ⟨more, h2.len, hk, hm, h.capmax, fun ad' ha => ?_, fun ha => by cases ha⟩
  injection ha with ha
  subst ha
  obtain ⟨a1, a2, cur, a3, a4, a5⟩ := h.form _ rfl
  obtain ⟨b1, b2, cur2, b3, b4, b5⟩ := h2.form _ rfl
  rw [a3] at b3
  injection b3 with b3
  injection b3 with b3
  subst b3
  exact ⟨a1, a2, cur, a3, a4, b5⟩
theorem shift_list {β : Type} (cs more er : List β) (sz j n : Nat) (hcs : cs.length = n * sz) (hm : (cs ++ more).length = (n + 1) * sz) (her : er.length = sz) (hj : j ≤ n) :
    (((cs ++ more).take ((j + 1) * sz) ++ ((cs ++ more).drop (j * sz)).take ((n - j) * sz) ++ (cs ++ more).drop ((j + 1 + (n - j)) * sz)).take (j * sz) ++ er.take (1 * sz) ++
      ((cs ++ more).take ((j + 1) * sz) ++ ((cs ++ more).drop (j * sz)).take ((n - j) * sz) ++ (cs ++ more).drop ((j + 1 + (n - j)) * sz)).drop ((j + 1) * sz)) = cs.take (j * sz) ++ er ++ cs.drop (j * sz) := by
  have h1 : j * sz ≤ n * sz := Nat.mul_le_mul_right _ hj
  have h2 : (j + 1) * sz = j * sz + sz := by rw [Nat.add_mul, Nat.one_mul]
  have h3 : (n + 1) * sz = n * sz + sz := by rw [Nat.add_mul, Nat.one_mul]
  have h4 : (n - j) * sz = n * sz - j * sz := Nat.sub_mul _ _ _
  have h5 : (j + 1 + (n - j)) * sz = n * sz + sz := by rw [show j + 1 + (n - j) = n + 1 by omega, h3]
  rw [h3] at hm
  rw [h5, List.drop_eq_nil_of_le (by omega : (cs ++ more).length ≤ n * sz + sz), List.append_nil]
  have e1 : ((cs ++ more).drop (j * sz)).take ((n - j) * sz) = cs.drop (j * sz) := by
    rw [List.drop_append_of_le_length (by omega), List.take_append_of_le_length (by rw [List.length_drop]; omega), List.take_of_length_le (by rw [List.length_drop]; omega)]
  rw [e1, Nat.one_mul, List.take_of_length_le (by omega : er.length ≤ sz)]
  have l1 : ((cs ++ more).take ((j + 1) * sz)).length = (j + 1) * sz := by rw [List.length_take]; omega
  congr 1
  · congr 1
    rw [List.take_append_of_le_length (by omega), List.take_take, Nat.min_eq_left (by omega), List.take_append_of_le_length (by omega)]
  · exact List.drop_left' l1
theorem grow_list {β : Type} (t : List β) (r z : β) (j n : Nat) (ht : t.length = n) (hj : j ≤ n) :
    ((t.take j ++ List.replicate (n + 1 - j) z).take j ++ [r].take (min 1 (n + 1 - j)) ++ (t.take j ++ List.replicate (n + 1 - j) z).drop (j + min 1 (n + 1 - j))).take (j + 1) ++ (t.drop j).take (min (n - j) (n + 1 - (j + 1))) ++
      ((t.take j ++ List.replicate (n + 1 - j) z).take j ++ [r].take (min 1 (n + 1 - j)) ++ (t.take j ++ List.replicate (n + 1 - j) z).drop (j + min 1 (n + 1 - j))).drop (j + 1 + min (n - j) (n + 1 - (j + 1))) = t.take j ++ r :: t.drop j := by
  have l1 : (t.take j).length = j := by rw [List.length_take]; omega
  rw [Nat.min_eq_left (by omega : 1 ≤ n + 1 - j), Nat.min_eq_left (by omega : n - j ≤ n + 1 - (j + 1)), List.take_left' l1]
  have l2 : (t.take j ++ [r].take 1).length = j + 1 := by simp [l1]
  have l3 : (t.take j ++ [r].take 1 ++ (t.take j ++ List.replicate (n + 1 - j) z).drop (j + 1)).length = n + 1 := by
    simp only [List.length_append, List.length_drop, l1, List.length_replicate, List.take_succ_cons, List.take_nil, List.length_cons, List.length_nil]
    omega
  rw [List.take_left' l2, List.take_of_length_le (by rw [List.length_drop]; omega : (t.drop j).length ≤ n - j), show (t.take j ++ [r].take 1 ++ (t.take j ++ List.replicate (n + 1 - j) z).drop (j + 1)).drop (j + 1 + (n - j)) = [] from List.drop_eq_nil_of_le (by rw [l3]; omega)]
  simp
/-- One cell of one element, written. -/
theorem OS.patch {α : Type} {S : Shape α} {w : World} {base n c : Nat} {ad : Addr} {l : List α} (h : OS S w base (some ad) n c l) {i : Nat} (hi : i < n) (b : α) (hb : S.ok b) (k : Nat) (v : Value) (hk : k < S.sz) (he : S.enc b = (S.enc (S.at_ l i)).take k ++ v :: (S.enc (S.at_ l i)).drop (k + 1)) :
    (∃ u, w.cell? ⟨ad.block, ad.off + (i * S.sz + k), none⟩ = some u) ∧ w.frozen? ⟨ad.block, ad.off + (i * S.sz + k), none⟩ = false ∧ OS S (w.setCell ⟨ad.block, ad.off + (i * S.sz + k), none⟩ v) base (some ad) n c (l.take i ++ b :: l.drop (i + 1)) := by
  have hln := h.len
  have hcap := h.cap
  obtain ⟨q1, q2, cur, q3, q4, q5⟩ := h.ov.form _ rfl
  have h1 : (i + 1) * S.sz ≤ n * S.sz := Nat.mul_le_mul_right _ hi
  have h2 : n * S.sz ≤ c * S.sz := Nat.mul_le_mul_right _ hcap
  rw [Nat.add_mul, Nat.one_mul] at h1
  refine ⟨?_, blk_frozen q3 _, ?_, ?_⟩
  · rw [blk_cell q3, Array.getElem?_eq_getElem (by omega)]
    exact ⟨_, rfl⟩
  · have h3 := h.ov.put_in (i * S.sz + k) [v] (by simp; omega)
    have hE := S.len _ (h.fits.at_ (by rw [hln]; exact hi))
    have e1 : S.cells l = S.cells (l.take i) ++ (S.enc (S.at_ l i) ++ S.cells (l.drop (i + 1))) := by
      conv => lhs; rw [Shape.split_at (S := S) (l := l) (i := i) (by omega)]
      rw [Shape.cells_append]
      rfl
    have l1 : (S.cells (l.take i)).length = i * S.sz := by rw [Shape.cells_len (h.fits.take i), List.length_take, Nat.min_eq_left (by omega)]
    have e2 : (S.cells l).take (i * S.sz + k) = S.cells (l.take i) ++ (S.enc (S.at_ l i)).take k := by
      rw [e1, List.take_append, l1, List.take_of_length_le (by omega), Nat.add_sub_cancel_left, List.take_append_of_le_length (by omega)]
    have e3 : (S.cells l).drop (i * S.sz + k + 1) = (S.enc (S.at_ l i)).drop (k + 1) ++ S.cells (l.drop (i + 1)) := by
      rw [e1, List.drop_append, l1, List.drop_eq_nil_of_le (by omega), List.nil_append, show i * S.sz + k + 1 - i * S.sz = k + 1 by omega, List.drop_append_of_le_length (by omega)]
    have e4 : S.cells (l.take i ++ b :: l.drop (i + 1)) = (S.cells l).take (i * S.sz + k) ++ [v] ++ (S.cells l).drop (i * S.sz + k + [v].length) := by
      rw [Shape.cells_append, Shape.cells_cons, he, e2, show i * S.sz + k + [v].length = i * S.sz + k + 1 from rfl, e3]
      simp
    rw [e4]
    exact h3
  · refine (h.fits.take i).append (fun x hx => ?_)
    rcases List.mem_cons.1 hx with rfl | hx
    · exact hb
    · exact h.fits.drop _ x hx
/-- A slice literal. -/
theorem run_lit_shp {α : Type} (S : Shape α) (W : World) (l : List α) (hf : S.all l) (hn : 0 < l.length) (hs : l.length * S.sz ≤ 16777216) (parts : Array (Nat × Value)) (hp : parts.toList = ((l.map S.val).zipIdx 0).map fun x => (x.2, x.1)) :
    (Instr.buildSlice S.ts l.length parts).run Tryd.prog W = .ok (.slice (some ⟨W.heap.size, 0, none⟩) l.length l.length) (W.alloc (.cells (S.cells l).toArray S.t)) := by
  obtain ⟨i0, hi, hzz⟩ := Option.map_eq_some_iff.1 S.info
  simp only [Prod.mk.injEq] at hzz
  obtain ⟨hz0, hz1, hz2⟩ := hzz
  have hpos := S.pos
  have hmul : 0 < l.length * S.sz := Nat.mul_pos hn hpos
  refine run_buildSlice W S.ts S.t l.length parts (S.cells l).toArray i0 (S.val S.z) S.und hi hz0 (by rw [hz1]; omega) (by rw [hz1]; omega) ?_
  rw [hp, hz1]
  have h1 : ∀ v ∈ l.map S.val, v.cells.size = S.sz := by
    intro v hv
    obtain ⟨a, ha, rfl⟩ := List.mem_map.1 hv
    rw [S.venc, List.size_toArray, S.len a (hf a ha)]
  rw [Great.fill_whole hpos _ _ h1 (by simp)]
  congr 2
  rw [List.flatMap_map]
  unfold Shape.cells
  congr 1
  funext a
  rw [S.venc]
theorem exec_lit1 {α : Type} (S : Shape α) {r : Operand → Value} {o : Oper} {x : Operand} (ho : o.op = .buildSlice S.ts 1 #[(0, x)]) (b : α) (hx : r x = S.val b) (hb : S.ok b) (hs : S.sz ≤ 16777216) (W : World) :
    (execOp r o).run Tryd.prog W = .ok (.value (.slice (some ⟨W.heap.size, 0, none⟩) 1 1)) (W.alloc (.cells (S.enc b).toArray S.t)) := by
  have h := run_lit_shp S W [b] (Shape.all_one hb) (by simp) (by simpa using hs) #[(0, S.val b)] rfl
  rw [Shape.cells_one] at h
  unfold execOp
  have e : (#[(0, x)].map fun (p : Nat × Operand) => (p.1, r p.2)) = #[(0, S.val b)] := by simp [hx]
  simp only [ho, Sem.run_bind]
  have h2 : (Instr.buildSlice S.ts 1 (#[(0, x)].map fun (p : Nat × Operand) => (p.1, r p.2))).run Tryd.prog W = .ok (.slice (some ⟨W.heap.size, 0, none⟩) 1 1) (W.alloc (.cells (S.enc b).toArray S.t)) := by rw [e]; exact h
  rw [h2]
  rfl
/-- One cell of a block, stored. -/
theorem run_store_cell {P : Program} {w : World} {g : Nat} {cs : Array Value} {t : TypeId} (h : w.heap[g]? = some (.cells cs t (0, 0))) (ty : TypeId) (o : Nat) (v : Value) (hfit : o < cs.size) (hi : (P.info? ty).map (·.size) = some 1) (h1 : v.cells = #[v]) (h2 : v.oneCell' = true) :
    ∃ w', (Instr.storeAt ty (.pointer (some ⟨g, o, none⟩)) v).run P w = .ok () w' ∧ w.grownBy w' (some g) ∧ w'.heap.size = w.heap.size ∧ w'.heap[g]? = some (.cells (cs.setIfInBounds o v) t (0, 0)) := by
  obtain ⟨w', hr, h3, h4, h5⟩ := run_store_blk (P := P) h ty o #[v] (by simp; omega) hi (by simp [h2])
  refine ⟨w', ?_, h3, h4, ?_⟩
  · rw [← hr]
    have e : (Value.agg #[v]).cells = v.cells := by rw [h1]; rfl
    simp only [Instr.storeAt, storeVar, e]
  · rw [h5]
    congr 2
    apply Array.ext_getElem?
    intro j
    rw [splice_get cs o _ (by simp; omega)]
    by_cases hj : o = j
    · subst hj
      simp [hfit]
    · rw [if_neg (by simp; omega), Array.getElem?_setIfInBounds_ne hj]
theorem wpList_store_cell {P : Program} {w : World} {g : Nat} {cs : Array Value} {t : TypeId} {ops : Array Oper} {rest : List Oper} {op : Oper} {a : Act} {Q : Exit → Act → World → Prop} (hb : w.heap[g]? = some (.cells cs t (0, 0))) (ty : TypeId) (o : Nat) (v : Value)
    (hfit : o < cs.size) (hi : (P.info? ty).map (·.size) = some 1) (h1 : v.cells = #[v]) (h2 : v.oneCell' = true)
    (x y : Operand) (ho : op.op = .store ty x y) (hx : a.eval x = .pointer (some ⟨g, o, none⟩)) (hy : a.eval y = v) (hw : Region.wanted op (yielded ops a.tmps) = true)
    (h : ∀ w', w.grownBy w' (some g) → w'.heap.size = w.heap.size → w'.heap[g]? = some (.cells (cs.setIfInBounds o v) t (0, 0)) → wpList P ops Q rest (a.put op.dst undef) w') : wpList P ops Q (op :: rest) a w := by
  obtain ⟨w', hr, h3, h4, h5⟩ := run_store_cell (P := P) hb ty o v hfit hi h1 h2
  refine wpList_step (fun K hK => ?_)
  rw [if_pos hw]
  unfold Oper.wp execOp
  simp only [ho, hx, hy, Sem.run_bind, hr, Result.andThen_ok, Sem.run_pure]
  exact hK _ _ (h w' h3 h4 h5)
theorem oper_store_cell {P : Program} {w : World} {g : Nat} {cs : Array Value} {t : TypeId} {op : Oper} {a : Act} {K : Act → World → Prop} {Q : Exit → Act → World → Prop} (hb : w.heap[g]? = some (.cells cs t (0, 0))) (ty : TypeId) (o : Nat) (v : Value)
    (hfit : o < cs.size) (hi : (P.info? ty).map (·.size) = some 1) (h1 : v.cells = #[v]) (h2 : v.oneCell' = true)
    (x y : Operand) (ho : op.op = .store ty x y) (hx : a.eval x = .pointer (some ⟨g, o, none⟩)) (hy : a.eval y = v)
    (h : ∀ w', w.grownBy w' (some g) → w'.heap.size = w.heap.size → w'.heap[g]? = some (.cells (cs.setIfInBounds o v) t (0, 0)) → K (a.put op.dst undef) w') : op.wp P a w K Q := by
  obtain ⟨w', hr, h3, h4, h5⟩ := run_store_cell (P := P) hb ty o v hfit hi h1 h2
  unfold Oper.wp execOp
  simp only [ho, hx, hy, Sem.run_bind, hr, Result.andThen_ok, Sem.run_pure]
  exact h w' h3 h4 h5
/-- Equality of elements. -/
structure ShapeEq {α : Type} (S : Shape α) where
  okE : α → Prop
  eqB : α → α → Bool
  iff : ∀ a b, eqB a b = true ↔ a = b
  eql : ∀ {r : Operand → Value} {o : Oper} {x y : Operand} {ty : TypeId}, o.op = .binOp .eql S.t x y ty → ∀ a b, r x = S.val a → r y = S.val b → okE a → okE b → ∀ w, (execOp r o).run Tryd.prog w = .ok (.value (.bool (eqB a b))) w
  neq : ∀ {r : Operand → Value} {o : Oper} {x y : Operand} {ty : TypeId}, o.op = .binOp .neq S.t x y ty → ∀ a b, r x = S.val a → r y = S.val b → okE a → okE b → ∀ w, (execOp r o).run Tryd.prog w = .ok (.value (.bool (!eqB a b))) w
section
variable {α : Type} {S : Shape α} (E : ShapeEq S)
def ShapeEq.eqL : List α → List α → Bool
  | [], [] => true
  | a :: s, b :: t => E.eqB a b && ShapeEq.eqL s t
  | _, _ => false
theorem ShapeEq.eqL_iff : ∀ s t : List α, E.eqL s t = true ↔ s = t
  | [], [] => by simp [ShapeEq.eqL]
  | [], _ :: _ => by simp [ShapeEq.eqL]
  | _ :: _, [] => by simp [ShapeEq.eqL]
  | a :: s, b :: t => by simp [ShapeEq.eqL, E.iff, ShapeEq.eqL_iff s t]
def ShapeEq.all (l : List α) : Prop := ∀ a ∈ l, E.okE a
theorem ShapeEq.all_at {E : ShapeEq S} {l : List α} (h : E.all l) {i : Nat} (hi : i < l.length) : E.okE (S.at_ l i) := h _ (List.mem_of_getElem? (Shape.at_get hi))
theorem ShapeEq.eqL_no {E : ShapeEq S} {s t : List α} {i : Nat} (hs : i < s.length) (ht : i < t.length) (h : E.eqB (S.at_ s i) (S.at_ t i) = false) : E.eqL s t = false := by
  rw [Bool.eq_false_iff]
  intro k
  rw [E.eqL_iff] at k
  subst k
  rw [Bool.eq_false_iff] at h
  exact h ((E.iff _ _).2 rfl)
theorem ShapeEq.eqL_len {E : ShapeEq S} {s t : List α} (h : s.length ≠ t.length) : E.eqL s t = false := by
  rw [Bool.eq_false_iff]
  intro k
  rw [E.eqL_iff] at k
  exact h (by rw [k])
theorem ShapeEq.eqL_yes {E : ShapeEq S} {s t : List α} (hl : s.length = t.length) (h : ∀ i, i < s.length → E.eqB (S.at_ s i) (S.at_ t i) = true) : E.eqL s t = true := by
  rw [E.eqL_iff]
  apply List.ext_getElem? 
  intro i
  by_cases hi : i < s.length
  · rw [Shape.at_get (S := S) hi, Shape.at_get (S := S) (by omega)]
    exact congrArg some ((E.iff _ _).1 (h i hi))
  · rw [List.getElem?_eq_none_iff.2 (by omega), List.getElem?_eq_none_iff.2 (by omega)]
end
end Go.Proofs.YtihfaknflfmohaaDoor

/- Arguments that are slices of elements of whatever shape, opened; nested ones too. -/
namespace Go.Proofs.YtihfaknflfmohaaDoor
open Go.ChangeShapes Go.WideShapes Go.ChangeAt Go.RowKit
set_option linter.unusedVariables false
set_option linter.unusedSimpArgs false
set_option maxRecDepth 4000
section
variable {H : Type} {enc : TypeId × Value → H} {P : Program} {W : World} {base : Nat} {spare : Nat → Bool} {held : Bool}
/-- All that lies in a datum has its weight. -/
def Light (P : Program) (t : TypeId) (d : DataW H) : Prop := ∀ n ∈ d.weights P t, n ≤ reachBytes
theorem light_of {ts : List TypeId} {ds : List (DataW H)} {j : Nat} {t : TypeId} {d : DataW H} (hsz : (DataW.weightsEach P ts ds).all (· ≤ reachBytes) = true) (ht : ts[j]? = some t) (hd : ds[j]? = some d) : Light P t d := fun n hn => by
  have := List.all_eq_true.1 hsz _ (DataW.weights_mem_each ht hd n hn)
  simpa using this
theorem light_field {t : TypeId} {fs : Array Field} (hu : P.underlying t = some (.struct fs)) {xs : List (DataW H)} (h : Light P t (.agg xs)) {i : Nat} {f : Field} {d : DataW H} (hf : fs[i]? = some f) (hx : xs[i]? = some d) : Light P f.type d := fun n hn => by
  refine h n ?_
  simp only [DataW.weights, hu]
  refine DataW.weights_mem_each (j := i) (t := f.type) ?_ hx n hn
  rw [List.getElem?_map, Array.getElem?_toList, hf]
  rfl
theorem weights_mem_all {e : TypeId} : ∀ {ds : List (DataW H)} {i : Nat} {d : DataW H}, ds[i]? = some d → ∀ n ∈ d.weights P e, n ∈ DataW.weightsAll P e ds
  | d0 :: ds, 0, d, hd, n, hn => by
    simp only [List.getElem?_cons_zero, Option.some.injEq] at hd
    subst hd
    simp only [DataW.weightsAll, List.mem_append]
    exact .inl hn
  | d0 :: ds, i + 1, d, hd, n, hn => by
    simp only [List.getElem?_cons_succ] at hd
    simp only [DataW.weightsAll, List.mem_append]
    exact .inr (weights_mem_all hd n hn)
  | [], _, _, hd, _, _ => by simp at hd
theorem light_elem {t e : TypeId} (hu : P.underlying t = some (.slice e)) {es sp : List (DataW H)} (h : Light P t (.slice es sp)) {i : Nat} {d : DataW H} (hx : es[i]? = some d) : Light P e d := fun n hn => by
  refine h n ?_
  simp only [DataW.weights, hu, List.mem_cons, List.mem_append]
  exact .inr (.inl (weights_mem_all hx n hn))
theorem light_len {t e : TypeId} (hu : P.underlying t = some (.slice e)) {es sp : List (DataW H)} (h : Light P t (.slice es sp)) : es.length * P.bytesOf e ≤ reachBytes := by
  have h1 : (es.length + sp.length) * P.bytesOf e ≤ reachBytes := h _ (by simp only [DataW.weights, hu, List.mem_cons, true_or])
  exact Nat.le_trans (Nat.mul_le_mul_right _ (Nat.le_add_right _ _)) h1
/-- A slice, its elements one by one. -/
theorem open_elems {t e : TypeId} {m : Nat} (hu : P.underlying t = some (.slice e)) (hm : P.cellsOf e = m) {cs : List Value} {fuel : Nat} {x : DataW H × List MemPlace}
    (h : DataW.trod enc P W base spare held fuel t cs = some x) (hl : Light P t x.1) :
    ∃ A len cap, cs = [.slice A len cap] ∧ len ≤ cap ∧ len * P.bytesOf e ≤ reachBytes ∧ (len = 0 ∨ ∃ (ad : Addr) (rows : Nat → List Value), A = some ad ∧ ∀ i, i < len → (rows i).length = m ∧ (∀ j, j < m → W.cell? ((ad.add (i * m)).add j) = (rows i)[j]?) ∧ ∃ n y, DataW.trod enc P W base spare held n e (rows i) = some y ∧ Light P e y.1) := by
  rcases DataW.trod_slice hu h with ⟨hcs, -⟩ | ⟨a, l, c, elems, rest, n, -, hcs, hx, -, hlc, -, hel, hc, -, -⟩
  · exact ⟨none, 0, 0, hcs, Nat.le_refl _, by simp, .inl rfl⟩
  · subst hx
    have hll := light_len hu hl
    rw [List.length_map, hel] at hll
    refine ⟨some a, l, c, hcs, hlc, hll, ?_⟩
    rcases Nat.eq_zero_or_pos l with h0 | h0
    · exact .inl h0
    · right
      rw [hm] at hc
      refine ⟨a, fun i => (W.cells? base (a.add (i * m)) m).getD [], rfl, fun i hi => ?_⟩
      have h1 := hc i hi
      cases hcs : W.cells? base (a.add (i * m)) m with
      | none =>
        rw [hcs] at h1
        simp at h1
        omega
      | some cs =>
        obtain ⟨-, hl2, hcell⟩ := World.cells?_some hcs
        rw [hcs] at h1
        simp only [Option.bind_some] at h1
        simp only [hcs, Option.getD_some]
        refine ⟨hl2, hcell, n, elems[i]'(by omega), ?_, light_elem hu hl (i := i) ?_⟩
        · rw [h1, List.getElem?_eq_getElem (by omega)]
        · simp [List.getElem?_eq_getElem (show i < elems.length by omega)]
end
theorem Shape.cells_get {α : Type} {S : Shape α} {l : List α} (hf : S.all l) (k : Nat) : (S.cells l)[k]? = (l[k / S.sz]?).bind (fun a => (S.enc a)[k % S.sz]?) := by
  have h1 : ∀ v ∈ l.map S.val, v.cells.size = S.sz := by
    intro v hv
    obtain ⟨a, ha, rfl⟩ := List.mem_map.1 hv
    rw [S.venc, List.size_toArray, S.len a (hf a ha)]
  have h2 := Great.flat_get S.pos (l.map S.val) h1 k
  have e : ((l.map S.val).flatMap fun v => v.cells.toList) = S.cells l := by
    rw [List.flatMap_map]
    unfold Shape.cells
    congr 1
    funext a
    rw [S.venc]
  rw [e] at h2
  rw [h2, List.getElem?_map]
  cases l[k / S.sz]? with
  | none => rfl
  | some a =>
    simp only [Option.map_some, Option.bind_some, S.venc]
    simp
theorem open_shp {H : Type} {enc : TypeId × Value → H} {W : World} {base : Nat} {spare : Nat → Bool} {held : Bool} {α : Type} (S : Shape α) (X : α → Prop) (hm : Tryd.prog.cellsOf S.t = S.sz) (hB : 0 < Tryd.prog.bytesOf S.t)
    (helem : ∀ fuel cs y, DataW.trod enc Tryd.prog W base spare held fuel S.t cs = some y → Light Tryd.prog S.t y.1 → ∃ a, cs = S.enc a ∧ S.ok a ∧ X a) {cs : List Value} {fuel : Nat} {x : DataW H × List MemPlace}
    (h : DataW.trod enc Tryd.prog W base spare held fuel S.ts cs = some x) (hl : Light Tryd.prog S.ts x.1) :
    ∃ A len cap l, cs = [.slice A len cap] ∧ RS S W A len cap l ∧ (∀ a ∈ l, X a) ∧ len * Tryd.prog.bytesOf S.t ≤ reachBytes := by
  obtain ⟨A, len, cap, hcs, hlc, hll, h0 | ⟨ad, rows, rfl, hr⟩⟩ := open_elems S.und hm h hl
  · subst h0
    exact ⟨A, 0, cap, [], hcs, RS.nil S W A cap, fun a ha => (by cases ha), hll⟩
  · have hrow : ∀ i, i < len → ∃ a, rows i = S.enc a ∧ S.ok a ∧ X a := fun i hi => by
      obtain ⟨-, -, n, y, hy, hly⟩ := hr i hi
      exact helem n _ y hy hly
    obtain ⟨f, hfun⟩ : ∃ f : Nat → α, ∀ i, i < len → rows i = S.enc (f i) ∧ S.ok (f i) ∧ X (f i) :=
      ⟨fun i => if hi : i < len then Classical.choose (hrow i hi) else S.z, fun i hi => by
        have := Classical.choose_spec (hrow i hi)
        simp only [hi, dif_pos]
        exact this⟩
    have hmem : ∀ a ∈ (List.range len).map f, ∃ i, i < len ∧ a = f i := fun a ha => by
      obtain ⟨i, hi, rfl⟩ := List.mem_map.1 ha
      exact ⟨i, by simpa using hi, rfl⟩
    have hall : S.all ((List.range len).map f) := fun a ha => by
      obtain ⟨i, hi, rfl⟩ := hmem a ha
      exact (hfun i hi).2.1
    have hsm : len ≤ 281474976710656 := by
      have h2 : len ≤ len * Tryd.prog.bytesOf S.t := Nat.le_mul_of_pos_right _ hB
      have h3 := reachBytes_lt
      omega
    refine ⟨some ad, len, cap, (List.range len).map f, hcs, ⟨⟨by rw [Shape.cells_len hall]; simp, hlc, hsm, fun hp => ⟨ad, rfl, fun j v hj => ?_⟩⟩, hall⟩, fun a ha => ?_, hll⟩
    · rw [Shape.cells_get hall] at hj
      have hpos := S.pos
      have hdm := Nat.div_add_mod' j S.sz
      cases hq : ((List.range len).map f)[j / S.sz]? with
      | none => rw [hq] at hj; cases hj
      | some a =>
        rw [hq] at hj
        simp only [Option.bind_some] at hj
        have hlt : j / S.sz < len := by
          have := (List.getElem?_eq_some_iff.1 hq).1
          simpa using this
        have hfa : a = f (j / S.sz) := by
          rw [List.getElem?_map, List.getElem?_range hlt] at hq
          simpa using hq.symm
        have h1 := (hr _ hlt).2.1 (j % S.sz) (Nat.mod_lt _ hpos)
        rw [add_add, hdm, (hfun _ hlt).1, ← hfa, hj] at h1
        exact h1
    · obtain ⟨i, hi, rfl⟩ := hmem a ha
      exact (hfun i hi).2.2
end Go.Proofs.YtihfaknflfmohaaDoor

/- Two arrays of sixteen bytes, held equal. -/
namespace Go.Proofs.YtihfaknflfmohaaDoor
open Go.RowKit
set_option linter.unusedVariables false
set_option linter.unusedSimpArgs false
set_option maxRecDepth 4000

theorem mapM_all {α β : Type} (f : α → Option β) (g : α → β) : ∀ is : List α, (∀ i ∈ is, f i = some (g i)) → is.mapM f = some (is.map g)
  | [], _ => rfl
  | i :: is, h => by
    rw [List.mapM_cons, h i (by simp), mapM_all f g is (fun j hj => h j (by simp [hj]))]
    rfl
theorem flat1 {α β : Type} (f : α → β) : ∀ is : List α, (is.map fun i => [f i]).flatten = is.map f
  | [] => rfl
  | i :: is => by
    have := flat1 f is
    simp only [List.map_cons, List.flatten_cons, this]
    rfl
theorem key_u8 (x : Int) (h0 : 0 ≤ x) (h1 : x < 256) : Tryd.prog.keyLits 1 5 [.int .u8 x] = some [Lit.int .u8 x] := by
  unfold Program.keyLits
  rw [Tryd.underlying5]
  simp [Lit.wf, IntKind.min, IntKind.max, IntKind.bits, IntKind.signed]
  omega
theorem keys_arr (l : List Int) (hl : B16 l) : (List.range 16).mapM (fun i => Tryd.prog.keyLits 1 5 (((arrV l).toList.drop (i * Tryd.prog.cellsOf 5)).take (Tryd.prog.cellsOf 5))) = some ((List.range 16).map fun i => [Lit.int .u8 (rd l ((i : Nat) : Int))]) := by
  have hc : Tryd.prog.cellsOf 5 = 1 := by kernel_rfl
  rw [hc]
  refine mapM_all _ _ _ (fun i hi => ?_)
  have hi' : i < l.length := by rw [hl.len]; exact List.mem_range.1 hi
  have hr := hl.rd (i : Int)
  have e : ((arrV l).toList.drop (i * 1)).take 1 = [.int .u8 (rd l (i : Int))] := by
    apply List.ext_getElem?
    intro j
    cases j with
    | zero =>
      rw [List.getElem?_take]
      simp only [Nat.mul_one, List.getElem?_drop, arrV, Nat.add_zero, if_pos (show 0 < 1 by omega), List.getElem?_cons_zero]
      exact nums_get .u8 l i hi'
    | succ j =>
      rw [List.getElem?_take, if_neg (by omega)]
      rfl
  rw [e, key_u8 _ hr.1 hr.2]
theorem arr_equal (l m : List Int) (hl : B16 l) (hm : B16 m) (w : World) : (Op.equal 29 (.agg (arrV l)) (.agg (arrV m))).run Tryd.prog w = .ok (decide (l = m)) w := by
  obtain ⟨i, hi, -⟩ : ∃ i, Tryd.prog.info? 5 = some i ∧ True := by
    obtain ⟨i0, hi, -⟩ := Option.map_eq_some_iff.1 info_u8
    exact ⟨i0, hi, trivial⟩
  have h1 := run_equalIn_array (P := Tryd.prog) w 9999 (arrV l) (arrV m) Tryd.underlying29 hi
  obtain ⟨r, hr, hiff⟩ := run_eqItems_plain (P := Tryd.prog) w 9998 (e := 5) (by kernel_rfl) (arrV l) (arrV m) (List.range 16) _ _ (keys_arr l hl) (keys_arr m hm)
  have h2 : (Op.equal 29 (.agg (arrV l)) (.agg (arrV m))).run Tryd.prog w = .ok r w := h1.trans hr
  suffices hs : r = decide (l = m) by rw [h2, hs]
  have hf : ∀ l : List Int, ((List.range 16).map fun i => [Lit.int .u8 (rd l ((i : Nat) : Int))]).flatten = (List.range 16).map fun i => Lit.int .u8 (rd l ((i : Nat) : Int)) := fun l => flat1 _ _
  rw [hf, hf] at hiff
  by_cases h : l = m
  · subst h
    rw [decide_eq_true rfl]
    exact hiff.2 rfl
  · rw [decide_eq_false h, Bool.eq_false_iff]
    intro hr
    apply h
    have h3 := hiff.1 hr
    apply List.ext_getElem (by rw [hl.len, hm.len])
    intro j h4 h5
    have hj : j < 16 := by rw [← hl.len]; exact h4
    have h6 := congrArg (fun x => x[j]?) h3
    simp [hj, rd, List.getD_eq_getElem?_getD, h4, h5] at h6
    exact h6
end Go.Proofs.YtihfaknflfmohaaDoor

/- The comparison of two arrays as an operation. -/
namespace Go.Proofs.YtihfaknflfmohaaDoor
open Go.RowKit
set_option linter.unusedVariables false
set_option linter.unusedSimpArgs false
set_option maxRecDepth 4000
theorem arr_eql_exec {r : Operand → Value} {o : Oper} {x y : Operand} {ty : TypeId} (ho : o.op = .binOp .eql 29 x y ty) (l m : List Int) (hx : r x = .agg (arrV l)) (hy : r y = .agg (arrV m)) (hl : B16 l) (hm : B16 m) (w : World) :
    (execOp r o).run Tryd.prog w = .ok (.value (.bool (decide (l = m)))) w := by
  have hgt : Tryd.prog.eqGuardType Tryd.prog.depth 29 = false := by kernel_rfl
  have hg : (eqGuard .eql 29 x y (.agg (arrV l)) (.agg (arrV m))).run Tryd.prog w = .ok () w := by
    simp [eqGuard, Sem.run_bind, run_program, hgt]
  have hq : (binOp .eql 29 (.agg (arrV l)) (.agg (arrV m))).run Tryd.prog w = .ok (.bool (decide (l = m))) w := by
    show ((do pure (Value.bool (← Op.equal 29 (.agg (arrV l)) (.agg (arrV m)))) : Sem Value)).run Tryd.prog w = _
    rw [Sem.run_bind, arr_equal l m hl hm w]
    rfl
  unfold execOp
  simp only [ho, hx, hy, Sem.run_bind, hg, hq, Result.andThen_ok, Sem.run_pure]
end Go.Proofs.YtihfaknflfmohaaDoor

/- Two prefixes, two addresses, held equal. -/
namespace Go.Proofs.YtihfaknflfmohaaDoor
open Go.RowKit
set_option linter.unusedVariables false
set_option linter.unusedSimpArgs false
set_option maxRecDepth 4000

def lits (k : IntKind) (l : List Int) : List Lit := l.map fun x => .int k x
theorem keyl_arr (l : List Int) (hl : B16 l) : Tryd.prog.keyLits 2 29 (nums .u8 l) = some (lits .u8 l) := by
  have hk := keys_arr l hl
  have he : (arrV l).toList = nums .u8 l := by simp [arrV]
  rw [he] at hk
  unfold Program.keyLits
  rw [Tryd.underlying29]
  simp only
  rw [if_pos (by rw [show (nums .u8 l).length = 16 by simp [nums, hl.len]]; kernel_rfl), hk]
  simp only [Option.map_some, flat1]
  refine congrArg some ?_
  unfold lits
  apply List.ext_getElem
  · simp [hl.len]
  · intro i h1 h2
    simp only [List.length_map, List.length_range] at h1
    simp [rd, List.getD_eq_getElem?_getD, hl.len, h1]
theorem keyl_int (d : Nat) (v : Int) (hv : (Lit.int .i64 v).wf = true) : Tryd.prog.keyLits (d + 1) 3 [.int .i64 v] = some [.int .i64 v] := by
  unfold Program.keyLits
  rw [Tryd.underlying3]
  simp only
  rw [if_pos ⟨trivial, hv⟩]
theorem keyl_adr (v : Int) (l : List Int) (hl : B16 l) (hv : (Lit.int .i64 v).wf = true) : Tryd.prog.keyLits 3 31 (adrV v l).toList = some (.int .i64 v :: lits .u8 l) := by
  unfold Program.keyLits
  rw [Tryd.underlying31]
  simp only
  have h1 : (adrV v l).toList = .int .i64 v :: nums .u8 l := by simp [adrV]
  rw [h1, if_pos ⟨by rw [show (Value.int IntKind.i64 v :: nums .u8 l).length = 17 by simp [nums, hl.len]]; kernel_rfl, by kernel_rfl⟩]
  have c1 : Tryd.prog.cellsOf 3 = 1 := by kernel_rfl
  have c2 : Tryd.prog.cellsOf 29 = 16 := by kernel_rfl
  simp only [List.mapM_cons, List.mapM_nil, c1, c2, List.drop_zero, List.take_succ_cons, List.take_zero, List.drop_succ_cons]
  rw [keyl_int 1 v hv, List.take_of_length_le (by simp [nums, hl.len]), keyl_arr l hl]
  simp
theorem keyl_pfx (v : Int) (l : List Int) (b : Int) (hl : B16 l) (hv : (Lit.int .i64 v).wf = true) (hb : (Lit.int .i64 b).wf = true) : Tryd.prog.keyLits 4 36 (pfxV v l b).toList = some (.int .i64 v :: lits .u8 l ++ [.int .i64 b]) := by
  unfold Program.keyLits
  rw [Tryd.underlying36]
  simp only
  have h1 : (pfxV v l b).toList = .int .i64 v :: (nums .u8 l ++ [.int .i64 b]) := by simp [pfxV]
  rw [h1, if_pos ⟨by rw [show (Value.int IntKind.i64 v :: (nums .u8 l ++ [Value.int IntKind.i64 b])).length = 18 by simp [nums, hl.len]]; kernel_rfl, by kernel_rfl⟩]
  have c1 : Tryd.prog.cellsOf 31 = 17 := by kernel_rfl
  have c2 : Tryd.prog.cellsOf 3 = 1 := by kernel_rfl
  have hln : (nums .u8 l).length = 16 := by simp [nums, hl.len]
  have e1 : (Value.int IntKind.i64 v :: (nums .u8 l ++ [Value.int IntKind.i64 b])).take 17 = (adrV v l).toList := by
    simp [adrV, List.take_append, hln]
  have e2 : (Value.int IntKind.i64 v :: (nums .u8 l ++ [Value.int IntKind.i64 b])).drop 17 = [.int .i64 b] := by
    simp [List.drop_append, hln]
  simp only [List.mapM_cons, List.mapM_nil, c1, c2, List.drop_zero]
  rw [e1, e2, keyl_adr v l hl hv]
  simp only [List.take_succ_cons, List.take_zero]
  rw [keyl_int 2 b hb]
  simp
theorem lits_inj {k : IntKind} : ∀ {l m : List Int}, lits k l = lits k m → l = m
  | [], [], _ => rfl
  | [], _ :: _, h => by simp [lits] at h
  | _ :: _, [], h => by simp [lits] at h
  | a :: l, b :: m, h => by
    simp only [lits, List.map_cons, List.cons.injEq, Lit.int.injEq, true_and] at h
    rw [h.1, lits_inj (l := l) (m := m) h.2]
theorem pfx_formed (v : Int) (l : List Int) (b : Int) (hl : B16 l) : (Value.agg (pfxV v l b)).formed Tryd.prog 36 = true := by
  simp only [Value.formed, Tryd.underlying36, pfx_size hl.len]
  kernel_rfl
theorem adr_formed (v : Int) (l : List Int) (hl : B16 l) : (Value.agg (adrV v l)).formed Tryd.prog 31 = true := by
  simp only [Value.formed, Tryd.underlying31, adr_size hl.len]
  kernel_rfl
structure Pfx.ok (p : Pfx) : Prop where
  l : B16 p.l
  v : (Lit.int .i64 p.v).wf = true
  b : (Lit.int .i64 p.b).wf = true
def Pfx.eqB (p q : Pfx) : Bool := decide (p.v = q.v) && decide (p.l = q.l) && decide (p.b = q.b)
theorem Pfx.eqB_iff (p q : Pfx) : p.eqB q = true ↔ p = q := by
  unfold Pfx.eqB
  simp only [Bool.and_eq_true, decide_eq_true_eq]
  constructor
  · rintro ⟨⟨h1, h2⟩, h3⟩
    cases p; cases q
    simp_all
  · rintro rfl
    exact ⟨⟨rfl, rfl⟩, rfl⟩
theorem pfx_equal (p q : Pfx) (hp : p.ok) (hq : q.ok) (w : World) : (Op.equal 36 (.agg (pfxV p.v p.l p.b)) (.agg (pfxV q.v q.l q.b))).run Tryd.prog w = .ok (p.eqB q) w := by
  obtain ⟨r, hr, hiff⟩ := run_equalIn_deep (P := Tryd.prog) 9996 4 36 (by kernel_rfl) w 4 4 (.agg (pfxV p.v p.l p.b)) (.agg (pfxV q.v q.l q.b)) _ _ (pfx_formed _ _ _ hp.l) (pfx_formed _ _ _ hq.l) (keyl_pfx _ _ _ hp.l hp.v hp.b) (keyl_pfx _ _ _ hq.l hq.v hq.b)
  have h2 : (Op.equal 36 (.agg (pfxV p.v p.l p.b)) (.agg (pfxV q.v q.l q.b))).run Tryd.prog w = .ok r w := hr
  suffices hs : r = p.eqB q by rw [h2, hs]
  rw [Bool.eq_iff_iff, hiff, Pfx.eqB_iff]
  constructor
  · intro h
    simp only [List.cons_append, List.cons.injEq, Lit.int.injEq, true_and] at h
    obtain ⟨h3, h4⟩ := h
    obtain ⟨h5, h6⟩ := List.append_inj h4 (by simp [lits, hp.l.len, hq.l.len])
    simp only [List.cons.injEq, Lit.int.injEq, true_and, and_true] at h6
    cases p; cases q
    simp only at h3 h5 h6
    rw [h3, lits_inj h5, h6]
  · rintro rfl
    rfl
theorem adr_equal (v : Int) (l : List Int) (v' : Int) (l' : List Int) (hl : B16 l) (hl' : B16 l') (hv : (Lit.int .i64 v).wf = true) (hv' : (Lit.int .i64 v').wf = true) (w : World) :
    (Op.equal 31 (.agg (adrV v l)) (.agg (adrV v' l'))).run Tryd.prog w = .ok (decide (v = v') && decide (l = l')) w := by
  obtain ⟨r, hr, hiff⟩ := run_equalIn_deep (P := Tryd.prog) 9997 3 31 (by kernel_rfl) w 3 3 (.agg (adrV v l)) (.agg (adrV v' l')) _ _ (adr_formed _ _ hl) (adr_formed _ _ hl') (keyl_adr _ _ hl hv) (keyl_adr _ _ hl' hv')
  have h2 : (Op.equal 31 (.agg (adrV v l)) (.agg (adrV v' l'))).run Tryd.prog w = .ok r w := hr
  suffices hs : r = (decide (v = v') && decide (l = l')) by rw [h2, hs]
  rw [Bool.eq_iff_iff, hiff]
  simp only [Bool.and_eq_true, decide_eq_true_eq, List.cons.injEq, Lit.int.injEq, true_and]
  exact ⟨fun h => ⟨h.1, lits_inj h.2⟩, fun h => ⟨h.1, by rw [h.2]⟩⟩
section
variable {r : Operand → Value} {o : Oper} {x y : Operand} {ty : TypeId}
theorem exec_eql (t : TypeId) (hgt : Tryd.prog.eqGuardType Tryd.prog.depth t = false) (ho : o.op = .binOp .eql t x y ty) (cx cy : Array Value) (hx : r x = .agg cx) (hy : r y = .agg cy) (w : World) {b : Bool}
    (he : (Op.equal t (.agg cx) (.agg cy)).run Tryd.prog w = .ok b w) : (execOp r o).run Tryd.prog w = .ok (.value (.bool b)) w := by
  have hg : (eqGuard .eql t x y (.agg cx) (.agg cy)).run Tryd.prog w = .ok () w := by
    simp [eqGuard, Sem.run_bind, run_program, hgt]
  have hq : (binOp .eql t (.agg cx) (.agg cy)).run Tryd.prog w = .ok (.bool b) w := by
    show ((do pure (Value.bool (← Op.equal t (.agg cx) (.agg cy))) : Sem Value)).run Tryd.prog w = _
    rw [Sem.run_bind, he]
    rfl
  unfold execOp
  simp only [ho, hx, hy, Sem.run_bind, hg, hq, Result.andThen_ok, Sem.run_pure]
theorem exec_neq (t : TypeId) (hgt : Tryd.prog.eqGuardType Tryd.prog.depth t = false) (ho : o.op = .binOp .neq t x y ty) (cx cy : Array Value) (hx : r x = .agg cx) (hy : r y = .agg cy) (w : World) {b : Bool}
    (he : (Op.equal t (.agg cx) (.agg cy)).run Tryd.prog w = .ok b w) : (execOp r o).run Tryd.prog w = .ok (.value (.bool (!b))) w := by
  have hg : (eqGuard .neq t x y (.agg cx) (.agg cy)).run Tryd.prog w = .ok () w := by
    simp [eqGuard, Sem.run_bind, run_program, hgt]
  have hq : (binOp .neq t (.agg cx) (.agg cy)).run Tryd.prog w = .ok (.bool (!b)) w := by
    show ((do pure (Value.bool (!(← Op.equal t (.agg cx) (.agg cy)))) : Sem Value)).run Tryd.prog w = _
    rw [Sem.run_bind, he]
    rfl
  unfold execOp
  simp only [ho, hx, hy, Sem.run_bind, hg, hq, Result.andThen_ok, Sem.run_pure]
theorem pfx_eql_exec (ho : o.op = .binOp .eql 36 x y ty) (p q : Pfx) (hx : r x = .agg (pfxV p.v p.l p.b)) (hy : r y = .agg (pfxV q.v q.l q.b)) (hp : p.ok) (hq : q.ok) (w : World) : (execOp r o).run Tryd.prog w = .ok (.value (.bool (p.eqB q))) w :=
  exec_eql 36 (by kernel_rfl) ho _ _ hx hy w (pfx_equal p q hp hq w)
theorem pfx_neq_exec (ho : o.op = .binOp .neq 36 x y ty) (p q : Pfx) (hx : r x = .agg (pfxV p.v p.l p.b)) (hy : r y = .agg (pfxV q.v q.l q.b)) (hp : p.ok) (hq : q.ok) (w : World) : (execOp r o).run Tryd.prog w = .ok (.value (.bool (!p.eqB q))) w :=
  exec_neq 36 (by kernel_rfl) ho _ _ hx hy w (pfx_equal p q hp hq w)
theorem adr_eql_exec (ho : o.op = .binOp .eql 31 x y ty) (v : Int) (l : List Int) (v' : Int) (l' : List Int) (hx : r x = .agg (adrV v l)) (hy : r y = .agg (adrV v' l')) (hl : B16 l) (hl' : B16 l') (hv : (Lit.int .i64 v).wf = true) (hv' : (Lit.int .i64 v').wf = true) (w : World) : (execOp r o).run Tryd.prog w = .ok (.value (.bool (decide (v = v') && decide (l = l')))) w :=
  exec_eql 31 (by kernel_rfl) ho _ _ hx hy w (adr_equal v l v' l' hl hl' hv hv' w)
theorem adr_neq_exec (ho : o.op = .binOp .neq 31 x y ty) (v : Int) (l : List Int) (v' : Int) (l' : List Int) (hx : r x = .agg (adrV v l)) (hy : r y = .agg (adrV v' l')) (hl : B16 l) (hl' : B16 l') (hv : (Lit.int .i64 v).wf = true) (hv' : (Lit.int .i64 v').wf = true) (w : World) : (execOp r o).run Tryd.prog w = .ok (.value (.bool (!(decide (v = v') && decide (l = l'))))) w :=
  exec_neq 31 (by kernel_rfl) ho _ _ hx hy w (adr_equal v l v' l' hl hl' hv hv' w)
end
end Go.Proofs.YtihfaknflfmohaaDoor

/- Arguments that are addresses and prefixes, opened. -/
namespace Go.Proofs.YtihfaknflfmohaaDoor
open Go.ChangeShapes Go.WideShapes Go.ChangeAt Go.RowKit
set_option linter.unusedVariables false
set_option linter.unusedSimpArgs false
set_option maxRecDepth 4000
def cellI : Option Value → Int
  | some (.int _ y) => y
  | _ => 0
section
variable {H : Type} {enc : TypeId × Value → H} {W : World} {base : Nat} {spare : Nat → Bool} {held : Bool} {fuel : Nat} {x : DataW H × List MemPlace}
theorem open_arr16 {cs : List Value} (h : DataW.trod enc Tryd.prog W base spare held fuel 29 cs = some x) : ∃ l, cs = nums .u8 l ∧ B16 l := by
  obtain ⟨xs, m, -, -, hlen, hxl, hel⟩ := DataW.trod_array Tryd.underlying29 h
  have c1 : Tryd.prog.cellsOf 5 = 1 := by kernel_rfl
  have c2 : Tryd.prog.cellsOf 29 = 16 := by kernel_rfl
  rw [c2] at hlen
  have hat : ∀ i, i < 16 → ∃ y : Int, cs[i]? = some (.int .u8 y) ∧ (Lit.int .u8 y).wf = true := by
    intro i hi
    have h1 := hel i hi
    rw [c1, Nat.mul_one] at h1
    cases hx : xs[i]? with
    | none =>
      rw [hx] at h1
      exfalso
      have : xs.length ≤ i := List.getElem?_eq_none_iff.1 hx
      omega
    | some x0 =>
      rw [hx] at h1
      obtain ⟨y, hy, -, hw⟩ := DataW.trod_int Tryd.underlying5 h1
      refine ⟨y, ?_, hw⟩
      have h2 := congrArg (fun l => l[0]?) hy
      simpa [List.getElem?_take, List.getElem?_drop] using h2
  refine ⟨(List.range 16).map fun i => cellI cs[i]?, ?_, ?_, ?_⟩
  · apply List.ext_getElem (by simp [nums, hlen])
    intro i h1 h2
    obtain ⟨y, hy, -⟩ := hat i (by omega)
    have h3 : cs[i] = .int .u8 y := by
      rw [List.getElem?_eq_getElem h1] at hy
      injection hy
    simp [nums, h3, hy, cellI]
  · simp
  · intro z hz
    simp only [List.mem_map, List.mem_range] at hz
    obtain ⟨i, hi, rfl⟩ := hz
    obtain ⟨y, hy, hw⟩ := hat i hi
    simp only [hy, cellI]
    simp [Lit.wf, IntKind.min, IntKind.max, IntKind.bits, IntKind.signed] at hw
    omega
theorem one_of {l : List Value} {v : Value} (h : l.take 1 = [v]) : l = v :: l.drop 1 := by
  cases l with
  | nil => cases h
  | cons a r =>
    simp only [List.take_succ_cons, List.take_zero, List.cons.injEq, and_true] at h
    rw [h]
    rfl
theorem open_adr_cells {cs : List Value} (h : DataW.trod enc Tryd.prog W base spare held fuel 31 cs = some x) : ∃ v l, cs = .int .i64 v :: nums .u8 l ∧ B16 l ∧ (Lit.int .i64 v).wf = true := by
  obtain ⟨xs, m, -, -, hlen, hxl, hg⟩ := DataW.trod_struct Tryd.underlying31 h
  have c1 : Tryd.prog.cellsOf 3 = 1 := by kernel_rfl
  have c2 : Tryd.prog.cellsOf 29 = 16 := by kernel_rfl
  have c3 : Tryd.prog.cellsOf 31 = 17 := by kernel_rfl
  have h0 : DataW.trod enc Tryd.prog W base spare held m 3 ((cs.drop 0).take (Tryd.prog.cellsOf 3)) = xs[0]? := hg 0 _ rfl
  have h1 : DataW.trod enc Tryd.prog W base spare held m 29 ((cs.drop 1).take (Tryd.prog.cellsOf 29)) = xs[1]? := hg 1 _ rfl
  rw [c3] at hlen
  rw [c1, List.drop_zero] at h0
  rw [c2] at h1
  have hx2 : xs.length = 2 := hxl
  match xs, hx2 with
  | [x0, x1], _ =>
    obtain ⟨v, hv, -, hw⟩ := DataW.trod_int Tryd.underlying3 (show DataW.trod enc Tryd.prog W base spare held m 3 (cs.take 1) = some x0 from h0)
    obtain ⟨l, hl, hb⟩ := open_arr16 (show DataW.trod enc Tryd.prog W base spare held m 29 ((cs.drop 1).take 16) = some x1 from h1)
    rw [List.take_of_length_le (by rw [List.length_drop]; omega)] at hl
    exact ⟨v, l, by rw [one_of hv, hl], hb, hw⟩
theorem open_pfx_cells {cs : List Value} (h : DataW.trod enc Tryd.prog W base spare held fuel 36 cs = some x) : ∃ v l b, cs = .int .i64 v :: (nums .u8 l ++ [.int .i64 b]) ∧ B16 l ∧ (Lit.int .i64 v).wf = true ∧ (Lit.int .i64 b).wf = true := by
  obtain ⟨xs, m, -, -, hlen, hxl, hg⟩ := DataW.trod_struct Tryd.underlying36 h
  have c1 : Tryd.prog.cellsOf 3 = 1 := by kernel_rfl
  have c2 : Tryd.prog.cellsOf 31 = 17 := by kernel_rfl
  have c3 : Tryd.prog.cellsOf 36 = 18 := by kernel_rfl
  have h0 : DataW.trod enc Tryd.prog W base spare held m 31 ((cs.drop 0).take (Tryd.prog.cellsOf 31)) = xs[0]? := hg 0 _ rfl
  have h1 : DataW.trod enc Tryd.prog W base spare held m 3 ((cs.drop 17).take (Tryd.prog.cellsOf 3)) = xs[1]? := hg 1 _ rfl
  rw [c3] at hlen
  rw [c2, List.drop_zero] at h0
  rw [c1] at h1
  have hx2 : xs.length = 2 := hxl
  match xs, hx2 with
  | [x0, x1], _ =>
    obtain ⟨v, l, hvl, hb, hw⟩ := open_adr_cells (show DataW.trod enc Tryd.prog W base spare held m 31 (cs.take 17) = some x0 from h0)
    obtain ⟨b, hv, -, hwb⟩ := DataW.trod_int Tryd.underlying3 (show DataW.trod enc Tryd.prog W base spare held m 3 ((cs.drop 17).take 1) = some x1 from h1)
    rw [List.take_of_length_le (by rw [List.length_drop]; omega)] at hv
    refine ⟨v, l, b, ?_, hb, hw, hwb⟩
    rw [← List.take_append_drop 17 cs, hvl, hv]
    rfl
end
theorem open_adr {H : Type} {enc : TypeId × Value → H} {W : World} {base b0 : Nat} {spare : Nat → Bool} {held : Bool} {v : Value} {d : DataW H} {p : List MemPlace} (hv : Value.okWide Tryd.prog W .any b0 31 v)
    (h : DataW.Trod enc Tryd.prog W base spare held 31 v d p) : ∃ va l, v = .agg (adrV va l) ∧ B16 l ∧ (Lit.int .i64 va).wf = true := by
  obtain ⟨cs, rfl, -⟩ := okWide_struct Tryd.underlying31 hv
  obtain ⟨fuel, hf⟩ := h
  obtain ⟨va, l, hc, hb, hw⟩ := open_adr_cells hf
  refine ⟨va, l, ?_, hb, hw⟩
  have : cs = adrV va l := by
    apply Array.toList_inj.1
    rw [show (adrV va l).toList = .int .i64 va :: nums .u8 l by simp [adrV]]
    exact hc
  rw [this]
theorem open_pfx {H : Type} {enc : TypeId × Value → H} {W : World} {base b0 : Nat} {spare : Nat → Bool} {held : Bool} {v : Value} {d : DataW H} {p : List MemPlace} (hv : Value.okWide Tryd.prog W .any b0 36 v)
    (h : DataW.Trod enc Tryd.prog W base spare held 36 v d p) : ∃ q : Pfx, v = .agg (pfxV q.v q.l q.b) ∧ q.ok := by
  obtain ⟨cs, rfl, -⟩ := okWide_struct Tryd.underlying36 hv
  obtain ⟨fuel, hf⟩ := h
  obtain ⟨va, l, b, hc, hb, hw, hwb⟩ := open_pfx_cells hf
  refine ⟨⟨va, l, b⟩, ?_, hb, hw, hwb⟩
  have : cs = pfxV va l b := by
    apply Array.toList_inj.1
    rw [show (pfxV va l b).toList = .int .i64 va :: (nums .u8 l ++ [.int .i64 b]) by simp [pfxV]]
    exact hc
  rw [this]
end Go.Proofs.YtihfaknflfmohaaDoor

/- Plain laws of layer 5, fourth part: what bytes tell. -/
namespace Go.Proofs.YtihfaknflfmohaaDoor
set_option linter.unusedVariables false
set_option linter.unusedSimpArgs false
set_option maxRecDepth 4000

def fullB (b : Int) : Nat := ((b + 7) / 8).toNat
/-- Bytes, noughts behind them: sixteen. -/
def pad (l : List Int) : List Int := l ++ List.replicate (16 - l.length) 0
theorem pad_len {l : List Int} (h : l.length ≤ 16) : (pad l).length = 16 := by simp [pad]; omega
theorem pad_16 {l : List Int} (h : l.length ≤ 16) (hb : Bytes l) : B16 (pad l) :=
  ⟨pad_len h, hb.append (fun x hx => by have := List.eq_of_mem_replicate hx; omega)⟩
theorem pad_nil : pad [] = List.replicate 16 0 := rfl
theorem rd_pad (l : List Int) (i : Nat) : rd (pad l) (i : Int) = if i < l.length then rd l (i : Int) else 0 := by
  simp only [rd, pad, Int.toNat_natCast, List.getD_eq_getElem?_getD]
  by_cases h : i < l.length
  · rw [if_pos h, List.getElem?_append_left h]
  · rw [if_neg h, List.getElem?_append_right (by omega), List.getElem?_replicate]
    split <;> rfl
theorem rd_take (l : List Int) (k i : Nat) : rd (l.take k) (i : Int) = if i < k then rd l (i : Int) else 0 := by
  simp only [rd, Int.toNat_natCast, List.getD_eq_getElem?_getD, List.getElem?_take]
  split <;> rfl
theorem rd_beyond (l : List Int) (i : Nat) (h : l.length ≤ i) : rd l (i : Int) = 0 := by
  simp only [rd, Int.toNat_natCast, List.getD_eq_getElem?_getD]
  rw [List.getElem?_eq_none h]
  rfl
theorem rd_setN (l : List Int) (q i : Nat) (y : Int) (hq : q < l.length) : rd (l.set q y) (i : Int) = if i = q then y else rd l (i : Int) := by
  simp only [rd, Int.toNat_natCast, List.getD_eq_getElem?_getD, List.getElem?_set]
  by_cases h : i = q
  · subst h; simp [hq]
  · rw [if_neg (fun e => h e.symm), if_neg h]
theorem ext_rd {l m : List Int} (hlm : l.length = m.length) (h : ∀ i : Nat, i < l.length → rd l (i : Int) = rd m (i : Int)) : l = m := by
  apply List.ext_getElem hlm
  intro j h1 h2
  have := h j h1
  simpa [rd, List.getD_eq_getElem?_getD, h1, h2] using this
theorem pad_set (xs : List Int) (k : Nat) (hk : k < xs.length) (h16 : k < 16) : (pad (xs.take k)).set k (rd xs (k : Int)) = pad (xs.take (k + 1)) := by
  have h1 : (xs.take k).length = k := by rw [List.length_take]; omega
  have h2 : (xs.take (k + 1)).length = k + 1 := by rw [List.length_take]; omega
  refine ext_rd (by rw [List.length_set, pad_len (by omega), pad_len (by omega)]) (fun i hi => ?_)
  rw [rd_setN _ _ _ _ (by rw [pad_len (by omega)]; omega), rd_pad, rd_pad, h1, h2, rd_take, rd_take]
  by_cases h : i = k
  · subst h; rw [if_pos rfl, if_pos (by omega), if_pos (by omega)]
  · rw [if_neg h]
    by_cases h3 : i < k
    · rw [if_pos h3, if_pos h3, if_pos (by omega), if_pos (by omega)]
    · rw [if_neg h3, if_neg (by omega)]
theorem cut_clear {l : List Int} (hl : B16 l) (k : Nat) : cutA l k = l ↔ clearA l k = true := by
  rw [clearA_iff]
  constructor
  · intro h i h1 h2
    rw [← h, bitA_cut _ _ _ h2, if_neg (by omega)]
  · intro h
    refine ext16 (cutA_16 hl _) hl (fun i hi => ?_)
    rw [bitA_cut _ _ _ hi]
    by_cases h1 : i < k
    · rw [if_pos (by omega)]
    · rw [if_neg (by omega), h i (by omega) hi]
/-- A bit behind the last byte is nought. -/
theorem bit_pad (l : List Int) (i : Nat) (h : 8 * l.length ≤ i) : bitA (pad l) i = 0 := by
  unfold bitA
  rw [rd_pad, if_neg (by omega)]
  simp
theorem clear_pad (l : List Int) (k : Nat) (h : 8 * l.length ≤ k) : clearA (pad l) k = true := by
  rw [clearA_iff]
  intro i h1 h2
  exact bit_pad l i (by omega)

/-- What the bytes of an address are, of which so many bits may be set. -/
def someE (xs : List Int) (bits : Nat) (wrong : Int) : Int := if xs.length < fullB bits then 7 else if clearA (pad (xs.take (fullB bits))) bits then 0 else wrong
def someL (xs : List Int) (bits : Nat) (wrong : Int) : List Int := if someE xs bits wrong = 0 then pad (xs.take (fullB bits)) else List.replicate 16 0
theorem fullB_lt {bits i : Nat} (h : i + 1 < fullB bits) : 8 * (i + 1) ≤ bits := by unfold fullB at h; omega
theorem fullB_le {bits : Nat} (h : bits ≤ 128) : fullB bits ≤ 16 := by unfold fullB; omega
theorem some_short {xs : List Int} {bits : Nat} {wrong : Int} (h : xs.length < fullB bits) : someE xs bits wrong = 7 := if_pos h
theorem some_wrong {xs : List Int} {bits : Nat} {wrong : Int} (h : fullB bits ≤ xs.length) (hc : clearA (pad (xs.take (fullB bits))) bits = false) : someE xs bits wrong = wrong := by
  unfold someE
  rw [if_neg (by omega), if_neg (by rw [hc]; simp)]
theorem some_ok {xs : List Int} {bits : Nat} {wrong : Int} (h : fullB bits ≤ xs.length) (hc : clearA (pad (xs.take (fullB bits))) bits = true) : someE xs bits wrong = 0 := by
  unfold someE
  rw [if_neg (by omega), if_pos hc]
theorem someL_no {xs : List Int} {bits : Nat} {wrong : Int} (h : someE xs bits wrong ≠ 0) : someL xs bits wrong = List.replicate 16 0 := if_neg h
theorem someL_ok {xs : List Int} {bits : Nat} {wrong : Int} (h : someE xs bits wrong = 0) : someL xs bits wrong = pad (xs.take (fullB bits)) := if_pos h
theorem someL_16 {xs : List Int} {bits : Nat} {wrong : Int} (hx : Bytes xs) (hb : bits ≤ 128) : B16 (someL xs bits wrong) := by
  unfold someL
  split
  · exact pad_16 (by rw [List.length_take]; have := fullB_le hb; omega) (hx.take _)
  · exact ⟨rfl, fun x hx => by have := List.eq_of_mem_replicate hx; omega⟩

def verE (xs : List Int) (wrong : Int) : Int := if xs.length = 0 then 7 else if widthA (rd xs 0) = 0 then wrong else 0
def verV (xs : List Int) (wrong : Int) : Int := if verE xs wrong = 0 then rd xs 0 else 0
/-- An address with whose bytes others begin: the error, and what it is, how many. -/
def decAE (xs : List Int) : Int := if verE xs 150 ≠ 0 then verE xs 150 else someE (xs.drop 1) (widthA (rd xs 0)) 150
def decAV (xs : List Int) : Int := if decAE xs = 0 then rd xs 0 else 0
def decAL (xs : List Int) : List Int := if decAE xs = 0 then pad ((xs.drop 1).take (widthA (rd xs 0) / 8)) else List.replicate 16 0
def decAN (xs : List Int) : Int := if decAE xs = 0 then 1 + widthA (rd xs 0) / 8 else 0
/-- A prefix. -/
def decPE (xs : List Int) : Int := if verE xs 151 ≠ 0 then verE xs 151 else if xs.length < 2 then 7 else if (widthA (rd xs 0) : Int) < rd xs 1 then 151 else someE (xs.drop 2) (rd xs 1).toNat 151
def decP (xs : List Int) : Pfx := if decPE xs = 0 then ⟨rd xs 0, pad ((xs.drop 2).take (fullB (rd xs 1))), rd xs 1⟩ else ⟨0, List.replicate 16 0, 0⟩
def decPN (xs : List Int) : Int := if decPE xs = 0 then 2 + fullB (rd xs 1) else 0
theorem verE_nil (wrong : Int) : verE [] wrong = 7 := rfl
theorem verE_cons {xs : List Int} (h : 0 < xs.length) (wrong : Int) : verE xs wrong = if widthA (rd xs 0) = 0 then wrong else 0 := by
  unfold verE
  rw [if_neg (by omega)]
end Go.Proofs.YtihfaknflfmohaaDoor

/- Plain laws of layer 5, fifth part: the prefixes of an address. -/
namespace Go.Proofs.YtihfaknflfmohaaDoor
set_option linter.unusedVariables false
set_option linter.unusedSimpArgs false
set_option maxRecDepth 4000

theorem rightA_iff (v : Int) (l : List Int) : rightA v l = true ↔ widthA v ≠ 0 ∧ ∀ i, widthA v ≤ i → i < 128 → bitA l i = 0 := by
  unfold rightA
  simp only [Bool.and_eq_true, decide_eq_true_eq, clearA_iff]
theorem cut_rightA {v : Int} {l : List Int} (k : Int) (h : rightA v l = true) : rightA v (cutA l k) = true := by
  rw [rightA_iff] at *
  refine ⟨h.1, fun i h1 h2 => ?_⟩
  rw [bitA_cut _ _ _ h2]
  split
  · exact h.2 i h1 h2
  · rfl
theorem of_right {v : Int} {l : List Int} {k : Int} (h : rightA v l = true) (h0 : 0 ≤ k) (h1 : k ≤ widthA v) : Pfx.right ⟨v, cutA l k, k⟩ = true := by
  rw [Pfx.right_iff]
  refine ⟨cut_rightA k h, h0, h1, fun i h2 h3 => ?_⟩
  show bitA (cutA l k) i = 0
  rw [bitA_cut _ _ _ h3, if_neg (by have h2' : k ≤ (i : Int) := h2; omega)]
theorem of_has {v : Int} {l : List Int} {k : Int} (hl : B16 l) (h : rightA v l = true) (h0 : 0 ≤ k) (h1 : k ≤ widthA v) : Pfx.has ⟨v, cutA l k, k⟩ v l = true := by
  rw [Pfx.has_iff _ _ _ (cutA_16 hl k) hl]
  refine ⟨of_right h h0 h1, h, rfl, fun i h2 h3 => ?_⟩
  show bitA (cutA l k) i = bitA l i
  rw [bitA_cut _ _ _ h2, if_pos h3]
theorem of_bit {v : Int} {l : List Int} {k : Int} (i : Nat) (h : rightA v l = true) (hi : i < widthA v) : bitP v (cutA l k) i = if (i : Int) < k then bitP v l i else 0 := by
  have hw := widthA_le v
  rw [bitP_yes (cut_rightA k h) (by omega) (by omega), bitP_yes h (by omega) (by omega), Int.toNat_natCast, bitA_cut _ _ _ (by omega)]
theorem of_holds {v : Int} {l : List Int} {k m : Int} (hl : B16 l) (h : rightA v l = true) (h0 : 0 ≤ k) (h1 : k ≤ widthA v) (g0 : 0 ≤ m) (g1 : m ≤ widthA v) : Pfx.holds ⟨v, cutA l k, k⟩ ⟨v, cutA l m, m⟩ = decide (k ≤ m) := by
  rw [Bool.eq_iff_iff, Pfx.holds_iff _ _ (cutA_16 hl k) (cutA_16 hl m), decide_eq_true_eq]
  constructor
  · intro hh
    exact hh.2.2.1
  · intro hh
    refine ⟨of_right h h0 h1, of_right h g0 g1, hh, rfl, fun i h2 h3 => ?_⟩
    have h3' : (i : Int) < k := h3
    show bitA (cutA l k) i = bitA (cutA l m) i
    rw [bitA_cut _ _ _ h2, bitA_cut _ _ _ h2, if_pos h3', if_pos (by omega)]
theorem ofE_cases (v : Int) (l : List Int) (k : Int) : (ofE v l k = 0 ∧ rightA v l = true ∧ 0 ≤ k ∧ k ≤ widthA v ∧ ofP v l k = ⟨v, cutA l k, k⟩) ∨ (ofE v l k ≠ 0 ∧ (rightA v l = false ∨ rightA v l = true ∧ k < 0 ∨ rightA v l = true ∧ 0 ≤ k ∧ (widthA v : Int) < k) ∧ ofP v l k = ⟨0, List.replicate 16 0, 0⟩) := by
  cases h : rightA v l
  · obtain ⟨h1, h2⟩ := of_wrong (k := k) h
    exact .inr ⟨by rw [h1]; decide, .inl rfl, h2⟩
  · by_cases hk : 0 ≤ k ∧ k ≤ widthA v
    · obtain ⟨h1, h2⟩ := of_ok h hk.1 hk.2
      exact .inl ⟨h1, rfl, hk.1, hk.2, h2⟩
    · obtain ⟨h1, h2⟩ := of_arg h hk
      refine .inr ⟨by rw [h1]; decide, ?_, h2⟩
      by_cases h0 : k < 0
      · exact .inr (.inl ⟨rfl, h0⟩)
      · exact .inr (.inr ⟨rfl, by omega, by omega⟩)
end Go.Proofs.YtihfaknflfmohaaDoor

/- Plain laws of layer 5, sixth part: there and back. -/
namespace Go.Proofs.YtihfaknflfmohaaDoor
set_option linter.unusedVariables false
set_option linter.unusedSimpArgs false
set_option maxRecDepth 4000

def encP (p : Pfx) : List Int := p.v % 256 :: p.b % 256 :: p.l.take (fullB p.b)
theorem rd_0 (a : Int) (l : List Int) : rd (a :: l) 0 = a := rfl
theorem rd_1 (a b : Int) (l : List Int) : rd (a :: b :: l) 1 = b := rfl
theorem right_v {p : Pfx} (h : p.right = true) : p.v = 4 ∨ p.v = 6 := by
  have h1 := ((rightA_iff _ _).1 ((p.right_iff).1 h).1).1
  unfold widthA at h1
  split at h1
  · rename_i h2; exact .inl h2
  · split at h1
    · rename_i h2; exact .inr h2
    · exact absurd rfl h1
theorem right_b {p : Pfx} (h : p.right = true) : ∃ b : Nat, p.b = b ∧ b ≤ widthA p.v ∧ b ≤ 128 := by
  obtain ⟨h1, h2, h3, h4⟩ := (p.right_iff).1 h
  have := widthA_le p.v
  exact ⟨p.b.toNat, by omega, by omega, by omega⟩
/-- The bytes behind those that stay are nought. -/
theorem right_pad {p : Pfx} (hp : B16 p.l) (h : p.right = true) : pad (p.l.take (fullB p.b)) = p.l := by
  obtain ⟨b, hb, hw, h128⟩ := right_b h
  have hz := ((p.right_iff).1 h).2.2.2
  rw [hb]
  have hf := fullB_le h128
  have hl : (p.l.take (fullB b)).length = fullB b := by rw [List.length_take, hp.len]; omega
  refine ext16 (pad_16 (by omega) (hp.rng.take _)) hp (fun i hi => ?_)
  obtain ⟨q, r, rfl, hr⟩ : ∃ q r, i = 8 * q + r ∧ r < 8 := ⟨i / 8, i % 8, by omega, by omega⟩
  rw [bitA_mk _ _ _ hr, bitA_mk _ _ _ hr, rd_pad, hl]
  by_cases hq : q < fullB b
  · rw [if_pos hq, rd_take, if_pos hq]
  · rw [if_neg hq]
    have := hz (8 * q + r) (by rw [hb]; unfold fullB at hq; omega) hi
    rw [bitA_mk _ _ _ hr] at this
    rw [this]
    simp
theorem encP_len {p : Pfx} (hp : B16 p.l) (h : p.right = true) : (encP p).length = 2 + fullB p.b := by
  obtain ⟨b, hb, hw, h128⟩ := right_b h
  have hf := fullB_le h128
  simp [encP, hp.len, hb]
  omega
/-- What was encoded is decoded, whatever stands behind. -/
theorem dec_enc {p : Pfx} (hp : B16 p.l) (h : p.right = true) (raw : List Int) : decPE (encP p ++ raw) = 0 ∧ decP (encP p ++ raw) = p ∧ decPN (encP p ++ raw) = (encP p).length := by
  obtain ⟨b, hb, hw, h128⟩ := right_b h
  have hf := fullB_le h128
  have hv := right_v h
  have hpad := right_pad hp h
  have hz := ((p.right_iff).1 h).2.2.2
  have h256 : p.v % 256 = p.v := by rcases hv with h | h <;> rw [h] <;> rfl
  have hb256 : p.b % 256 = p.b := by omega
  have e : encP p ++ raw = p.v :: p.b :: (p.l.take (fullB p.b) ++ raw) := by unfold encP; rw [h256, hb256]; rfl
  have hw0 : widthA p.v ≠ 0 := by rcases hv with h | h <;> rw [h] <;> decide
  have hver : verE (p.v :: p.b :: (p.l.take (fullB p.b) ++ raw)) 151 = 0 := by
    rw [verE_cons (by simp), rd_0, if_neg hw0]
  have hl : (p.l.take (fullB p.b)).length = fullB p.b := by rw [List.length_take, hp.len, hb]; omega
  have htk : (p.l.take (fullB p.b) ++ raw).take (fullB p.b) = p.l.take (fullB p.b) := List.take_left' hl
  have hse : someE (p.l.take (fullB p.b) ++ raw) b 151 = 0 := by
    refine some_ok (by rw [List.length_append, hl, hb]; omega) ?_
    rw [← hb, htk, hpad, clearA_iff]
    intro i h1 h2
    exact hz i (by omega) h2
  have hpe : decPE (p.v :: p.b :: (p.l.take (fullB p.b) ++ raw)) = 0 := by
    unfold decPE
    rw [if_neg (by rw [hver]; simp), if_neg (by simp), rd_0, rd_1, if_neg (by omega), hb, Int.toNat_natCast, ← hb]
    exact hse
  rw [e]
  refine ⟨hpe, ?_, ?_⟩
  · unfold decP
    rw [if_pos hpe, rd_0, rd_1]
    show Pfx.mk p.v (pad ((p.l.take (fullB p.b) ++ raw).take (fullB p.b))) p.b = p
    rw [htk, hpad]
  · unfold decPN
    rw [if_pos hpe, rd_1, encP_len hp h]
    omega
/-- Of each beginning it is too short. -/
theorem dec_cut {p : Pfx} (hp : B16 p.l) (h : p.right = true) (k : Nat) (hk : k < (encP p).length) : decPE ((encP p).take k) = 7 := by
  obtain ⟨b, hb, hw, h128⟩ := right_b h
  have hf := fullB_le h128
  have hv := right_v h
  have h256 : p.v % 256 = p.v := by rcases hv with h | h <;> rw [h] <;> rfl
  have hb256 : p.b % 256 = p.b := by omega
  have e : encP p = p.v :: p.b :: (p.l.take (fullB p.b)) := by unfold encP; rw [h256, hb256]
  have hw0 : widthA p.v ≠ 0 := by rcases hv with h | h <;> rw [h] <;> decide
  rw [encP_len hp h, hb] at hk
  rw [e]
  match k with
  | 0 => rfl
  | 1 =>
    have hver : verE [p.v] 151 = 0 := by
      rw [verE_cons (by simp), rd_0, if_neg hw0]
    show decPE [p.v] = 7
    unfold decPE
    rw [if_neg (by rw [hver]; simp), if_pos (by simp)]
  | j + 2 =>
    show decPE (p.v :: p.b :: ((p.l.take (fullB p.b)).take j)) = 7
    have hver : verE (p.v :: p.b :: ((p.l.take (fullB p.b)).take j)) 151 = 0 := by
      rw [verE_cons (by simp), rd_0, if_neg hw0]
    unfold decPE
    rw [if_neg (by rw [hver]; simp), if_neg (by simp), rd_0, rd_1, if_neg (by omega), hb, Int.toNat_natCast]
    refine some_short ?_
    show ((p.l.take (fullB b)).take j).length < fullB b
    rw [List.length_take, List.length_take]
    omega
/-- What is decoded is encoded into the same bytes. -/
theorem enc_dec {xs : List Int} (hx : Bytes xs) (h : decPE xs = 0) : (decP xs).right = true ∧ B16 (decP xs).l ∧ ∃ n : Nat, decPN xs = n ∧ n ≤ xs.length ∧ encP (decP xs) = xs.take n := by
  have h0 := h
  unfold decPE at h
  split at h
  · rename_i hv; exact absurd h hv
  · rename_i hv
    split at h
    · cases h
    · rename_i h2
      split at h
      · cases h
      · rename_i hw
        have hv' : verE xs 151 = 0 := by simpa using hv
        have hr0 := hx.getD 0
        have hr1 := hx.getD 1
        have e0 : rd xs 0 = xs.getD 0 0 := rfl
        have e1 : rd xs 1 = xs.getD 1 0 := rfl
        obtain ⟨b, hb⟩ := Int.eq_ofNat_of_zero_le (show 0 ≤ rd xs 1 by rw [e1]; exact hr1.1)
        rw [hb, Int.toNat_natCast] at h
        have hwl := widthA_le (rd xs 0)
        have hbw : b ≤ widthA (rd xs 0) := by omega
        have hf := fullB_le (bits := b) (by omega)
        have hlen : fullB b ≤ (xs.drop 2).length := by
          rcases Nat.lt_or_ge (xs.drop 2).length (fullB b) with hh | hh
          · rw [some_short hh] at h; cases h
          · exact hh
        have hcl : clearA (pad ((xs.drop 2).take (fullB b))) b = true := by
          cases hc : clearA (pad ((xs.drop 2).take (fullB b))) b
          · rw [some_wrong hlen hc] at h; cases h
          · rfl
        have hdp : decP xs = ⟨rd xs 0, pad ((xs.drop 2).take (fullB b)), b⟩ := by unfold decP; rw [if_pos h0, hb]
        have hdn : decPN xs = ((2 + fullB b : Nat) : Int) := by unfold decPN; rw [if_pos h0, hb]; omega
        have h16 : B16 (pad ((xs.drop 2).take (fullB b))) := pad_16 (by rw [List.length_take]; omega) ((hx.drop 2).take _)
        rw [List.length_drop] at hlen
        have hw0 : widthA (rd xs 0) ≠ 0 := by
          intro hz
          rw [verE_cons (by omega), if_pos hz] at hv'
          cases hv'
        have hright : Pfx.right ⟨rd xs 0, pad ((xs.drop 2).take (fullB b)), b⟩ = true := by
          rw [Pfx.right_iff]
          refine ⟨?_, by show (0 : Int) ≤ (b : Int); omega, by show (b : Int) ≤ widthA (rd xs 0); omega, fun i h1 h2 => ?_⟩
          · rw [rightA_iff]
            exact ⟨hw0, fun i h1 h2 => (clearA_iff _ _).1 hcl i (by have h1' : widthA (rd xs 0) ≤ i := h1; omega) h2⟩
          · have h1' : (b : Int) ≤ i := h1
            exact (clearA_iff _ _).1 hcl i (by omega) h2
        rw [hdp]
        refine ⟨hright, h16, 2 + fullB b, hdn, by omega, ?_⟩
        have hl2 : ((xs.drop 2).take (fullB b)).length = fullB b := by rw [List.length_take, List.length_drop]; omega
        rcases xs with _ | ⟨a, _ | ⟨c, r⟩⟩
        · exact absurd (by simp) h2
        · exact absurd (by simp) h2
        · clear h0 h
          have ea : rd (a :: c :: r) 0 = a := rfl
          have ec : rd (a :: c :: r) 1 = c := rfl
          rw [ec] at hb
          subst hb
          have ha : a % 256 = a := by have := hx a (by simp); omega
          have hb' : (b : Int) % 256 = b := by have := hx (b : Int) (by simp); omega
          show (a % 256) :: ((b : Int) % 256) :: (pad (r.take (fullB b))).take (fullB b) = (a :: (b : Int) :: r).take (2 + fullB b)
          rw [ha, hb', show 2 + fullB b = fullB b + 1 + 1 by omega, List.take_succ_cons, List.take_succ_cons]
          congr 2
          unfold pad
          exact List.take_left' hl2
end Go.Proofs.YtihfaknflfmohaaDoor

/- Plain laws of tables (layer 9): rows by rising prefixes; the longest match; set, drop and get. -/
namespace Go.Proofs.YtihfaknflfmohaaDoor
set_option linter.unusedVariables false
set_option linter.unusedSimpArgs false
set_option maxRecDepth 4000

structure Row where
  p : Pfx
  h : Int
def Row.fits (r : Row) : Prop := B16 r.p.l
def Row.okB (r : Row) : Bool := r.p.right && decide (1 ≤ r.h) && decide (r.h ≤ 255)
def rowZ : Row := ⟨⟨0, List.replicate 16 0, 0⟩, 0⟩
def rising : List Row → Bool
  | [] => true
  | [_] => true
  | a :: b :: t => decide (a.p.cmp b.p < 0) && rising (b :: t)
/-- May it be a table? -/
def tabB (t : List Row) : Bool := decide (t.length ≤ 40) && t.all Row.okB && rising t
def rowAt (t : List Row) (i : Nat) : Row := t.getD i rowZ
theorem rowAt_get {t : List Row} {i : Nat} (h : i < t.length) : t[i]? = some (rowAt t i) := by
  simp [rowAt, List.getD_eq_getElem?_getD, h]
theorem rowAt_eq {t : List Row} {i : Nat} {r : Row} (h : t[i]? = some r) : rowAt t i = r := by
  simp [rowAt, List.getD_eq_getElem?_getD, h]

theorem cmp_irrefl (p : Pfx) : ¬ p.cmp p < 0 := by
  have : p.cmp p = 0 := cmpI_refl _
  omega
theorem rising_cons {a : Row} {t : List Row} (h : rising (a :: t) = true) : rising t = true := by
  cases t with
  | nil => rfl
  | cons b t => simp only [rising, Bool.and_eq_true] at h; exact h.2
theorem rising_head {a : Row} : ∀ {t : List Row}, rising (a :: t) = true → ∀ r ∈ t, a.p.cmp r.p < 0
  | [], _, r, hr => by cases hr
  | b :: t, h, r, hr => by
    have h2 := h
    simp only [rising, Bool.and_eq_true, decide_eq_true_eq] at h2
    rcases List.mem_cons.1 hr with rfl | hr
    · exact h2.1
    · exact a.p.cmp_trans b.p r.p h2.1 (rising_head (rising_cons h) r hr)
theorem rising_of_head {a : Row} {t : List Row} (h : ∀ r ∈ t, a.p.cmp r.p < 0) (ht : rising t = true) : rising (a :: t) = true := by
  cases t with
  | nil => rfl
  | cons b t => simp only [rising, Bool.and_eq_true, decide_eq_true_eq]; exact ⟨h b (by simp), ht⟩
/-- Up to a place, by the rows' neighbours. -/
theorem rising_iff (t : List Row) : rising t = true ↔ ∀ i, i + 1 < t.length → (rowAt t i).p.cmp (rowAt t (i + 1)).p < 0 := by
  induction t with
  | nil => simp [rising]
  | cons a t ih =>
    cases t with
    | nil => simp [rising]
    | cons b t =>
      simp only [rising, Bool.and_eq_true, decide_eq_true_eq, ih]
      constructor
      · rintro ⟨h1, h2⟩ i hi
        cases i with
        | zero => exact h1
        | succ i => exact h2 i (by simpa using hi)
      · intro h
        exact ⟨h 0 (by simp), fun i hi => h (i + 1) (by simpa using hi)⟩
theorem tabB_iff (t : List Row) : tabB t = true ↔ t.length ≤ 40 ∧ (∀ i, i < t.length → (rowAt t i).okB = true) ∧ ∀ i, i + 1 < t.length → (rowAt t i).p.cmp (rowAt t (i + 1)).p < 0 := by
  unfold tabB
  simp only [Bool.and_eq_true, decide_eq_true_eq, rising_iff, List.all_eq_true]
  constructor
  · rintro ⟨⟨h1, h2⟩, h3⟩
    exact ⟨h1, fun i hi => h2 _ (List.mem_of_getElem? (rowAt_get hi)), h3⟩
  · rintro ⟨h1, h2, h3⟩
    refine ⟨⟨h1, fun r hr => ?_⟩, h3⟩
    obtain ⟨i, hi, he⟩ := List.getElem_of_mem hr
    have := h2 i hi
    rwa [rowAt_eq (List.getElem?_eq_some_iff.2 ⟨hi, he⟩)] at this

theorem snoc_indG {α : Type} {P : List α → Prop} (h0 : P []) (h1 : ∀ l a, P l → P (l ++ [a])) (l : List α) : P l := by
  have h : ∀ l : List α, P l.reverse := by
    intro l
    induction l with
    | nil => exact h0
    | cons a l ih => rw [List.reverse_cons]; exact h1 _ _ ih
  have := h l.reverse
  rwa [List.reverse_reverse] at this
/-! The longest match. -/
def bestStep (v : Int) (l : List Int) (b : Option Row) (r : Row) : Option Row := if r.p.has v l && (match b with | none => true | some x => decide (x.p.b < r.p.b)) then some r else b
def longest (t : List Row) (v : Int) (l : List Int) : Option Row := t.foldl (bestStep v l) none
theorem longest_snoc (t : List Row) (r : Row) (v : Int) (l : List Int) : longest (t ++ [r]) v l = bestStep v l (longest t v l) r := by simp [longest]
/-- The row at place i matches; none that matches has more bits, and none ahead of it as many. -/
structure Best (t : List Row) (v : Int) (l : List Int) (i : Nat) (r : Row) : Prop where
  at_ : t[i]? = some r
  has : r.p.has v l = true
  top : ∀ j x, t[j]? = some x → x.p.has v l = true → x.p.b ≤ r.p.b ∧ (j < i → x.p.b < r.p.b)
theorem longest_spec (v : Int) (l : List Int) : ∀ t : List Row, (longest t v l = none ∧ ∀ x ∈ t, x.p.has v l = false) ∨ ∃ i r, longest t v l = some r ∧ Best t v l i r := by
  intro t
  refine snoc_indG (P := fun t => (longest t v l = none ∧ ∀ x ∈ t, x.p.has v l = false) ∨ ∃ i r, longest t v l = some r ∧ Best t v l i r) (.inl ⟨rfl, fun x hx => by cases hx⟩) (fun t r ih => ?_) t
  · rw [longest_snoc]
    unfold bestStep
    rcases ih with ⟨h1, h2⟩ | ⟨i, x, h1, h2⟩
    · rw [h1]
      cases hr : r.p.has v l
      · refine .inl ⟨by simp, fun y hy => ?_⟩
        rcases List.mem_append.1 hy with hy | hy
        · exact h2 y hy
        · rw [List.mem_singleton] at hy; rw [hy]; exact hr
      · refine .inr ⟨t.length, r, by simp, by simp, hr, fun j y hj hy => ?_⟩
        rcases Nat.lt_or_ge j t.length with hlt | hge
        · rw [List.getElem?_append_left hlt] at hj
          rw [h2 y (List.mem_of_getElem? hj)] at hy
          cases hy
        · have : j = t.length := by
            have := (List.getElem?_eq_some_iff.1 hj).1
            simp at this
            omega
          subst this
          simp at hj
          subst hj
          exact ⟨Int.le_refl _, fun h => absurd h (Nat.lt_irrefl _)⟩
    · rw [h1]
      have hi : i < t.length := (List.getElem?_eq_some_iff.1 h2.at_).1
      by_cases hb : r.p.has v l = true ∧ x.p.b < r.p.b
      · refine .inr ⟨t.length, r, by simp [hb.1, hb.2], by simp, hb.1, fun j y hj hy => ?_⟩
        rcases Nat.lt_or_ge j t.length with hlt | hge
        · rw [List.getElem?_append_left hlt] at hj
          have := (h2.top j y hj hy).1
          exact ⟨by omega, fun _ => by omega⟩
        · have : j = t.length := by
            have := (List.getElem?_eq_some_iff.1 hj).1
            simp at this
            omega
          subst this
          simp at hj
          subst hj
          exact ⟨Int.le_refl _, fun h => absurd h (Nat.lt_irrefl _)⟩
      · have hno : (r.p.has v l && decide (x.p.b < r.p.b)) = false := by
          rw [Bool.eq_false_iff]
          intro h
          simp only [Bool.and_eq_true, decide_eq_true_eq] at h
          exact hb h
        refine .inr ⟨i, x, by simp [hno], by rw [List.getElem?_append_left hi]; exact h2.at_, h2.has, fun j y hj hy => ?_⟩
        rcases Nat.lt_or_ge j t.length with hlt | hge
        · rw [List.getElem?_append_left hlt] at hj
          exact h2.top j y hj hy
        · have : j = t.length := by
            have := (List.getElem?_eq_some_iff.1 hj).1
            simp at this
            omega
          subst this
          simp at hj
          subst hj
          refine ⟨?_, fun h => by omega⟩
          rcases Int.lt_or_le x.p.b r.p.b with hh | hh
          · exact absurd ⟨hy, hh⟩ hb
          · exact hh
theorem best_unique {t : List Row} {v : Int} {l : List Int} {i j : Nat} {r x : Row} (h : Best t v l i r) (k : Best t v l j x) : i = j ∧ r = x := by
  have h1 := h.top j x k.at_ k.has
  have h2 := k.top i r h.at_ h.has
  have : i = j := by
    rcases Nat.lt_trichotomy i j with hh | hh | hh
    · have := h2.2 hh; omega
    · exact hh
    · have := h1.2 hh; omega
  subst this
  have := h.at_.symm.trans k.at_
  exact ⟨rfl, Option.some.inj this⟩
theorem longest_best {t : List Row} {v : Int} {l : List Int} {i : Nat} {r : Row} (h : Best t v l i r) : longest t v l = some r := by
  rcases longest_spec v l t with ⟨h1, h2⟩ | ⟨j, x, h1, h2⟩
  · have := h2 r (List.mem_of_getElem? h.at_)
    rw [h.has] at this
    cases this
  · rw [h1, (best_unique h h2).2]
theorem longest_none {t : List Row} {v : Int} {l : List Int} (h : ∀ x ∈ t, x.p.has v l = false) : longest t v l = none := by
  rcases longest_spec v l t with ⟨h1, _⟩ | ⟨j, x, h1, h2⟩
  · exact h1
  · have := h x (List.mem_of_getElem? h2.at_)
    rw [h2.has] at this
    cases this
end Go.Proofs.YtihfaknflfmohaaDoor

/- Plain laws of tables (layer 9), second part: set, drop and get. -/
namespace Go.Proofs.YtihfaknflfmohaaDoor
set_option linter.unusedVariables false
set_option linter.unusedSimpArgs false
set_option maxRecDepth 4000

/-- The place of a prefix, or the one that it would have. -/
def lowN (t : List Row) (p : Pfx) : Nat := (t.takeWhile fun r => decide (r.p.cmp p < 0)).length
def thereB (t : List Row) (p : Pfx) : Bool := match t[lowN t p]? with
  | some r => r.p.cmp p == 0
  | none => false
def setT (t : List Row) (p : Pfx) (h : Int) : List Row := t.take (lowN t p) ++ ⟨p, h⟩ :: t.drop (if thereB t p then lowN t p + 1 else lowN t p)
def dropT (t : List Row) (p : Pfx) : List Row := t.take (lowN t p) ++ t.drop (lowN t p + 1)
def getT (t : List Row) (p : Pfx) : Int := if thereB t p then (rowAt t (lowN t p)).h else 0
def eqP (a b : Pfx) : Bool := decide (a.v = b.v) && decide (a.l = b.l) && decide (a.b = b.b)
theorem eqP_iff (p q : Pfx) : eqP p q = true ↔ p = q := by
  unfold eqP
  simp only [Bool.and_eq_true, decide_eq_true_eq]
  constructor
  · rintro ⟨⟨h1, h2⟩, h3⟩
    cases p; cases q
    simp_all
  · rintro rfl
    exact ⟨⟨rfl, rfl⟩, rfl⟩
theorem eqP_no {p q : Pfx} (h : p ≠ q) : eqP p q = false := by
  rw [Bool.eq_false_iff]
  exact fun e => h ((eqP_iff p q).1 e)
/-- As the document puts it. -/
def putR (p : Pfx) (h : Int) : Bool → List Row → List Row
  | put, [] => if put then [] else [⟨p, h⟩]
  | put, r :: t => if eqP r.p p then putR p h put t else if !put && decide (p.cmp r.p < 0) then ⟨p, h⟩ :: r :: putR p h true t else r :: putR p h put t
def getR (t : List Row) (p : Pfx) : Int := match t.find? (fun r => eqP r.p p) with
  | some r => r.h
  | none => 0
def Fits (t : List Row) : Prop := ∀ r ∈ t, B16 r.p.l
theorem Fits.tail {a : Row} {t : List Row} (h : Fits (a :: t)) : Fits t := fun r hr => h r (by simp [hr])
theorem cmp_pos {p q : Pfx} (h : ¬ p.cmp q < 0) (h0 : p.cmp q ≠ 0) : q.cmp p < 0 := by
  have := p.cmp_neg q
  omega

theorem lowN_cons (a : Row) (t : List Row) (p : Pfx) : lowN (a :: t) p = if a.p.cmp p < 0 then lowN t p + 1 else 0 := by
  unfold lowN
  rw [List.takeWhile_cons]
  by_cases h : a.p.cmp p < 0
  · simp [h]
  · simp [h]
theorem lowN_le (t : List Row) (p : Pfx) : lowN t p ≤ t.length := by
  induction t with
  | nil => simp [lowN]
  | cons a t ih =>
    rw [lowN_cons]
    split
    · simp; exact ih
    · simp
/-- Behind the place nothing is below the prefix. -/
theorem lowN_spec {t : List Row} (p : Pfx) (ht : rising t = true) (i : Nat) (hi : i < t.length) : (i < lowN t p → (rowAt t i).p.cmp p < 0) ∧ (lowN t p ≤ i → ¬ (rowAt t i).p.cmp p < 0) := by
  induction t generalizing i with
  | nil => simp at hi
  | cons a t ih =>
    rw [lowN_cons]
    by_cases h : a.p.cmp p < 0
    · rw [if_pos h]
      cases i with
      | zero => exact ⟨fun _ => h, fun h => by omega⟩
      | succ i =>
        have := ih (rising_cons ht) i (by simpa using hi)
        exact ⟨fun h => this.1 (by omega), fun h => this.2 (by omega)⟩
    · rw [if_neg h]
      refine ⟨fun h => by omega, fun _ => ?_⟩
      cases i with
      | zero => exact h
      | succ i =>
        intro hlt
        have hm : rowAt t i ∈ t := List.mem_of_getElem? (rowAt_get (by simpa using hi))
        have h1 := rising_head ht _ hm
        exact h (a.p.cmp_trans _ p h1 hlt)
theorem lowN_unique {t : List Row} {p : Pfx} {k : Nat} (ht : rising t = true) (hk : k ≤ t.length) (h1 : ∀ i, i < k → (rowAt t i).p.cmp p < 0) (h2 : k < t.length → ¬ (rowAt t k).p.cmp p < 0) : lowN t p = k := by
  have hl := lowN_le t p
  rcases Nat.lt_trichotomy (lowN t p) k with h | h | h
  · have := (lowN_spec p ht (lowN t p) (by omega)).2 (Nat.le_refl _)
    exact absurd (h1 _ h) this
  · exact h
  · exact absurd ((lowN_spec p ht k (by omega)).1 h) (h2 (by omega))
theorem thereB_iff {t : List Row} {p : Pfx} (hf : Fits t) (hp : B16 p.l) (ht : rising t = true) : thereB t p = true ↔ ∃ r ∈ t, r.p = p := by
  unfold thereB
  constructor
  · intro h
    split at h
    · rename_i r hr
      have hm := List.mem_of_getElem? hr
      refine ⟨r, hm, (r.p.cmp_zero p (hf r hm) hp).1 (by simpa using h)⟩
    · cases h
  · rintro ⟨r, hr, rfl⟩
    obtain ⟨i, hi, he⟩ := List.getElem_of_mem hr
    have hri : rowAt t i = r := rowAt_eq (List.getElem?_eq_some_iff.2 ⟨hi, he⟩)
    have hz : r.p.cmp r.p = 0 := cmpI_refl _
    have : lowN t r.p = i := by
      refine lowN_unique ht (by omega) (fun j hj => ?_) (fun _ => by rw [hri]; omega)
      have h2 : ∀ (t : List Row) (i j : Nat), rising t = true → j < i → i < t.length → (rowAt t j).p.cmp (rowAt t i).p < 0 := by
        intro t
        induction t with
        | nil => intro i j _ _ h; simp at h
        | cons a t ih =>
          intro i j ht hji hi
          cases i with
          | zero => omega
          | succ i =>
            cases j with
            | zero => exact rising_head ht _ (List.mem_of_getElem? (rowAt_get (t := t) (by simpa using hi)))
            | succ j => exact ih i j (rising_cons ht) (by omega) (by simpa using hi)
      have := h2 t i j ht hj hi
      rwa [hri] at this
    rw [this, rowAt_get hi, hri]
    simp [hz]
theorem putR_true {p : Pfx} {h : Int} : ∀ {t : List Row}, (∀ r ∈ t, r.p ≠ p) → putR p h true t = t
  | [], _ => rfl
  | a :: t, hn => by
    rw [putR, if_neg (by rw [eqP_no (hn a (by simp))]; simp), if_neg (by simp), putR_true (fun r hr => hn r (by simp [hr]))]
theorem above_ne {p : Pfx} {t : List Row} (h : ∀ r ∈ t, p.cmp r.p < 0) : ∀ r ∈ t, r.p ≠ p := fun r hr e => by
  have := h r hr
  rw [e] at this
  exact cmp_irrefl p this
theorem thereB_cons {a : Row} {t : List Row} {p : Pfx} : thereB (a :: t) p = if a.p.cmp p < 0 then thereB t p else a.p.cmp p == 0 := by
  unfold thereB
  rw [lowN_cons]
  by_cases h : a.p.cmp p < 0
  · rw [if_pos h, if_pos h]
    rfl
  · rw [if_neg h, if_neg h]
    rfl
/-- The document's way of setting is the place's. -/
theorem putR_set {p : Pfx} {h : Int} (hp : B16 p.l) : ∀ {t : List Row}, Fits t → rising t = true → putR p h false t = setT t p h
  | [], _, _ => rfl
  | a :: t, hf, ht => by
    have ha := hf a (by simp)
    unfold setT
    rw [lowN_cons, thereB_cons, putR]
    by_cases hlt : a.p.cmp p < 0
    · have hne : a.p ≠ p := fun e => by rw [e] at hlt; exact cmp_irrefl p hlt
      have hng : ¬ p.cmp a.p < 0 := by have := p.cmp_neg a.p; omega
      rw [if_pos hlt, if_pos hlt, if_neg (by rw [eqP_no hne]; simp), if_neg (by simp [hng]), putR_set hp hf.tail (rising_cons ht)]
      unfold setT
      split <;> rfl
    · rw [if_neg hlt, if_neg hlt]
      by_cases hz : a.p.cmp p = 0
      · have he := (a.p.cmp_zero p ha hp).1 hz
        rw [if_pos ((eqP_iff _ _).2 he), hz]
        have habove : ∀ r ∈ t, p.cmp r.p < 0 := fun r hr => he ▸ rising_head ht r hr
        cases t with
        | nil => rfl
        | cons b t =>
          have hb := habove b (by simp)
          rw [putR, if_neg (by rw [eqP_no (above_ne habove b (by simp))]; simp), if_pos (by simp [hb]), putR_true (above_ne (fun r hr => habove r (by simp [hr])))]
          rfl
      · have hgt := cmp_pos hlt hz
        have hne : a.p ≠ p := fun e => by rw [e] at hz; exact hz (cmpI_refl _)
        have habove : ∀ r ∈ t, p.cmp r.p < 0 := fun r hr => p.cmp_trans a.p r.p hgt (rising_head ht r hr)
        rw [if_neg (by rw [eqP_no hne]; simp), if_pos (by simp [hgt]), putR_true (above_ne habove), if_neg (by simpa using hz)]
        rfl
theorem dropR {p : Pfx} {h : Int} (hp : B16 p.l) : ∀ {t : List Row}, Fits t → rising t = true → thereB t p = true → putR p h true t = dropT t p
  | [], _, _, hth => by cases hth
  | a :: t, hf, ht, hth => by
    have ha := hf a (by simp)
    rw [thereB_cons] at hth
    unfold dropT
    rw [lowN_cons, putR]
    by_cases hlt : a.p.cmp p < 0
    · have hne : a.p ≠ p := fun e => by rw [e] at hlt; exact cmp_irrefl p hlt
      rw [if_pos hlt] at hth
      rw [if_pos hlt, if_neg (by rw [eqP_no hne]; simp), if_neg (by simp), dropR hp hf.tail (rising_cons ht) hth]
      rfl
    · rw [if_neg hlt] at hth
      have hz : a.p.cmp p = 0 := by simpa using hth
      have he := (a.p.cmp_zero p ha hp).1 hz
      have habove : ∀ r ∈ t, p.cmp r.p < 0 := fun r hr => he ▸ rising_head ht r hr
      rw [if_neg hlt, if_pos ((eqP_iff _ _).2 he), putR_true (above_ne habove)]
      rfl
theorem getR_get {p : Pfx} (hp : B16 p.l) : ∀ {t : List Row}, Fits t → rising t = true → getR t p = getT t p
  | [], _, _ => rfl
  | a :: t, hf, ht => by
    have ha := hf a (by simp)
    have ih := getR_get hp hf.tail (rising_cons ht)
    unfold getR getT at *
    rw [thereB_cons, lowN_cons, List.find?_cons]
    by_cases hlt : a.p.cmp p < 0
    · have hne : a.p ≠ p := fun e => by rw [e] at hlt; exact cmp_irrefl p hlt
      rw [if_pos hlt, if_pos hlt, eqP_no hne]
      exact ih
    · rw [if_neg hlt, if_neg hlt]
      by_cases hz : a.p.cmp p = 0
      · have he := (a.p.cmp_zero p ha hp).1 hz
        rw [(eqP_iff _ _).2 he, hz]
        rfl
      · have hne : a.p ≠ p := fun e => by rw [e] at hz; exact hz (cmpI_refl _)
        have hgt := cmp_pos hlt hz
        have habove : ∀ r ∈ t, p.cmp r.p < 0 := fun r hr => p.cmp_trans a.p r.p hgt (rising_head ht r hr)
        have hnone : t.find? (fun r => eqP r.p p) = none := by
          rw [List.find?_eq_none]
          intro r hr
          rw [eqP_no (above_ne habove r hr)]
          simp
        rw [eqP_no hne, hnone, if_neg (by simpa using hz)]
end Go.Proofs.YtihfaknflfmohaaDoor

/- Plain laws of tables (layer 9), third part: tables by what is in them. -/
namespace Go.Proofs.YtihfaknflfmohaaDoor
set_option linter.unusedVariables false
set_option linter.unusedSimpArgs false
set_option maxRecDepth 4000

theorem setT_nil (p : Pfx) (h : Int) : setT [] p h = [⟨p, h⟩] := rfl
theorem setT_cons (a : Row) (t : List Row) (p : Pfx) (h : Int) : setT (a :: t) p h = if a.p.cmp p < 0 then a :: setT t p h else if a.p.cmp p = 0 then ⟨p, h⟩ :: t else ⟨p, h⟩ :: a :: t := by
  unfold setT
  rw [lowN_cons, thereB_cons]
  by_cases h1 : a.p.cmp p < 0
  · rw [if_pos h1, if_pos h1, if_pos h1]
    split <;> rfl
  · rw [if_neg h1, if_neg h1, if_neg h1]
    by_cases h2 : a.p.cmp p = 0
    · rw [if_pos h2, h2]; rfl
    · rw [if_neg h2, if_neg (by simpa using h2)]; rfl
theorem dropT_cons (a : Row) (t : List Row) (p : Pfx) : dropT (a :: t) p = if a.p.cmp p < 0 then a :: dropT t p else t := by
  unfold dropT
  rw [lowN_cons]
  by_cases h1 : a.p.cmp p < 0
  · rw [if_pos h1, if_pos h1]; rfl
  · rw [if_neg h1, if_neg h1]; rfl
theorem getT_cons (a : Row) (t : List Row) (p : Pfx) : getT (a :: t) p = if a.p.cmp p < 0 then getT t p else if a.p.cmp p = 0 then a.h else 0 := by
  unfold getT
  rw [lowN_cons, thereB_cons]
  by_cases h1 : a.p.cmp p < 0
  · rw [if_pos h1, if_pos h1, if_pos h1]; rfl
  · rw [if_neg h1, if_neg h1, if_neg h1]
    by_cases h2 : a.p.cmp p = 0
    · rw [if_pos h2, h2]; rfl
    · rw [if_neg h2, if_neg (by simpa using h2)]
theorem ne_of_cmp {p q : Pfx} (h : p.cmp q ≠ 0) : p ≠ q := fun e => by rw [e] at h; exact h (cmpI_refl _)
theorem eq_of_cmp {p q : Pfx} (hp : B16 p.l) (hq : B16 q.l) (h : p.cmp q = 0) : p = q := (p.cmp_zero q hp hq).1 h
theorem ne_of_lt {p q : Pfx} (h : p.cmp q < 0) : p ≠ q := ne_of_cmp (by omega)

theorem mem_setT {x : Row} {p : Pfx} {h : Int} (hp : B16 p.l) : ∀ {t : List Row}, Fits t → rising t = true → (x ∈ setT t p h ↔ x = ⟨p, h⟩ ∨ (x ∈ t ∧ x.p ≠ p))
  | [], _, _ => by rw [setT_nil]; simp
  | a :: t, hf, ht => by
    have ih := mem_setT (x := x) (h := h) hp hf.tail (rising_cons ht)
    have hh := rising_head ht
    rw [setT_cons]
    by_cases h1 : a.p.cmp p < 0
    · rw [if_pos h1, List.mem_cons, List.mem_cons, ih]
      constructor
      · rintro (rfl | rfl | h)
        · exact .inr ⟨.inl rfl, ne_of_lt h1⟩
        · exact .inl rfl
        · exact .inr ⟨.inr h.1, h.2⟩
      · rintro (rfl | ⟨rfl | h, hn⟩)
        · exact .inr (.inl rfl)
        · exact .inl rfl
        · exact .inr (.inr ⟨h, hn⟩)
    · rw [if_neg h1]
      by_cases h2 : a.p.cmp p = 0
      · have he := eq_of_cmp (hf a (by simp)) hp h2
        rw [if_pos h2, List.mem_cons, List.mem_cons]
        constructor
        · rintro (rfl | hm)
          · exact .inl rfl
          · refine .inr ⟨.inr hm, fun e => ?_⟩
            have := hh x hm
            rw [he, e] at this
            exact cmp_irrefl p this
        · rintro (rfl | ⟨rfl | hm, hn⟩)
          · exact .inl rfl
          · exact absurd he hn
          · exact .inr hm
      · have hgt := cmp_pos h1 h2
        rw [if_neg h2, List.mem_cons, List.mem_cons]
        constructor
        · rintro (rfl | rfl | hm)
          · exact .inl rfl
          · exact .inr ⟨.inl rfl, ne_of_cmp h2⟩
          · refine .inr ⟨.inr hm, fun e => ?_⟩
            have := p.cmp_trans a.p x.p hgt (hh x hm)
            rw [e] at this
            exact cmp_irrefl p this
        · rintro (rfl | ⟨hm, _⟩)
          · exact .inl rfl
          · exact .inr hm
theorem rising_setT {p : Pfx} {h : Int} (hp : B16 p.l) : ∀ {t : List Row}, Fits t → rising t = true → rising (setT t p h) = true
  | [], _, _ => rfl
  | a :: t, hf, ht => by
    have ih := rising_setT (h := h) hp hf.tail (rising_cons ht)
    have hh := rising_head ht
    rw [setT_cons]
    by_cases h1 : a.p.cmp p < 0
    · rw [if_pos h1]
      refine rising_of_head (fun r hr => ?_) ih
      rcases (mem_setT hp hf.tail (rising_cons ht)).1 hr with rfl | ⟨hm, _⟩
      · exact h1
      · exact hh r hm
    · rw [if_neg h1]
      by_cases h2 : a.p.cmp p = 0
      · have he := eq_of_cmp (hf a (by simp)) hp h2
        rw [if_pos h2]
        refine rising_of_head (fun r hr => ?_) (rising_cons ht)
        show p.cmp r.p < 0
        rw [← he]
        exact hh r hr
      · have hgt := cmp_pos h1 h2
        rw [if_neg h2]
        refine rising_of_head (fun r hr => ?_) ht
        rcases List.mem_cons.1 hr with rfl | hr
        · exact hgt
        · exact p.cmp_trans a.p r.p hgt (hh r hr)
theorem fits_setT {p : Pfx} {h : Int} (hp : B16 p.l) {t : List Row} (hf : Fits t) (ht : rising t = true) : Fits (setT t p h) := by
  intro r hr
  rcases (mem_setT hp hf ht).1 hr with rfl | ⟨hm, _⟩
  · exact hp
  · exact hf r hm
theorem mem_dropT_of {x : Row} {p : Pfx} : ∀ {t : List Row}, x ∈ dropT t p → x ∈ t
  | [], h => h
  | a :: t, h => by
    rw [dropT_cons] at h
    split at h
    · rcases List.mem_cons.1 h with rfl | h
      · simp
      · exact List.mem_cons_of_mem _ (mem_dropT_of h)
    · exact List.mem_cons_of_mem _ h
theorem mem_dropT {x : Row} {p : Pfx} (hp : B16 p.l) : ∀ {t : List Row}, Fits t → rising t = true → thereB t p = true → (x ∈ dropT t p ↔ x ∈ t ∧ x.p ≠ p)
  | [], _, _, hth => by cases hth
  | a :: t, hf, ht, hth => by
    have hh := rising_head ht
    rw [thereB_cons] at hth
    rw [dropT_cons]
    by_cases h1 : a.p.cmp p < 0
    · rw [if_pos h1] at hth ⊢
      rw [List.mem_cons, List.mem_cons, mem_dropT hp hf.tail (rising_cons ht) hth]
      constructor
      · rintro (rfl | h)
        · exact ⟨.inl rfl, ne_of_lt h1⟩
        · exact ⟨.inr h.1, h.2⟩
      · rintro ⟨rfl | h, hn⟩
        · exact .inl rfl
        · exact .inr ⟨h, hn⟩
    · rw [if_neg h1] at hth ⊢
      have he := eq_of_cmp (hf a (by simp)) hp (by simpa using hth)
      rw [List.mem_cons]
      constructor
      · intro hm
        refine ⟨.inr hm, fun e => ?_⟩
        have := hh x hm
        rw [he, e] at this
        exact cmp_irrefl p this
      · rintro ⟨rfl | hm, hn⟩
        · exact absurd he hn
        · exact hm
theorem rising_dropT {p : Pfx} : ∀ {t : List Row}, rising t = true → rising (dropT t p) = true
  | [], _ => rfl
  | a :: t, ht => by
    rw [dropT_cons]
    split
    · exact rising_of_head (fun r hr => rising_head ht r (mem_dropT_of hr)) (rising_dropT (rising_cons ht))
    · exact rising_cons ht
theorem there_iff {p : Pfx} (hp : B16 p.l) : ∀ {t : List Row}, Fits t → rising t = true → (thereB t p = true ↔ ∃ x ∈ t, x.p = p)
  | [], _, _ => by simp [thereB]
  | a :: t, hf, ht => by
    have ih := there_iff hp hf.tail (rising_cons ht)
    have hh := rising_head ht
    rw [thereB_cons]
    by_cases h1 : a.p.cmp p < 0
    · rw [if_pos h1, ih]
      constructor
      · rintro ⟨x, hm, he⟩
        exact ⟨x, List.mem_cons_of_mem _ hm, he⟩
      · rintro ⟨x, hm, he⟩
        rcases List.mem_cons.1 hm with rfl | hm
        · exact absurd he (ne_of_lt h1)
        · exact ⟨x, hm, he⟩
    · rw [if_neg h1]
      constructor
      · intro h
        exact ⟨a, by simp, eq_of_cmp (hf a (by simp)) hp (by simpa using h)⟩
      · rintro ⟨x, hm, he⟩
        rcases List.mem_cons.1 hm with rfl | hm
        · have hz : p.cmp p = 0 := cmpI_refl _
          rw [he, hz]; rfl
        · have := hh x hm
          rw [he] at this
          exact absurd this h1
theorem getT_mem {p : Pfx} (hp : B16 p.l) : ∀ {t : List Row}, Fits t → thereB t p = true → ⟨p, getT t p⟩ ∈ t
  | [], _, h => by cases h
  | a :: t, hf, h => by
    rw [thereB_cons] at h
    rw [getT_cons]
    by_cases h1 : a.p.cmp p < 0
    · rw [if_pos h1] at h ⊢
      exact List.mem_cons_of_mem _ (getT_mem hp hf.tail h)
    · rw [if_neg h1] at h ⊢
      have h2 : a.p.cmp p = 0 := by simpa using h
      rw [if_pos h2, ← eq_of_cmp (hf a (by simp)) hp h2]
      simp
theorem mem_unique {x y : Row} : ∀ {t : List Row}, rising t = true → x ∈ t → y ∈ t → x.p = y.p → x = y
  | [], _, h, _, _ => by cases h
  | a :: t, ht, hx, hy, he => by
    have hh := rising_head ht
    rcases List.mem_cons.1 hx with e1 | m1
    · rcases List.mem_cons.1 hy with e2 | m2
      · rw [e1, e2]
      · have := hh y m2
        rw [← he, e1] at this
        exact absurd this (cmp_irrefl _)
    · rcases List.mem_cons.1 hy with e2 | m2
      · have := hh x m1
        rw [he, e2] at this
        exact absurd this (cmp_irrefl _)
      · exact mem_unique (rising_cons ht) m1 m2 he
theorem getT_of {p : Pfx} {h : Int} (hp : B16 p.l) {t : List Row} (hf : Fits t) (ht : rising t = true) (hm : (⟨p, h⟩ : Row) ∈ t) : getT t p = h := by
  have hth := (there_iff hp hf ht).2 ⟨_, hm, rfl⟩
  have := mem_unique ht (getT_mem hp hf hth) hm rfl
  exact congrArg Row.h this
theorem getT_no {t : List Row} {p : Pfx} (h : thereB t p = false) : getT t p = 0 := by unfold getT; rw [h]; rfl
/-- Tables are told by what is in them. -/
theorem rising_ext : ∀ {t u : List Row}, rising t = true → rising u = true → (∀ x, x ∈ t ↔ x ∈ u) → t = u
  | [], [], _, _, _ => rfl
  | [], b :: u, _, _, h => by have := (h b).2 (by simp); cases this
  | a :: t, [], _, _, h => by have := (h a).1 (by simp); cases this
  | a :: t, b :: u, ht, hu, h => by
    have ha := rising_head ht
    have hb := rising_head hu
    have hab : a = b := by
      rcases List.mem_cons.1 ((h a).1 (by simp)) with e | e
      · exact e
      · rcases List.mem_cons.1 ((h b).2 (by simp)) with k | k
        · exact k.symm
        · have h1 := ha b k
          have h2 := hb a e
          exact absurd (a.p.cmp_trans b.p a.p h1 h2) (cmp_irrefl _)
    subst hab
    rw [rising_ext (rising_cons ht) (rising_cons hu) (fun x => ?_)]
    constructor
    · intro hx
      rcases List.mem_cons.1 ((h x).1 (List.mem_cons_of_mem _ hx)) with rfl | hm
      · exact absurd (ha _ hx) (cmp_irrefl _)
      · exact hm
    · intro hx
      rcases List.mem_cons.1 ((h x).2 (List.mem_cons_of_mem _ hx)) with rfl | hm
      · exact absurd (hb _ hx) (cmp_irrefl _)
      · exact hm
theorem len_setT {p : Pfx} {h : Int} : ∀ t : List Row, (setT t p h).length = if thereB t p then t.length else t.length + 1
  | [] => rfl
  | a :: t => by
    have ih := len_setT (p := p) (h := h) t
    rw [setT_cons, thereB_cons]
    by_cases h1 : a.p.cmp p < 0
    · rw [if_pos h1, if_pos h1, List.length_cons, ih]
      split <;> rfl
    · rw [if_neg h1, if_neg h1]
      by_cases h2 : a.p.cmp p = 0
      · rw [if_pos h2, h2]; rfl
      · rw [if_neg h2, if_neg (by simpa using h2)]; rfl
theorem len_dropT {p : Pfx} : ∀ t : List Row, (dropT t p).length ≤ t.length
  | [] => Nat.le_refl _
  | a :: t => by
    have ih := len_dropT (p := p) t
    rw [dropT_cons]
    split
    · simp; exact ih
    · simp
theorem len_dropT' {p : Pfx} : ∀ {t : List Row}, thereB t p = true → (dropT t p).length = t.length - 1
  | [], h => by cases h
  | a :: t, h => by
    rw [thereB_cons] at h
    rw [dropT_cons]
    by_cases h1 : a.p.cmp p < 0
    · rw [if_pos h1] at h ⊢
      have hne : t ≠ [] := by rintro rfl; cases h
      have := len_dropT' h
      have := List.length_pos_iff.2 hne
      simp
      omega
    · rw [if_neg h1]; rfl

theorem tabB_of {t : List Row} (h1 : t.length ≤ 40) (h2 : ∀ r ∈ t, r.okB = true) (h3 : rising t = true) : tabB t = true := by
  unfold tabB
  simp only [Bool.and_eq_true, decide_eq_true_eq, List.all_eq_true]
  exact ⟨⟨h1, h2⟩, h3⟩
theorem tabB_to {t : List Row} (h : tabB t = true) : t.length ≤ 40 ∧ (∀ r ∈ t, r.okB = true) ∧ rising t = true := by
  unfold tabB at h
  simp only [Bool.and_eq_true, decide_eq_true_eq, List.all_eq_true] at h
  exact ⟨h.1.1, h.1.2, h.2⟩
theorem okB_iff (r : Row) : r.okB = true ↔ r.p.right = true ∧ 1 ≤ r.h ∧ r.h ≤ 255 := by
  unfold Row.okB
  simp only [Bool.and_eq_true, decide_eq_true_eq]
  exact ⟨fun h => ⟨h.1.1, h.1.2, h.2⟩, fun h => ⟨⟨h.1, h.2.1⟩, h.2.2⟩⟩
theorem tabB_setT {t : List Row} {p : Pfx} {h : Int} (hp : B16 p.l) (hf : Fits t) (ht : tabB t = true) (hr : p.right = true) (h1 : 1 ≤ h) (h2 : h ≤ 255) (hl : thereB t p = true ∨ t.length ≠ 40) : tabB (setT t p h) = true := by
  obtain ⟨k1, k2, k3⟩ := tabB_to ht
  refine tabB_of ?_ (fun r hm => ?_) (rising_setT hp hf k3)
  · rw [len_setT]
    split
    · exact k1
    · rename_i hn
      rcases hl with hl | hl
      · exact absurd hl hn
      · omega
  · rcases (mem_setT hp hf k3).1 hm with rfl | ⟨hm, _⟩
    · exact (okB_iff _).2 ⟨hr, h1, h2⟩
    · exact k2 r hm
theorem tabB_dropT {t : List Row} {p : Pfx} (ht : tabB t = true) : tabB (dropT t p) = true := by
  obtain ⟨k1, k2, k3⟩ := tabB_to ht
  exact tabB_of (Nat.le_trans (len_dropT t) k1) (fun r hm => k2 r (mem_dropT_of hm)) (rising_dropT k3)
theorem fits_dropT {t : List Row} {p : Pfx} (hf : Fits t) : Fits (dropT t p) := fun r hm => hf r (mem_dropT_of hm)

/-! The longest match, by what is in a table. -/
theorem has_det {p q : Pfx} {v : Int} {l : List Int} (hp : p.has v l = true) (hq : q.has v l = true) (hb : p.b = q.b) : p = q := by
  unfold Pfx.has at hp hq
  simp only [Bool.and_eq_true, decide_eq_true_eq] at hp hq
  obtain ⟨⟨⟨_, _⟩, h3⟩, h4⟩ := hp
  obtain ⟨⟨⟨_, _⟩, k3⟩, k4⟩ := hq
  cases p; cases q
  simp only at h3 h4 k3 k4 hb
  subst hb
  rw [h4] at k4
  simp [h3, k3, k4]
def Top (t : List Row) (v : Int) (l : List Int) (r : Row) : Prop := r ∈ t ∧ r.p.has v l = true ∧ ∀ x ∈ t, x.p.has v l = true → x.p.b ≤ r.p.b
theorem longest_top {t : List Row} {v : Int} {l : List Int} {r : Row} (ht : rising t = true) : longest t v l = some r ↔ Top t v l r := by
  constructor
  · intro h
    rcases longest_spec v l t with ⟨h1, _⟩ | ⟨i, x, h1, h2⟩
    · rw [h1] at h; cases h
    · rw [h1] at h
      cases h
      refine ⟨List.mem_of_getElem? h2.at_, h2.has, fun y hy hh => ?_⟩
      obtain ⟨j, hj, he⟩ := List.getElem_of_mem hy
      exact (h2.top j y (List.getElem?_eq_some_iff.2 ⟨hj, he⟩) hh).1
  · rintro ⟨h1, h2, h3⟩
    rcases longest_spec v l t with ⟨_, k⟩ | ⟨i, x, k1, k2⟩
    · have := k r h1
      rw [h2] at this
      cases this
    · obtain ⟨j, hj, he⟩ := List.getElem_of_mem h1
      have e1 := (k2.top j r (List.getElem?_eq_some_iff.2 ⟨hj, he⟩) h2).1
      have e2 := h3 x (List.mem_of_getElem? k2.at_) k2.has
      rw [k1, mem_unique ht (List.mem_of_getElem? k2.at_) h1 (has_det k2.has h2 (by omega))]
theorem longest_no {t : List Row} {v : Int} {l : List Int} : longest t v l = none ↔ ∀ x ∈ t, x.p.has v l = false := by
  constructor
  · intro h
    rcases longest_spec v l t with ⟨_, h2⟩ | ⟨i, x, h1, _⟩
    · exact h2
    · rw [h1] at h; cases h
  · exact longest_none
theorem longest_set {t : List Row} {p : Pfx} {h : Int} {v : Int} {l : List Int} (hp : B16 p.l) (hf : Fits t) (ht : rising t = true) : longest (setT t p h) v l = if p.has v l then (match longest t v l with | some m => if p.b < m.p.b then some m else some ⟨p, h⟩ | none => some ⟨p, h⟩) else longest t v l := by
  have hs := rising_setT (h := h) hp hf ht
  by_cases hh : p.has v l = true
  · rw [if_pos hh]
    cases hm : longest t v l with
    | none =>
      have hn := longest_no.1 hm
      refine (longest_top hs).2 ⟨(mem_setT hp hf ht).2 (.inl rfl), hh, fun x hx hxx => ?_⟩
      rcases (mem_setT hp hf ht).1 hx with rfl | ⟨hx, _⟩
      · exact Int.le_refl _
      · rw [hn x hx] at hxx; cases hxx
    | some m =>
      obtain ⟨h1, h2, h3⟩ := (longest_top ht).1 hm
      show _ = if p.b < m.p.b then some m else some ⟨p, h⟩
      by_cases hb : p.b < m.p.b
      · rw [if_pos hb]
        refine (longest_top hs).2 ⟨(mem_setT hp hf ht).2 (.inr ⟨h1, fun e => by rw [e] at hb; omega⟩), h2, fun x hx hxx => ?_⟩
        rcases (mem_setT hp hf ht).1 hx with rfl | ⟨hx, _⟩
        · show p.b ≤ _; omega
        · exact h3 x hx hxx
      · rw [if_neg hb]
        refine (longest_top hs).2 ⟨(mem_setT hp hf ht).2 (.inl rfl), hh, fun x hx hxx => ?_⟩
        rcases (mem_setT hp hf ht).1 hx with rfl | ⟨hx, _⟩
        · exact Int.le_refl _
        · have := h3 x hx hxx
          show _ ≤ p.b
          omega
  · rw [if_neg hh]
    have hh' : p.has v l = false := by simpa using hh
    cases hm : longest t v l with
    | none =>
      have hn := longest_no.1 hm
      refine longest_no.2 (fun x hx => ?_)
      rcases (mem_setT hp hf ht).1 hx with rfl | ⟨hx, _⟩
      · exact hh'
      · exact hn x hx
    | some m =>
      obtain ⟨h1, h2, h3⟩ := (longest_top ht).1 hm
      refine (longest_top hs).2 ⟨(mem_setT hp hf ht).2 (.inr ⟨h1, fun e => by rw [e] at h2; exact hh h2⟩), h2, fun x hx hxx => ?_⟩
      rcases (mem_setT hp hf ht).1 hx with rfl | ⟨hx, _⟩
      · exact absurd hxx hh
      · exact h3 x hx hxx

/-! Set, dropped, got. -/
theorem get_set {t : List Row} {p : Pfx} {h : Int} (hp : B16 p.l) (hf : Fits t) (ht : rising t = true) : thereB (setT t p h) p = true ∧ getT (setT t p h) p = h := by
  have hm := (mem_setT (x := ⟨p, h⟩) (h := h) hp hf ht).2 (.inl rfl)
  have hs := rising_setT (h := h) hp hf ht
  exact ⟨(there_iff hp (fits_setT hp hf ht) hs).2 ⟨_, hm, rfl⟩, getT_of hp (fits_setT hp hf ht) hs hm⟩
theorem there_drop {t : List Row} {p : Pfx} (hp : B16 p.l) (hf : Fits t) (ht : rising t = true) (hth : thereB t p = true) : thereB (dropT t p) p = false := by
  rw [Bool.eq_false_iff]
  intro h
  obtain ⟨x, hx, he⟩ := (there_iff hp (fits_dropT hf) (rising_dropT ht)).1 h
  exact ((mem_dropT hp hf ht hth).1 hx).2 he
theorem drop_set_new {t : List Row} {p : Pfx} {h : Int} (hp : B16 p.l) (hf : Fits t) (ht : rising t = true) (hth : thereB t p = false) : dropT (setT t p h) p = t := by
  have hs := rising_setT (h := h) hp hf ht
  refine rising_ext (rising_dropT hs) ht (fun x => ?_)
  rw [mem_dropT hp (fits_setT hp hf ht) hs (get_set hp hf ht).1, mem_setT hp hf ht]
  constructor
  · rintro ⟨rfl | h, hn⟩
    · exact absurd rfl hn
    · exact h.1
  · intro hx
    have hne : x.p ≠ p := fun e => by
      rw [(there_iff hp hf ht).2 ⟨x, hx, e⟩] at hth
      cases hth
    exact ⟨.inr ⟨hx, hne⟩, hne⟩
theorem set_drop_set {t : List Row} {p : Pfx} {h : Int} (hp : B16 p.l) (hf : Fits t) (ht : rising t = true) (hth : thereB t p = true) : setT (dropT (setT t p h) p) p (getT t p) = t := by
  have hs := rising_setT (h := h) hp hf ht
  have hfs := fits_setT (h := h) hp hf ht
  have hd := rising_dropT (p := p) hs
  refine rising_ext (rising_setT hp (fits_dropT hfs) hd) ht (fun x => ?_)
  rw [mem_setT hp (fits_dropT hfs) hd, mem_dropT hp hfs hs (get_set hp hf ht).1, mem_setT hp hf ht]
  constructor
  · rintro (rfl | ⟨⟨rfl | h, hn⟩, _⟩)
    · exact getT_mem hp hf hth
    · exact absurd rfl hn
    · exact h.1
  · intro hx
    by_cases he : x.p = p
    · refine .inl (mem_unique ht hx (getT_mem hp hf hth) he)
    · exact .inr ⟨⟨.inr ⟨hx, he⟩, he⟩, he⟩
end Go.Proofs.YtihfaknflfmohaaDoor

/- Plain laws of tables (layer 9), fifth part: what two have not alike. -/
namespace Go.Proofs.YtihfaknflfmohaaDoor
set_option linter.unusedVariables false
set_option linter.unusedSimpArgs false
set_option maxRecDepth 4000

/-- Rows of two tables, side by side. -/
def mrg : List Row → List Row → List Pfx
  | [], [] => []
  | a :: t, [] => a.p :: mrg t []
  | [], b :: u => b.p :: mrg [] u
  | a :: t, b :: u => if a.p.cmp b.p < 0 then a.p :: mrg t (b :: u) else if a.p.cmp b.p = 0 then (if a.h = b.h then mrg t u else a.p :: mrg t u) else b.p :: mrg (a :: t) u
termination_by t u => t.length + u.length
/-- Prefixes, rising. -/
def risingP (l : List Pfx) : Prop := rising (l.map fun p => ⟨p, 1⟩) = true
theorem risingP_of {p : Pfx} {l : List Pfx} (h : ∀ q ∈ l, p.cmp q < 0) (hl : risingP l) : risingP (p :: l) := by
  refine rising_of_head (a := ⟨p, 1⟩) (fun r hr => ?_) hl
  obtain ⟨q, hq, rfl⟩ := List.mem_map.1 hr
  exact h q hq
theorem risingP_ext {l m : List Pfx} (hl : risingP l) (hm : risingP m) (h : ∀ p, p ∈ l ↔ p ∈ m) : l = m := by
  have := rising_ext hl hm (fun x => by
    rw [List.mem_map, List.mem_map]
    exact ⟨fun ⟨p, hp, e⟩ => ⟨p, (h p).1 hp, e⟩, fun ⟨p, hp, e⟩ => ⟨p, (h p).2 hp, e⟩⟩)
  have e := congrArg (List.map Row.p) this
  simpa [List.map_map, Function.comp_def] using e
/-- A table of hops that stand. -/
structure Tab (t : List Row) : Prop where
  fits : Fits t
  up : rising t = true
  hop : ∀ r ∈ t, 1 ≤ r.h
theorem Tab.tail {a : Row} {t : List Row} (h : Tab (a :: t)) : Tab t := ⟨h.fits.tail, rising_cons h.up, fun r hr => h.hop r (by simp [hr])⟩
theorem Tab.of {t : List Row} (hf : Fits t) (h : tabB t = true) : Tab t := ⟨hf, (tabB_to h).2.2, fun r hr => ((okB_iff r).1 ((tabB_to h).2.1 r hr)).2.1⟩
theorem getT_nil (p : Pfx) : getT [] p = 0 := rfl
theorem getT_below {a : Row} {t : List Row} {p : Pfx} (ht : rising (a :: t) = true) (h : p.cmp a.p < 0) : getT (a :: t) p = 0 := by
  have h1 := a.p.cmp_neg p
  rw [getT_cons, if_neg (by omega), if_neg (by omega)]
theorem getT_self (a : Row) (t : List Row) : getT (a :: t) a.p = a.h := by
  have : a.p.cmp a.p = 0 := cmpI_refl _
  rw [getT_cons, if_neg (by omega), if_pos this]
theorem getT_above {a : Row} {t : List Row} {p : Pfx} (h : a.p.cmp p < 0) : getT (a :: t) p = getT t p := by rw [getT_cons, if_pos h]
theorem cmp_tri (p q : Pfx) : p.cmp q < 0 ∨ p.cmp q = 0 ∨ q.cmp p < 0 := by
  have := p.cmp_neg q
  omega
theorem getT_pos {t : List Row} (ht : Tab t) {p : Pfx} (hp : B16 p.l) (h : getT t p ≠ 0) : ∃ x ∈ t, x.p = p := by
  cases hth : thereB t p
  · exact absurd (getT_no hth) h
  · exact (there_iff hp ht.fits ht.up).1 hth
/-- What mrg bears: prefixes of either that they have not alike, rising. -/
theorem mrg_spec : ∀ t u : List Row, Tab t → Tab u → risingP (mrg t u) ∧ (∀ p ∈ mrg t u, ∃ x, (x ∈ t ∨ x ∈ u) ∧ x.p = p) ∧ ∀ p, B16 p.l → (p ∈ mrg t u ↔ getT t p ≠ getT u p)
  | [], [], _, _ => by
    rw [mrg]
    refine ⟨rfl, fun p hp => ?_, fun p _ => ⟨fun h => ?_, fun h => absurd rfl h⟩⟩
    · cases hp
    · cases h
  | a :: t, [], ht, hu => by
    obtain ⟨h1, h2, h3⟩ := mrg_spec t [] ht.tail hu
    have hh := rising_head ht.up
    rw [mrg]
    refine ⟨risingP_of (fun q hq => ?_) h1, fun p hp => ?_, fun p hp => ?_⟩
    · obtain ⟨x, hx, rfl⟩ := h2 q hq
      rcases hx with hx | hx
      · exact hh x hx
      · cases hx
    · rcases List.mem_cons.1 hp with rfl | hp
      · exact ⟨a, .inl (by simp), rfl⟩
      · obtain ⟨x, hx, e⟩ := h2 p hp
        rcases hx with hx | hx
        · exact ⟨x, .inl (by simp [hx]), e⟩
        · cases hx
    · rw [List.mem_cons]
      rcases cmp_tri a.p p with h | h | h
      · rw [getT_above h, ← h3 p hp]
        exact ⟨fun k => k.resolve_left (ne_of_lt h).symm, .inr⟩
      · have e := eq_of_cmp (ht.fits a (by simp)) hp h
        subst e
        have := ht.hop a (by simp)
        rw [getT_self, getT_nil]
        exact ⟨fun _ => by omega, fun _ => .inl rfl⟩
      · rw [getT_below ht.up h, getT_nil]
        refine ⟨fun k => ?_, fun k => absurd rfl k⟩
        rcases k with k | k
        · rw [k] at h; exact absurd h (cmp_irrefl _)
        · obtain ⟨x, hx, e⟩ := h2 p k
          rcases hx with hx | hx
          · have := p.cmp_trans a.p x.p h (hh x hx)
            rw [e] at this
            exact absurd this (cmp_irrefl _)
          · cases hx
  | [], b :: u, ht, hu => by
    obtain ⟨h1, h2, h3⟩ := mrg_spec [] u ht hu.tail
    have hh := rising_head hu.up
    rw [mrg]
    refine ⟨risingP_of (fun q hq => ?_) h1, fun p hp => ?_, fun p hp => ?_⟩
    · obtain ⟨x, hx, rfl⟩ := h2 q hq
      rcases hx with hx | hx
      · cases hx
      · exact hh x hx
    · rcases List.mem_cons.1 hp with rfl | hp
      · exact ⟨b, .inr (by simp), rfl⟩
      · obtain ⟨x, hx, e⟩ := h2 p hp
        rcases hx with hx | hx
        · cases hx
        · exact ⟨x, .inr (by simp [hx]), e⟩
    · rw [List.mem_cons]
      rcases cmp_tri b.p p with h | h | h
      · rw [getT_above h, ← h3 p hp]
        exact ⟨fun k => k.resolve_left (ne_of_lt h).symm, .inr⟩
      · have e := eq_of_cmp (hu.fits b (by simp)) hp h
        subst e
        have := hu.hop b (by simp)
        rw [getT_self, getT_nil]
        exact ⟨fun _ => by omega, fun _ => .inl rfl⟩
      · rw [getT_below hu.up h, getT_nil]
        refine ⟨fun k => ?_, fun k => absurd rfl k⟩
        rcases k with k | k
        · rw [k] at h; exact absurd h (cmp_irrefl _)
        · obtain ⟨x, hx, e⟩ := h2 p k
          rcases hx with hx | hx
          · cases hx
          · have := p.cmp_trans b.p x.p h (hh x hx)
            rw [e] at this
            exact absurd this (cmp_irrefl _)
  | a :: t, b :: u, ht, hu => by
    have ha := rising_head ht.up
    have hb := rising_head hu.up
    rw [mrg]
    by_cases hab : a.p.cmp b.p < 0
    · obtain ⟨h1, h2, h3⟩ := mrg_spec t (b :: u) ht.tail hu
      rw [if_pos hab]
      have hlow : ∀ q ∈ mrg t (b :: u), a.p.cmp q < 0 := by
        intro q hq
        obtain ⟨x, hx, rfl⟩ := h2 q hq
        rcases hx with hx | hx
        · exact ha x hx
        · rcases List.mem_cons.1 hx with rfl | hx
          · exact hab
          · exact a.p.cmp_trans b.p x.p hab (hb x hx)
      refine ⟨risingP_of hlow h1, fun p hp => ?_, fun p hp => ?_⟩
      · rcases List.mem_cons.1 hp with rfl | hp
        · exact ⟨a, .inl (by simp), rfl⟩
        · obtain ⟨x, hx, e⟩ := h2 p hp
          exact ⟨x, hx.imp_left (fun h => by simp [h]), e⟩
      · rw [List.mem_cons]
        rcases cmp_tri a.p p with h | h | h
        · rw [getT_above h, ← h3 p hp]
          exact ⟨fun k => k.resolve_left (ne_of_lt h).symm, .inr⟩
        · have e := eq_of_cmp (ht.fits a (by simp)) hp h
          subst e
          have := ht.hop a (by simp)
          rw [getT_self, getT_below hu.up hab]
          exact ⟨fun _ => by omega, fun _ => .inl rfl⟩
        · rw [getT_below ht.up h, getT_below hu.up (p.cmp_trans a.p b.p h hab)]
          refine ⟨fun k => ?_, fun k => absurd rfl k⟩
          rcases k with k | k
          · rw [k] at h; exact absurd h (cmp_irrefl _)
          · exact absurd (p.cmp_trans a.p p h (hlow p k)) (cmp_irrefl _)
    · rw [if_neg hab]
      by_cases hz : a.p.cmp b.p = 0
      · have e := eq_of_cmp (ht.fits a (by simp)) (hu.fits b (by simp)) hz
        obtain ⟨h1, h2, h3⟩ := mrg_spec t u ht.tail hu.tail
        have hlow : ∀ q ∈ mrg t u, a.p.cmp q < 0 := by
          intro q hq
          obtain ⟨x, hx, rfl⟩ := h2 q hq
          rcases hx with hx | hx
          · exact ha x hx
          · rw [e]; exact hb x hx
        rw [if_pos hz]
        by_cases hh : a.h = b.h
        · rw [if_pos hh]
          refine ⟨h1, fun p hp => ?_, fun p hp => ?_⟩
          · obtain ⟨x, hx, ex⟩ := h2 p hp
            exact ⟨x, hx.imp (fun h => by simp [h]) (fun h => by simp [h]), ex⟩
          · rcases cmp_tri a.p p with h | h | h
            · rw [getT_above h, getT_above (by rw [← e]; exact h), h3 p hp]
            · have e2 := eq_of_cmp (ht.fits a (by simp)) hp h
              subst e2
              rw [getT_self, e, getT_self, hh]
              refine ⟨fun k => ?_, fun k => absurd rfl k⟩
              have := hlow b.p k
              rw [e] at this
              exact absurd this (cmp_irrefl _)
            · rw [getT_below ht.up h, getT_below hu.up (by rw [← e]; exact h)]
              refine ⟨fun k => ?_, fun k => absurd rfl k⟩
              exact absurd (p.cmp_trans a.p p h (hlow p k)) (cmp_irrefl _)
        · rw [if_neg hh]
          refine ⟨risingP_of hlow h1, fun p hp => ?_, fun p hp => ?_⟩
          · rcases List.mem_cons.1 hp with rfl | hp
            · exact ⟨a, .inl (by simp), rfl⟩
            · obtain ⟨x, hx, ex⟩ := h2 p hp
              exact ⟨x, hx.imp (fun h => by simp [h]) (fun h => by simp [h]), ex⟩
          · rw [List.mem_cons]
            rcases cmp_tri a.p p with h | h | h
            · rw [getT_above h, getT_above (by rw [← e]; exact h), ← h3 p hp]
              exact ⟨fun k => k.resolve_left (ne_of_lt h).symm, .inr⟩
            · have e2 := eq_of_cmp (ht.fits a (by simp)) hp h
              subst e2
              rw [getT_self, e, getT_self]
              exact ⟨fun _ => hh, fun _ => .inl rfl⟩
            · rw [getT_below ht.up h, getT_below hu.up (by rw [← e]; exact h)]
              refine ⟨fun k => ?_, fun k => absurd rfl k⟩
              rcases k with k | k
              · rw [k] at h; exact absurd h (cmp_irrefl _)
              · exact absurd (p.cmp_trans a.p p h (hlow p k)) (cmp_irrefl _)
      · have hba := cmp_pos hab hz
        obtain ⟨h1, h2, h3⟩ := mrg_spec (a :: t) u ht hu.tail
        rw [if_neg hz]
        have hlow : ∀ q ∈ mrg (a :: t) u, b.p.cmp q < 0 := by
          intro q hq
          obtain ⟨x, hx, rfl⟩ := h2 q hq
          rcases hx with hx | hx
          · rcases List.mem_cons.1 hx with rfl | hx
            · exact hba
            · exact b.p.cmp_trans a.p x.p hba (ha x hx)
          · exact hb x hx
        refine ⟨risingP_of hlow h1, fun p hp => ?_, fun p hp => ?_⟩
        · rcases List.mem_cons.1 hp with rfl | hp
          · exact ⟨b, .inr (by simp), rfl⟩
          · obtain ⟨x, hx, e⟩ := h2 p hp
            exact ⟨x, hx.imp_right (fun h => by simp [h]), e⟩
        · rw [List.mem_cons]
          rcases cmp_tri b.p p with h | h | h
          · rw [getT_above h, ← h3 p hp]
            exact ⟨fun k => k.resolve_left (ne_of_lt h).symm, .inr⟩
          · have e := eq_of_cmp (hu.fits b (by simp)) hp h
            subst e
            have := hu.hop b (by simp)
            rw [getT_self, getT_below ht.up hba]
            exact ⟨fun _ => by omega, fun _ => .inl rfl⟩
          · rw [getT_below hu.up h, getT_below ht.up (p.cmp_trans b.p a.p h hba)]
            refine ⟨fun k => ?_, fun k => absurd rfl k⟩
            rcases k with k | k
            · rw [k] at h; exact absurd h (cmp_irrefl _)
            · exact absurd (p.cmp_trans b.p p h (hlow p k)) (cmp_irrefl _)
termination_by t u => t.length + u.length
/-- As the document puts it: those of the one, then those of the other, each set into a table. -/
def putAll (all : List Row) (a b : List Row) : List Row := a.foldl (fun all r => if getT b r.p ≠ r.h then setT all r.p 1 else all) all
theorem putAll_spec {b : List Row} : ∀ (a all : List Row), Fits a → Fits all → rising all = true → Fits (putAll all a b) ∧ rising (putAll all a b) = true ∧ ∀ x, x ∈ putAll all a b ↔ (x ∈ all ∧ ∀ r ∈ a, getT b r.p ≠ r.h → x.p ≠ r.p) ∨ (∃ r ∈ a, getT b r.p ≠ r.h ∧ x = ⟨r.p, 1⟩)
  | [], all, _, hall, hr => ⟨hall, hr, fun x => by simp [putAll]⟩
  | r :: a, all, ha, hall, hr => by
    have h0 := ha r (by simp)
    have e : putAll all (r :: a) b = putAll (if getT b r.p ≠ r.h then setT all r.p 1 else all) a b := rfl
    rw [e]
    by_cases hg : getT b r.p ≠ r.h
    · rw [if_pos hg]
      obtain ⟨k1, k2, k3⟩ := putAll_spec (b := b) a (setT all r.p 1) ha.tail (fits_setT h0 hall hr) (rising_setT h0 hall hr)
      refine ⟨k1, k2, fun x => ?_⟩
      rw [k3, mem_setT h0 hall hr]
      constructor
      · rintro (⟨rfl | ⟨h1, h2⟩, h3⟩ | ⟨y, hy, h1, h2⟩)
        · exact .inr ⟨r, by simp, hg, rfl⟩
        · refine .inl ⟨h1, fun y hy hh => ?_⟩
          rcases List.mem_cons.1 hy with rfl | hy
          · exact h2
          · exact h3 y hy hh
        · exact .inr ⟨y, by simp [hy], h1, h2⟩
      · rintro (⟨h1, h2⟩ | ⟨y, hy, h1, h2⟩)
        · exact .inl ⟨.inr ⟨h1, h2 r (by simp) hg⟩, fun y hy hh => h2 y (by simp [hy]) hh⟩
        · rcases List.mem_cons.1 hy with rfl | hy
          · by_cases hex : ∃ z ∈ a, getT b z.p ≠ z.h ∧ y.p = z.p
            · obtain ⟨z, hz, hz1, hz2⟩ := hex
              exact .inr ⟨z, hz, hz1, by rw [h2, hz2]⟩
            · refine .inl ⟨.inl h2, fun z hz hh hn => hex ⟨z, hz, hh, ?_⟩⟩
              rw [h2] at hn
              exact hn
          · exact .inr ⟨y, hy, h1, h2⟩
    · rw [if_neg hg]
      obtain ⟨k1, k2, k3⟩ := putAll_spec (b := b) a all ha.tail hall hr
      refine ⟨k1, k2, fun x => ?_⟩
      rw [k3]
      constructor
      · rintro (⟨h1, h3⟩ | ⟨y, hy, h1, h2⟩)
        · refine .inl ⟨h1, fun y hy hh => ?_⟩
          rcases List.mem_cons.1 hy with rfl | hy
          · exact absurd hh hg
          · exact h3 y hy hh
        · exact .inr ⟨y, by simp [hy], h1, h2⟩
      · rintro (⟨h1, h2⟩ | ⟨y, hy, h1, h2⟩)
        · exact .inl ⟨h1, fun y hy hh => h2 y (by simp [hy]) hh⟩
        · rcases List.mem_cons.1 hy with rfl | hy
          · exact absurd h1 hg
          · exact .inr ⟨y, hy, h1, h2⟩
def difR (a b : List Row) : List Pfx := (putAll (putAll [] a b) b a).map Row.p
theorem difR_mrg {a b : List Row} (ha : Tab a) (hb : Tab b) : difR a b = mrg a b := by
  obtain ⟨m1, m2, m3⟩ := mrg_spec a b ha hb
  obtain ⟨p1, p2, p3⟩ := putAll_spec (b := b) a [] ha.fits (fun r hr => by cases hr) rfl
  obtain ⟨q1, q2, q3⟩ := putAll_spec (b := a) b _ hb.fits p1 p2
  have hone : ∀ x ∈ putAll (putAll [] a b) b a, x = ⟨x.p, 1⟩ := by
    intro x hx
    rcases (q3 x).1 hx with ⟨h1, _⟩ | ⟨r, _, _, rfl⟩
    · rcases (p3 x).1 h1 with ⟨h1, _⟩ | ⟨r, _, _, rfl⟩
      · cases h1
      · rfl
    · rfl
  have hrp : risingP (difR a b) := by
    unfold risingP difR
    rw [List.map_map]
    rw [show (putAll (putAll [] a b) b a).map ((fun p => (⟨p, 1⟩ : Row)) ∘ Row.p) = putAll (putAll [] a b) b a from ?_]
    · exact q2
    · conv => rhs; rw [← List.map_id (putAll (putAll [] a b) b a)]
      exact List.map_congr_left (fun x hx => (hone x hx).symm)
  refine risingP_ext hrp m1 (fun p => ?_)
  unfold difR
  rw [List.mem_map]
  constructor
  · rintro ⟨x, hx, rfl⟩
    rcases (q3 x).1 hx with ⟨h1, _⟩ | ⟨r, hr, hg, rfl⟩
    · rcases (p3 x).1 h1 with ⟨h1, _⟩ | ⟨r, hr, hg, rfl⟩
      · cases h1
      · have hB := ha.fits r hr
        refine (m3 _ hB).2 ?_
        show getT a r.p ≠ getT b r.p
        rw [getT_of (h := r.h) hB ha.fits ha.up hr]
        exact hg.symm
    · have hB := hb.fits r hr
      refine (m3 _ hB).2 ?_
      show getT a r.p ≠ getT b r.p
      rw [getT_of (t := b) (h := r.h) hB hb.fits hb.up hr]
      exact hg
  · intro hp
    obtain ⟨x, hx, rfl⟩ := m2 p hp
    have hB : B16 x.p.l := hx.elim (ha.fits x) (hb.fits x)
    have hne := (m3 _ hB).1 hp
    refine ⟨⟨x.p, 1⟩, (q3 _).2 ?_, rfl⟩
    by_cases hbx : ∃ r ∈ b, r.p = x.p
    · obtain ⟨r, hr, e⟩ := hbx
      refine .inr ⟨r, hr, ?_, by rw [e]⟩
      rw [e]
      have : getT b x.p = r.h := getT_of hB hb.fits hb.up (by rw [← e]; exact hr)
      rw [← this]
      exact hne
    · have hxa : x ∈ a := hx.resolve_right (fun h => hbx ⟨x, h, rfl⟩)
      have hxb : getT b x.p = 0 := by
        cases hth : thereB b x.p
        · exact getT_no hth
        · exact absurd ((there_iff hB hb.fits hb.up).1 hth) hbx
      refine .inl ⟨(p3 _).2 (.inr ⟨x, hxa, ?_, rfl⟩), fun r hr hg e => hbx ⟨r, hr, e.symm⟩⟩
      have := ha.hop x hxa
      omega
end Go.Proofs.YtihfaknflfmohaaDoor
