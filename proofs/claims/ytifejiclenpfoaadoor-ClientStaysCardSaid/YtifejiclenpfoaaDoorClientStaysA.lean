/- Words and small lemmas that the contracts of this seat share. -/
import Derived.Below
import Derived.BigQuiet
import Derived.ChangeKeysEq
import Derived.ChangeOld
import Derived.ChangeSlices
import Derived.Deep.CutBlock
import Derived.Deep.DeepCutAuto
import Derived.Deep.LoopGhost
import Derived.Deep.MidRow
import Derived.Deep.OwnRows
import Derived.Deep.QuietTactic
import Derived.Deep.RegionHeld3
import Derived.Deep.RegionWith
import Derived.DeepKeys
import Derived.Great.BuildSlice
import Derived.IntWalk
import Derived.KernelRfl
import Derived.LaidMore
import Derived.Lib.AppendZerosOnto
import Derived.Lib.Bytealg
import Derived.Lib.Bytes
import Derived.Lib.Hide
import Derived.Lib.Overlaps
import Derived.Maps.AppendAt
import Derived.OpenShut
import Derived.Orders
import Derived.ProofKit
import Derived.ShutString
import Derived.SizedLaws
import Derived.Still
import Derived.Stop.Joined
import Derived.WalkKit
import Derived.WalkLawsBesides
import Derived.WalkSpells
import Derived.Test.YtifejiclenpfoaaDoorProg
import Derived.Test.YtifejiclenpfoaaDoorRows
namespace Go.Proofs.YtifejiclenpfoaaDoor
open Go.RowKit
set_option linter.unusedVariables false
set_option linter.unusedSimpArgs false
set_option maxRecDepth 4000

/-! ### Lists of numbers, and rows of bytes -/
def nums (k : IntKind) (xs : List Int) : List Value := xs.map fun x => .int k x
theorem nums_length (k : IntKind) (xs : List Int) : (nums k xs).length = xs.length := by simp [nums]
theorem nums_append (k : IntKind) (xs ys : List Int) : nums k (xs ++ ys) = nums k xs ++ nums k ys := by simp [nums]
theorem nums_get (k : IntKind) (xs : List Int) (j : Nat) (h : j < xs.length) : (nums k xs)[j]? = some (.int k (xs.getD j 0)) := by
  simp [nums, List.getElem?_eq_getElem h, List.getD_eq_getElem?_getD]
theorem nums_one (k : IntKind) (xs : List Int) : ∀ u ∈ nums k xs, u.oneCell' = true := by
  intro u hu
  simp only [nums, List.mem_map] at hu
  obtain ⟨x, _, rfl⟩ := hu
  rfl
def rd (xs : List Int) (i : Int) : Int := xs.getD i.toNat 0
def Bytes (xs : List Int) : Prop := ∀ x ∈ xs, 0 ≤ x ∧ x < 256
theorem Bytes.nil : Bytes [] := fun _ h => by cases h
theorem Bytes.append {xs ys : List Int} (h : Bytes xs) (k : Bytes ys) : Bytes (xs ++ ys) := fun x hx => (List.mem_append.1 hx).elim (h x) (k x)
theorem Bytes.take {xs : List Int} (h : Bytes xs) (n : Nat) : Bytes (xs.take n) := fun x hx => h x (List.mem_of_mem_take hx)
theorem Bytes.drop {xs : List Int} (h : Bytes xs) (n : Nat) : Bytes (xs.drop n) := fun x hx => h x (List.mem_of_mem_drop hx)
theorem Bytes.getD {xs : List Int} (h : Bytes xs) (j : Nat) : 0 ≤ xs.getD j 0 ∧ xs.getD j 0 < 256 := by
  rw [List.getD_eq_getElem?_getD]
  cases hj : xs[j]? with
  | none => simp
  | some x => simpa using h x (List.mem_of_getElem? hj)

/-! ### The world -/
theorem add_plain (g j : Nat) : (⟨g, 0, none⟩ : Addr).add j = ⟨g, j, none⟩ := by unfold Addr.add; split <;> simp_all
theorem add_add (a : Addr) (i j : Nat) : (a.add i).add j = a.add (i + j) := by
  unfold Addr.add
  by_cases h1 : i = 0 <;> by_cases h2 : j = 0 <;> simp [h1, h2, Nat.add_assoc]
theorem add_block (a : Addr) (i : Nat) : (a.add i).block = a.block := by unfold Addr.add; split <;> rfl
theorem cell_below {w w1 : World} (h : Below w.heap.size w w1) {a : Addr} {v : Value} (hc : w.cell? a = some v) : w1.cell? a = some v := (h.cell (World.block_lt_of_cell? w a hc)).trans hc
theorem below_alloc {w W : World} (h : Below w.heap.size w W) (o : Obj) : Below w.heap.size w (W.alloc o) := h.alloc h.size o
theorem below_then {B : Nat} {w w1 w2 : World} (h : Below B w w1) (hB : B ≤ w1.heap.size) (k : Below w1.heap.size w1 w2) : Below B w w2 :=
  h.trans ⟨k.os, k.tape, k.output, k.size, fun i hi => k.block i (Nat.lt_of_lt_of_le hi hB)⟩
theorem below_step {w w1 w2 : World} (h : Below w.heap.size w w1) (k : Below w1.heap.size w1 w2) : Below w.heap.size w w2 := below_then h h.size k
theorem grown_of_below {w w1 : World} (h : Below w.heap.size w w1) (row : Option Nat) : w.grownBy w1 row := ⟨h.os, h.tape, h.output, h.size, fun i hi _ => h.block i hi⟩
theorem grown_refl (w : World) (row : Option Nat) : w.grownBy w row := ⟨rfl, rfl, rfl, Nat.le_refl _, fun _ _ _ => rfl⟩
theorem blk_lt {w : World} {g : Nat} {o : Obj} (h : w.heap[g]? = some o) : g < w.heap.size := (Array.getElem?_eq_some_iff.1 h).1
theorem blk_below {w w1 : World} {g : Nat} {o : Obj} (h : w.heap[g]? = some o) (hb : Below w.heap.size w w1) : w1.heap[g]? = some o := (hb.block g (blk_lt h)).trans h
theorem blk_grown {w w1 : World} {g : Nat} {o : Obj} {row : Option Nat} (h : w.heap[g]? = some o) (hg : w.grownBy w1 row) (hne : some g ≠ row) : w1.heap[g]? = some o := (hg.block g (blk_lt h) hne).trans h
theorem blk_new (w : World) (o : Obj) : (w.alloc o).heap[w.heap.size]? = some o := heap_alloc_new w o
theorem blk_cell {w : World} {g : Nat} {t : TypeId} {cs : Array Value} (h : w.heap[g]? = some (.cells cs t (0, 0))) (i : Nat) : w.cell? ⟨g, i, none⟩ = cs[i]? := cell_of_row w g i cs t (0, 0) h
theorem blk_frozen {w : World} {g : Nat} {t : TypeId} {cs : Array Value} (h : w.heap[g]? = some (.cells cs t (0, 0))) (i : Nat) : w.frozen? ⟨g, i, none⟩ = false := by simp [World.frozen?, h]
theorem blk_set {w : World} {g : Nat} {t : TypeId} {cs : Array Value} (h : w.heap[g]? = some (.cells cs t (0, 0))) (i : Nat) (u : Value) : (w.setCell ⟨g, i, none⟩ u).heap[g]? = some (.cells (cs.setIfInBounds i u) t (0, 0)) := heap_setCell_same w g i cs t u h

/-- Nothing that was there has turned but the blocks g and h. -/
structure Kept2 (w w' : World) (g h : Nat) : Prop where
  os : w'.os = w.os
  tape : w'.tape = w.tape
  output : w'.output = w.output
  size : w.heap.size ≤ w'.heap.size
  block : ∀ k, k < w.heap.size → k ≠ g → k ≠ h → w'.heap[k]? = w.heap[k]?
theorem Kept2.refl (w : World) (g h : Nat) : Kept2 w w g h := ⟨rfl, rfl, rfl, Nat.le_refl _, fun _ _ _ _ => rfl⟩
theorem Kept2.trans {w w1 w2 : World} {g h : Nat} (a : Kept2 w w1 g h) (b : Kept2 w1 w2 g h) : Kept2 w w2 g h :=
  ⟨b.os.trans a.os, b.tape.trans a.tape, b.output.trans a.output, Nat.le_trans a.size b.size, fun k hk h1 h2 => (b.block k (Nat.lt_of_lt_of_le hk a.size) h1 h2).trans (a.block k hk h1 h2)⟩
theorem grown_setCell (w : World) (a : Addr) (v : Value) : w.grownBy (w.setCell a v) (some a.block) :=
  ⟨rfl, rfl, rfl, by simp [World.setCell], fun k _ hk => Below.heap_setCell w a v k (fun e => hk (by rw [e]))⟩
/-- Below block b nothing has turned but the block g. -/
structure KeptB (w w' : World) (g b : Nat) : Prop where
  os : w'.os = w.os
  tape : w'.tape = w.tape
  output : w'.output = w.output
  size : w.heap.size ≤ w'.heap.size
  block : ∀ k, k < b → k ≠ g → w'.heap[k]? = w.heap[k]?
theorem KeptB.refl (w : World) (g b : Nat) : KeptB w w g b := ⟨rfl, rfl, rfl, Nat.le_refl _, fun _ _ _ => rfl⟩
theorem KeptB.trans {w w1 w2 : World} {g b : Nat} (h : KeptB w w1 g b) (k : KeptB w1 w2 g b) : KeptB w w2 g b :=
  ⟨k.os.trans h.os, k.tape.trans h.tape, k.output.trans h.output, Nat.le_trans h.size k.size, fun i hi h1 => (k.block i hi h1).trans (h.block i hi h1)⟩
theorem KeptB.set (w : World) (g b i : Nat) (v : Value) : KeptB w (w.setCell ⟨g, i, none⟩ v) g b :=
  ⟨rfl, rfl, rfl, by simp [World.setCell], fun k _ hk => Below.heap_setCell w _ v k hk⟩

/-! ### Rows of cells: what is read, what is owned. An element takes sz cells; n elements; cs: all their cells -/
structure RV (w : World) (sz : Nat) (A : Option Addr) (n c : Nat) (cs : List Value) : Prop where
  len : cs.length = n * sz
  cap : n ≤ c
  small : n ≤ 281474976710656
  cells : 0 < n → ∃ ad, A = some ad ∧ ∀ j v, cs[j]? = some v → w.cell? (ad.add j) = some v

section
variable {w w1 : World} {sz : Nat} {A : Option Addr} {n c : Nat} {cs : List Value}
theorem RV.nil (w : World) (sz : Nat) (A : Option Addr) (c : Nat) : RV w sz A 0 c [] := ⟨by simp, Nat.zero_le _, by omega, fun h => absurd h (by omega)⟩
theorem RV.below (h : RV w sz A n c cs) (hb : Below w.heap.size w w1) : RV w1 sz A n c cs :=
  ⟨h.len, h.cap, h.small, fun hn => by obtain ⟨ad, e, hc⟩ := h.cells hn; exact ⟨ad, e, fun j v hj => cell_below hb (hc j v hj)⟩⟩
theorem RV.grown (h : RV w sz A n c cs) {row : Option Nat} (hg : w.grownBy w1 row) (hne : ∀ ad, A = some ad → some ad.block ≠ row) : RV w1 sz A n c cs :=
  ⟨h.len, h.cap, h.small, fun hn => by
    obtain ⟨ad, e, hc⟩ := h.cells hn
    exact ⟨ad, e, fun j v hj => hg.cell (hc j v hj) (by rw [add_block]; exact hne ad e)⟩⟩
theorem RV.take (h : RV w sz A n c cs) (m : Nat) (hm : m ≤ n) : RV w sz A m c (cs.take (m * sz)) := by
  have hms : m * sz ≤ n * sz := Nat.mul_le_mul_right _ hm
  refine ⟨by rw [List.length_take, h.len]; omega, Nat.le_trans hm h.cap, Nat.le_trans hm h.small, fun hp => ?_⟩
  obtain ⟨ad, e, hc⟩ := h.cells (by omega)
  refine ⟨ad, e, fun j v hj => hc j v ?_⟩
  rw [List.getElem?_take] at hj
  split at hj
  · exact hj
  · cases hj
theorem RV.drop (h : RV w sz A n c cs) (m : Nat) (hm : m ≤ n) : RV w sz (if c = m then A else A.map (·.add (m * sz))) (n - m) (c - m) (cs.drop (m * sz)) := by
  have hcap := h.cap
  refine ⟨by rw [List.length_drop, h.len, Nat.sub_mul], by omega, by have := h.small; omega, fun hp => ?_⟩
  obtain ⟨ad, rfl, hcell⟩ := h.cells (by omega)
  rw [if_neg (by omega)]
  refine ⟨ad.add (m * sz), rfl, fun j v hj => ?_⟩
  rw [add_add]
  exact hcell _ _ (by rw [← List.getElem?_drop]; exact hj)
end

/-- A row of the call's own, in a block from base on; it may begin inside its block, and its capacity may end before the block does. -/
structure OV (w : World) (base : Nat) (e : TypeId) (sz : Nat) (A : Option Addr) (n c : Nat) (cs : List Value) : Prop where
  len : cs.length = n * sz
  cap : n ≤ c
  small : n ≤ 281474976710656
  capmax : c ≤ maxLen
  form : ∀ ad, A = some ad → base ≤ ad.block ∧ ad.spot = none ∧ ∃ cur, w.heap[ad.block]? = some (.cells cur e (0, 0)) ∧ ad.off + c * sz ≤ cur.size ∧ ∀ j v, cs[j]? = some v → cur[ad.off + j]? = some v
  bare : A = none → c = 0
theorem add_spot (a : Addr) (h : a.spot = none) (j : Nat) : a.add j = ⟨a.block, a.off + j, none⟩ := by
  obtain ⟨b, o, s⟩ := a
  subst h
  unfold Addr.add
  split
  · subst_vars; rfl
  · rfl
section
variable {w w1 : World} {base base' : Nat} {e : TypeId} {sz : Nat} {A : Option Addr} {n c : Nat} {cs : List Value}
theorem OV.reads (h : OV w base e sz A n c cs) : RV w sz A n c cs := by
  refine ⟨h.len, h.cap, h.small, fun hp => ?_⟩
  cases A with
  | none => have := h.bare rfl; have := h.cap; omega
  | some ad =>
    refine ⟨ad, rfl, fun j v hj => ?_⟩
    obtain ⟨_, hs, cur, hh, _, hc⟩ := h.form ad rfl
    rw [add_spot ad hs, blk_cell hh]
    exact hc j v hj
theorem OV.lower (h : OV w base e sz A n c cs) (hb : base' ≤ base) : OV w base' e sz A n c cs :=
  ⟨h.len, h.cap, h.small, h.capmax, fun ad ha => let ⟨h1, h2⟩ := h.form ad ha; ⟨Nat.le_trans hb h1, h2⟩, h.bare⟩
theorem OV.grown (h : OV w base e sz A n c cs) {row : Option Nat} (hg : w.grownBy w1 row) (hne : ∀ ad, A = some ad → some ad.block ≠ row) : OV w1 base e sz A n c cs :=
  ⟨h.len, h.cap, h.small, h.capmax, fun ad ha => let ⟨h1, h2, cur, hh, r⟩ := h.form ad ha; ⟨h1, h2, cur, blk_grown hh hg (hne ad ha), r⟩, h.bare⟩
theorem OV.below (h : OV w base e sz A n c cs) (hb : Below w.heap.size w w1) : OV w1 base e sz A n c cs := h.grown (grown_of_below hb none) (fun _ _ => by simp)
theorem OV.nil (w : World) (base : Nat) (e : TypeId) (sz : Nat) : OV w base e sz none 0 0 [] := ⟨by simp, by omega, by omega, by simp only [maxLen]; omega, (fun _ h => by cases h), fun _ => rfl⟩
theorem OV.base_ (h : OV w base e sz A n c cs) : ∀ ad, A = some ad → base ≤ ad.block := fun ad ha => (h.form ad ha).1
theorem OV.lt (h : OV w base e sz A n c cs) : ∀ ad, A = some ad → ad.block < w.heap.size := fun ad ha => let ⟨_, _, _, hh, _⟩ := h.form ad ha; blk_lt hh
/-- s[:m:c'] -/
theorem OV.take (h : OV w base e sz A n c cs) (m c' : Nat) (hm : m ≤ n) (hc : m ≤ c') (hc' : c' ≤ c) : OV w base e sz A m c' (cs.take (m * sz)) := by
  have hms : m * sz ≤ n * sz := Nat.mul_le_mul_right _ hm
  have hcs : c' * sz ≤ c * sz := Nat.mul_le_mul_right _ hc'
  refine ⟨by rw [List.length_take, h.len]; omega, hc, Nat.le_trans hm h.small, Nat.le_trans hc' h.capmax, fun ad ha => ?_, fun ha => by have := h.bare ha; omega⟩
  obtain ⟨h1, h2, cur, hh, h3, h4⟩ := h.form ad ha
  refine ⟨h1, h2, cur, hh, by omega, fun j v hj => h4 j v ?_⟩
  rw [List.getElem?_take] at hj
  split at hj
  · exact hj
  · cases hj
theorem OV.of_own (h : w.ownsRow base e sz (.slice A n c) n cs) (hn : n ≤ 281474976710656) : OV w base e sz A n c cs := by
  rcases h.2 with ⟨he, h0⟩ | ⟨g, cap, cur, he, hb, hh, hc, hm, hs, ht⟩
  · injection he with h1 h2 h3
    subst h1; subst h3; subst h0
    obtain rfl : cs = [] := List.eq_nil_of_length_eq_zero (by simpa using h.1)
    exact OV.nil _ _ _ _
  · injection he with h1 h2 h3
    subst h1; subst h3
    refine ⟨h.1, hc, hn, hm, fun ad ha => ?_, fun ha => by cases ha⟩
    injection ha with ha
    subst ha
    refine ⟨hb, rfl, cur, hh, by simp only [Nat.zero_add]; omega, fun j v hj => ?_⟩
    rw [← ht, List.getElem?_take] at hj
    split at hj
    · simpa using hj
    · cases hj
end
/-- A literal, or what make lays. -/
theorem OV.new (W : World) (base : Nat) (e : TypeId) (sz : Nat) (cs : Array Value) (n : Nat) (hb : base ≤ W.heap.size) (hl : cs.size = n * sz) (hn : n ≤ 281474976710656) :
    OV (W.alloc (.cells cs e)) base e sz (some ⟨W.heap.size, 0, none⟩) n n cs.toList :=
  ⟨by simpa using hl, Nat.le_refl _, hn, by simp only [maxLen]; omega, fun ad ha => by
    injection ha with ha
    subst ha
    exact ⟨hb, rfl, cs, blk_new _ _, by simp only [Nat.zero_add]; omega, fun j v hj => by simpa using hj⟩, fun ha => by cases ha⟩

/-! What a run of cells written leaves. -/
theorem setCells_far {g : Nat} : ∀ (vs : List Value) (o : Nat) {w : World} (k : Nat), k ≠ g → (w.setCells g o vs).heap[k]? = w.heap[k]?
  | [], _, _, _, _ => rfl
  | v :: r, o, w, k, hk => by
    rw [World.setCells, setCells_far r (o + 1) k hk]
    exact Below.heap_setCell w ⟨g, o, none⟩ v k hk
theorem setCells_same (g : Nat) : ∀ (vs : List Value) (o : Nat) (w : World), (w.setCells g o vs).os = w.os ∧ (w.setCells g o vs).tape = w.tape ∧ (w.setCells g o vs).output = w.output ∧ (w.setCells g o vs).heap.size = w.heap.size
  | [], _, _ => ⟨rfl, rfl, rfl, rfl⟩
  | v :: r, o, w => by
    obtain ⟨h1, h2, h3, h4⟩ := setCells_same g r (o + 1) (w.setCell ⟨g, o, none⟩ v)
    rw [World.setCells]
    exact ⟨h1, h2, h3, by rw [h4]; simp [World.setCell]⟩
theorem setCells_grown (g o : Nat) (vs : List Value) (w : World) : w.grownBy (w.setCells g o vs) (some g) := by
  obtain ⟨h1, h2, h3, h4⟩ := setCells_same g vs o w
  exact ⟨h1, h2, h3, by rw [h4]; exact Nat.le_refl _, fun k _ hk => setCells_far vs o k (fun h => hk (by rw [h]))⟩
theorem setCells_row {g : Nat} {e : TypeId} : ∀ (vs : List Value) (o : Nat) (w : World) (cur : Array Value), w.heap[g]? = some (.cells cur e (0, 0)) → o + vs.length ≤ cur.size →
    ∃ cur', (w.setCells g o vs).heap[g]? = some (.cells cur' e (0, 0)) ∧ cur'.size = cur.size ∧ ∀ j, cur'[j]? = if o ≤ j ∧ j < o + vs.length then vs[j - o]? else cur[j]?
  | [], o, w, cur, h, _ => ⟨cur, h, rfl, fun j => by rw [if_neg (by simp)]⟩
  | v :: r, o, w, cur, h, hl => by
    have h2 := blk_set h o v
    simp only [List.length_cons] at hl
    obtain ⟨cur', h3, h4, h5⟩ := setCells_row r (o + 1) (w.setCell ⟨g, o, none⟩ v) _ h2 (by simp; omega)
    refine ⟨cur', h3, by rw [h4]; simp, fun j => ?_⟩
    rw [h5 j]
    simp only [List.length_cons]
    by_cases h6 : o + 1 ≤ j ∧ j < o + 1 + r.length
    · rw [if_pos h6, if_pos (by omega), show j - o = (j - (o + 1)) + 1 by omega]
      rfl
    · rw [if_neg h6]
      by_cases h7 : j = o
      · subst h7
        rw [if_pos (by omega)]
        simp [show j < cur.size by omega]
      · rw [if_neg (by omega)]
        simp [Ne.symm h7]

/-- append(v, ys...): v a row of the call's own, ys a row that is read (nil let in). -/
theorem run_append_rows {P : Program} (W : World) (base : Nat) (t ty e : TypeId) (sz bytes : Nat) (z : Value) (A : Option Addr) (n c : Nat) (xs : List Value) (A2 : Option Addr) (m c2 : Nat) (ys : List Value)
    (ht : P.underlying t = some (.slice e)) (hinfo : (P.info? e).map (fun i => (i.zero, i.size, i.bytes)) = some (some z, sz, bytes)) (hzs : z.cells.size = sz) (hs0 : 0 < sz) (hb0 : 0 < bytes)
    (HO : OV W base e sz A n c xs) (HR : RV W sz A2 m c2 ys) (hone : ∀ u ∈ ys, u.oneCell' = true) (hbase : base ≤ W.heap.size) (hl : (n + m) * bytes ≤ 140737488355328) :
    ∃ A' c' w', (Builtin.append_ #[t, t] ty #[.slice A n c, .slice A2 m c2]).run P W = .ok (.slice A' (n + m) c') w' ∧
      OV w' base e sz A' (n + m) c' (xs ++ ys) ∧ W.grownBy w' ((Value.slice A n c).ownBlock) ∧ (A' = A ∨ ∀ ad, A' = some ad → W.heap.size ≤ ad.block) := by
  have hm : ys.length = m * sz := HR.len
  have hlen : n + m ≤ 140737488355328 := Nat.le_trans (Nat.le_mul_of_pos_right _ hb0) hl
  obtain ⟨i0, hi, hzz⟩ := Option.map_eq_some_iff.1 hinfo
  simp only [Prod.mk.injEq] at hzz
  obtain ⟨hz0, hz1, hz2⟩ := hzz
  have hcap := HO.cap
  have hmax : n + m ≤ maxLen := by simp only [maxLen]; omega
  rcases A2 with _ | ad2
  · have h0 : m = 0 := by
      rcases Nat.eq_zero_or_pos m with h0 | h0
      · exact h0
      · obtain ⟨ad, e, _⟩ := HR.cells h0
        cases e
    subst h0
    obtain rfl : ys = [] := List.eq_nil_of_length_eq_zero (by simpa using hm)
    refine ⟨A, c, W, ?_, by simpa using HO, grown_refl _ _, .inl rfl⟩
    cases A <;> simp [Builtin.append_, run_underlying ht, sizeOf, typeInfo, hi, Builtin.lenOf, Builtin.firstCells, hcap, storeCells]
  · have hcells : ∀ j u, ys[j]? = some u → W.cell? (ad2.add j) = some u := by
      intro j u hu
      have hj : j < ys.length := (List.getElem?_eq_some_iff.1 hu).1
      obtain ⟨ad', h', hc⟩ := HR.cells (by rcases Nat.eq_zero_or_pos m with h0 | h0; (subst h0; omega); exact h0)
      injection h' with h'
      subst h'
      exact hc j u hu
    -- a new row
    have fresh : ∀ v1 w1, w1.ownsRow W.heap.size e sz v1 (n + m) (xs ++ ys) → 0 < n + m → ∃ A' c', v1 = .slice A' (n + m) c' ∧ OV w1 base e sz A' (n + m) c' (xs ++ ys) ∧ (∃ ad', A' = some ad' ∧ W.heap.size ≤ ad'.block ∧ ad'.off = 0 ∧ ad'.spot = none) := by
      intro v1 w1 h2 hp
      rcases h2.2 with ⟨rfl, hz⟩ | ⟨g, cap, cur, rfl, hb, _⟩
      · omega
      · exact ⟨_, cap, rfl, (OV.of_own h2 (by omega)).lower hbase, _, rfl, hb, rfl, rfl⟩
    rcases A with _ | ad
    · have hc0 := HO.bare rfl
      subst hc0
      obtain rfl : n = 0 := by omega
      obtain rfl : xs = [] := List.eq_nil_of_length_eq_zero (by simpa using HO.len)
      obtain ⟨v1, w1, hr, h2, h3, _, h5⟩ := run_append_own_at (P := P) W W.heap.size t ty e i0 z sz bytes ht hi hz0 hz1 hz2 hzs hs0 (.slice none 0 0) 0 [] (World.ownsRow_nil W _ e sz) ad2 m c2 ys hm hcells hone hmax hl (Nat.le_refl _)
      rcases h2.2 with ⟨rfl, hz⟩ | ⟨g, cap, cur, rfl, hb, hh, _⟩
      · obtain rfl : m = 0 := by omega
        exact ⟨none, 0, w1, hr, (OV.of_own h2 (by omega)).lower hbase, h3, .inl rfl⟩
      · refine ⟨_, cap, w1, hr, (OV.of_own h2 (by omega)).lower hbase, h3, .inr (fun ad ha => ?_)⟩
        injection ha with ha
        subst ha
        exact hb
    · obtain ⟨hb, hs, cur, hh, hfit, hcs⟩ := HO.form ad rfl
      obtain ⟨g, off, spot⟩ := ad
      simp only at hs hb hh hfit hcs
      subst hs
      by_cases hroom : n + m ≤ c
      · have hns : (n + m) * sz ≤ c * sz := Nat.mul_le_mul_right _ hroom
        rw [Nat.add_mul] at hns
        subst hz1
        have hr := run_append_room_cells (P := P) W t ty e i0 ht hi g off n c ad2 m c2 ys hm hcells hone hroom
          (fun j hj => by rw [blk_cell hh, Array.getElem?_eq_getElem (by omega)]; rfl) (fun j _ => blk_frozen hh _)
        obtain ⟨cur', h3, h4, h5⟩ := setCells_row ys (off + n * i0.size) W cur hh (by omega)
        refine ⟨_, _, _, hr, ⟨by rw [List.length_append, HO.len, hm, Nat.add_mul], hroom, by omega, HO.capmax, fun ad' ha => ?_, fun ha => by cases ha⟩, setCells_grown _ _ _ _, .inl rfl⟩
        injection ha with ha
        subst ha
        refine ⟨hb, rfl, cur', h3, by rw [h4]; exact hfit, fun j v hj => ?_⟩
        have hxl := HO.len
        show cur'[off + j]? = some v
        rw [h5]
        by_cases hjx : j < xs.length
        · rw [List.getElem?_append_left hjx] at hj
          rw [if_neg (by omega)]
          exact hcs j v hj
        · rw [List.getElem?_append_right (by omega)] at hj
          have hlt := (List.getElem?_eq_some_iff.1 hj).1
          rw [if_pos (by omega), show off + j - (off + n * i0.size) = j - xs.length by omega]
          exact hj
      · obtain ⟨v1, w1, hr, h2, h3⟩ := run_append_arg_grows (P := P) (w := W) t ty e i0 z sz bytes ht hi hz0 hz1 hz2 hzs hs0 ⟨g, off, none⟩ n c xs HO.len
          (fun j u hu => by rw [add_spot _ rfl, blk_cell hh]; exact hcs j u hu) ad2 m c2 ys hm hcells (by omega) hmax hl
        obtain ⟨A', c', rfl, h4, ad', rfl, h6, h7, h8⟩ := fresh v1 w1 h2 (by omega)
        refine ⟨_, c', w1, hr, h4, ⟨h3.os, h3.tape, h3.output, h3.size, fun k hk _ => h3.block k hk (by simp)⟩, .inr (fun ad ha => ?_)⟩
        injection ha with ha
        subst ha
        exact h6

theorem own_row {base : Nat} {A : Option Addr} {n c : Nat} (h : ∀ ad, A = some ad → base ≤ ad.block) : ∀ k, (Value.slice A n c).ownBlock = some k → base ≤ k := by
  intro k hk
  cases A with
  | none => cases hk
  | some ad =>
    injection hk with hk
    rw [← hk]
    exact h ad rfl
/-- The world behind an append to a row that the call made. -/
theorem below_own {w W w' : World} {A : Option Addr} {n c : Nat} (hb : Below w.heap.size w W) (hg : W.grownBy w' ((Value.slice A n c).ownBlock)) (ha : ∀ ad, A = some ad → w.heap.size ≤ ad.block) : Below w.heap.size w w' :=
  hb.grown hg hb.size (fun k hk => by
    cases A with
    | none => cases hk
    | some ad =>
      injection hk with hk
      rw [← hk]
      exact ha ad rfl)

theorem OV.extend {w : World} {base : Nat} {e : TypeId} {sz : Nat} {A : Option Addr} {n c : Nat} {cs : List Value} (h : OV w base e sz A n c cs) (hc : c ≤ 281474976710656) : ∃ more, OV w base e sz A c c (cs ++ more) := by
  have hms : n * sz ≤ c * sz := Nat.mul_le_mul_right _ h.cap
  cases A with
  | none =>
    have h0 := h.bare rfl
    have := h.cap
    obtain rfl : n = 0 := by omega
    subst h0
    exact ⟨[], by simpa using h⟩
  | some ad =>
    obtain ⟨hb, hs, cur, hh, hfit, hcs⟩ := h.form ad rfl
    have hlen := h.len
    have hll : cur.toList.length = cur.size := Array.length_toList
    have e1 : ∀ j, j < c * sz → ((cs ++ (cur.toList.drop (ad.off + n * sz)).take ((c - n) * sz)))[j]? = cur[ad.off + j]? := by
      intro j hj
      by_cases hjn : j < cs.length
      · rw [List.getElem?_append_left hjn, List.getElem?_eq_getElem hjn]
        exact (hcs j _ (List.getElem?_eq_getElem hjn)).symm
      · rw [List.getElem?_append_right (by omega), List.getElem?_take, if_pos (by rw [Nat.sub_mul]; omega), List.getElem?_drop]
        rw [show ad.off + n * sz + (j - cs.length) = ad.off + j by omega]
        simp
    have hlen2 : (cs ++ (cur.toList.drop (ad.off + n * sz)).take ((c - n) * sz)).length = c * sz := by
      rw [List.length_append, List.length_take, List.length_drop, hll, Nat.sub_mul, hlen]
      omega
    refine ⟨(cur.toList.drop (ad.off + n * sz)).take ((c - n) * sz), hlen2, Nat.le_refl _, hc, h.capmax, fun ad' ha => ?_, fun ha => by cases ha⟩
    injection ha with ha
    subst ha
    refine ⟨hb, hs, cur, hh, hfit, fun j v hj => ?_⟩
    have hlt : j < c * sz := by rw [← hlen2]; exact (List.getElem?_eq_some_iff.1 hj).1
    rw [← e1 j hlt]
    exact hj

/-- append(s[:cap(s)], make([]T, k)...), what slices.Grow does where there is no room: the old elements lie at the begin of a new row. -/
theorem run_grow_rows {P : Program} (W : World) (base : Nat) (t tn ty e : TypeId) (sz bytes : Nat) (z : Value) (kn kq : IntKind) (A : Option Addr) (n c : Nat) (xs : List Value) (k : Nat)
    (ht : P.underlying t = some (.slice e)) (htn : P.underlying tn = some (.int kn)) (hinfo : (P.info? e).map (fun i => (i.zero, i.size, i.bytes)) = some (some z, sz, bytes)) (hzs : z.cells.size = sz) (hs0 : 0 < sz) (hb0 : 0 < bytes)
    (HO : OV W base e sz A n c xs) (h0 : 0 < k) (hbase : base ≤ W.heap.size) (hl : (c + k) * bytes ≤ 140737488355328) :
    ∃ A' c' w', (Builtin.append_ #[t, tn] ty #[.slice A c c, .int kq k]).run P W = .ok (.slice A' (c + k) c') w' ∧
      OV w' base e sz A' n c' xs ∧ c + k ≤ c' ∧ Below W.heap.size W w' ∧ (∀ ad, A' = some ad → W.heap.size ≤ ad.block) := by
  have hck : c + k ≤ 140737488355328 := Nat.le_trans (Nat.le_mul_of_pos_right _ hb0) hl
  obtain ⟨i0, hi, hzz⟩ := Option.map_eq_some_iff.1 hinfo
  simp only [Prod.mk.injEq] at hzz
  obtain ⟨hz0, hz1, hz2⟩ := hzz
  obtain ⟨more, HE⟩ := HO.extend (by omega)
  have hcap := HO.cap
  have hold : (Builtin.firstCells i0.size c (.slice A c c)).run P W.drew = .ok (xs ++ more).toArray W.drew := by
    cases A with
    | none =>
      have hc0 := HO.bare rfl
      subst hc0
      have : xs ++ more = [] := List.eq_nil_of_length_eq_zero (by simpa using HE.len)
      rw [this]
      rfl
    | some ad =>
      refine run_firstCells_some (P := P) W.drew i0.size c ad c c (xs ++ more) (by rw [hz1]; exact HE.len) (fun j u hu => ?_)
      obtain ⟨_, hs, cur, hh, _, hcs⟩ := HE.form ad rfl
      have : W.drew.cell? (ad.add j) = W.cell? (ad.add j) := rfl
      rw [this, add_spot ad hs, blk_cell hh]
      exact hcs j u hu
  have hkb : k * bytes ≤ (c + k) * bytes := Nat.mul_le_mul_right _ (by omega)
  have hrun := Lib.run_append_grow_zeros (P := P) W t tn ty e i0 z kq kn ht htn hi hz0 A c c (xs ++ more) hold k h0 (by omega) (by omega) (by omega) (by rw [hz2]; omega) (growslice_fits (by omega) (by rw [hz2]; exact hl))
  have hge := grownCap_ge W (c + k) c e
  have hmx := grownCap_le_maxLen W (c + k) c e (by simp only [maxLen]; omega)
  refine ⟨_, _, _, hrun, ?_, hge, ?_, fun ad ha => by injection ha with ha; subst ha; exact Nat.le_refl _⟩
  · have hsize : ((xs ++ more).toArray ++ Builtin.zeroCells z.cells k ++ Builtin.zeroCells z.cells (grownCap W (c + k) c e - (c + k))).size = grownCap W (c + k) c e * sz := by
      rw [Array.size_append, Array.size_append, List.size_toArray, HE.len, size_zeroCells, size_zeroCells, hzs, ← Nat.add_mul, ← Nat.add_mul]
      congr 1
      omega
    refine ⟨HO.len, by omega, HO.small, hmx, fun ad ha => ?_, fun ha => by cases ha⟩
    injection ha with ha
    subst ha
    refine ⟨hbase, rfl, _, heap_alloc_new W.drew _, by rw [hsize]; simp, fun j v hj => ?_⟩
    have hlt := (List.getElem?_eq_some_iff.1 hj).1
    show _[0 + j]? = some v
    rw [Nat.zero_add, Array.getElem?_append_left (by rw [Array.size_append, List.size_toArray, List.length_append]; omega), Array.getElem?_append_left (by rw [List.size_toArray, List.length_append]; omega), List.getElem?_toArray, List.getElem?_append_left hlt]
    exact hj
  · exact ⟨rfl, rfl, rfl, by simp, fun i hi => Below.heap_alloc W.drew _ i hi⟩

/-! ### Bytes -/
/-- What reads as bytes. -/
structure RB (w : World) (A : Option Addr) (n c : Nat) (xs : List Int) : Prop where
  rv : RV w 1 A n c (nums .u8 xs)
  range : Bytes xs
/-- Bytes of the call's own: blocks from base on. -/
structure OB (w : World) (base : Nat) (A : Option Addr) (n c : Nat) (xs : List Int) : Prop where
  ov : OV w base 5 1 A n c (nums .u8 xs)
  range : Bytes xs

section
variable {w w1 : World} {base base' : Nat} {A : Option Addr} {n c : Nat} {xs : List Int}
theorem RB.len (h : RB w A n c xs) : xs.length = n := by have := h.rv.len; simpa [nums] using this
theorem RB.cap (h : RB w A n c xs) : n ≤ c := h.rv.cap
theorem RB.small (h : RB w A n c xs) : n ≤ 281474976710656 := h.rv.small
theorem RB.nil (w : World) (A : Option Addr) (c : Nat) : RB w A 0 c [] := ⟨RV.nil w 1 A c, Bytes.nil⟩
theorem RB.at_ (h : RB w A n c xs) (i : Int) (h0 : 0 ≤ i) (h1 : i < n) : ∃ ad, A = some ad ∧ w.cell? (ad.add i.toNat) = some (.int .u8 (rd xs i)) := by
  obtain ⟨ad, e, hc⟩ := h.rv.cells (by omega)
  exact ⟨ad, e, hc _ _ (nums_get _ _ _ (by have := h.len; omega))⟩
theorem RB.rng (h : RB w A n c xs) (i : Int) : 0 ≤ rd xs i ∧ rd xs i < 256 := h.range.getD _
theorem RB.below (h : RB w A n c xs) (hb : Below w.heap.size w w1) : RB w1 A n c xs := ⟨h.rv.below hb, h.range⟩
theorem RB.grown (h : RB w A n c xs) {row : Option Nat} (hg : w.grownBy w1 row) (hne : ∀ ad, A = some ad → some ad.block ≠ row) : RB w1 A n c xs := ⟨h.rv.grown hg hne, h.range⟩
theorem nums_take (k : IntKind) (xs : List Int) (m : Nat) : nums k (xs.take m) = (nums k xs).take m := by simp [nums, List.map_take]
theorem nums_drop (k : IntKind) (xs : List Int) (m : Nat) : nums k (xs.drop m) = (nums k xs).drop m := by simp [nums, List.map_drop]
theorem RB.take (h : RB w A n c xs) (m : Nat) (hm : m ≤ n) : RB w A m c (xs.take m) := ⟨by have := h.rv.take m hm; rwa [Nat.mul_one, ← nums_take] at this, h.range.take m⟩
theorem RB.drop (h : RB w A n c xs) (m : Nat) (hm : m ≤ n) : RB w (if c = m then A else A.map (·.add m)) (n - m) (c - m) (xs.drop m) := ⟨by have := h.rv.drop m hm; rwa [Nat.mul_one, ← nums_drop] at this, h.range.drop m⟩
theorem OB.len (h : OB w base A n c xs) : xs.length = n := by have := h.ov.len; simpa [nums] using this
theorem OB.cap (h : OB w base A n c xs) : n ≤ c := h.ov.cap
theorem OB.base_ (h : OB w base A n c xs) : ∀ ad, A = some ad → base ≤ ad.block := h.ov.base_
theorem OB.lt (h : OB w base A n c xs) : ∀ ad, A = some ad → ad.block < w.heap.size := h.ov.lt
theorem OB.take (h : OB w base A n c xs) (m c' : Nat) (hm : m ≤ n) (hc : m ≤ c') (hc' : c' ≤ c) : OB w base A m c' (xs.take m) := ⟨by have := h.ov.take m c' hm hc hc'; rwa [Nat.mul_one, ← nums_take] at this, h.range.take m⟩
theorem OB.reads (h : OB w base A n c xs) : RB w A n c xs := ⟨h.ov.reads, h.range⟩
theorem OB.small (h : OB w base A n c xs) : n ≤ 281474976710656 := h.ov.small
theorem OB.lower (h : OB w base A n c xs) (hb : base' ≤ base) : OB w base' A n c xs := ⟨h.ov.lower hb, h.range⟩
theorem OB.grown (h : OB w base A n c xs) {row : Option Nat} (hg : w.grownBy w1 row) (hne : ∀ ad, A = some ad → some ad.block ≠ row) : OB w1 base A n c xs := ⟨h.ov.grown hg hne, h.range⟩
theorem OB.below (h : OB w base A n c xs) (hb : Below w.heap.size w w1) : OB w1 base A n c xs := ⟨h.ov.below hb, h.range⟩
theorem OB.nil (w : World) (base : Nat) : OB w base none 0 0 [] := ⟨OV.nil _ _ _ _, Bytes.nil⟩
end
theorem OB.new (W : World) (base : Nat) (xs : List Int) (hb : base ≤ W.heap.size) (hn : xs.length ≤ 281474976710656) (hr : Bytes xs) :
    OB (W.alloc (.cells (nums .u8 xs).toArray 5)) base (some ⟨W.heap.size, 0, none⟩) xs.length xs.length xs :=
  ⟨by have := OV.new W base 5 1 (nums .u8 xs).toArray xs.length hb (by simp [nums]) hn; simpa using this, hr⟩

theorem info_u8 : (Tryd.prog.info? 5).map (fun i => (i.zero, i.size, i.bytes)) = some (some (.int .u8 0), 1, 1) := by kernel_rfl

/-- append(v, ys...) on bytes of the call's own; ys is read. -/
theorem run_append_bytes (W : World) (base : Nat) (ty : TypeId) (A : Option Addr) (n c : Nat) (xs : List Int) (A2 : Option Addr) (m c2 : Nat) (ys : List Int)
    (HO : OB W base A n c xs) (HR : RB W A2 m c2 ys) (hbase : base ≤ W.heap.size) (hl : n + m ≤ 140737488355328) :
    ∃ A' c' w', (Builtin.append_ #[78, 78] ty #[.slice A n c, .slice A2 m c2]).run Tryd.prog W = .ok (.slice A' (n + m) c') w' ∧
      OB w' base A' (n + m) c' (xs ++ ys) ∧ W.grownBy w' ((Value.slice A n c).ownBlock) ∧ (A' = A ∨ ∀ ad, A' = some ad → W.heap.size ≤ ad.block) := by
  obtain ⟨A', c', w', h1, h2, h3, h4⟩ := run_append_rows W base 78 ty 5 1 1 (.int .u8 0) A n c (nums .u8 xs) A2 m c2 (nums .u8 ys) Tryd.underlying78 info_u8 rfl (by omega) (by omega) HO.ov HR.rv (nums_one _ _) hbase (by omega)
  exact ⟨A', c', w', h1, ⟨by rw [nums_append]; exact h2, HO.range.append HR.range⟩, h3, h4⟩

section
variable {P : Program} {ops : Array Oper} {rest : List Oper} {o : Oper} {a : Act} {Q : Exit → Act → World → Prop}
/-- One operation whose run is known. -/
theorem wpList_exec {W : World} (hgd : o.guard = none) {v : Value} {w' : World} (hrun : (execOp a.eval o).run P W = .ok (.value v) w') (h : wpList P ops Q rest (a.put o.dst v) w') : wpList P ops Q (o :: rest) a W :=
  wpList_plain hgd fun K hK => by
    unfold Oper.wp
    rw [hrun]
    exact hK _ _ h
end
section
variable {ops : Array Oper} {rest : List Oper} {o : Oper} {a : Act} {Q : Exit → Act → World → Prop}
theorem exec_append {W w' : World} (s x : Operand) (ts : Array TypeId) (ho : o.op = .call { callee := .builtin .append, args := #[s, x], argTypes := ts }) {vs vx v : Value} (hs : a.eval s = vs) (hx : a.eval x = vx)
    (hr : (Builtin.append_ ts o.type #[vs, vx]).run Tryd.prog W = .ok v w') : (execOp a.eval o).run Tryd.prog W = .ok (.value v) w' := by
  unfold execOp
  simp only [ho, resolve, invoke, builtin, Sem.run_bind, Sem.run_pure, Result.andThen_ok, List.map_toArray, List.map_cons, List.map_nil, hs, hx, hr]
theorem wpList_append_bytes {W : World} (hgd : o.guard = none) (s x : Operand) (ho : o.op = .call { callee := .builtin .append, args := #[s, x], argTypes := #[78, 78] })
    {base : Nat} {A : Option Addr} {n c : Nat} {xs : List Int} {A2 : Option Addr} {m c2 : Nat} {ys : List Int} (hs : a.eval s = .slice A n c) (hx : a.eval x = .slice A2 m c2)
    (HO : OB W base A n c xs) (HR : RB W A2 m c2 ys) (hbase : base ≤ W.heap.size) (hl : n + m ≤ 140737488355328)
    (h : ∀ A' c' w', OB w' base A' (n + m) c' (xs ++ ys) → W.grownBy w' ((Value.slice A n c).ownBlock) → (A' = A ∨ ∀ ad, A' = some ad → W.heap.size ≤ ad.block) → wpList Tryd.prog ops Q rest (a.put o.dst (.slice A' (n + m) c')) w') :
    wpList Tryd.prog ops Q (o :: rest) a W := by
  obtain ⟨A', c', w', h1, h2, h3, h4⟩ := run_append_bytes W base o.type A n c xs A2 m c2 ys HO HR hbase hl
  exact wpList_exec hgd (exec_append s x _ ho hs hx h1) (h _ _ _ h2 h3 h4)
end

theorem wpList_grow_bytes {ops : Array Oper} {rest : List Oper} {o : Oper} {a : Act} {Q : Exit → Act → World → Prop} {W : World} (hgd : o.guard = none) (s x : Operand) (ho : o.op = .call { callee := .builtin .append, args := #[s, x], argTypes := #[78, 3] })
    {base : Nat} {A : Option Addr} {n c : Nat} {xs : List Int} {k : Int} (hs : a.eval s = .slice A c c) (hx : a.eval x = .int .i64 k)
    (HO : OB W base A n c xs) (hk : 0 < k) (hbase : base ≤ W.heap.size) (hl : (c : Int) + k ≤ 140737488355328)
    (h : ∀ A' c' w' m, OB w' base A' n c' xs → Below W.heap.size W w' → (∀ ad, A' = some ad → W.heap.size ≤ ad.block) → m ≤ c' → (m : Int) = c + k → wpList Tryd.prog ops Q rest (a.put o.dst (.slice A' m c')) w') :
    wpList Tryd.prog ops Q (o :: rest) a W := by
  obtain ⟨q, rfl⟩ := Int.eq_ofNat_of_zero_le (Int.le_of_lt hk)
  obtain ⟨A', c', w', h1, h2, h3, h4, h5⟩ := run_grow_rows W base 78 3 o.type 5 1 1 (.int .u8 0) .i64 .i64 A n c (nums .u8 xs) q Tryd.underlying78 Tryd.underlying3 info_u8 rfl (by omega) (by omega) HO.ov (by omega) hbase (by omega)
  exact wpList_exec hgd (exec_append s x _ ho hs hx h1) (h _ _ _ _ ⟨h2, HO.range⟩ h4 h5 h3 (by omega))
theorem OB.empty (W : World) (base : Nat) (hb : base ≤ W.heap.size) : OB (W.alloc (.cells #[] 5)) base (some ⟨W.heap.size, 0, none⟩) 0 0 [] := OB.new W base [] hb (by simp) Bytes.nil

theorem RB.one (W : World) (y : Int) (h0 : 0 ≤ y) (h1 : y < 256) : RB (W.alloc (.cells #[.int .u8 y] 5)) (some ⟨W.heap.size, 0, none⟩) 1 1 [y] :=
  (OB.new W 0 [y] (by omega) (by simp) (by intro z hz; simp only [List.mem_singleton] at hz; omega)).reads

/-! ### Arguments: slices of whole numbers -/
structure RN (w : World) (k : IntKind) (A : Option Addr) (n c : Nat) (xs : List Int) : Prop where
  rv : RV w 1 A n c (nums k xs)
  wf : ∀ x ∈ xs, (Lit.int k x).wf = true
section
variable {w w1 : World} {k : IntKind} {A : Option Addr} {n c : Nat} {xs : List Int}
theorem RN.len (h : RN w k A n c xs) : xs.length = n := by have := h.rv.len; simpa [nums] using this
theorem RN.cap (h : RN w k A n c xs) : n ≤ c := h.rv.cap
theorem RN.small (h : RN w k A n c xs) : n ≤ 281474976710656 := h.rv.small
theorem RN.at_ (h : RN w k A n c xs) (i : Int) (h0 : 0 ≤ i) (h1 : i < n) : ∃ ad, A = some ad ∧ w.cell? (ad.add i.toNat) = some (.int k (rd xs i)) := by
  obtain ⟨ad, e, hc⟩ := h.rv.cells (by omega)
  exact ⟨ad, e, hc _ _ (nums_get _ _ _ (by have := h.len; omega))⟩
theorem RN.below (h : RN w k A n c xs) (hb : Below w.heap.size w w1) : RN w1 k A n c xs := ⟨h.rv.below hb, h.wf⟩
theorem RN.bytes (h : RN w .u8 A n c xs) : RB w A n c xs := ⟨h.rv, fun x hx => by
  have := h.wf x hx
  simp [Lit.wf, IntKind.min, IntKind.max, IntKind.bits, IntKind.signed] at this
  omega⟩
end
/-! ### Small run facts -/
@[go_sem] theorem eql_bytes_nil (w : World) (A : Option Addr) (n c : Nat) : (binOp .eql 78 (.slice A n c) (.slice none 0 0)).run Tryd.prog w = .ok (.bool A.isNone) w := Lib.run_eql_slice_nil w _ 5 A n c 0 0 Tryd.underlying78

theorem min2_i (k k' : IntKind) (x y : Int) : Builtin.min2 (.int k x) (.int k' y) = pure (.int k (min x y)) := by
  simp only [Builtin.min2]
  congr 2
  by_cases h : y < x
  · rw [if_pos h]; omega
  · rw [if_neg h]; omega
theorem max2_i (k k' : IntKind) (x y : Int) : Builtin.max2 (.int k x) (.int k' y) = pure (.int k (max x y)) := by
  simp only [Builtin.max2]
  congr 2
  by_cases h : y > x
  · rw [if_pos h]; omega
  · rw [if_neg h]; omega
@[go_sem] theorem min_int2 (ats : Array TypeId) (ty : TypeId) (k k1 : IntKind) (a b : Int) : Builtin.min_ ats ty #[.int k a, .int k1 b] = pure (.int k (min a b)) := by
  simp only [Builtin.min_, List.foldlM_cons, List.foldlM_nil, min2_i]
  rfl
@[go_sem] theorem min_int3 (ats : Array TypeId) (ty : TypeId) (k k1 k2 : IntKind) (a b c : Int) : Builtin.min_ ats ty #[.int k a, .int k1 b, .int k2 c] = pure (.int k (min (min a b) c)) := by
  simp only [Builtin.min_, List.foldlM_cons, List.foldlM_nil, min2_i]
  show (pure (Value.int k (min a b)) >>= fun s => Builtin.min2 s (.int k2 c) >>= fun s => pure s : Sem Value) = _
  show (Builtin.min2 (Value.int k (min a b)) (.int k2 c) >>= fun s => pure s : Sem Value) = _
  rw [min2_i]
  rfl
@[go_sem] theorem min_int4 (ats : Array TypeId) (ty : TypeId) (k k1 k2 k3 : IntKind) (a b c d : Int) : Builtin.min_ ats ty #[.int k a, .int k1 b, .int k2 c, .int k3 d] = pure (.int k (min (min (min a b) c) d)) := by
  simp only [Builtin.min_, List.foldlM_cons, List.foldlM_nil, min2_i]
  show (Builtin.min2 (Value.int k (min a b)) (.int k2 c) >>= fun s => Builtin.min2 s (.int k3 d) >>= fun s => pure s : Sem Value) = _
  rw [min2_i]
  show (Builtin.min2 (Value.int k (min (min a b) c)) (.int k3 d) >>= fun s => pure s : Sem Value) = _
  rw [min2_i]
  rfl
@[go_sem] theorem max_int2 (ats : Array TypeId) (ty : TypeId) (k k1 : IntKind) (a b : Int) : Builtin.max_ ats ty #[.int k a, .int k1 b] = pure (.int k (max a b)) := by
  simp only [Builtin.max_, List.foldlM_cons, List.foldlM_nil, max2_i]
  rfl

end Go.Proofs.YtifejiclenpfoaaDoor

/- What the rows of this seat share: the row's own closed facts, and the reading of an argument as a slice of whole numbers. -/
namespace Go.Proofs.YtifejiclenpfoaaDoor
open Go.ChangeShapes Go.WideShapes Go.ChangeAt Go.RowKit
theorem own : ownKnob Tryd.prog.godebug = none := by kernel_rfl
theorem laidOut : laidOutB Tryd.prog = true := by kernel_rfl
theorem trod_blocks {H : Type} {enc : TypeId × Value → H} {P : Program} {W : World} {t : TypeId} {v : Value} {d : DataW H} {p : List MemPlace} (h : DataW.Trod enc P W 0 (fun _ => true) true t v d p) : ∀ x ∈ p, x.block < W.heap.size := by
  obtain ⟨m, hm⟩ := h
  exact DataW.trod_lt m _ _ _ hm
end Go.Proofs.YtifejiclenpfoaaDoor

/- Contracts of package octet. -/
namespace Go.Proofs.YtifejiclenpfoaaDoor
open Go.RowKit
set_option linter.unusedVariables false
set_option linter.unusedSimpArgs false
set_option maxRecDepth 4000

theorem bits_and1 (x : Int) (h0 : 0 ≤ x) (h1 : x < 256) : bits .and .u8 x 1 = x % 2 := bits_mask .u8 8 (by decide) wraps_u8 1 (by decide) x h0 h1
theorem div_lt256 (x : Int) (k : Nat) (h0 : 0 ≤ x) (h1 : x < 256) : 0 ≤ x / 2 ^ k ∧ x / 2 ^ k < 256 :=
  ⟨Int.ediv_nonneg h0 (Int.pow_nonneg (by omega)), Int.lt_of_le_of_lt (Int.ediv_le_self _ h0) h1⟩

theorem clone_any (A : Option Addr) (n c : Nat) (xs : List Int) (w : World) (hr : RB w A n c xs) (hn : n ≤ 140737488355328) :
    Calls Tryd.prog 83 #[.slice A n c] w fun e w' => ∃ A' c', e = .returned (.slice A' n c') ∧ OB w' w.heap.size A' n c' xs ∧ Below w.heap.size w w' := by
  cases A with
  | none =>
    have h0 : n = 0 := by
      rcases Nat.eq_zero_or_pos n with h | h
      · exact h
      · obtain ⟨ad, e, _⟩ := hr.rv.cells h
        cases e
    subst h0
    obtain rfl : xs = [] := List.eq_nil_of_length_eq_zero hr.len
    go_enter Tryd.func83, Tryd.ntmps83
    go_wp2
    go_ret
    exact ⟨_, _, rfl, OB.nil _ _, Below.refl _ _⟩
  | some ad =>
    go_enter Tryd.func83, Tryd.ntmps83
    go_wp2_with (at_builtin; refine wpList_append_bytes rfl (.tmp 5) (.tmp 6) rfl rfl rfl (OB.empty w w.heap.size (Nat.le_refl _)) (hr.below (below_alloc (Below.refl _ _) _)) (by simp) (by omega) ?_; intro A' c' w' h1 h2 h3; rw [Nat.zero_add, List.nil_append] at h1; rw [Nat.zero_add])
    go_ret
    exact ⟨_, _, rfl, h1, below_own (below_alloc (Below.refl _ _) _) h2 (fun ad h => by injection h with h; subst h; exact Nat.le_refl _)⟩

/-- slices.Grow on bytes of the call's own. -/
theorem grow_any (base : Nat) (A : Option Addr) (n c : Nat) (xs : List Int) (k : Int) (w : World) (ho : OB w base A n c xs) (hb : base ≤ w.heap.size) (hk0 : 0 ≤ k) (hk1 : k ≤ 1000000) (hn : n ≤ 140737400000000) :
    Calls Tryd.prog 121 #[.slice A n c, .int .i64 k] w fun e w' => ∃ A' c', e = .returned (.slice A' n c') ∧ OB w' base A' n c' xs ∧ (A' = A ∨ ∀ ad, A' = some ad → w.heap.size ≤ ad.block) ∧ Below w.heap.size w w' := by
  have hcap := ho.cap
  have hmax : c ≤ 9223372036854775807 := ho.ov.capmax
  by_cases h1 : k ≤ (c : Int) - n
  · go_enter Tryd.func121, Tryd.ntmps121
    go_wp2
    go_ret
    exact ⟨_, _, rfl, ho, .inl rfl, Below.refl _ _⟩
  · have h1' : (c : Int) - n < k := by omega
    clear h1
    go_enter Tryd.func121, Tryd.ntmps121
    go_wp2_with (at_builtin; refine wpList_grow_bytes rfl (.tmp 20) (.tmp 21) rfl rfl rfl ho (by omega) hb (by omega) ?_; intro A' c' w' m h1 h2 h3 h4 h5)
    go_ret
    have h1f := h1.take n c' (Nat.le_refl _) h1.cap (Nat.le_refl _)
    rw [List.take_of_length_le (by rw [h1.len]; exact Nat.le_refl _)] at h1f
    exact ⟨_, _, by simp, h1f, .inr h3, h2⟩

theorem clip_any (A : Option Addr) (n c : Nat) (w : World) (hc : n ≤ c) :
    Calls Tryd.prog 122 #[.slice A n c] w fun e w' => e = .returned (.slice A n n) ∧ w = w' := by
  go_enter Tryd.func122, Tryd.ntmps122
  go_wp2
  go_ret
  exact ⟨by simp, rfl⟩

/-- A number's bytes, the highest first. -/
def highB (x : Int) (n : Nat) : List Int := (List.range n).map fun i => x / 2 ^ (8 * n - 8 - 8 * i) % 256
theorem highB_length (x : Int) (n : Nat) : (highB x n).length = n := by simp [highB]
theorem highB_take (x : Int) (n k : Nat) (h : k < n) : (highB x n).take (k + 1) = (highB x n).take k ++ [x / 2 ^ (8 * n - 8 - 8 * k) % 256] := by
  rw [List.take_succ_eq_append_getElem (by rw [highB_length]; exact h)]
  simp [highB]

theorem and255 (x : Int) (h : 0 ≤ x ∧ x < 18446744073709551616) : bits .and .u64 x 255 % 256 = x % 256 := by
  rw [show bits .and .u64 x 255 = x % 256 from bits_mask .u64 64 (by decide) (fun n h0 h1 => by simp only [IntKind.wrap, IntKind.bits, IntKind.signed]; simp; omega) 8 (by decide) x h.1 h.2]
  omega
theorem div_ltu64 (x : Int) (k : Nat) (h0 : 0 ≤ x) (h1 : x < 18446744073709551616) : 0 ≤ x / 2 ^ k ∧ x / 2 ^ k < 18446744073709551616 :=
  ⟨Int.ediv_nonneg h0 (Int.pow_nonneg (by omega)), Int.lt_of_le_of_lt (Int.ediv_le_self _ h0) h1⟩
theorem goes_any (A : Option Addr) (n c : Nat) (xs : List Int) (x : Int) (m : Nat) (w : World) (hr : RB w A n c xs) (hn : n ≤ 140737300000000) (hx0 : 0 ≤ x) (hx1 : x < 18446744073709551616) (hm : m ≤ 8) :
    Calls Tryd.prog 99 #[.slice A n c, .int .u64 x, .int .i64 m] w fun e w' => ∃ A', e = .returned (.slice A' (n + m) (n + m)) ∧ OB w' w.heap.size A' (n + m) (n + m) (xs ++ highB x m) ∧ Below w.heap.size w w' := by
  go_enter Tryd.func99, Tryd.ntmps99
  go_wp2_with fail
  refine (clone_any A n c xs w hr (by omega)).mono ?_
  rintro e w1 ⟨A1, c1, rfl, h1, hb1⟩
  go_wp2_with fail
  have hb1s := hb1.size
  refine (grow_any w.heap.size A1 n c1 xs m w1 h1 hb1s (by omega) (by omega) (by omega)).mono ?_
  rintro e w2 ⟨A2, c2, rfl, h2, -, hb2⟩
  go_wp2
  have HB2 := Lib.hid (below_step hb1 hb2)
  have H2 := Lib.hid h2
  have HS := Lib.hid hb1s
  clear hb1 hb2 h2 h1 hb1s
  go_loopw [7, 14] (fun v i wr => ∃ (k : Nat) (A3 : Option Addr) (c3 : Nat), i = .int .i64 k ∧ v = .slice A3 (n + k) c3 ∧ Hid (k ≤ m ∧ OB wr w.heap.size A3 (n + k) c3 (xs ++ (highB x m).take k) ∧ Below w.heap.size w wr)) (fun _ i _ => m - (intOf i).toNat)
  case atStart => exact ⟨0, A2, c2, rfl, rfl, Nat.zero_le _, by simpa using H2.out, HB2.out⟩
  case round =>
    obtain ⟨k, A3, c3, rfl, rfl, HH⟩ := hrel
    have hkm := HH.out.1
    by_cases hlt : k < m
    · have hs0 : 0 ≤ 8 * (m : Int) - 8 - 8 * (k : Int) := by omega
      have hs1 : 8 * (m : Int) - 8 - 8 * (k : Int) < 64 := by omega
      have HV : bits .and .u64 (x / 2 ^ (8 * m - 8 - 8 * k)) 255 % 256 = x / 2 ^ (8 * m - 8 - 8 * k) % 256 := and255 _ (div_ltu64 x _ hx0 hx1)
      have hOB := HH.out.2.1
      have hBL := HH.out.2.2
      go_wp2_with (at_builtin; refine wpList_append_bytes rfl (.tmp 17) (.tmp 28) rfl rfl rfl (hOB.below (below_alloc (Below.refl _ _) _)) (RB.one _ _ (by omega) (by omega)) (by have := hBL.size; simp; omega) (by omega) ?_; intro A4 c4 w4 h1 h2 h3; have hn1 := Lib.hid (And.intro h1 h2); clear h1 h2 h3)
      go_roundw
      case rel =>
        refine ⟨k + 1, A4, c4, by go_num, by rw [Nat.add_assoc], by omega, ?_, ?_⟩
        · rw [highB_take x m k hlt, ← List.append_assoc, ← Nat.add_assoc]
          exact hn1.out.1
        · exact (hBL.alloc hBL.size _).grown hn1.out.2 (by have := hBL.size; simp; omega) (own_row hOB.base_)
      case measure => simp [intOf]; omega
    · obtain rfl : k = m := by omega
      clear hlt
      have hOB := HH.out.2.1
      have hBL := HH.out.2.2
      have hcp := hOB.cap
      go_wp2_with (go_at_call 122; refine (clip_any _ _ _ _ hcp).mono ?_; rintro e w' ⟨rfl, rfl⟩)
      go_ret
      rw [List.take_of_length_le (by rw [highB_length]; exact Nat.le_refl _)] at hOB
      have h1f := hOB.take (n + k) (n + k) (Nat.le_refl _) (Nat.le_refl _) hOB.cap
      rw [List.take_of_length_le (by rw [hOB.len]; exact Nat.le_refl _)] at h1f
      exact ⟨_, rfl, h1f, hBL⟩


theorem put64_any (A : Option Addr) (n c : Nat) (xs : List Int) (x : Int) (w : World) (hr : RB w A n c xs) (hn : n ≤ 140737300000000) (hx0 : 0 ≤ x) (hx1 : x < 18446744073709551616) :
    Calls Tryd.prog 71 #[.slice A n c, .int .u64 x] w fun e w' => ∃ A', e = .returned (.slice A' (n + 8) (n + 8)) ∧ OB w' w.heap.size A' (n + 8) (n + 8) (xs ++ highB x 8) ∧ Below w.heap.size w w' := by
  go_enter Tryd.func71, Tryd.ntmps71
  go_wp2_with fail
  refine (goes_any A n c xs x 8 w hr hn hx0 hx1 (by omega)).mono ?_
  rintro e w1 ⟨A1, rfl, h1, hb1⟩
  go_wp2
  go_ret
  exact ⟨_, rfl, h1, hb1⟩
theorem put32_any (A : Option Addr) (n c : Nat) (xs : List Int) (x : Int) (w : World) (hr : RB w A n c xs) (hn : n ≤ 140737300000000) (hx0 : 0 ≤ x) (hx1 : x < 4294967296) :
    Calls Tryd.prog 77 #[.slice A n c, .int .u32 x] w fun e w' => ∃ A', e = .returned (.slice A' (n + 4) (n + 4)) ∧ OB w' w.heap.size A' (n + 4) (n + 4) (xs ++ highB x 4) ∧ Below w.heap.size w w' := by
  go_enter Tryd.func77, Tryd.ntmps77
  go_wp2_with fail
  refine (goes_any A n c xs x 4 w hr hn hx0 (by omega) (by omega)).mono ?_
  rintro e w1 ⟨A1, rfl, h1, hb1⟩
  go_wp2
  go_ret
  exact ⟨_, rfl, h1, hb1⟩
end Go.Proofs.YtifejiclenpfoaaDoor

/- Contracts of the reader of package octet. -/
namespace Go.Proofs.YtifejiclenpfoaaDoor
open Go.RowKit
set_option linter.unusedVariables false
set_option linter.unusedSimpArgs false
set_option maxRecDepth 4000

/-- The reader at block g: what is still to come, and why it is out of step (0: it is not). -/
def Rdr (w : World) (lo g : Nat) (xs : List Int) (e : Int) : Prop :=
  ∃ A n c, w.heap[g]? = some (.cells #[.slice A n c, .int .i64 e] 143 (0, 0)) ∧ RB w A n c xs ∧ ∀ ad, A = some ad → lo ≤ ad.block ∧ ad.block < g

variable {lo : Nat}
theorem Rdr.set {w : World} {g : Nat} {xs : List Int} {e : Int} (h : Rdr w lo g xs e) (e' : Int) : Rdr (w.setCell ⟨g, 1, none⟩ (.int .i64 e')) lo g xs e' := by
  obtain ⟨A, n, c, hb, hr, ha⟩ := h
  refine ⟨A, n, c, blk_set hb 1 _, hr.grown (grown_setCell _ _ _) (fun ad e h => ?_), ha⟩
  have := ha ad e
  injection h with h
  simp only at h
  omega

theorem Rdr.below {w w1 : World} {g : Nat} {xs : List Int} {e : Int} (h : Rdr w lo g xs e) (hb : Below w.heap.size w w1) : Rdr w1 lo g xs e := by
  obtain ⟨A, n, c, hbl, hr, ha⟩ := h
  exact ⟨A, n, c, blk_below hbl hb, hr.below hb, ha⟩
theorem Rdr.lt {w : World} {g : Nat} {xs : List Int} {e : Int} (h : Rdr w lo g xs e) : g < w.heap.size := by
  obtain ⟨A, n, c, hbl, hr, ha⟩ := h
  exact blk_lt hbl
/-- A captured slice of bytes at block b; what it holds lies behind it. -/
def Capt (w : World) (b : Nat) (xs : List Int) : Prop := ∃ A c, w.heap[b]? = some (.cells #[.slice A xs.length c] 78 (0, 0)) ∧ OB w (b + 1) A xs.length c xs
theorem Capt.start {w : World} {b : Nat} (h : w.heap[b]? = some (.cells #[.slice none 0 0] 78 (0, 0))) : Capt w b [] := ⟨none, 0, h, OB.nil _ _⟩
end Go.Proofs.YtifejiclenpfoaaDoor

/- What the statements of layer 1 share: wakes, the references. -/
namespace Go.Proofs.YtifejiclenpfoaaDoor
open Go.RowKit
set_option linter.unusedVariables false
set_option linter.unusedSimpArgs false
set_option maxRecDepth 4000

theorem wf_i64 {x : Int} (h : (Lit.int .i64 x).wf = true) : -9223372036854775808 ≤ x ∧ x ≤ 9223372036854775807 := by
  simp [Lit.wf, IntKind.min, IntKind.max, IntKind.bits, IntKind.signed] at h
  omega
theorem Rdr.grown {w w1 : World} {lo g : Nat} {xs : List Int} {e : Int} {row : Option Nat} (h : Rdr w lo g xs e) (hg : w.grownBy w1 row) (hr : ∀ b, row = some b → b ≠ g ∧ (b < lo ∨ g < b)) : Rdr w1 lo g xs e := by
  obtain ⟨A, n, c, hb, hrb, ha⟩ := h
  refine ⟨A, n, c, blk_grown hb hg (fun e => (hr g e.symm).1 rfl), hrb.grown hg (fun ad e h => ?_), ha⟩
  have h1 := ha ad e
  have h2 := hr ad.block h.symm
  omega
end Go.Proofs.YtifejiclenpfoaaDoor

/- A region that draws its order, walked once: operations that only compute go first, loads may go in any order among themselves, what else acts stands in one forced order. Built on the library's Orders and Still. -/
namespace Go.Proofs.YtifejiclenpfoaaDoor
set_option linter.unusedVariables false
set_option linter.unusedSimpArgs false
set_option maxRecDepth 4000

section
variable {P : Program} {S : World → Prop} {ops : Array Oper} {Q : Exit → Act → World → Prop} {md : Region.Mode} {cl : Nat → Nat}

/-- What an operation yields in every world of a kind. -/
def YieldsS (P : Program) (ops : Array Oper) (S : World → Prop) (o : Oper) (v : Value) (a : Act) : Prop :=
  (Region.wanted o (yielded ops a.tmps) = true ∧ ∀ w, S w → ((execOp a.eval o).run P w = .ok (.value v) w ∨
    ∃ f args, (execOp a.eval o).run P w = .ok (.enter f args) w ∧ Calls P f args w fun e w' => e = .returned v ∧ w = w')) ∨
  (Region.wanted o (yielded ops a.tmps) = false ∧ v = undef)
theorem YieldsS.wpOp {S : World → Prop} {i : Nat} {o : Oper} {v : Value} {a : Act} (hi : ops[i]? = some o) (hy : YieldsS P ops S o v a)
    {K : Act → World → Prop} {w : World} (hw0 : S w) (h : K (a.put o.dst v) w) : wpOp P ops Q i K a w := by
  unfold Go.wpOp
  simp only [hi]
  rcases hy with ⟨hw, hv⟩ | ⟨hw, rfl⟩
  · rcases hv w hw0 with hv | ⟨f, args, hv, hc⟩
    · simp only [hw, if_true, Oper.wp, hv, Oper.upon]; exact .inl h
    · simp only [hw, if_true, Oper.wp, hv, Oper.upon]
      refine .inl (hc.mono ?_)
      rintro e w' ⟨rfl, rfl⟩
      exact h
  · simp only [hw, Bool.false_eq_true, if_false]; exact h
theorem YieldsS.of_same {S : World → Prop} {o : Oper} {v : Value} {a a' : Act} (hy : YieldsS P ops S o v a) (he : execOp a'.eval o = execOp a.eval o)
    (hw : Region.wanted o (yielded ops a'.tmps) = Region.wanted o (yielded ops a.tmps)) : YieldsS P ops S o v a' := by
  unfold YieldsS at *
  rw [he, hw]
  exact hy
theorem wpOp_putS {S : World → Prop} {j : Nat} {oi oj : Oper} {v : Value} (hj : ops[j]? = some oj) (hap : oi.apart ops oj = true)
    (hsi : ∀ cs b, oi.op ≠ .select cs b) (hsj : ∀ cs b, oj.op ≠ .select cs b)
    (hQ : ∀ c a w, Q (.panic c) (a.put oi.dst v) w → Q (.panic c) a w) {K : Act → World → Prop} {a : Act} {w : World}
    (hy : YieldsS P ops S oi v a) (h : wpOp P ops Q j K (a.put oi.dst v) w) :
    wpOp P ops Q j (fun a' w' => YieldsS P ops S oi v a' ∧ K (a'.put oi.dst v) w') a w := by
  obtain ⟨h1, h2, h3⟩ := Oper.apart_spec hap
  have keep : ∀ (a : Act), YieldsS P ops S oi v a → ∀ u, YieldsS P ops S oi v (a.put oj.dst u) := fun a hy u =>
    hy.of_same (execOp_put oi hsi a oj.dst u h3) (wanted_put oi a oj.dst u h3)
  have keepD : ∀ d, YieldsS P ops S oi v { a with defers := d :: a.defers } := fun d => hy.of_same rfl rfl
  unfold wpOp at *
  simp only [hj] at *
  rw [wanted_put oj a oi.dst v h1] at h
  split
  · rename_i hw
    simp only [hw, if_true] at h
    rcases h with h | ⟨hasks, hlets⟩
    case inr => exact .inr ⟨by unfold Oper.asks at *; rw [execOp_put oj hsj a oi.dst v h1] at hasks; exact hasks, hlets⟩
    refine .inl ?_
    unfold Oper.wp at *
    rw [execOp_put oj hsj a oi.dst v h1] at h
    generalize (execOp a.eval oj).run P w = r at *
    cases r with
    | ok n w' =>
      cases n <;> simp only [Oper.upon] at h ⊢
      case value u => exact ⟨keep a hy u, by rw [← Act.put_comm a v u h2]; exact h⟩
      case skip => exact ⟨keep a hy _, by rw [← Act.put_comm a v undef h2]; exact h⟩
      case defer d =>
        refine ⟨keep _ (keepD d) _, ?_⟩
        rw [← Act.put_comm _ v undef h2, ← Act.put_defers]
        exact h
      case enter f args =>
        refine Calls.mono h fun e w'' he => ?_
        cases e with
        | returned u => exact ⟨keep a hy u, by rw [← Act.put_comm a v u h2]; exact he⟩
        | panicked c => exact hQ _ _ _ he
        | outgrown => exact he
      case row row args => exact Rows.mono h fun u w'' he => ⟨keep a hy u, by rw [← Act.put_comm a v u h2]; exact he⟩
    | halt x w' =>
      cases x <;> simp only [Oper.upon] at h ⊢
      case panic u => exact hQ _ _ _ h
  · rename_i hw
    simp only [hw] at h
    exact ⟨keep a hy _, by rw [← Act.put_comm a v undef h2]; exact h⟩

/-- One operation, by its class: 0 it computes, whatever the world (of the kind S); 1 it reads; 2 it acts; 3 it acts, behind all but what is of class 3 or 4; 4 it computes, whatever the world. -/
def mOp (P : Program) (S : World → Prop) (ops : Array Oper) (Q : Exit → Act → World → Prop) (cl : Nat → Nat) (i : Nat) (K : Act → World → Prop) (a : Act) (w : World) : Prop :=
  match ops[i]? with
  | none => K a w
  | some o => match cl i with
    | 0 => ∃ v, YieldsS P ops S o v a ∧ K (a.put o.dst v) w
    | 1 => ∃ v, YieldsAt P ops w o v a ∧ K (a.put o.dst v) w
    | 3 => wpOp P ops Q i K a w
    | 4 => ∃ v, YieldsS P ops (fun _ => True) o v a ∧ K (a.put o.dst v) w
    | _ => wpOp P ops Q i (fun a' w' => S w' ∧ K a' w') a w
def wpM (P : Program) (S : World → Prop) (md : Region.Mode) (ops : Array Oper) (Q : Exit → Act → World → Prop) (cl : Nat → Nat) : Nat → Array Bool → Act → World → Prop
  | 0, listed, a, w => Region.ready md ops listed = [] ∧ Q .normal a w
  | fuel + 1, listed, a, w =>
    (Region.ready md ops listed = [] → Q .normal a w) ∧
    ∀ i ∈ Region.ready md ops listed, mOp P S ops Q cl i (wpM P S md ops Q cl fuel (listed.setIfInBounds i true)) a w
theorem yieldsAt_wpOp {i : Nat} {o : Oper} {v : Value} {a : Act} {w : World} (hi : ops[i]? = some o) (hy : YieldsAt P ops w o v a) {K : Act → World → Prop} (h : K (a.put o.dst v) w) : wpOp P ops Q i K a w :=
  wpOp_of_stOp (K := fun a' => K a' w) (fun _ h => h) (hy.stOp hi h)
theorem wpOp_of_mOp {i : Nat} {K : Act → World → Prop} {a : Act} {w : World} (hs : S w) (hc3 : cl i ≠ 3) (h : mOp P S ops Q cl i K a w) : wpOp P ops Q i (fun a' w' => S w' ∧ K a' w') a w := by
  unfold mOp at h
  cases hi : ops[i]? with
  | none => rw [hi] at h; unfold wpOp; rw [hi]; exact ⟨hs, h⟩
  | some o =>
    rw [hi] at h
    simp only at h
    split at h
    · obtain ⟨v, hy, hk⟩ := h; exact hy.wpOp hi hs ⟨hs, hk⟩
    · obtain ⟨v, hy, hk⟩ := h; exact yieldsAt_wpOp hi hy ⟨hs, hk⟩
    · rename_i hc; exact absurd hc hc3
    · obtain ⟨v, hy, hk⟩ := h; exact hy.wpOp hi trivial ⟨hs, hk⟩
    · exact h

theorem mOp_mono {i : Nat} {K K' : Act → World → Prop} {a : Act} {w : World} (hk : ∀ a w, K a w → K' a w) (h : mOp P S ops Q cl i K a w) : mOp P S ops Q cl i K' a w := by
  unfold mOp at *
  cases hi : ops[i]? with
  | none => rw [hi] at h; exact hk _ _ h
  | some o =>
    rw [hi] at h
    simp only at h ⊢
    split at h
    · obtain ⟨v, hy, h1⟩ := h; exact ⟨v, hy, hk _ _ h1⟩
    · obtain ⟨v, hy, h1⟩ := h; exact ⟨v, hy, hk _ _ h1⟩
    · exact wpOp_mono (fun a w h => hk _ _ h) h
    · obtain ⟨v, hy, h1⟩ := h; exact ⟨v, hy, hk _ _ h1⟩
    · exact wpOp_mono (fun a w h => ⟨h.1, hk _ _ h.2⟩) h

/-- What is listed has all listed that it waits for. -/
def Closed (md : Region.Mode) (ops : Array Oper) (listed : Array Bool) : Prop :=
  ∀ j oj, ops[j]? = some oj → listed.getD j false = true → ∀ e ∈ oj.after, Region.binds md e = true → listed.getD e.on false = true
theorem Closed.start (n : Nat) : Closed md ops (Array.replicate n false) := by
  intro j oj _ h
  rcases Nat.lt_or_ge j n with h' | h'
  · simp [h'] at h
  · simp [Array.getElem?_eq_none (show (Array.replicate n false).size ≤ j by simpa using h')] at h
theorem Closed.set {listed : Array Bool} {i : Nat} (h : Closed md ops listed) (hi : i ∈ Region.ready md ops listed) : Closed md ops (listed.setIfInBounds i true) := by
  obtain ⟨_, oi, hoi, hall⟩ := mem_ready.1 hi
  intro j oj hj hl e he hb
  by_cases hij : i = j
  · subst hij
    obtain rfl : oj = oi := Option.some.inj (hj.symm.trans hoi)
    exact getD_set_true (hall e he hb)
  · rw [getD_set_ne false hij] at hl
    exact getD_set_true (h j oj hj hl e he hb)
/-- i stands ahead of j, by whatever way. -/
def reach (md : Region.Mode) (ops : Array Oper) (i : Nat) : Nat → Nat → Bool
  | 0, _ => false
  | n + 1, j => match ops[j]? with
    | some oj => oj.after.any fun e => Region.binds md e && (e.on == i || reach md ops i n e.on)
    | none => false
theorem reach_spec {listed : Array Bool} {i : Nat} (hc : Closed md ops listed) : ∀ (n j : Nat) (oj : Oper), ops[j]? = some oj → (∀ e ∈ oj.after, Region.binds md e = true → listed.getD e.on false = true) →
    reach md ops i n j = true → listed.getD i false = true
  | 0, _, _, _, _, h => by simp [reach] at h
  | n + 1, j, oj, hj, hall, h => by
    simp only [reach, hj] at h
    obtain ⟨e, he, h1⟩ := Array.any_eq_true'.1 h
    simp only [Bool.and_eq_true, Bool.or_eq_true, beq_iff_eq] at h1
    have hl := hall e he h1.1
    rcases h1.2 with h2 | h2
    · rw [← h2]; exact hl
    · cases ho : ops[e.on]? with
      | none =>
        cases n with
        | zero => simp [reach] at h2
        | succ n => simp [reach, ho] at h2
      | some oe => exact reach_spec hc n e.on oe ho (hc e.on oe ho hl) h2

theorem listed_not {listed : Array Bool} {i : Nat} (h0 : listed.getD i true = false) (h1 : listed.getD i false = true) : False := by
  rcases Nat.lt_or_ge i listed.size with h' | h'
  · simp [h'] at h0 h1; rw [h0] at h1; cases h1
  · simp [Array.getElem?_eq_none h'] at h1

/-- What is of class 3 stands behind all that is not. -/
def Fin (md : Region.Mode) (ops : Array Oper) (cl : Nat → Nat) : Prop := ∀ j, cl j = 3 → ∀ k, k < ops.size → cl k ≠ 3 → cl k ≠ 4 → reach md ops k ops.size j = true
def clOf (l : List (Nat × Nat)) (i : Nat) : Nat := ((l.find? fun p => p.1 == i).map (·.2)).getD 2
def finB (md : Region.Mode) (ops : Array Oper) (l : List (Nat × Nat)) : Bool := l.all fun p => p.2 != 3 || (List.range ops.size).all fun k => clOf l k == 3 || clOf l k == 4 || reach md ops k ops.size p.1
/-- Only what is of class 3 is left. -/
def Tail (ops : Array Oper) (cl : Nat → Nat) (listed : Array Bool) : Prop := ∀ k, k < ops.size → cl k ≠ 3 → cl k ≠ 4 → listed.getD k false = true
theorem tail_of {listed : Array Bool} {i : Nat} (hf : Fin md ops cl) (hc : Closed md ops listed) (hi : i ∈ Region.ready md ops listed) (h3 : cl i = 3) : Tail ops cl (listed.setIfInBounds i true) := by
  obtain ⟨_, oi, hoi, hall⟩ := mem_ready.1 hi
  intro k hk hne hne4
  exact getD_set_true (reach_spec hc ops.size i oi hoi hall (hf i h3 k hk hne hne4))
theorem Tail.set {listed : Array Bool} {i : Nat} (h : Tail ops cl listed) : Tail ops cl (listed.setIfInBounds i true) := fun k hk hne hne4 => getD_set_true (h k hk hne hne4)
theorem wpAny_tail : ∀ (fuel : Nat) (listed : Array Bool) (a : Act) (w : World), Tail ops cl listed → wpM P S md ops Q cl fuel listed a w → wpAny P md ops Q fuel listed a w
  | 0, _, _, _, _, h => h
  | fuel + 1, listed, a, w, ht, h => ⟨h.1, fun i hi => by
    have h1 := h.2 i hi
    obtain ⟨hun, oi, hoi, _⟩ := mem_ready.1 hi
    by_cases h3 : cl i = 3
    · unfold mOp at h1
      simp only [hoi, h3] at h1
      exact wpOp_mono (fun a' w' h' => wpAny_tail fuel _ a' w' ht.set h') h1
    · by_cases h4 : cl i = 4
      · unfold mOp at h1
        simp only [hoi, h4] at h1
        obtain ⟨v, hy, hk⟩ := h1
        exact hy.wpOp hoi trivial (wpAny_tail fuel _ _ _ ht.set hk)
      · exact (listed_not hun (ht i (Array.getElem?_eq_some_iff.1 hoi).1 h3 h4)).elim⟩
theorem wpAny_of_wpM (hf : Fin md ops cl) : ∀ (fuel : Nat) (listed : Array Bool) (a : Act) (w : World), Closed md ops listed → S w → wpM P S md ops Q cl fuel listed a w → wpAny P md ops Q fuel listed a w
  | 0, _, _, _, _, _, h => h
  | fuel + 1, listed, a, w, hcl, hs, h => ⟨h.1, fun i hi => by
    by_cases h3 : cl i = 3
    · have h1 := h.2 i hi
      obtain ⟨_, oi, hoi, _⟩ := mem_ready.1 hi
      unfold mOp at h1
      simp only [hoi, h3] at h1
      exact wpOp_mono (fun a' w' h' => wpAny_tail fuel _ a' w' (tail_of hf hcl hi h3) h') h1
    · exact wpOp_mono (fun a' w' h' => wpAny_of_wpM hf fuel _ a' w' (hcl.set hi) h'.1 h'.2) (wpOp_of_mOp hs h3 (h.2 i hi))⟩

theorem wpM_first0 (hf : Fin md ops cl) {i : Nat} {oi : Oper} {v : Value} (hi : ops[i]? = some oi) (hci : cl i = 0) (hsel : ∀ (j : Nat) (o : Oper) cs b, ops[j]? = some o → o.op ≠ .select cs b)
    (hQ : ∀ c a w, Q (.panic c) (a.put oi.dst v) w → Q (.panic c) a w) :
    ∀ (fuel : Nat) (listed : Array Bool) (a : Act) (w : World), Closed md ops listed →
      (∀ j oj, ops[j]? = some oj → j ≠ i → listed.getD j true = false → (∀ e ∈ oj.after, Region.binds md e = true → e.on ≠ i) → oi.apart ops oj = true) →
      i ∈ Region.ready md ops listed → YieldsS P ops S oi v a →
      wpM P S md ops Q cl fuel (listed.setIfInBounds i true) (a.put oi.dst v) w → wpM P S md ops Q cl (fuel + 1) listed a w := by
  intro fuel
  induction fuel with
  | zero =>
    intro listed a w _ _ hr hy H
    refine ⟨fun h => (by rw [h] at hr; cases hr), fun j hj => ?_⟩
    by_cases hji : j = i
    · subst hji; unfold mOp; rw [hi]; simp only [hci]; exact ⟨v, hy, H⟩
    · have := ready_mono hj hji
      rw [H.1] at this
      cases this
  | succ fuel ih =>
    intro listed a w hcl hfree hr hy H
    refine ⟨fun h => (by rw [h] at hr; cases hr), fun j hj => ?_⟩
    by_cases hji : j = i
    · subst hji; unfold mOp; rw [hi]; simp only [hci]; exact ⟨v, hy, H⟩
    · have h1 := H.2 j (ready_mono hj hji)
      obtain ⟨hjun, oj, hoj, hall⟩ := mem_ready.1 hj
      have hnot : ∀ e ∈ oj.after, Region.binds md e = true → e.on ≠ i := fun e he hb heq => by
        have h1 := hall e he hb
        rw [heq] at h1
        exact listed_not (mem_ready.1 hr).1 h1
      have hap := hfree j oj hoj hji hjun hnot
      obtain ⟨p1, p2, p3⟩ := Oper.apart_spec hap
      have hfree' : ∀ k ok, ops[k]? = some ok → k ≠ i → (listed.setIfInBounds j true).getD k true = false →
          (∀ e ∈ ok.after, Region.binds md e = true → e.on ≠ i) → oi.apart ops ok = true := fun k ok hk hki hun hno => by
        refine hfree k ok hk hki ?_ hno
        by_cases hjk : j = k
        · subst hjk; exact hjun
        · rw [getD_set_ne true hjk] at hun; exact hun
      have next : ∀ (a' : Act) (w' : World), YieldsS P ops S oi v a' → wpM P S md ops Q cl fuel ((listed.setIfInBounds i true).setIfInBounds j true) (a'.put oi.dst v) w' → wpM P S md ops Q cl (fuel + 1) (listed.setIfInBounds j true) a' w' := fun a' w' hy' h' =>
        ih (listed.setIfInBounds j true) a' w' (hcl.set hj) hfree' (ready_mono hr (Ne.symm hji)) hy' (by rw [Array.setIfInBounds_comm _ _ hji]; exact h')
      have keep : ∀ u, YieldsS P ops S oi v (a.put oj.dst u) := fun u =>
        hy.of_same (execOp_put oi (fun cs b => hsel i oi cs b hi) a oj.dst u p3) (wanted_put oi a oj.dst u p3)
      unfold mOp at h1 ⊢
      rw [hoj] at h1 ⊢
      simp only at h1 ⊢
      split at h1
      · rename_i hc
        obtain ⟨u, hyu, hk⟩ := h1
        refine ⟨u, hyu.of_same (execOp_put oj (fun cs b => hsel j oj cs b hoj) a oi.dst v p1).symm (wanted_put oj a oi.dst v p1).symm, next _ _ (keep u) ?_⟩
        rw [← Act.put_comm a v u p2]
        exact hk
      · rename_i hc
        obtain ⟨u, hyu, hk⟩ := h1
        refine ⟨u, hyu.of_same (execOp_put oj (fun cs b => hsel j oj cs b hoj) a oi.dst v p1).symm (wanted_put oj a oi.dst v p1).symm, next _ _ (keep u) ?_⟩
        rw [← Act.put_comm a v u p2]
        exact hk
      · rename_i hc
        exact (listed_not (mem_ready.1 hr).1 (reach_spec hcl ops.size j oj hoj hall (hf j hc i (Array.getElem?_eq_some_iff.1 hi).1 (by rw [hci]; decide) (by rw [hci]; decide)))).elim
      · rename_i hc
        obtain ⟨u, hyu, hk⟩ := h1
        refine ⟨u, hyu.of_same (execOp_put oj (fun cs b => hsel j oj cs b hoj) a oi.dst v p1).symm (wanted_put oj a oi.dst v p1).symm, next _ _ (keep u) ?_⟩
        rw [← Act.put_comm a v u p2]
        exact hk
      · exact wpOp_mono (fun a' w' h3 => ⟨h3.2.1, next a' w' h3.1 h3.2.2⟩) (wpOp_putS hoj hap (fun cs b => hsel i oi cs b hi) (fun cs b => hsel j oj cs b hoj) hQ hy h1)

theorem wpM_first4 {i : Nat} {oi : Oper} {v : Value} (hi : ops[i]? = some oi) (hci : cl i = 4) (hsel : ∀ (j : Nat) (o : Oper) cs b, ops[j]? = some o → o.op ≠ .select cs b)
    (hQ : ∀ c a w, Q (.panic c) (a.put oi.dst v) w → Q (.panic c) a w) :
    ∀ (fuel : Nat) (listed : Array Bool) (a : Act) (w : World), Closed md ops listed →
      (∀ j oj, ops[j]? = some oj → j ≠ i → listed.getD j true = false → (∀ e ∈ oj.after, Region.binds md e = true → e.on ≠ i) → oi.apart ops oj = true) →
      i ∈ Region.ready md ops listed → YieldsS P ops (fun _ => True) oi v a →
      wpM P S md ops Q cl fuel (listed.setIfInBounds i true) (a.put oi.dst v) w → wpM P S md ops Q cl (fuel + 1) listed a w := by
  intro fuel
  induction fuel with
  | zero =>
    intro listed a w _ _ hr hy H
    refine ⟨fun h => (by rw [h] at hr; cases hr), fun j hj => ?_⟩
    by_cases hji : j = i
    · subst hji; unfold mOp; rw [hi]; simp only [hci]; exact ⟨v, hy, H⟩
    · have := ready_mono hj hji
      rw [H.1] at this
      cases this
  | succ fuel ih =>
    intro listed a w hcl hfree hr hy H
    refine ⟨fun h => (by rw [h] at hr; cases hr), fun j hj => ?_⟩
    by_cases hji : j = i
    · subst hji; unfold mOp; rw [hi]; simp only [hci]; exact ⟨v, hy, H⟩
    · have h1 := H.2 j (ready_mono hj hji)
      obtain ⟨hjun, oj, hoj, hall⟩ := mem_ready.1 hj
      have hnot : ∀ e ∈ oj.after, Region.binds md e = true → e.on ≠ i := fun e he hb heq => by
        have h1 := hall e he hb
        rw [heq] at h1
        exact listed_not (mem_ready.1 hr).1 h1
      have hap := hfree j oj hoj hji hjun hnot
      obtain ⟨p1, p2, p3⟩ := Oper.apart_spec hap
      have hfree' : ∀ k ok, ops[k]? = some ok → k ≠ i → (listed.setIfInBounds j true).getD k true = false →
          (∀ e ∈ ok.after, Region.binds md e = true → e.on ≠ i) → oi.apart ops ok = true := fun k ok hk hki hun hno => by
        refine hfree k ok hk hki ?_ hno
        by_cases hjk : j = k
        · subst hjk; exact hjun
        · rw [getD_set_ne true hjk] at hun; exact hun
      have next : ∀ (a' : Act) (w' : World), YieldsS P ops (fun _ => True) oi v a' → wpM P S md ops Q cl fuel ((listed.setIfInBounds i true).setIfInBounds j true) (a'.put oi.dst v) w' → wpM P S md ops Q cl (fuel + 1) (listed.setIfInBounds j true) a' w' := fun a' w' hy' h' =>
        ih (listed.setIfInBounds j true) a' w' (hcl.set hj) hfree' (ready_mono hr (Ne.symm hji)) hy' (by rw [Array.setIfInBounds_comm _ _ hji]; exact h')
      have keep : ∀ u, YieldsS P ops (fun _ => True) oi v (a.put oj.dst u) := fun u =>
        hy.of_same (execOp_put oi (fun cs b => hsel i oi cs b hi) a oj.dst u p3) (wanted_put oi a oj.dst u p3)
      unfold mOp at h1 ⊢
      rw [hoj] at h1 ⊢
      simp only at h1 ⊢
      split at h1
      · rename_i hc
        obtain ⟨u, hyu, hk⟩ := h1
        refine ⟨u, hyu.of_same (execOp_put oj (fun cs b => hsel j oj cs b hoj) a oi.dst v p1).symm (wanted_put oj a oi.dst v p1).symm, next _ _ (keep u) ?_⟩
        rw [← Act.put_comm a v u p2]
        exact hk
      · rename_i hc
        obtain ⟨u, hyu, hk⟩ := h1
        refine ⟨u, hyu.of_same (execOp_put oj (fun cs b => hsel j oj cs b hoj) a oi.dst v p1).symm (wanted_put oj a oi.dst v p1).symm, next _ _ (keep u) ?_⟩
        rw [← Act.put_comm a v u p2]
        exact hk
      · exact wpOp_mono (fun a' w' h3 => next a' w' h3.1 h3.2) (wpOp_putS hoj hap (fun cs b => hsel i oi cs b hi) (fun cs b => hsel j oj cs b hoj) hQ hy h1)
      · rename_i hc
        obtain ⟨u, hyu, hk⟩ := h1
        refine ⟨u, hyu.of_same (execOp_put oj (fun cs b => hsel j oj cs b hoj) a oi.dst v p1).symm (wanted_put oj a oi.dst v p1).symm, next _ _ (keep u) ?_⟩
        rw [← Act.put_comm a v u p2]
        exact hk
      · exact wpOp_mono (fun a' w' h3 => ⟨h3.2.1, next a' w' h3.1 h3.2.2⟩) (wpOp_putS hoj hap (fun cs b => hsel i oi cs b hi) (fun cs b => hsel j oj cs b hoj) hQ hy h1)

theorem wpM_first1 {i N : Nat} {oi : Oper} {v : Value} {w : World} (hi : ops[i]? = some oi) (hci : cl i = 1) (hsel : ∀ (j : Nat) (o : Oper) cs b, ops[j]? = some o → o.op ≠ .select cs b) :
    ∀ (fuel : Nat) (listed : Array Bool) (a : Act), Closed md ops listed →
      (∀ j oj, ops[j]? = some oj → listed.getD j true = false → cl j = 0 ∨ cl j = 1 ∨ reach md ops i N j = true) →
      (∀ j oj, ops[j]? = some oj → j ≠ i → listed.getD j true = false → (∀ e ∈ oj.after, Region.binds md e = true → e.on ≠ i) → oi.apart ops oj = true) →
      i ∈ Region.ready md ops listed → YieldsAt P ops w oi v a →
      wpM P S md ops Q cl fuel (listed.setIfInBounds i true) (a.put oi.dst v) w → wpM P S md ops Q cl (fuel + 1) listed a w := by
  intro fuel
  induction fuel with
  | zero =>
    intro listed a _ _ _ hr hy H
    refine ⟨fun h => (by rw [h] at hr; cases hr), fun j hj => ?_⟩
    by_cases hji : j = i
    · subst hji; unfold mOp; rw [hi]; simp only [hci]; exact ⟨v, hy, H⟩
    · have := ready_mono hj hji
      rw [H.1] at this
      cases this
  | succ fuel ih =>
    intro listed a hcl hblock hfree hr hy H
    refine ⟨fun h => (by rw [h] at hr; cases hr), fun j hj => ?_⟩
    by_cases hji : j = i
    · subst hji; unfold mOp; rw [hi]; simp only [hci]; exact ⟨v, hy, H⟩
    · have h1 := H.2 j (ready_mono hj hji)
      obtain ⟨hjun, oj, hoj, hall⟩ := mem_ready.1 hj
      have hnot : ∀ e ∈ oj.after, Region.binds md e = true → e.on ≠ i := fun e he hb heq => by
        have h1 := hall e he hb
        rw [heq] at h1
        exact listed_not (mem_ready.1 hr).1 h1
      have hap := hfree j oj hoj hji hjun hnot
      obtain ⟨p1, p2, p3⟩ := Oper.apart_spec hap
      have hmono : ∀ k, (listed.setIfInBounds j true).getD k true = false → listed.getD k true = false := fun k hun => by
        by_cases hjk : j = k
        · subst hjk; exact hjun
        · rw [getD_set_ne true hjk] at hun; exact hun
      have next : ∀ (a' : Act), YieldsAt P ops w oi v a' → wpM P S md ops Q cl fuel ((listed.setIfInBounds i true).setIfInBounds j true) (a'.put oi.dst v) w → wpM P S md ops Q cl (fuel + 1) (listed.setIfInBounds j true) a' w := fun a' hy' h' =>
        ih (listed.setIfInBounds j true) a' (hcl.set hj) (fun k ok hk hun => hblock k ok hk (hmono k hun)) (fun k ok hk hki hun hno => hfree k ok hk hki (hmono k hun) hno) (ready_mono hr (Ne.symm hji)) hy' (by rw [Array.setIfInBounds_comm _ _ hji]; exact h')
      have keep : ∀ u, YieldsAt P ops w oi v (a.put oj.dst u) := fun u =>
        hy.of_same (execOp_put oi (fun cs b => hsel i oi cs b hi) a oj.dst u p3) (wanted_put oi a oj.dst u p3)
      unfold mOp at h1 ⊢
      rw [hoj] at h1 ⊢
      simp only at h1 ⊢
      rcases hblock j oj hoj hjun with hc | hc | hc
      · rw [hc] at h1 ⊢
        obtain ⟨u, hyu, hk⟩ := h1
        refine ⟨u, hyu.of_same (execOp_put oj (fun cs b => hsel j oj cs b hoj) a oi.dst v p1).symm (wanted_put oj a oi.dst v p1).symm, next _ (keep u) ?_⟩
        rw [← Act.put_comm a v u p2]
        exact hk
      · rw [hc] at h1 ⊢
        obtain ⟨u, hyu, hk⟩ := h1
        refine ⟨u, hyu.of_same (execOp_put oj (fun cs b => hsel j oj cs b hoj) a oi.dst v p1).symm (wanted_put oj a oi.dst v p1).symm, next _ (keep u) ?_⟩
        rw [← Act.put_comm a v u p2]
        exact hk
      · exact (listed_not (mem_ready.1 hr).1 (reach_spec hcl N j oj hoj hall hc)).elim

theorem wpM_only {i fuel : Nat} {listed : Array Bool} {a : Act} {w : World} (hr : Region.ready md ops listed = [i])
    (H : mOp P S ops Q cl i (wpM P S md ops Q cl fuel (listed.setIfInBounds i true)) a w) : wpM P S md ops Q cl (fuel + 1) listed a w := by
  refine ⟨fun h => (by rw [h] at hr; cases hr), fun j hj => ?_⟩
  rw [hr, List.mem_singleton] at hj
  subst hj
  exact H

/-- The operations in the order that is told. -/
def wpO (P : Program) (S : World → Prop) (ops : Array Oper) (Q : Exit → Act → World → Prop) (cl : Nat → Nat) : List Nat → Act → World → Prop
  | [], a, w => Q .normal a w
  | i :: l, a, w => mOp P S ops Q cl i (wpO P S ops Q cl l) a w
def ordB (md : Region.Mode) (ops : Array Oper) (cl : Nat → Nat) : List Nat → Array Bool → Bool
  | [], listed => (Region.ready md ops listed).isEmpty
  | i :: l, listed => (match cl i with
    | 0 => (Region.ready md ops listed).contains i && Region.free md ops listed i
    | 1 => (Region.ready md ops listed).contains i && Region.free md ops listed i && (List.range ops.size).all fun j => listed.getD j true || cl j == 0 || cl j == 1 || reach md ops i ops.size j
    | 4 => (Region.ready md ops listed).contains i && Region.free md ops listed i
    | _ => Region.ready md ops listed == [i]) && ordB md ops cl l (listed.setIfInBounds i true)
theorem wpM_of_wpO (hf : Fin md ops cl) (hs : Region.noSelect ops = true) (hQ : ∀ c dst v a w, Q (.panic c) (a.put dst v) w → Q (.panic c) a w) : ∀ (l : List Nat) (listed : Array Bool) (a : Act) (w : World), Closed md ops listed →
    ordB md ops cl l listed = true → wpO P S ops Q cl l a w → wpM P S md ops Q cl l.length listed a w
  | [], _, _, _, _, hB, h => ⟨by simpa [ordB] using hB, h⟩
  | i :: l, listed, a, w, hcl, hB, h => by
    simp only [ordB, Bool.and_eq_true] at hB
    obtain ⟨hB1, hB2⟩ := hB
    simp only [wpO] at h
    have h0 := h
    unfold mOp at h
    split at hB1
    · rename_i hc
      simp only [Bool.and_eq_true, List.contains_iff_mem] at hB1
      obtain ⟨_, oi, hoi, _⟩ := mem_ready.1 hB1.1
      rw [hoi] at h
      simp only [hc] at h
      obtain ⟨v, hy, hk⟩ := h
      exact wpM_first0 hf hoi hc (Region.noSelect_spec hs) (fun c a w => hQ c oi.dst v a w) l.length listed a w hcl (Region.free_spec hoi hB1.2) hB1.1 hy (wpM_of_wpO hf hs hQ l _ _ w (hcl.set hB1.1) hB2 hk)
    · rename_i hc
      simp only [Bool.and_eq_true, List.contains_iff_mem, List.all_eq_true, List.mem_range, Bool.or_eq_true, beq_iff_eq] at hB1
      obtain ⟨_, oi, hoi, _⟩ := mem_ready.1 hB1.1.1
      rw [hoi] at h
      simp only [hc] at h
      obtain ⟨v, hy, hk⟩ := h
      refine wpM_first1 (N := ops.size) hoi hc (Region.noSelect_spec hs) l.length listed a hcl (fun j oj hj hun => ?_) (Region.free_spec hoi hB1.1.2) hB1.1.1 hy (wpM_of_wpO hf hs hQ l _ _ w (hcl.set hB1.1.1) hB2 hk)
      have := hB1.2 j (Array.getElem?_eq_some_iff.1 hj).1
      rw [hun] at this
      simpa [or_assoc] using this
    · rename_i hc
      simp only [Bool.and_eq_true, List.contains_iff_mem] at hB1
      obtain ⟨_, oi, hoi, _⟩ := mem_ready.1 hB1.1
      rw [hoi] at h
      simp only [hc] at h
      obtain ⟨v, hy, hk⟩ := h
      exact wpM_first4 hoi hc (Region.noSelect_spec hs) (fun c a w => hQ c oi.dst v a w) l.length listed a w hcl (Region.free_spec hoi hB1.2) hB1.1 hy (wpM_of_wpO hf hs hQ l _ _ w (hcl.set hB1.1) hB2 hk)
    · simp only [beq_iff_eq] at hB1
      have hr : i ∈ Region.ready md ops listed := by rw [hB1]; exact List.mem_singleton.2 rfl
      exact wpM_only hB1 (mOp_mono (fun a' w' h' => wpM_of_wpO hf hs hQ l _ a' w' (hcl.set hr) hB2 h') h0)
end

def onlyNormal (K : Act → World → Prop) : Exit → Act → World → Prop
  | .normal, a, w => K a w
  | _, _, _ => False
theorem fin_of {md : Region.Mode} {ops : Array Oper} {l : List (Nat × Nat)} (h : finB md ops l = true) : Fin md ops (clOf l) := by
  intro j hj k hk hne hne4
  unfold clOf at hj
  cases hf : l.find? (fun p => p.1 == j) with
  | none => rw [hf] at hj; simp at hj
  | some p =>
    rw [hf] at hj
    have h1 := List.mem_of_find?_eq_some hf
    have h2 : (p.1 == j) = true := by have := List.find?_some hf; exact this
    have h3 := List.all_eq_true.1 h p h1
    have h4 : p.2 = 3 := by simpa using hj
    have h5 : p.1 = j := by simpa using h2
    simp only [h4, bne_self_eq_false, Bool.false_or, List.all_eq_true, List.mem_range, Bool.or_eq_true, beq_iff_eq] at h3
    rw [h5] at h3
    rcases h3 k hk with (h6 | h6) | h6
    · exact absurd h6 hne
    · exact absurd h6 hne4
    · exact h6
theorem wp_region_mix {P : Program} (S : World → Prop) {ops : Array Oper} {id : Nat} {Q : Exit → Act → World → Prop} {a : Act} {w : World} (l : List (Nat × Nat)) (hm : P.follows .mixedOrders = true)
    (hB : (finB .any ops l && Region.noSelect ops && decide (l.length = ops.size) && ordB .any ops (clOf l) (l.map (·.1)) (Array.replicate ops.size false)) = true)
    (hS : S w.drew) (h : wpO P S ops (onlyNormal (Q .normal)) (clOf l) (l.map (·.1)) a w.drew) : (Code.region id ops true).wp P Q a w := by
  simp only [Bool.and_eq_true, decide_eq_true_eq] at hB
  refine wp_mono (Q := onlyNormal (Q .normal)) (wp_region_any hm (wpAny_of_wpM (S := S) (cl := clOf l) (fin_of hB.1.1.1) _ _ _ _ (Closed.start _) hS ?_)) (fun e a w hq => ?_)
  · have := wpM_of_wpO (P := P) (S := S) (md := .any) (Q := onlyNormal (Q .normal)) (cl := clOf l) (fin_of hB.1.1.1) hB.1.1.2 (fun c dst v a w h => h) (l.map (·.1)) (Array.replicate ops.size false) a w.drew (Closed.start _) hB.2 h
    rw [List.length_map, hB.1.2] at this
    exact this
  · cases e <;> first | exact hq | exact hq.elim

section
variable {P : Program} {S : World → Prop} {ops : Array Oper} {Q : Exit → Act → World → Prop} {cl : Nat → Nat} {i : Nat} {l : List Nat} {o : Oper} {a : Act} {w : World}
theorem wpO_step0 (ho : ops[i]? = some o) (hc : cl i = 0) (h : ∀ K : Act → World → Prop, (∀ a w, wpO P S ops Q cl l a w → K a w) →
    if Region.wanted o (yielded ops a.tmps) then ∃ v, (∀ w0, (execOp a.eval o).run P w0 = .ok (.value v) w0) ∧ K (a.put o.dst v) w else K (a.put o.dst undef) w) : wpO P S ops Q cl (i :: l) a w := by
  have h1 := h _ (fun _ _ h => h)
  simp only [wpO, mOp, ho, hc]
  split at h1
  · rename_i hw
    obtain ⟨v, hv, hk⟩ := h1
    exact ⟨v, .inl ⟨hw, fun w0 _ => .inl (hv w0)⟩, hk⟩
  · rename_i hw
    exact ⟨undef, .inr ⟨by simpa using hw, rfl⟩, h1⟩
theorem wpO_step4 (ho : ops[i]? = some o) (hc : cl i = 4) (h : ∀ K : Act → World → Prop, (∀ a w, wpO P S ops Q cl l a w → K a w) →
    if Region.wanted o (yielded ops a.tmps) then ∃ v, (∀ w0, (execOp a.eval o).run P w0 = .ok (.value v) w0) ∧ K (a.put o.dst v) w else K (a.put o.dst undef) w) : wpO P S ops Q cl (i :: l) a w := by
  have h1 := h _ (fun _ _ h => h)
  simp only [wpO, mOp, ho, hc]
  split at h1
  · rename_i hw
    obtain ⟨v, hv, hk⟩ := h1
    exact ⟨v, .inl ⟨hw, fun w0 _ => .inl (hv w0)⟩, hk⟩
  · rename_i hw
    exact ⟨undef, .inr ⟨by simpa using hw, rfl⟩, h1⟩
/-- The same where it bears a guard that lets it. -/
theorem wpO_loadW (ho : ops[i]? = some o) (hc : cl i = 0) (hg : Region.wanted o (yielded ops a.tmps) = true) {t : TypeId} {x : Operand} (hop : o.op = .load t x) {ad : Addr} {v : Value} (hx : a.eval x = .pointer (some ad))
    (hrun : ∀ w0, S w0 → (Instr.loadAt t (.pointer (some ad))).run P w0 = .ok v w0) (h : wpO P S ops Q cl l (a.put o.dst v) w) : wpO P S ops Q cl (i :: l) a w := by
  simp only [wpO, mOp, ho, hc]
  refine ⟨v, .inl ⟨hg, fun w0 hs => .inl ?_⟩, h⟩
  unfold execOp
  simp only [hop, hx, Sem.run_bind, hrun w0 hs, Result.andThen_ok, Sem.run_pure]
/-- A call that leaves the world as it is, and answers the same in every world of the kind. -/
theorem wpO_quiet (ho : ops[i]? = some o) (hc : cl i = 0) (hg : Region.wanted o (yielded ops a.tmps) = true) {f : FuncId} {fn : Func} {xs : Array Operand} {ts : Array TypeId} {vs : Array Value} {v : Value} (hf : P.funcs[f]? = some fn)
    (hn : (fn.name == "runtime.NumGoroutine") = false) (hb : fn.body.isNone = false) (hop : o.op = .call { callee := .value (.func f), args := xs, argTypes := ts }) (hvs : xs.toList.map a.eval = vs.toList)
    (hcall : ∀ w0, S w0 → Calls P f vs w0 fun e w' => e = .returned v ∧ w0 = w') (h : wpO P S ops Q cl l (a.put o.dst v) w) : wpO P S ops Q cl (i :: l) a w := by
  simp only [wpO, mOp, ho, hc]
  refine ⟨v, .inl ⟨hg, fun w0 hs => .inr ⟨f, vs, ?_, hcall w0 hs⟩⟩, h⟩
  have hv : xs.map a.eval = vs := by
    apply Array.toList_inj.1
    rw [Array.toList_map]
    exact hvs
  have h1 : fn.name ≠ "runtime.NumGoroutine" := by simpa using hn
  have he : (callFunc f vs).run P w0 = .ok (.enter f vs) w0 := by
    cases hbd : fn.body with
    | none => rw [hbd] at hb; cases hb
    | some c => simp [callFunc, hf, h1, hbd]
  have hd : (resolve a.eval { callee := .value (.func f), args := xs, argTypes := ts } o.type).run P w0 = .ok { target := .fn (.func f) #[], args := vs } w0 := by
    simp [resolve, hv, Deferred.ofValue, Act.eval]
  unfold execOp
  simp only [hop, Sem.run_bind, hd, Result.andThen_ok, invoke]
  simpa using he
theorem wpO_step2 (ho : ops[i]? = some o) (hc : cl i = 2) (hS : S w) (h : ∀ K : Act → World → Prop, (∀ a w, S w ∧ wpO P S ops Q cl l a w → K a w) →
    if Region.wanted o (yielded ops a.tmps) then o.wp P a w K Q else K (a.put o.dst undef) w) : wpO P S ops Q cl (i :: l) a w := by
  have h1 := h _ (fun _ _ h => h)
  simp only [wpO, mOp, ho, hc]
  unfold wpOp
  rw [ho]
  simp only
  split at h1
  · rename_i hw
    rw [if_pos hw]
    exact .inl h1
  · rename_i hw
    rw [if_neg hw]
    exact h1
theorem wpO_step3 (ho : ops[i]? = some o) (hc : cl i = 3) (h : ∀ K : Act → World → Prop, (∀ a w, wpO P S ops Q cl l a w → K a w) →
    if Region.wanted o (yielded ops a.tmps) then o.wp P a w K Q else K (a.put o.dst undef) w) : wpO P S ops Q cl (i :: l) a w := by
  have h1 := h _ (fun _ _ h => h)
  simp only [wpO, mOp, ho, hc]
  unfold wpOp
  rw [ho]
  simp only
  split at h1
  · rename_i hw
    rw [if_pos hw]
    exact .inl h1
  · rename_i hw
    rw [if_neg hw]
    exact h1
theorem wpO_nil {K : Act → World → Prop} (h : K a w) : wpO P S ops (onlyNormal K) cl [] a w := h
end

open Go.RowKit in
theorem below_drew1 (w : World) : Below w.heap.size w w.drew := ⟨rfl, rfl, rfl, Nat.le_refl _, fun _ _ => rfl⟩

end Go.Proofs.YtifejiclenpfoaaDoor

/- Plain laws on lists of bytes and numbers (no program in sight). -/
namespace Go.Proofs.YtifejiclenpfoaaDoor
set_option linter.unusedVariables false
set_option linter.unusedSimpArgs false
set_option maxRecDepth 4000

end Go.Proofs.YtifejiclenpfoaaDoor

/- Plain laws of addresses and prefixes (layer 5): no program in sight. -/
namespace Go.Proofs.YtifejiclenpfoaaDoor
set_option linter.unusedVariables false
set_option linter.unusedSimpArgs false
set_option maxRecDepth 4000

/-- Sixteen bytes. -/
structure B16 (l : List Int) : Prop where
  len : l.length = 16
  rng : Bytes l
theorem B16.rd {l : List Int} (h : B16 l) (i : Int) : 0 ≤ rd l i ∧ rd l i < 256 := h.rng.getD _
/-- A bit of an address. -/
def bitA (l : List Int) (i : Nat) : Int := rd l ((i / 8 : Nat) : Int) / 2 ^ (7 - i % 8) % 2
def widthA (v : Int) : Nat := if v = 4 then 32 else if v = 6 then 128 else 0
theorem widthA_le (v : Int) : widthA v ≤ 128 := by unfold widthA; split <;> (try split) <;> omega
def clearA (l : List Int) (k : Nat) : Bool := (List.range 128).all fun i => decide (i < k) || bitA l i == 0
theorem clearA_iff (l : List Int) (k : Nat) : clearA l k = true ↔ ∀ i, k ≤ i → i < 128 → bitA l i = 0 := by
  simp only [clearA, List.all_eq_true, List.mem_range, Bool.or_eq_true, decide_eq_true_eq, beq_iff_eq]
  constructor
  · intro h i h1 h2
    rcases h i h2 with h3 | h3
    · omega
    · exact h3
  · intro h i h2
    by_cases h3 : i < k
    · exact .inl h3
    · exact .inr (h i (by omega) h2)
def rightA (v : Int) (l : List Int) : Bool := decide (widthA v ≠ 0) && clearA l (widthA v)
def rightP (v : Int) (l : List Int) (b : Int) : Bool := rightA v l && decide (0 ≤ b) && decide (b ≤ widthA v) && clearA l b.toNat
def cutB (x : Int) (keep : Int) : Int := if keep ≤ 0 then 0 else if keep < 8 then x / 2 ^ (8 - keep).toNat * 2 ^ (8 - keep).toNat else x
def cutA (l : List Int) (k : Int) : List Int := (List.range 16).map fun i => cutB (rd l (i : Nat)) (k - 8 * i)

end Go.Proofs.YtifejiclenpfoaaDoor

/- The references of layer 1, and equality of bytes. -/
namespace Go.Proofs.YtifejiclenpfoaaDoor
open Go.RowKit
set_option linter.unusedVariables false
set_option linter.unusedSimpArgs false
set_option maxRecDepth 4000

/-- A block of bytes. -/
def Blk (w : World) (b : Nat) (xs : List Int) : Prop := w.heap[b]? = some (.cells (nums .u8 xs).toArray 5 (0, 0))
theorem Blk.cell {w : World} {b : Nat} {xs : List Int} (h : Blk w b xs) (i : Int) (h0 : 0 ≤ i) (h1 : i < xs.length) : w.cell? ⟨b, i.toNat, none⟩ = some (.int .u8 (rd xs i)) ∧ w.frozen? ⟨b, i.toNat, none⟩ = false := by
  refine ⟨?_, blk_frozen h _⟩
  rw [blk_cell h, List.getElem?_toArray]
  exact nums_get _ _ _ (by omega)
theorem nums_set (k : IntKind) (xs : List Int) (i : Nat) (y : Int) : (nums k xs).set i (.int k y) = nums k (xs.set i y) := by simp [nums, List.map_set]
theorem Blk.set {w : World} {b : Nat} {xs : List Int} (h : Blk w b xs) (i : Nat) (y : Int) : Blk (w.setCell ⟨b, i, none⟩ (.int .u8 y)) b (xs.set i y) := by
  have := blk_set h i (.int .u8 y)
  rw [List.setIfInBounds_toArray, nums_set] at this
  exact this
theorem Blk.below {w w1 : World} {b : Nat} {xs : List Int} (h : Blk w b xs) (hb : Below w.heap.size w w1) : Blk w1 b xs := blk_below h hb
theorem Blk.new (W : World) (m : Nat) : Blk (W.alloc (.cells (madeCells #[.int .u8 0] m) 5)) W.heap.size (List.replicate m 0) := by
  unfold Blk
  rw [blk_new]
  congr 2
  apply Array.ext
  · simp [madeCells, nums]
  · intro i h1 h2
    simp [madeCells, nums, Nat.mod_one]
theorem Bytes.set {xs : List Int} (h : Bytes xs) (i : Nat) (y : Int) (h0 : 0 ≤ y) (h1 : y < 256) : Bytes (xs.set i y) := fun x hx => by
  rcases List.mem_or_eq_of_mem_set hx with h' | h'
  · exact h x h'
  · subst h'; exact ⟨h0, h1⟩
theorem OB.store {w : World} {base n c : Nat} {ad : Addr} {xs : List Int} (h : OB w base (some ad) n c xs) (i : Nat) (hi : i < n) (y : Int) (h0 : 0 ≤ y) (h1 : y < 256) : OB (w.setCell (ad.add i) (.int .u8 y)) base (some ad) n c (xs.set i y) := by
  obtain ⟨hb, hs, cur, hh, hfit, hcs⟩ := h.ov.form ad rfl
  have hl := h.len
  have hcap := h.cap
  refine ⟨⟨by simp [nums]; omega, hcap, h.small, h.ov.capmax, (fun ad' ha => ?_), fun ha => by cases ha⟩, h.range.set i y h0 h1⟩
  injection ha with ha
  subst ha
  rw [add_spot ad hs]
  refine ⟨hb, hs, _, blk_set hh _ _, by simpa using hfit, fun j v hj => ?_⟩
  rw [← nums_set, List.getElem?_set] at hj
  split at hj
  · rename_i hij
    subst hij
    split at hj
    · injection hj with hj
      subst hj
      rw [Array.getElem?_setIfInBounds_self_of_lt (by omega)]
    · cases hj
  · rename_i hij
    rw [Array.getElem?_setIfInBounds_ne (by omega)]
    exact hcs j v hj
end Go.Proofs.YtifejiclenpfoaaDoor

/- bytes.Compare and cmp.Compare. -/
namespace Go.Proofs.YtifejiclenpfoaaDoor
open Go.RowKit
set_option linter.unusedVariables false
set_option linter.unusedSimpArgs false
set_option maxRecDepth 4000

/-- Which list comes first, number by number. -/
def cmpI : List Int → List Int → Int
  | [], [] => 0
  | [], _ :: _ => -1
  | _ :: _, [] => 1
  | a :: u, b :: v => if a < b then -1 else if b < a then 1 else cmpI u v
/-! What lists of numbers of the same length do, one behind the other. -/
end Go.Proofs.YtifejiclenpfoaaDoor

/- Plain laws of prefixes (layer 5), second part: what contains what, and how two stand to one another. -/
namespace Go.Proofs.YtifejiclenpfoaaDoor
set_option linter.unusedVariables false
set_option linter.unusedSimpArgs false
set_option maxRecDepth 4000

structure Pfx where
  v : Int
  l : List Int
  b : Int
def Pfx.right (p : Pfx) : Bool := rightP p.v p.l p.b
def Pfx.has (p : Pfx) (v : Int) (l : List Int) : Bool := p.right && rightA v l && decide (p.v = v) && decide (cutA l p.b = p.l)
def Pfx.holds (p q : Pfx) : Bool := q.right && decide (p.b ≤ q.b) && p.has q.v q.l
def Pfx.row (p : Pfx) : List Int := p.v :: (p.l ++ [p.b])
def Pfx.cmp (p q : Pfx) : Int := cmpI p.row q.row

theorem Pfx.right_iff (p : Pfx) : p.right = true ↔ rightA p.v p.l = true ∧ 0 ≤ p.b ∧ p.b ≤ widthA p.v ∧ ∀ i : Nat, p.b ≤ i → i < 128 → bitA p.l i = 0 := by
  unfold Pfx.right rightP
  simp only [Bool.and_eq_true, decide_eq_true_eq, clearA_iff]
  constructor
  · rintro ⟨⟨⟨h1, h2⟩, h3⟩, h4⟩
    exact ⟨h1, h2, h3, fun i hi => h4 i (by omega)⟩
  · rintro ⟨h1, h2, h3, h4⟩
    exact ⟨⟨⟨h1, h2⟩, h3⟩, fun i hi => h4 i (by omega)⟩
end Go.Proofs.YtifejiclenpfoaaDoor

/- Plain laws of layer 5, third part: bits, nibbles, prefixes of an address. -/
namespace Go.Proofs.YtifejiclenpfoaaDoor
set_option linter.unusedVariables false
set_option linter.unusedSimpArgs false
set_option maxRecDepth 4000

def errA (v : Int) (l : List Int) : Int := if rightA v l then 0 else 150
def errP (v : Int) (l : List Int) (b : Int) : Int := if rightP v l b then 0 else 151
theorem errP_true {v : Int} {l : List Int} {b : Int} (h : rightP v l b = true) : errP v l b = 0 := by unfold errP; rw [h]; rfl
theorem errP_false {v : Int} {l : List Int} {b : Int} (h : rightP v l b = false) : errP v l b = 151 := by unfold errP; rw [h]; rfl
end Go.Proofs.YtifejiclenpfoaaDoor

/- Layer 5 (prefix): Width, clear, CheckAddr, Check. -/
namespace Go.Proofs.YtifejiclenpfoaaDoor
open Go.RowKit
set_option linter.unusedVariables false
set_option linter.unusedSimpArgs false
set_option maxRecDepth 4000

/-- What the table of widths holds. -/
structure Laid (w : World) : Prop where
  at_ : ∀ i : Nat, i < 7 → w.cell? ⟨0, i, none⟩ = some (.int .i64 (widthA i))
theorem Laid.below {w w1 : World} (h : Laid w) (hb : Below w.heap.size w w1) : Laid w1 := ⟨fun i hi => cell_below hb (h.at_ i hi)⟩
def arrV (l : List Int) : Array Value := (nums .u8 l).toArray
def adrV (v : Int) (l : List Int) : Array Value := (.int .i64 v :: nums .u8 l).toArray
def pfxV (v : Int) (l : List Int) (b : Int) : Array Value := (.int .i64 v :: (nums .u8 l ++ [.int .i64 b])).toArray

theorem width_any (v : Int) (w : World) (hL : Laid w) : Calls Tryd.prog 128 #[.int .i64 v] w fun e w' => e = .returned (.int .i64 (widthA v)) ∧ w = w' := by
  by_cases h0 : v < 0
  · have hw : widthA v = 0 := by unfold widthA; rw [if_neg (by omega), if_neg (by omega)]
    rw [hw]
    clear hL hw
    go_enter Tryd.func128, Tryd.ntmps128
    go_wp2
    go_ret
    exact ⟨rfl, rfl⟩
  · have h0' : 0 ≤ v := by omega
    clear h0
    by_cases h7 : 7 ≤ v
    · have hw : widthA v = 0 := by unfold widthA; rw [if_neg (by omega), if_neg (by omega)]
      rw [hw]
      clear hL hw
      go_enter Tryd.func128, Tryd.ntmps128
      go_wp2
      go_ret
      exact ⟨rfl, rfl⟩
    · have h7' : v < 7 := by omega
      clear h7
      obtain ⟨k, rfl⟩ := Int.eq_ofNat_of_zero_le h0'
      have hc := hL.at_ k (by omega)
      clear hL
      go_enter Tryd.func128, Tryd.ntmps128
      go_wp2
      go_ret
      exact ⟨rfl, rfl⟩

theorem arr_cell {w : World} {g : Nat} {t : TypeId} {l : List Int} (h : w.heap[g]? = some (.cells (arrV l) t (0, 0))) (i : Nat) (hi : i < l.length) : w.cell? ⟨g, i, none⟩ = some (.int .u8 (rd l (i : Int))) := by
  rw [blk_cell h]
  unfold arrV
  rw [List.getElem?_toArray]
  exact nums_get .u8 l i hi

set_option maxHeartbeats 1000000 in
theorem clear_any (l : List Int) (k : Nat) (w : World) (hl : B16 l) : Calls Tryd.prog 129 #[.agg (arrV l), .int .i64 k] w fun e w' => e = .returned (.bool (clearA l k)) ∧ Below w.heap.size w w' := by
  have hb := blk_new w (.cells (arrV l) 98)
  obtain ⟨cs, hcs⟩ : ∃ cs, arrV l = cs := ⟨_, rfl⟩
  rw [hcs] at hb ⊢
  have hbe : Below w.heap.size w (w.alloc (.cells cs 98)) := below_alloc (Below.refl _ _) _
  have HB := Lib.hid hb
  have HBE := Lib.hid hbe
  have HCS := Lib.hid hcs
  clear hb hbe hcs
  go_enter Tryd.func129, Tryd.ntmps129
  go_wp2_with fail
  go_loop [5] (fun v => ∃ x : Int, v = .int .i64 x ∧ Hid ((k : Int) ≤ x ∧ ∀ j : Nat, k ≤ j → (j : Int) < x → j < 128 → bitA l j = 0)) (fun v => 128 - (intOf v).toNat)
  case atStart => exact ⟨k, rfl, Int.le_refl _, fun j h1 h2 => by omega⟩
  case round =>
    obtain ⟨x, rfl, HH⟩ := hrel
    have hx0 : 0 ≤ x := by have := HH.out.1; omega
    by_cases hlt : x < 128
    · have hc := arr_cell (by rw [HCS.out]; exact HB.out) (l := l) (x / 8).toNat (by rw [hl.len]; omega)
      rw [show (((x / 8).toNat : Nat) : Int) = x / 8 by omega] at hc
      have hx8 : x / 8 < 16 := by omega
      have hx80 : 0 ≤ x / 8 := by omega
      have hx7 : x % 8 < 8 := by omega
      have hx70 : 0 ≤ x % 8 := by omega
      have hr := hl.rd (x / 8)
      have hd := div_lt256 (rd l (x / 8)) (7 - x % 8).toNat hr.1 hr.2
      have hand := bits_and1 _ hd.1 hd.2
      have hbe : bitA l x.toNat = rd l (x / 8) / 2 ^ (7 - x % 8).toNat % 2 := by
        unfold bitA
        rw [show ((x.toNat / 8 : Nat) : Int) = x / 8 by omega, show 7 - x.toNat % 8 = (7 - x % 8).toNat by omega]
      have HBI := Lib.hid hbe
      clear hbe
      by_cases hbit : rd l (x / 8) / 2 ^ (7 - x % 8).toNat % 2 = 1
      · have hfin : clearA l k = false := by
          rw [Bool.eq_false_iff]
          intro h
          have := (clearA_iff l k).1 h x.toNat (by have := HH.out.1; omega) (by omega)
          rw [HBI.out] at this
          omega
        have HF := Lib.hid hfin
        clear hfin
        go_wp2_with fail
        go_ret
        rw [HF.out]
        exact ⟨rfl, HBE.out⟩
      · have hb1 : (rd l (x / 8) / 2 ^ (7 - x % 8).toNat % 2 == 1) = false := by simpa using hbit
        have HZ := Lib.hid hbit
        clear hbit
        go_wp2_with fail
        go_round
        case measure => simp [intOf]; omega
        case rel =>
          refine ⟨x + 1, by go_num, by have := HH.out.1; omega, fun j h1 h2 h3 => ?_⟩
          by_cases hj : (j : Int) < x
          · exact HH.out.2 j h1 hj h3
          · rw [show j = x.toNat by omega, HBI.out]
            have := HZ.out
            omega
    · have hfin : clearA l k = true := (clearA_iff l k).2 (fun j h1 h2 => HH.out.2 j h1 (by omega) h2)
      have HF := Lib.hid hfin
      have hlt' : 128 ≤ x := by omega
      clear hfin hlt
      go_wp2
      go_ret
      rw [HF.out]
      exact ⟨rfl, HBE.out⟩
end Go.Proofs.YtifejiclenpfoaaDoor

/- The table of widths: what the row's condition gives the walks; the door's own heap meets it. -/
namespace Go.Proofs.YtifejiclenpfoaaDoor
open Go.ChangeShapes Go.WideShapes Go.ChangeAt Go.RowKit
set_option linter.unusedVariables false
set_option linter.unusedSimpArgs false
set_option maxRecDepth 4000
abbrev laid1 : List (String × DataW Unit) := [("junctionbox/prefix.widths", Rows.laid_junctionbox_prefix_widths)]
theorem gWidths : Tryd.prog.globalNamed "junctionbox/prefix.widths" = some 0 := by kernel_rfl
theorem tWidths : (Tryd.prog.globals[0]?).map (·.type) = some 200 := by kernel_rfl
theorem door_met (os : Os) (args : Array Value) : laidMetH Tryd.prog laid1 ((World.doorLaid Tryd.prog 400 os).forCall (fun _ _ => 0) ⟨#[], args, []⟩).memory :=
  laidMetH_of_parts3 (fuel := 8) (laidMet_of_run' 8 (by kernel_rfl) (by kernel_rfl)) (by kernel_rfl) (by kernel_rfl)
theorem of_laid {W : World} (h : laidMetH Tryd.prog laid1 W) : Laid W := by
  rw [MakeChecks.laidMetH_plain _ _ _ (by kernel_rfl)] at h
  obtain ⟨ps, ⟨g0, t0, cs0, f0, p0, q0, hg0, ht0, hv0, hd0, _, _⟩, _, _⟩ := h
  obtain rfl := Option.some.inj (gWidths.symm.trans hg0)
  obtain rfl := Option.some.inj (tWidths.symm.trans ht0)
  obtain ⟨xs, m1, rfl, hx1, hlen, hn7, hel⟩ := DataW.trod_array Tryd.underlying200 hd0
  have c1 : Tryd.prog.cellsOf 3 = 1 := by kernel_rfl
  simp only [Prod.mk.injEq, DataW.agg.injEq] at hx1
  have hx2 : [.lit (.int .i64 0), .lit (.int .i64 0), .lit (.int .i64 0), .lit (.int .i64 0), .lit (.int .i64 32), .lit (.int .i64 0), .lit (.int .i64 128)] = xs.map (·.1) := DataW.agg.inj hx1.1
  have hat : ∀ (i : Nat) (n : Int), i < 7 → (xs.map (·.1))[i]? = some (.lit (.int .i64 n)) → W.cell? ⟨0, i, none⟩ = some (.int .i64 n) := by
    intro i n hi hxi
    have h0 := hel i hi
    rw [c1, Nat.mul_one] at h0
    rw [List.getElem?_map] at hxi
    cases hx : xs[i]? with
    | none => rw [hx] at hxi; cases hxi
    | some x0 =>
      rw [hx] at h0 hxi
      obtain ⟨k, e1, e2, -⟩ := DataW.trod_int Tryd.underlying3 h0
      have hk : k = n := by
        rw [e2] at hxi
        simpa using hxi
      have hc := World.var?_cell hg0 hv0 i
      rw [hc, ← hk]
      have h2 := congrArg (fun l => l[0]?) e1
      simpa [List.getElem?_take, List.getElem?_drop] using h2
  refine ⟨fun i hi => hat i _ hi ?_⟩
  rw [← hx2]
  match i, hi with
  | 0, _ => rfl
  | 1, _ => rfl
  | 2, _ => rfl
  | 3, _ => rfl
  | 4, _ => rfl
  | 5, _ => rfl
  | 6, _ => rfl
end Go.Proofs.YtifejiclenpfoaaDoor

/- Opening an argument: a slice whose elements take several cells; small numbers and truth values by their cells. -/
namespace Go.Proofs.YtifejiclenpfoaaDoor
open Go.ChangeShapes Go.WideShapes Go.ChangeAt Go.RowKit
set_option linter.unusedVariables false
variable {H : Type} {enc : TypeId × Value → H} {P : Program} {W : World} {base : Nat} {spare : Nat → Bool} {held : Bool}

end Go.Proofs.YtifejiclenpfoaaDoor

/- Values of several cells: out of a block, into a block, as results. -/
namespace Go.Proofs.YtifejiclenpfoaaDoor
open Go.RowKit
set_option linter.unusedVariables false
set_option linter.unusedSimpArgs false
set_option maxRecDepth 4000

/-- Cells written over others from a place on. -/
def splice (cs : Array Value) (o : Nat) (vs : List Value) : Array Value := (cs.toList.take o ++ vs ++ cs.toList.drop (o + vs.length)).toArray
theorem splice_all (cs : Array Value) (vs : List Value) (h : vs.length = cs.size) : splice cs 0 vs = vs.toArray := by
  unfold splice
  rw [List.drop_of_length_le (by simp [h])]
  simp
theorem splice_get (cs : Array Value) (o : Nat) (vs : List Value) (ho : o + vs.length ≤ cs.size) (j : Nat) : (splice cs o vs)[j]? = if o ≤ j ∧ j < o + vs.length then vs[j - o]? else cs[j]? := by
  have hl : (cs.toList.take o).length = o := by rw [List.length_take, Array.length_toList]; omega
  have e : (splice cs o vs)[j]? = (cs.toList.take o ++ (vs ++ cs.toList.drop (o + vs.length)))[j]? := by
    unfold splice
    rw [List.append_assoc]
    exact List.getElem?_toArray ..
  have e2 : cs[j]? = cs.toList[j]? := (Array.getElem?_toList ..).symm
  rw [e, e2]
  by_cases h4 : j < o
  · rw [if_neg (by omega), List.getElem?_append_left (by omega), List.getElem?_take, if_pos h4]
  · rw [List.getElem?_append_right (by omega), hl]
    by_cases h5 : j < o + vs.length
    · rw [if_pos (by omega), List.getElem?_append_left (by omega)]
    · rw [if_neg (by omega), List.getElem?_append_right (by omega), List.getElem?_drop]
      congr 1
      omega
section
variable {P : Program} {w : World} {g : Nat} {t : TypeId} {cs : Array Value}
theorem blk_there (h : w.heap[g]? = some (.cells cs t (0, 0))) (o n : Nat) (hn : o + n ≤ cs.size) : w.there g o n := fun j hj => by
  rw [blk_cell h, blk_frozen h, Array.getElem?_eq_getElem (by omega)]
  exact ⟨rfl, rfl⟩
theorem set_blk (h : w.heap[g]? = some (.cells cs t (0, 0))) (o : Nat) (vs : List Value) (ho : o + vs.length ≤ cs.size) : (w.setCells g o vs).heap[g]? = some (.cells (splice cs o vs) t (0, 0)) := by
  obtain ⟨cur', h1, h2, h3⟩ := setCells_row vs o w cs h ho
  rw [h1, show cur' = splice cs o vs from Array.ext_getElem? (fun j => (h3 j).trans (splice_get cs o vs ho j).symm)]
theorem run_store_blk (h : w.heap[g]? = some (.cells cs t (0, 0))) (ty : TypeId) (o : Nat) (cells : Array Value) (hfit : o + cells.size ≤ cs.size) (hi : (P.info? ty).map (·.size) = some cells.size) (h1 : cells.all (·.oneCell') = true) :
    ∃ w', (Instr.storeAt ty (.pointer (some ⟨g, o, none⟩)) (.agg cells)).run P w = .ok () w' ∧ w.grownBy w' (some g) ∧ w'.heap.size = w.heap.size ∧ w'.heap[g]? = some (.cells (splice cs o cells.toList) t (0, 0)) :=
  ⟨_, run_storeAt_mid w g o ty cells (blk_there h o _ hfit) hi h1, setCells_grown g o _ w, (setCells_same g _ o w).2.2.2, set_blk h o _ (by simpa using hfit)⟩
theorem wpList_store_blk {ops : Array Oper} {rest : List Oper} {op : Oper} {a : Act} {Q : Exit → Act → World → Prop} (hb : w.heap[g]? = some (.cells cs t (0, 0))) (ty : TypeId) (o : Nat) (cells : Array Value)
    (hfit : o + cells.size ≤ cs.size) (hi : (P.info? ty).map (·.size) = some cells.size) (h1 : cells.all (·.oneCell') = true)
    (x y : Operand) (ho : op.op = .store ty x y) (hx : a.eval x = .pointer (some ⟨g, o, none⟩)) (hy : a.eval y = .agg cells) (hw : Region.wanted op (yielded ops a.tmps) = true)
    (h : ∀ w', w.grownBy w' (some g) → w'.heap.size = w.heap.size → w'.heap[g]? = some (.cells (splice cs o cells.toList) t (0, 0)) → wpList P ops Q rest (a.put op.dst undef) w') : wpList P ops Q (op :: rest) a w := by
  obtain ⟨w', hr, h2, h3, h4⟩ := run_store_blk (P := P) hb ty o cells hfit hi h1
  refine wpList_step (fun K hK => ?_)
  rw [if_pos hw]
  unfold Oper.wp execOp
  simp only [ho, hx, hy, Sem.run_bind, hr, Result.andThen_ok, Sem.run_pure]
  exact hK _ _ (h w' h2 h3 h4)
theorem oper_store_blk {op : Oper} {a : Act} {K : Act → World → Prop} {Q : Exit → Act → World → Prop} (hb : w.heap[g]? = some (.cells cs t (0, 0))) (ty : TypeId) (o : Nat) (cells : Array Value)
    (hfit : o + cells.size ≤ cs.size) (hi : (P.info? ty).map (·.size) = some cells.size) (h1 : cells.all (·.oneCell') = true)
    (x y : Operand) (ho : op.op = .store ty x y) (hx : a.eval x = .pointer (some ⟨g, o, none⟩)) (hy : a.eval y = .agg cells)
    (h : ∀ w', w.grownBy w' (some g) → w'.heap.size = w.heap.size → w'.heap[g]? = some (.cells (splice cs o cells.toList) t (0, 0)) → K (a.put op.dst undef) w') : op.wp P a w K Q := by
  obtain ⟨w', hr, h2, h3, h4⟩ := run_store_blk (P := P) hb ty o cells hfit hi h1
  unfold Oper.wp execOp
  simp only [ho, hx, hy, Sem.run_bind, hr, Result.andThen_ok, Sem.run_pure]
  exact h w' h2 h3 h4
theorem loadVar_of {ty : TypeId} {ad : Addr} {v : Value} (h : (Instr.loadAt ty (.pointer (some ad))).run P w = .ok v w) : (loadVar ty ad).run P w = .ok v w := by
  simpa only [Instr.loadAt, Instr.sureAddr, Sem.run_bind, Sem.run_pure, Result.andThen_ok] using h
theorem results_c1 {fn : Func} {p : Tmp} {ty : TypeId} {ad : Addr} {v : Value} {tmps : Array Value} (h : fn.results = #[.cell p ty]) (hp : tmps.getD p undef = .pointer (some ad)) (hl : (Instr.loadAt ty (.pointer (some ad))).run P w = .ok v w) :
    (results fn tmps).run P w = .ok v w := by
  have hp' : tmps[p]?.getD undef = .pointer (some ad) := by simpa using hp
  simp [results, h, hp', asAddr, loadVar_of hl]
theorem results_c2 {fn : Func} {p u : Tmp} {ty : TypeId} {ad : Addr} {v : Value} {tmps : Array Value} (h : fn.results = #[.cell p ty, .tmp u]) (hp : tmps.getD p undef = .pointer (some ad)) (hl : (Instr.loadAt ty (.pointer (some ad))).run P w = .ok v w) :
    (results fn tmps).run P w = .ok (.tuple #[v, tmps.getD u undef]) w := by
  have hp' : tmps[p]?.getD undef = .pointer (some ad) := by simpa using hp
  simp [results, h, hp', asAddr, loadVar_of hl]
end
theorem oper_exec {P : Program} {o : Oper} {a : Act} {w w' : World} {K : Act → World → Prop} {Q : Exit → Act → World → Prop} {v : Value} (hrun : (execOp a.eval o).run P w = .ok (.value v) w') (h : K (a.put o.dst v) w') : o.wp P a w K Q := by
  unfold Oper.wp
  rw [hrun]
  exact h
theorem oper_append_bytes {o : Oper} {a : Act} {K : Act → World → Prop} {Q : Exit → Act → World → Prop} {W : World} (s x : Operand) (ho : o.op = .call { callee := .builtin .append, args := #[s, x], argTypes := #[78, 78] })
    {base : Nat} {A : Option Addr} {n c : Nat} {xs : List Int} {A2 : Option Addr} {m c2 : Nat} {ys : List Int} (hs : a.eval s = .slice A n c) (hx : a.eval x = .slice A2 m c2)
    (HO : OB W base A n c xs) (HR : RB W A2 m c2 ys) (hbase : base ≤ W.heap.size) (hl : n + m ≤ 140737488355328)
    (h : ∀ A' c' w', OB w' base A' (n + m) c' (xs ++ ys) → W.grownBy w' ((Value.slice A n c).ownBlock) → (A' = A ∨ ∀ ad, A' = some ad → W.heap.size ≤ ad.block) → K (a.put o.dst (.slice A' (n + m) c')) w') : o.wp Tryd.prog a W K Q := by
  obtain ⟨A', c', w', h1, h2, h3, h4⟩ := run_append_bytes W base o.type A n c xs A2 m c2 ys HO HR hbase hl
  exact oper_exec (exec_append s x _ ho hs hx h1) (h _ _ _ h2 h3 h4)
/-- Behind a write to a block of the call's own. -/
theorem below_grown {w w1 w2 : World} {g : Nat} (hb : Below w.heap.size w w1) (hg : w1.grownBy w2 (some g)) (h : w.heap.size ≤ g) : Below w.heap.size w w2 :=
  hb.grown hg hb.size (fun k hk => by injection hk with hk; omega)
end Go.Proofs.YtifejiclenpfoaaDoor

/- Layer 5 (prefix): whole arrays and structs out of a block; CheckAddr, Check. -/
namespace Go.Proofs.YtifejiclenpfoaaDoor
open Go.RowKit
set_option linter.unusedVariables false
set_option linter.unusedSimpArgs false
set_option maxRecDepth 4000

theorem adr_v {w : World} {g : Nat} {t : TypeId} {v : Int} {l : List Int} (h : w.heap[g]? = some (.cells (adrV v l) t (0, 0))) : w.cell? ⟨g, 0, none⟩ = some (.int .i64 v) := by
  rw [blk_cell h]; rfl
theorem adr_b {w : World} {g : Nat} {t : TypeId} {v : Int} {l : List Int} (h : w.heap[g]? = some (.cells (adrV v l) t (0, 0))) (i : Nat) (hi : i < l.length) : w.cell? ⟨g, 1 + i, none⟩ = some (.int .u8 (rd l (i : Int))) := by
  rw [blk_cell h, Nat.add_comm]
  unfold adrV
  rw [List.getElem?_toArray, List.getElem?_cons_succ]
  exact nums_get .u8 l i hi
theorem load_arr {w : World} {b o : Nat} {l : List Int} (hl : B16 l) (hc : ∀ i, i < 16 → w.cell? ⟨b, o + i, none⟩ = some (.int .u8 (rd l (i : Int)))) :
    (Instr.loadAt 98 (.pointer (some ⟨b, o, none⟩))).run Tryd.prog w = .ok (.agg (arrV l)) w := by
  refine run_loadAt_mid w b o 98 (nums .u8 l) (.array 16 5) (fun j v hv => ?_) Tryd.underlying98 rfl ?_
  · have hj : j < l.length := by
      have := (List.getElem?_eq_some_iff.1 hv).1
      simpa [nums] using this
    rw [nums_get .u8 l j hj] at hv
    rw [hc j (by rw [← hl.len]; exact hj), ← hv]
    rfl
  · rw [show (nums .u8 l).length = 16 by simp [nums, hl.len]]
    kernel_rfl
theorem load_adr {w : World} {b o : Nat} {v : Int} {l : List Int} (hl : B16 l) (h0 : w.cell? ⟨b, o, none⟩ = some (.int .i64 v)) (hc : ∀ i, i < 16 → w.cell? ⟨b, o + 1 + i, none⟩ = some (.int .u8 (rd l (i : Int)))) :
    (Instr.loadAt 100 (.pointer (some ⟨b, o, none⟩))).run Tryd.prog w = .ok (.agg (adrV v l)) w := by
  refine run_loadAt_mid w b o 100 (.int .i64 v :: nums .u8 l) _ (fun j u hv => ?_) Tryd.underlying100 rfl ?_
  · cases j with
    | zero =>
      simp only [List.getElem?_cons_zero, Option.some.injEq] at hv
      rw [← hv]
      exact h0
    | succ j =>
      rw [List.getElem?_cons_succ] at hv
      have hj : j < l.length := by
        have := (List.getElem?_eq_some_iff.1 hv).1
        simpa [nums] using this
      rw [nums_get .u8 l j hj] at hv
      rw [show o + (j + 1) = o + 1 + j by omega, hc j (by rw [← hl.len]; exact hj), ← hv]
      rfl
  · rw [show (Value.int IntKind.i64 v :: nums .u8 l).length = 17 by simp [nums, hl.len]]
    kernel_rfl

/-- A load of several cells at once, told; a guard that lets it. -/
theorem wpList_load_g {P : Program} {ops : Array Oper} {rest : List Oper} {o : Oper} {a : Act} {Q : Exit → Act → World → Prop} {w : World} {t : TypeId} {ad : Addr} {v : Value} (hrun : (Instr.loadAt t (.pointer (some ad))).run P w = .ok v w)
    (x : Operand) (ho : o.op = .load t x) (hx : a.eval x = .pointer (some ad)) (hw : Region.wanted o (yielded ops a.tmps) = true) (h : wpList P ops Q rest (a.put o.dst v) w) : wpList P ops Q (o :: rest) a w := by
  refine wpList_step (fun K hK => ?_)
  rw [if_pos hw]
  unfold Oper.wp execOp
  simp only [ho, hx, Sem.run_bind, hrun, Result.andThen_ok, Sem.run_pure]
  exact hK _ _ h
theorem checkAddr_any (v : Int) (l : List Int) (w : World) (hL : Laid w) (hl : B16 l) : Calls Tryd.prog 127 #[.agg (adrV v l)] w fun e w' => e = .returned (.int .i64 (errA v l)) ∧ Below w.heap.size w w' := by
  have hb := blk_new w (.cells (adrV v l) 100)
  have hv := adr_v hb
  have hld := load_arr (b := w.heap.size) (o := 1) hl (fun i hi => adr_b hb i (by rw [hl.len]; exact hi))
  have hbe : Below w.heap.size w (w.alloc (.cells (adrV v l) 100)) := below_alloc (Below.refl _ _) _
  have HL := Lib.hid (hL.below hbe)
  have HBE := Lib.hid hbe
  obtain ⟨cs, hcs⟩ : ∃ cs, adrV v l = cs := ⟨_, rfl⟩
  rw [hcs] at hv hld HL HBE ⊢
  clear hb hcs hbe hL
  go_enter Tryd.func127, Tryd.ntmps127
  go_wp2_with fail
  refine (width_any v _ HL.out).mono ?_
  rintro e w1 ⟨rfl, rfl⟩
  by_cases hw : widthA v = 0
  · have hr : rightA v l = false := by unfold rightA; simp [hw]
    have HR : Hid (errA v l = 150) := by unfold errA; rw [hr]; rfl
    rw [hw]
    clear hr hw
    go_wp2
    go_ret
    rw [HR.out]
    exact ⟨rfl, HBE.out⟩
  · have hw0 : ((widthA v : Int) == 0) = false := by simp; omega
    have hw1 : ((widthA v) == 0) = false := by simp; omega
    have hr : rightA v l = clearA l (widthA v) := by unfold rightA; simp [hw]
    have HR := Lib.hid hr
    clear hr hw
    go_wp2_with (refine wpList_load_g hld _ rfl rfl (by go_simp) ?_)
    refine (clear_any l (widthA v) _ hl).mono ?_
    rintro e w2 ⟨rfl, hb2⟩
    have HB2 := Lib.hid (below_step HBE.out hb2)
    clear hb2 hv hld
    cases hc : clearA l (widthA v) with
    | false =>
      have HE : Hid (errA v l = 150) := by unfold errA; rw [HR.out, hc]; rfl
      go_wp2
      go_ret
      rw [HE.out]
      exact ⟨rfl, HB2.out⟩
    | true =>
      have HE : Hid (errA v l = 0) := by unfold errA; rw [HR.out, hc]; rfl
      go_wp2
      go_ret
      rw [HE.out]
      exact ⟨rfl, HB2.out⟩
end Go.Proofs.YtifejiclenpfoaaDoor

/- Layer 5 (prefix): Check. -/
namespace Go.Proofs.YtifejiclenpfoaaDoor
open Go.RowKit
set_option linter.unusedVariables false
set_option linter.unusedSimpArgs false
set_option maxRecDepth 4000

theorem pfx_cells (v : Int) (l : List Int) (b : Int) (hl : B16 l) : (pfxV v l b).toList.length = 18 := by simp [pfxV, nums, hl.len]
theorem load_pfx {w : World} {g : Nat} {v : Int} {l : List Int} {b : Int} (hl : B16 l) (h : w.heap[g]? = some (.cells (pfxV v l b) 102 (0, 0))) :
    (Instr.loadAt 102 (.pointer (some ⟨g, 0, none⟩))).run Tryd.prog w = .ok (.agg (pfxV v l b)) w := by
  refine run_loadAt_mid w g 0 102 (pfxV v l b).toList _ (fun j u hv => ?_) Tryd.underlying102 rfl ?_
  · rw [Nat.zero_add, blk_cell h]
    simpa using hv
  · rw [pfx_cells v l b hl]
    kernel_rfl
/-- What lies in a block that holds a prefix, in every world that goes on from one. -/
structure PfxAt (w : World) (g : Nat) (v : Int) (l : List Int) (b : Int) : Prop where
  all : ∀ w0, Below w.heap.size w w0 →
    (Instr.loadAt 100 (.pointer (some ⟨g, 0, none⟩))).run Tryd.prog w0 = .ok (.agg (adrV v l)) w0 ∧
    (Instr.loadAt 3 (.pointer (some ⟨g, 17, none⟩))).run Tryd.prog w0 = .ok (.int .i64 b) w0 ∧
    (Instr.loadAt 3 (.pointer (some ⟨g, 0, none⟩))).run Tryd.prog w0 = .ok (.int .i64 v) w0 ∧
    (Instr.loadAt 98 (.pointer (some ⟨g, 1, none⟩))).run Tryd.prog w0 = .ok (.agg (arrV l)) w0 ∧
    (Instr.loadAt 102 (.pointer (some ⟨g, 0, none⟩))).run Tryd.prog w0 = .ok (.agg (pfxV v l b)) w0
theorem load_int {w : World} {ad : Addr} {v : Value} (h : w.cell? ad = some v) : (Instr.loadAt 3 (.pointer (some ad))).run Tryd.prog w = .ok v w := by
  go_simp
theorem pfx_at {w : World} {g : Nat} {v : Int} {l : List Int} {b : Int} (hl : B16 l) (h : w.heap[g]? = some (.cells (pfxV v l b) 102 (0, 0))) : PfxAt w g v l b := by
  refine ⟨fun w0 hb => ?_⟩
  have h0 := blk_below h hb
  have c0 : w0.cell? ⟨g, 0, none⟩ = some (.int .i64 v) := by rw [blk_cell h0]; rfl
  have c1 : ∀ i, i < 16 → w0.cell? ⟨g, 1 + i, none⟩ = some (.int .u8 (rd l (i : Int))) := fun i hi => by
    rw [blk_cell h0, Nat.add_comm]
    unfold pfxV
    rw [List.getElem?_toArray, List.getElem?_cons_succ, List.getElem?_append_left (by simp [nums, hl.len]; exact hi)]
    exact nums_get .u8 l i (by rw [hl.len]; exact hi)
  have c2 : w0.cell? ⟨g, 17, none⟩ = some (.int .i64 b) := by
    rw [blk_cell h0]
    unfold pfxV
    rw [List.getElem?_toArray, List.getElem?_cons_succ, List.getElem?_append_right (by simp [nums, hl.len])]
    simp [nums, hl.len]
  exact ⟨load_adr hl c0 (fun i hi => by rw [show 0 + 1 + i = 1 + i by omega]; exact c1 i hi), load_int c2, load_int c0, load_arr hl c1, load_pfx hl h0⟩

set_option maxHeartbeats 2000000 in
theorem check_any (v : Int) (l : List Int) (b : Int) (w : World) (hL : Laid w) (hl : B16 l) : Calls Tryd.prog 115 #[.agg (pfxV v l b)] w fun e w' => e = .returned (.int .i64 (errP v l b)) ∧ Below w.heap.size w w' := by
  have hpa := pfx_at hl (blk_new w (.cells (pfxV v l b) 102))
  have hbe : Below w.heap.size w (w.alloc (.cells (pfxV v l b) 102)) := below_alloc (Below.refl _ _) _
  have HL := Lib.hid (hL.below hbe)
  have HBE := Lib.hid hbe
  obtain ⟨cs, hcs⟩ : ∃ cs, pfxV v l b = cs := ⟨_, rfl⟩
  rw [hcs] at hpa HL HBE ⊢
  have HP := Lib.hid hpa
  clear hcs hbe hL hpa
  go_enter Tryd.func115, Tryd.ntmps115
  go_wp2_with fail
  refine wp_region_mix (fun w0 => Below (w.alloc (.cells cs 102)).heap.size (w.alloc (.cells cs 102)) w0) [(0, 0), (1, 0), (2, 2), (3, 0), (4, 0), (5, 0), (6, 0), (7, 0), (8, 0), (9, 0), (10, 0), (11, 0), (12, 0), (13, 0), (14, 0), (15, 2), (16, 0), (17, 0), (18, 0), (19, 0), (20, 0), (21, 0), (22, 0), (23, 0), (24, 2), (25, 0), (26, 0)] (by kernel_rfl) (by kernel_rfl) (below_drew1 _) ?_
  simp only [List.map_cons, List.map_nil]
  iterate 1 (refine wpO_step0 rfl rfl (fun K hK => ?_); go_simp; refine hK _ _ ?_; clear hK K)
  refine wpO_loadW (t := 100) (ad := ⟨w.heap.size, 0, none⟩) rfl rfl ?hw rfl rfl (fun w0 hS => (HP.out.all w0 hS).1) ?_
  case hw => go_simp
  refine wpO_step2 rfl rfl (below_drew1 _) (fun K hK => ?_)
  go_simp
  refine (checkAddr_any v l _ (HL.out.below (below_drew1 _)) hl).mono ?_
  rintro e w1 ⟨rfl, hb1⟩
  have HS1 := Lib.hid (below_step (below_drew1 _) hb1)
  clear hb1
  refine hK _ _ ⟨HS1.out, ?_⟩
  clear hK K
  cases hA : rightA v l with
  | false =>
    have HE : Hid (errP v l b = 151) := by unfold errP rightP; rw [hA]; rfl
    have hEA : errA v l = 150 := by unfold errA; rw [hA]; rfl
    rw [hEA]
    clear hA hEA
    repeat first | (refine wpO_step0 rfl rfl (fun K hK => ?_); go_simp; refine hK _ _ ?_; clear hK K) | (refine wpO_step2 rfl rfl HS1.out (fun K hK => ?_); go_simp; refine hK _ _ ⟨HS1.out, ?_⟩; clear hK K)
    refine wpO_nil ?_
    go_wp2
    go_ret
    rw [HE.out]
    exact ⟨rfl, below_step HBE.out HS1.out⟩
  | true =>
    have hEA : errA v l = 0 := by unfold errA; rw [hA]; rfl
    rw [hEA]
    clear hEA
    iterate 3 (refine wpO_step0 rfl rfl (fun K hK => ?_); go_simp; refine hK _ _ ?_; clear hK K)
    refine wpO_loadW (t := 3) (ad := ⟨w.heap.size, 17, none⟩) rfl rfl ?hw rfl rfl (fun w0 hS => (HP.out.all w0 hS).2.1) ?_
    case hw => go_simp
    by_cases hb0 : b < 0
    · have HE : Hid (errP v l b = 151) := by
        have h1 : rightP v l b = false := by
          unfold rightP
          rw [decide_eq_false (show ¬ 0 ≤ b by omega)]
          cases rightA v l <;> rfl
        unfold errP
        rw [h1]
        rfl
      clear hA
      repeat first | (refine wpO_step0 rfl rfl (fun K hK => ?_); go_simp; refine hK _ _ ?_; clear hK K) | (refine wpO_step2 rfl rfl HS1.out (fun K hK => ?_); go_simp; refine hK _ _ ⟨HS1.out, ?_⟩; clear hK K)
      refine wpO_nil ?_
      go_wp2
      go_ret
      rw [HE.out]
      exact ⟨rfl, below_step HBE.out HS1.out⟩
    · have hb0' : 0 ≤ b := by omega
      clear hb0
      iterate 4 (refine wpO_step0 rfl rfl (fun K hK => ?_); go_simp; refine hK _ _ ?_; clear hK K)
      refine wpO_loadW (t := 3) (ad := ⟨w.heap.size, 17, none⟩) rfl rfl ?hw rfl rfl (fun w0 hS => (HP.out.all w0 hS).2.1) ?_
      case hw => go_simp
      iterate 2 (refine wpO_step0 rfl rfl (fun K hK => ?_); go_simp; refine hK _ _ ?_; clear hK K)
      refine wpO_loadW (t := 3) (ad := ⟨w.heap.size, 0, none⟩) rfl rfl ?hw rfl rfl (fun w0 hS => (HP.out.all w0 hS).2.2.1) ?_
      case hw => go_simp
      refine wpO_step2 rfl rfl HS1.out (fun K hK => ?_)
      go_simp
      refine (width_any v _ (HL.out.below HS1.out)).mono ?_
      rintro e w2 ⟨rfl, rfl⟩
      refine hK _ _ ⟨HS1.out, ?_⟩
      clear hK K
      have hwl := widthA_le v
      by_cases hbw : (widthA v : Int) < b
      · have HE : Hid (errP v l b = 151) := by
          have h1 : rightP v l b = false := by
            unfold rightP
            rw [decide_eq_false (show ¬ b ≤ widthA v by omega)]
            cases rightA v l <;> cases decide (0 ≤ b) <;> rfl
          unfold errP
          rw [h1]
          rfl
        clear hA
        repeat first | (refine wpO_step0 rfl rfl (fun K hK => ?_); go_simp; refine hK _ _ ?_; clear hK K) | (refine wpO_step2 rfl rfl HS1.out (fun K hK => ?_); go_simp; refine hK _ _ ⟨HS1.out, ?_⟩; clear hK K)
        refine wpO_nil ?_
        go_wp2
        go_ret
        rw [HE.out]
        exact ⟨rfl, below_step HBE.out HS1.out⟩
      · have hbw' : b ≤ (widthA v : Int) := by omega
        clear hbw
        obtain ⟨k, rfl⟩ := Int.eq_ofNat_of_zero_le hb0'
        have hbn : k ≤ widthA v := by omega
        iterate 5 (refine wpO_step0 rfl rfl (fun K hK => ?_); go_simp; refine hK _ _ ?_; clear hK K)
        refine wpO_loadW (t := 98) (ad := ⟨w.heap.size, 1, none⟩) rfl rfl ?hw rfl rfl (fun w0 hS => (HP.out.all w0 hS).2.2.2.1) ?_
        case hw => go_simp
        iterate 1 (refine wpO_step0 rfl rfl (fun K hK => ?_); go_simp; refine hK _ _ ?_; clear hK K)
        refine wpO_loadW (t := 3) (ad := ⟨w.heap.size, 17, none⟩) rfl rfl ?hw rfl rfl (fun w0 hS => (HP.out.all w0 hS).2.1) ?_
        case hw => go_simp
        refine wpO_step2 rfl rfl HS1.out (fun K hK => ?_)
        go_simp
        refine (clear_any l k _ hl).mono ?_
        rintro e w3 ⟨rfl, hb3⟩
        have HS3 := Lib.hid (below_step HS1.out hb3)
        clear hb3
        refine hK _ _ ⟨HS3.out, ?_⟩
        clear hK K
        cases hC : clearA l k with
        | false =>
          have HE : Hid (errP v l k = 151) := by
            have h1 : rightP v l k = false := by
              unfold rightP
              rw [show (k : Int).toNat = k by omega, hC]
              exact Bool.and_false _
            unfold errP
            rw [h1]
            rfl
          clear hA hC
          repeat first | (refine wpO_step0 rfl rfl (fun K hK => ?_); go_simp; refine hK _ _ ?_; clear hK K) | (refine wpO_step2 rfl rfl HS3.out (fun K hK => ?_); go_simp; refine hK _ _ ⟨HS3.out, ?_⟩; clear hK K)
          refine wpO_nil ?_
          go_wp2
          go_ret
          rw [HE.out]
          exact ⟨rfl, below_step HBE.out HS3.out⟩
        | true =>
          have HE : Hid (errP v l k = 0) := by
            unfold errP rightP
            rw [show (k : Int).toNat = k by omega, hC, hA, decide_eq_true hb0', decide_eq_true hbw']
            rfl
          clear hA hC
          repeat first | (refine wpO_step0 rfl rfl (fun K hK => ?_); go_simp; refine hK _ _ ?_; clear hK K) | (refine wpO_step2 rfl rfl HS3.out (fun K hK => ?_); go_simp; refine hK _ _ ⟨HS3.out, ?_⟩; clear hK K)
          refine wpO_nil ?_
          go_wp2
          go_ret
          rw [HE.out]
          exact ⟨rfl, below_step HBE.out HS3.out⟩
end Go.Proofs.YtifejiclenpfoaaDoor

/- Addresses and prefixes, built and written. -/
namespace Go.Proofs.YtifejiclenpfoaaDoor
open Go.RowKit
set_option linter.unusedVariables false
set_option linter.unusedSimpArgs false
set_option maxRecDepth 4000

theorem len16 {l : List Int} (h : l.length = 16) : ∃ a b c d e f g h i j k m n o p q : Int, l = [a, b, c, d, e, f, g, h, i, j, k, m, n, o, p, q] := by
  match l, h with
  | [a, b, c, d, e, f, g, h, i, j, k, m, n, o, p, q], _ => exact ⟨a, b, c, d, e, f, g, h, i, j, k, m, n, o, p, q, rfl⟩
abbrev zero16 : List Int := List.replicate 16 0
theorem zero16_B : B16 zero16 := ⟨rfl, fun x hx => by simp [zero16] at hx; omega⟩
theorem pfx_size {v x : Int} {l : List Int} (h : l.length = 16) : (pfxV v l x).size = 18 := by simp [pfxV, nums, h]
theorem pfx_one (v x : Int) (l : List Int) : (pfxV v l x).all (·.oneCell') = true := by simp [pfxV, nums, Value.oneCell']
theorem info_pfx {v x : Int} {l : List Int} (h : l.length = 16) : (Tryd.prog.info? 102).map (·.size) = some (pfxV v l x).size := by rw [pfx_size h]; kernel_rfl
theorem exec_build {P : Program} {r : Operand → Value} {o : Oper} {w : World} (t : TypeId) (parts : Array (Nat × Operand)) (ho : o.op = .build t parts) (vs : Array (Nat × Value)) (hv : (parts.map fun (i, x) => (i, r x)) = vs) {v : Value} (hr : (Instr.build t vs).run P w = .ok v w) :
    (execOp r o).run P w = .ok (.value v) w := by
  subst hv
  unfold execOp
  simp only [ho, Sem.run_bind, hr, Result.andThen_ok, Sem.run_pure]
section
variable {ops : Array Oper} {rest : List Oper} {o : Oper} {a : Act} {Q : Exit → Act → World → Prop} {w : World} {x y : Operand} {v b : Int} {l : List Int}
end
end Go.Proofs.YtifejiclenpfoaaDoor

/- Slices of elements of whatever shape: what is read (RS), what is the call's own (OS). -/
namespace Go.Proofs.YtifejiclenpfoaaDoor
open Go.RowKit
set_option linter.unusedVariables false
set_option linter.unusedSimpArgs false
set_option maxRecDepth 4000

/-- Cells that stand in a block from a place on. -/
def CellsAt (w : World) (b o : Nat) (cs : List Value) : Prop := ∀ j v, cs[j]? = some v → w.cell? ⟨b, o + j, none⟩ = some v
theorem CellsAt.mid {w : World} {b o : Nat} (xs : List Value) {ys zs : List Value} (h : CellsAt w b o (xs ++ (ys ++ zs))) : CellsAt w b (o + xs.length) ys := by
  intro j v hj
  rw [Nat.add_assoc]
  refine h _ _ ?_
  rw [List.getElem?_append_right (by omega), Nat.add_sub_cancel_left, List.getElem?_append_left (List.getElem?_eq_some_iff.1 hj).1]
  exact hj
theorem CellsAt.left {w : World} {b o : Nat} {xs ys : List Value} (h : CellsAt w b o (xs ++ ys)) : CellsAt w b o xs := fun j v hj => h j v (by rw [List.getElem?_append_left (List.getElem?_eq_some_iff.1 hj).1]; exact hj)
theorem CellsAt.right {w : World} {b o : Nat} {xs ys : List Value} (h : CellsAt w b o (xs ++ ys)) : CellsAt w b (o + xs.length) ys := by
  have := CellsAt.mid xs (ys := ys) (zs := []) (w := w) (b := b) (o := o) (by rw [List.append_nil]; exact h)
  exact this
theorem CellsAt.below {w w1 : World} {b o : Nat} {cs : List Value} (h : CellsAt w b o cs) (hb : Below w.heap.size w w1) : CellsAt w1 b o cs := fun j v hj => cell_below hb (h j v hj)
theorem CellsAt.grown {w w1 : World} {b o : Nat} {cs : List Value} (h : CellsAt w b o cs) {row : Option Nat} (hg : w.grownBy w1 row) (hne : some b ≠ row) : CellsAt w1 b o cs := fun j v hj => hg.cell (h j v hj) hne
theorem cells_blk {w : World} {g : Nat} {t : TypeId} {cs : Array Value} (h : w.heap[g]? = some (.cells cs t (0, 0))) : CellsAt w g 0 cs.toList := fun j v hj => by
  rw [blk_cell h, Nat.zero_add]
  simpa using hj
theorem cell_spot2 {w : World} {a : Addr} {v : Value} (h : w.cell? a = some v) : a.spot = none := by
  unfold World.cell? at h
  split at h
  · split at h
    · simp at h
    · rename_i hs
      cases hsp : a.spot with
      | none => rfl
      | some x => simp [hsp] at hs
  · simp at h
theorem add_plain2 (b o j : Nat) : (⟨b, o, none⟩ : Addr).add j = ⟨b, o + j, none⟩ := by unfold Addr.add; split <;> simp_all
theorem load_cells {P : Program} {w : World} {b o : Nat} {t : TypeId} {d : TypeDesc} {cs : Array Value} (h : CellsAt w b o cs.toList) (hu : P.underlying t = some d) (hd : d.isRow = true) (hi : (P.info? t).map (·.size) = some cs.size) :
    (Instr.loadAt t (.pointer (some ⟨b, o, none⟩))).run P w = .ok (.agg cs) w := by
  have := run_loadAt_mid (P := P) w b o t cs.toList d h hu hd (by rw [hi, Array.length_toList])
  simpa using this

theorem exec_build1 {P : Program} {r : Operand → Value} {o : Oper} {w : World} {t : TypeId} {i0 : Nat} {x0 : Operand} {v0 v : Value} (ho : o.op = .build t #[(i0, x0)]) (h0 : r x0 = v0) (hr : (Instr.build t #[(i0, v0)]).run P w = .ok v w) : (execOp r o).run P w = .ok (.value v) w :=
  exec_build t _ ho #[(i0, v0)] (by simp [h0]) hr
theorem exec_build4 {P : Program} {r : Operand → Value} {o : Oper} {w : World} {t : TypeId} {i0 i1 i2 i3 : Nat} {x0 x1 x2 x3 : Operand} {v0 v1 v2 v3 v : Value} (ho : o.op = .build t #[(i0, x0), (i1, x1), (i2, x2), (i3, x3)]) (h0 : r x0 = v0) (h1 : r x1 = v1) (h2 : r x2 = v2) (h3 : r x3 = v3) (hr : (Instr.build t #[(i0, v0), (i1, v1), (i2, v2), (i3, v3)]).run P w = .ok v w) : (execOp r o).run P w = .ok (.value v) w :=
  exec_build t _ ho #[(i0, v0), (i1, v1), (i2, v2), (i3, v3)] (by simp [h0, h1, h2, h3]) hr
theorem exec_build5 {P : Program} {r : Operand → Value} {o : Oper} {w : World} {t : TypeId} {i0 i1 i2 i3 i4 : Nat} {x0 x1 x2 x3 x4 : Operand} {v0 v1 v2 v3 v4 v : Value} (ho : o.op = .build t #[(i0, x0), (i1, x1), (i2, x2), (i3, x3), (i4, x4)]) (h0 : r x0 = v0) (h1 : r x1 = v1) (h2 : r x2 = v2) (h3 : r x3 = v3) (h4 : r x4 = v4) (hr : (Instr.build t #[(i0, v0), (i1, v1), (i2, v2), (i3, v3), (i4, v4)]).run P w = .ok v w) : (execOp r o).run P w = .ok (.value v) w :=
  exec_build t _ ho #[(i0, v0), (i1, v1), (i2, v2), (i3, v3), (i4, v4)] (by simp [h0, h1, h2, h3, h4]) hr
/-- One operation whose run is known; its guard, if it has one, lets it by. -/
theorem wpList_exw {P : Program} {ops : Array Oper} {rest : List Oper} {o : Oper} {a : Act} {Q : Exit → Act → World → Prop} {W w' : World} {v : Value} (hw : Region.wanted o (yielded ops a.tmps) = true) (hrun : (execOp a.eval o).run P W = .ok (.value v) w') (h : wpList P ops Q rest (a.put o.dst v) w') : wpList P ops Q (o :: rest) a W := by
  refine wpList_step (fun K hK => ?_)
  rw [if_pos hw]
  unfold Oper.wp
  rw [hrun]
  exact hK _ _ h
/-- A kind of elements: type t, slice type ts; an element's cells and its value; z: the zero. -/
structure Shape (α : Type) where
  t : TypeId
  ts : TypeId
  sz : Nat
  bytes : Nat
  z : α
  ok : α → Prop
  enc : α → List Value
  val : α → Value
  len : ∀ a, ok a → (enc a).length = sz
  one : ∀ a, ∀ u ∈ enc a, u.oneCell' = true
  okz : ok z
  pos : 0 < sz
  bpos : 0 < bytes
  blt : bytes ≤ 10000
  und : Tryd.prog.underlying ts = some (.slice t)
  info : (Tryd.prog.info? t).map (fun i => (i.zero, i.size, i.bytes)) = some (some (val z), sz, bytes)
  venc : ∀ a, (val a).cells = (enc a).toArray
  ld : ∀ (w : World) (b o : Nat) (a : α), ok a → CellsAt w b o (enc a) → (Instr.loadAt t (.pointer (some ⟨b, o, none⟩))).run Tryd.prog w = .ok (val a) w
theorem Shape.zenc {α : Type} (S : Shape α) : (S.val S.z).cells = (S.enc S.z).toArray := S.venc _
theorem Shape.zc {α : Type} (S : Shape α) : (S.val S.z).cells.size = S.sz := by rw [S.zenc, List.size_toArray, S.len _ S.okz]
section
variable {α : Type} (S : Shape α)
def Shape.at_ (l : List α) (i : Nat) : α := l.getD i S.z
def Shape.cells (l : List α) : List Value := l.flatMap S.enc
def Shape.all (l : List α) : Prop := ∀ a ∈ l, S.ok a
variable {S}
theorem Shape.at_get {l : List α} {i : Nat} (h : i < l.length) : l[i]? = some (S.at_ l i) := by
  unfold Shape.at_
  rw [List.getD_eq_getElem?_getD, List.getElem?_eq_getElem h]
  rfl
theorem Shape.cells_append (l m : List α) : S.cells (l ++ m) = S.cells l ++ S.cells m := by simp [Shape.cells]
theorem Shape.cells_one (a : α) : S.cells [a] = S.enc a := by simp [Shape.cells]
theorem Shape.cells_cons (a : α) (l : List α) : S.cells (a :: l) = S.enc a ++ S.cells l := by simp [Shape.cells]
theorem Shape.cells_cell (l : List α) : ∀ u ∈ S.cells l, u.oneCell' = true := by
  intro u hu
  obtain ⟨r, _, h⟩ := List.mem_flatMap.1 hu
  exact S.one r u h
theorem Shape.all.tail {a : α} {l : List α} (h : S.all (a :: l)) : S.all l := fun r hr => h r (by simp [hr])
theorem Shape.all.take {l : List α} (h : S.all l) (n : Nat) : S.all (l.take n) := fun r hr => h r (List.mem_of_mem_take hr)
theorem Shape.all.drop {l : List α} (h : S.all l) (n : Nat) : S.all (l.drop n) := fun r hr => h r (List.mem_of_mem_drop hr)
theorem Shape.all.append {l m : List α} (h : S.all l) (k : S.all m) : S.all (l ++ m) := fun r hr => (List.mem_append.1 hr).elim (h r) (k r)
theorem Shape.all.at_ {l : List α} (h : S.all l) {i : Nat} (hi : i < l.length) : S.ok (S.at_ l i) := h _ (List.mem_of_getElem? (Shape.at_get hi))
theorem Shape.all_nil : S.all [] := fun r hr => by cases hr
theorem Shape.all_one {a : α} (h : S.ok a) : S.all [a] := fun r hr => by rw [List.mem_singleton] at hr; rw [hr]; exact h
theorem Shape.cells_len : ∀ {l : List α}, S.all l → (S.cells l).length = l.length * S.sz
  | [], _ => by simp [Shape.cells]
  | a :: l, h => by
    rw [Shape.cells_cons, List.length_append, Shape.cells_len h.tail, S.len a (h a (by simp)), List.length_cons, Nat.add_mul]
    omega
theorem Shape.cells_take {l : List α} (h : S.all l) (n : Nat) (hn : n ≤ l.length) : (S.cells l).take (n * S.sz) = S.cells (l.take n) := by
  have e : S.cells l = S.cells (l.take n) ++ S.cells (l.drop n) := by rw [← Shape.cells_append, List.take_append_drop]
  rw [e, List.take_left' (by rw [Shape.cells_len (h.take n), List.length_take, Nat.min_eq_left hn])]
theorem Shape.cells_drop {l : List α} (h : S.all l) (n : Nat) (hn : n ≤ l.length) : (S.cells l).drop (n * S.sz) = S.cells (l.drop n) := by
  have e : S.cells l = S.cells (l.take n) ++ S.cells (l.drop n) := by rw [← Shape.cells_append, List.take_append_drop]
  rw [e, List.drop_left' (by rw [Shape.cells_len (h.take n), List.length_take, Nat.min_eq_left hn])]
theorem Shape.split_at {l : List α} {i : Nat} (hi : i < l.length) : l = l.take i ++ (S.at_ l i :: l.drop (i + 1)) := by
  have h2 : l[i]'hi = S.at_ l i := by
    have := Shape.at_get (S := S) hi
    rw [List.getElem?_eq_getElem hi] at this
    exact Option.some.inj this
  rw [← h2, List.getElem_cons_drop, List.take_append_drop]
end
/-- A slice of elements, read. -/
structure RS {α : Type} (S : Shape α) (w : World) (A : Option Addr) (n c : Nat) (l : List α) : Prop where
  rv : RV w S.sz A n c (S.cells l)
  fits : S.all l
/-- A slice of elements of the call's own. -/
structure OS {α : Type} (S : Shape α) (w : World) (base : Nat) (A : Option Addr) (n c : Nat) (l : List α) : Prop where
  ov : OV w base S.t S.sz A n c (S.cells l)
  fits : S.all l
section
variable {α : Type} {S : Shape α} {w w1 : World} {base base' : Nat} {A : Option Addr} {n c : Nat} {l : List α}
theorem RS.len (h : RS S w A n c l) : l.length = n := by
  have h1 := h.rv.len
  rw [Shape.cells_len h.fits] at h1
  exact Nat.eq_of_mul_eq_mul_right S.pos h1
theorem OS.len (h : OS S w base A n c l) : l.length = n := by
  have h1 := h.ov.len
  rw [Shape.cells_len h.fits] at h1
  exact Nat.eq_of_mul_eq_mul_right S.pos h1
theorem OS.reads (h : OS S w base A n c l) : RS S w A n c l := ⟨h.ov.reads, h.fits⟩
theorem RS.below (h : RS S w A n c l) (hb : Below w.heap.size w w1) : RS S w1 A n c l := ⟨h.rv.below hb, h.fits⟩
theorem OS.below (h : OS S w base A n c l) (hb : Below w.heap.size w w1) : OS S w1 base A n c l := ⟨h.ov.below hb, h.fits⟩
theorem OS.lower (h : OS S w base A n c l) (hb : base' ≤ base) : OS S w base' A n c l := ⟨h.ov.lower hb, h.fits⟩
theorem OS.grown (h : OS S w base A n c l) {row : Option Nat} (hg : w.grownBy w1 row) (hne : ∀ ad, A = some ad → some ad.block ≠ row) : OS S w1 base A n c l := ⟨h.ov.grown hg hne, h.fits⟩
theorem RS.grown (h : RS S w A n c l) {row : Option Nat} (hg : w.grownBy w1 row) (hne : ∀ ad, A = some ad → some ad.block ≠ row) : RS S w1 A n c l := ⟨h.rv.grown hg hne, h.fits⟩
theorem OS.cap (h : OS S w base A n c l) : n ≤ c := h.ov.cap
theorem RS.cap (h : RS S w A n c l) : n ≤ c := h.rv.cap
theorem RS.small (h : RS S w A n c l) : n ≤ 281474976710656 := h.rv.small
theorem OS.small (h : OS S w base A n c l) : n ≤ 281474976710656 := h.ov.small
theorem OS.base_ (h : OS S w base A n c l) : ∀ ad, A = some ad → base ≤ ad.block := h.ov.base_
theorem OS.lt (h : OS S w base A n c l) : ∀ ad, A = some ad → ad.block < w.heap.size := h.ov.lt
theorem RS.nil (S : Shape α) (w : World) (A : Option Addr) (c : Nat) : RS S w A 0 c [] := ⟨RV.nil w S.sz A c, Shape.all_nil⟩
theorem OS.nil (S : Shape α) (w : World) (base : Nat) : OS S w base none 0 0 [] := ⟨OV.nil w base _ S.sz, Shape.all_nil⟩
theorem RS.take (h : RS S w A n c l) (m : Nat) (hm : m ≤ n) : RS S w A m c (l.take m) := ⟨by rw [← Shape.cells_take h.fits m (by rw [h.len]; exact hm)]; exact h.rv.take m hm, h.fits.take m⟩
theorem OS.take (h : OS S w base A n c l) (m c' : Nat) (hm : m ≤ n) (hc : m ≤ c') (hc' : c' ≤ c) : OS S w base A m c' (l.take m) := ⟨by rw [← Shape.cells_take h.fits m (by rw [h.len]; exact hm)]; exact h.ov.take m c' hm hc hc', h.fits.take m⟩
theorem RS.drop (h : RS S w A n c l) (m : Nat) (hm : m ≤ n) : RS S w (if c = m then A else A.map (·.add (m * S.sz))) (n - m) (c - m) (l.drop m) := ⟨by rw [← Shape.cells_drop h.fits m (by rw [h.len]; exact hm)]; exact h.rv.drop m hm, h.fits.drop m⟩
theorem OS.new (S : Shape α) (W : World) (base : Nat) (l : List α) (hb : base ≤ W.heap.size) (hf : S.all l) (hn : l.length ≤ 281474976710656) : OS S (W.alloc (.cells (S.cells l).toArray S.t)) base (some ⟨W.heap.size, 0, none⟩) l.length l.length l := ⟨by
  have := OV.new W base S.t S.sz (S.cells l).toArray l.length hb (by rw [List.size_toArray, Shape.cells_len hf]) hn
  simpa using this, hf⟩
theorem OS.empty (S : Shape α) (W : World) (base : Nat) (hb : base ≤ W.heap.size) : OS S (W.alloc (.cells #[] S.t)) base (some ⟨W.heap.size, 0, none⟩) 0 0 [] := OS.new S W base [] hb Shape.all_nil (by simp)
theorem OS.one (S : Shape α) (W : World) (base : Nat) (a : α) (hb : base ≤ W.heap.size) (hf : S.ok a) : OS S (W.alloc (.cells (S.enc a).toArray S.t)) base (some ⟨W.heap.size, 0, none⟩) 1 1 [a] := by
  have := OS.new S W base [a] hb (Shape.all_one hf) (by simp)
  rw [Shape.cells_one] at this
  exact this
theorem RS.at_ (h : RS S w A n c l) (hp : 0 < n) : ∃ b o, A = some ⟨b, o, none⟩ ∧ ∀ i, i < n → CellsAt w b (o + i * S.sz) (S.enc (S.at_ l i)) := by
  obtain ⟨ad, rfl, hc⟩ := h.rv.cells hp
  have hlen := Shape.cells_len h.fits
  have hn := h.len
  have hpos := S.pos
  have hln : 0 < l.length * S.sz := Nat.mul_pos (by omega) hpos
  have hs : ad.spot = none := by
    cases hx : (S.cells l)[0]? with
    | none => rw [List.getElem?_eq_none_iff] at hx; omega
    | some v =>
      have := hc 0 v hx
      have k := cell_spot2 this
      unfold Addr.add at k
      simpa using k
  obtain ⟨b, o, s⟩ := ad
  simp only at hs
  subst hs
  refine ⟨b, o, rfl, fun i hi => ?_⟩
  have e : S.cells l = S.cells (l.take i) ++ (S.enc (S.at_ l i) ++ S.cells (l.drop (i + 1))) := by
    conv => lhs; rw [Shape.split_at (S := S) (l := l) (i := i) (by omega)]
    rw [Shape.cells_append]
    rfl
  have hm : CellsAt w b o (S.cells l) := fun j v hj => by
    have := hc j v hj
    rwa [add_plain2] at this
  rw [e] at hm
  have := hm.mid
  rwa [Shape.cells_len (h.fits.take i), List.length_take, Nat.min_eq_left (by omega)] at this
theorem RS.fits_at (h : RS S w A n c l) {i : Nat} (hi : i < n) : S.ok (S.at_ l i) := h.fits.at_ (by rw [h.len]; exact hi)
theorem RS.get (h : RS S w A n c l) {i : Nat} (hi : i < n) : l[i]? = some (S.at_ l i) := Shape.at_get (by rw [h.len]; exact hi)
end
theorem run_append_shp {α : Type} (S : Shape α) (W : World) (base : Nat) (ty : TypeId) (A : Option Addr) (n c : Nat) (t : List α) (A2 : Option Addr) (m c2 : Nat) (u : List α)
    (HO : OS S W base A n c t) (HR : RS S W A2 m c2 u) (hbase : base ≤ W.heap.size) (hl : n + m ≤ 10000000) :
    ∃ A' c' w', (Builtin.append_ #[S.ts, S.ts] ty #[.slice A n c, .slice A2 m c2]).run Tryd.prog W = .ok (.slice A' (n + m) c') w' ∧
      OS S w' base A' (n + m) c' (t ++ u) ∧ W.grownBy w' ((Value.slice A n c).ownBlock) ∧ (A' = A ∨ ∀ ad, A' = some ad → W.heap.size ≤ ad.block) := by
  have hb1 := S.blt
  have hb2 : (n + m) * S.bytes ≤ 10000000 * 10000 := Nat.mul_le_mul hl hb1
  obtain ⟨A', c', w', h1, h2, h3, h4⟩ := run_append_rows W base S.ts ty S.t S.sz S.bytes (S.val S.z) A n c (S.cells t) A2 m c2 (S.cells u) S.und S.info S.zc S.pos S.bpos HO.ov HR.rv (Shape.cells_cell u) hbase (by omega)
  exact ⟨A', c', w', h1, ⟨by rw [Shape.cells_append]; exact h2, HO.fits.append HR.fits⟩, h3, h4⟩
section
variable {α : Type} (S : Shape α) {ops : Array Oper} {rest : List Oper} {o : Oper} {a : Act} {Q : Exit → Act → World → Prop}
theorem wpList_append_shp {W : World} (hgd : o.guard = none) (s x : Operand) (ho : o.op = .call { callee := .builtin .append, args := #[s, x], argTypes := #[S.ts, S.ts] })
    {base : Nat} {A : Option Addr} {n c : Nat} {t : List α} {A2 : Option Addr} {m c2 : Nat} {u : List α} (hs : a.eval s = .slice A n c) (hx : a.eval x = .slice A2 m c2)
    (HO : OS S W base A n c t) (HR : RS S W A2 m c2 u) (hbase : base ≤ W.heap.size) (hl : n + m ≤ 10000000)
    (h : ∀ A' c' w', OS S w' base A' (n + m) c' (t ++ u) → W.grownBy w' ((Value.slice A n c).ownBlock) → (A' = A ∨ ∀ ad, A' = some ad → W.heap.size ≤ ad.block) → wpList Tryd.prog ops Q rest (a.put o.dst (.slice A' (n + m) c')) w') :
    wpList Tryd.prog ops Q (o :: rest) a W := by
  obtain ⟨A', c', w', h1, h2, h3, h4⟩ := run_append_shp S W base o.type A n c t A2 m c2 u HO HR hbase hl
  exact wpList_exec hgd (exec_append s x _ ho hs hx h1) (h _ _ _ h2 h3 h4)
end
end Go.Proofs.YtifejiclenpfoaaDoor

/- Slices of elements of whatever shape: copy into one's own, clear behind the end, grow. -/
namespace Go.Proofs.YtifejiclenpfoaaDoor
open Go.RowKit
set_option linter.unusedVariables false
set_option linter.unusedSimpArgs false
set_option maxRecDepth 4000

theorem OV.put_in {w : World} {base : Nat} {e : TypeId} {sz : Nat} {ad : Addr} {n c : Nat} {xs : List Value} (h : OV w base e sz (some ad) n c xs) (o : Nat) (vs : List Value) (ho : o + vs.length ≤ n * sz) :
    OV (w.setCells ad.block (ad.off + o) vs) base e sz (some ad) n c (xs.take o ++ vs ++ xs.drop (o + vs.length)) := by
  obtain ⟨hb, hs, cur, hh, hfit, hcs⟩ := h.form ad rfl
  have hlen := h.len
  have hcap : n * sz ≤ c * sz := Nat.mul_le_mul_right _ h.cap
  obtain ⟨cur', h3, h4, h5⟩ := setCells_row vs (ad.off + o) w cur hh (by omega)
  refine ⟨by simp [hlen]; omega, h.cap, h.small, h.capmax, fun ad' ha => ?_, fun ha => by cases ha⟩
  injection ha with ha
  subst ha
  refine ⟨hb, hs, cur', h3, by rw [h4]; exact hfit, fun j v hj => ?_⟩
  have hsp := splice_get xs.toArray o vs (by rw [List.size_toArray]; omega) j
  have e1 : (splice xs.toArray o vs)[j]? = (xs.take o ++ vs ++ xs.drop (o + vs.length))[j]? := by simp [splice]
  rw [← e1, hsp] at hj
  rw [h5]
  by_cases hc : o ≤ j ∧ j < o + vs.length
  · rw [if_pos hc] at hj
    rw [if_pos (by omega), show ad.off + j - (ad.off + o) = j - o by omega]
    exact hj
  · rw [if_neg hc] at hj
    rw [if_neg (by omega)]
    exact hcs j v (by simpa using hj)
section
variable {α : Type} {S : Shape α} {w w1 : World} {base : Nat} {A : Option Addr} {n c : Nat} {l : List α}
theorem OS.put {ad : Addr} (h : OS S w base (some ad) n c l) (j : Nat) (u : List α) (hu : S.all u) (hj : j + u.length ≤ n) :
    OS S (w.setCells ad.block (ad.off + j * S.sz) (S.cells u)) base (some ad) n c (l.take j ++ u ++ l.drop (j + u.length)) := by
  have hul := Shape.cells_len hu
  have h2 : (j + u.length) * S.sz ≤ n * S.sz := Nat.mul_le_mul_right _ hj
  have hln := h.len
  refine ⟨?_, ((h.fits.take j).append hu).append (h.fits.drop _)⟩
  have h3 := h.ov.put_in (j * S.sz) (S.cells u) (by rw [hul, ← Nat.add_mul]; exact h2)
  rw [hul, ← Nat.add_mul, Shape.cells_take h.fits j (by omega), Shape.cells_drop h.fits (j + u.length) (by omega), ← Shape.cells_append, ← Shape.cells_append] at h3
  exact h3
theorem Shape.size {α : Type} (S : Shape α) : (Tryd.prog.info? S.t).map (·.size) = some S.sz := by
  obtain ⟨i0, hi, hzz⟩ := Option.map_eq_some_iff.1 S.info
  simp only [Prod.mk.injEq] at hzz
  rw [hi]
  exact congrArg some hzz.2.1
end
section
variable {α : Type} {base : Nat}
end
section
variable {o : Oper} {a : Act}
end
section
variable {α : Type} (S : Shape α) (A : Option Addr) (n c : Nat)
end
/-- A slice literal. -/
theorem run_lit_shp {α : Type} (S : Shape α) (W : World) (l : List α) (hf : S.all l) (hn : 0 < l.length) (hs : l.length * S.sz ≤ 16777216) (parts : Array (Nat × Value)) (hp : parts.toList = ((l.map S.val).zipIdx 0).map fun x => (x.2, x.1)) :
    (Instr.buildSlice S.ts l.length parts).run Tryd.prog W = .ok (.slice (some ⟨W.heap.size, 0, none⟩) l.length l.length) (W.alloc (.cells (S.cells l).toArray S.t)) := by
  obtain ⟨i0, hi, hzz⟩ := Option.map_eq_some_iff.1 S.info
  simp only [Prod.mk.injEq] at hzz
  obtain ⟨hz0, hz1, hz2⟩ := hzz
  have hpos := S.pos
  have hmul : 0 < l.length * S.sz := Nat.mul_pos hn hpos
  refine run_buildSlice W S.ts S.t l.length parts (S.cells l).toArray i0 (S.val S.z) S.und hi hz0 (by rw [hz1]; omega) (by rw [hz1]; omega) ?_
  rw [hp, hz1]
  have h1 : ∀ v ∈ l.map S.val, v.cells.size = S.sz := by
    intro v hv
    obtain ⟨a, ha, rfl⟩ := List.mem_map.1 hv
    rw [S.venc, List.size_toArray, S.len a (hf a ha)]
  rw [Great.fill_whole hpos _ _ h1 (by simp)]
  congr 2
  rw [List.flatMap_map]
  unfold Shape.cells
  congr 1
  funext a
  rw [S.venc]
theorem exec_lit1 {α : Type} (S : Shape α) {r : Operand → Value} {o : Oper} {x : Operand} (ho : o.op = .buildSlice S.ts 1 #[(0, x)]) (b : α) (hx : r x = S.val b) (hb : S.ok b) (hs : S.sz ≤ 16777216) (W : World) :
    (execOp r o).run Tryd.prog W = .ok (.value (.slice (some ⟨W.heap.size, 0, none⟩) 1 1)) (W.alloc (.cells (S.enc b).toArray S.t)) := by
  have h := run_lit_shp S W [b] (Shape.all_one hb) (by simp) (by simpa using hs) #[(0, S.val b)] rfl
  rw [Shape.cells_one] at h
  unfold execOp
  have e : (#[(0, x)].map fun (p : Nat × Operand) => (p.1, r p.2)) = #[(0, S.val b)] := by simp [hx]
  simp only [ho, Sem.run_bind]
  have h2 : (Instr.buildSlice S.ts 1 (#[(0, x)].map fun (p : Nat × Operand) => (p.1, r p.2))).run Tryd.prog W = .ok (.slice (some ⟨W.heap.size, 0, none⟩) 1 1) (W.alloc (.cells (S.enc b).toArray S.t)) := by rw [e]; exact h
  rw [h2]
  rfl
/-- One cell of a block, stored. -/
theorem run_store_cell {P : Program} {w : World} {g : Nat} {cs : Array Value} {t : TypeId} (h : w.heap[g]? = some (.cells cs t (0, 0))) (ty : TypeId) (o : Nat) (v : Value) (hfit : o < cs.size) (hi : (P.info? ty).map (·.size) = some 1) (h1 : v.cells = #[v]) (h2 : v.oneCell' = true) :
    ∃ w', (Instr.storeAt ty (.pointer (some ⟨g, o, none⟩)) v).run P w = .ok () w' ∧ w.grownBy w' (some g) ∧ w'.heap.size = w.heap.size ∧ w'.heap[g]? = some (.cells (cs.setIfInBounds o v) t (0, 0)) := by
  obtain ⟨w', hr, h3, h4, h5⟩ := run_store_blk (P := P) h ty o #[v] (by simp; omega) hi (by simp [h2])
  refine ⟨w', ?_, h3, h4, ?_⟩
  · rw [← hr]
    have e : (Value.agg #[v]).cells = v.cells := by rw [h1]; rfl
    simp only [Instr.storeAt, storeVar, e]
  · rw [h5]
    congr 2
    apply Array.ext_getElem?
    intro j
    rw [splice_get cs o _ (by simp; omega)]
    by_cases hj : o = j
    · subst hj
      simp [hfit]
    · rw [if_neg (by simp; omega), Array.getElem?_setIfInBounds_ne hj]
theorem wpList_store_cell {P : Program} {w : World} {g : Nat} {cs : Array Value} {t : TypeId} {ops : Array Oper} {rest : List Oper} {op : Oper} {a : Act} {Q : Exit → Act → World → Prop} (hb : w.heap[g]? = some (.cells cs t (0, 0))) (ty : TypeId) (o : Nat) (v : Value)
    (hfit : o < cs.size) (hi : (P.info? ty).map (·.size) = some 1) (h1 : v.cells = #[v]) (h2 : v.oneCell' = true)
    (x y : Operand) (ho : op.op = .store ty x y) (hx : a.eval x = .pointer (some ⟨g, o, none⟩)) (hy : a.eval y = v) (hw : Region.wanted op (yielded ops a.tmps) = true)
    (h : ∀ w', w.grownBy w' (some g) → w'.heap.size = w.heap.size → w'.heap[g]? = some (.cells (cs.setIfInBounds o v) t (0, 0)) → wpList P ops Q rest (a.put op.dst undef) w') : wpList P ops Q (op :: rest) a w := by
  obtain ⟨w', hr, h3, h4, h5⟩ := run_store_cell (P := P) hb ty o v hfit hi h1 h2
  refine wpList_step (fun K hK => ?_)
  rw [if_pos hw]
  unfold Oper.wp execOp
  simp only [ho, hx, hy, Sem.run_bind, hr, Result.andThen_ok, Sem.run_pure]
  exact hK _ _ (h w' h3 h4 h5)
theorem oper_store_cell {P : Program} {w : World} {g : Nat} {cs : Array Value} {t : TypeId} {op : Oper} {a : Act} {K : Act → World → Prop} {Q : Exit → Act → World → Prop} (hb : w.heap[g]? = some (.cells cs t (0, 0))) (ty : TypeId) (o : Nat) (v : Value)
    (hfit : o < cs.size) (hi : (P.info? ty).map (·.size) = some 1) (h1 : v.cells = #[v]) (h2 : v.oneCell' = true)
    (x y : Operand) (ho : op.op = .store ty x y) (hx : a.eval x = .pointer (some ⟨g, o, none⟩)) (hy : a.eval y = v)
    (h : ∀ w', w.grownBy w' (some g) → w'.heap.size = w.heap.size → w'.heap[g]? = some (.cells (cs.setIfInBounds o v) t (0, 0)) → K (a.put op.dst undef) w') : op.wp P a w K Q := by
  obtain ⟨w', hr, h3, h4, h5⟩ := run_store_cell (P := P) hb ty o v hfit hi h1 h2
  unfold Oper.wp execOp
  simp only [ho, hx, hy, Sem.run_bind, hr, Result.andThen_ok, Sem.run_pure]
  exact h w' h3 h4 h5
/-- Equality of elements. -/
structure ShapeEq {α : Type} (S : Shape α) where
  okE : α → Prop
  eqB : α → α → Bool
  iff : ∀ a b, eqB a b = true ↔ a = b
  eql : ∀ {r : Operand → Value} {o : Oper} {x y : Operand} {ty : TypeId}, o.op = .binOp .eql S.t x y ty → ∀ a b, r x = S.val a → r y = S.val b → okE a → okE b → ∀ w, (execOp r o).run Tryd.prog w = .ok (.value (.bool (eqB a b))) w
  neq : ∀ {r : Operand → Value} {o : Oper} {x y : Operand} {ty : TypeId}, o.op = .binOp .neq S.t x y ty → ∀ a b, r x = S.val a → r y = S.val b → okE a → okE b → ∀ w, (execOp r o).run Tryd.prog w = .ok (.value (.bool (!eqB a b))) w
section
variable {α : Type} {S : Shape α} (E : ShapeEq S)
def ShapeEq.eqL : List α → List α → Bool
  | [], [] => true
  | a :: s, b :: t => E.eqB a b && ShapeEq.eqL s t
  | _, _ => false
theorem ShapeEq.eqL_iff : ∀ s t : List α, E.eqL s t = true ↔ s = t
  | [], [] => by simp [ShapeEq.eqL]
  | [], _ :: _ => by simp [ShapeEq.eqL]
  | _ :: _, [] => by simp [ShapeEq.eqL]
  | a :: s, b :: t => by simp [ShapeEq.eqL, E.iff, ShapeEq.eqL_iff s t]
def ShapeEq.all (l : List α) : Prop := ∀ a ∈ l, E.okE a
theorem ShapeEq.all_at {E : ShapeEq S} {l : List α} (h : E.all l) {i : Nat} (hi : i < l.length) : E.okE (S.at_ l i) := h _ (List.mem_of_getElem? (Shape.at_get hi))
theorem ShapeEq.eqL_no {E : ShapeEq S} {s t : List α} {i : Nat} (hs : i < s.length) (ht : i < t.length) (h : E.eqB (S.at_ s i) (S.at_ t i) = false) : E.eqL s t = false := by
  rw [Bool.eq_false_iff]
  intro k
  rw [E.eqL_iff] at k
  subst k
  rw [Bool.eq_false_iff] at h
  exact h ((E.iff _ _).2 rfl)
theorem ShapeEq.eqL_len {E : ShapeEq S} {s t : List α} (h : s.length ≠ t.length) : E.eqL s t = false := by
  rw [Bool.eq_false_iff]
  intro k
  rw [E.eqL_iff] at k
  exact h (by rw [k])
theorem ShapeEq.eqL_yes {E : ShapeEq S} {s t : List α} (hl : s.length = t.length) (h : ∀ i, i < s.length → E.eqB (S.at_ s i) (S.at_ t i) = true) : E.eqL s t = true := by
  rw [E.eqL_iff]
  apply List.ext_getElem? 
  intro i
  by_cases hi : i < s.length
  · rw [Shape.at_get (S := S) hi, Shape.at_get (S := S) (by omega)]
    exact congrArg some ((E.iff _ _).1 (h i hi))
  · rw [List.getElem?_eq_none_iff.2 (by omega), List.getElem?_eq_none_iff.2 (by omega)]
end
end Go.Proofs.YtifejiclenpfoaaDoor

/- Arguments that are slices of elements of whatever shape, opened; nested ones too. -/
namespace Go.Proofs.YtifejiclenpfoaaDoor
open Go.ChangeShapes Go.WideShapes Go.ChangeAt Go.RowKit
set_option linter.unusedVariables false
set_option linter.unusedSimpArgs false
set_option maxRecDepth 4000
section
variable {H : Type} {enc : TypeId × Value → H} {P : Program} {W : World} {base : Nat} {spare : Nat → Bool} {held : Bool}
/-- All that lies in a datum has its weight. -/
def Light (P : Program) (t : TypeId) (d : DataW H) : Prop := ∀ n ∈ d.weights P t, n ≤ reachBytes
theorem light_of {ts : List TypeId} {ds : List (DataW H)} {j : Nat} {t : TypeId} {d : DataW H} (hsz : (DataW.weightsEach P ts ds).all (· ≤ reachBytes) = true) (ht : ts[j]? = some t) (hd : ds[j]? = some d) : Light P t d := fun n hn => by
  have := List.all_eq_true.1 hsz _ (DataW.weights_mem_each ht hd n hn)
  simpa using this
theorem light_field {t : TypeId} {fs : Array Field} (hu : P.underlying t = some (.struct fs)) {xs : List (DataW H)} (h : Light P t (.agg xs)) {i : Nat} {f : Field} {d : DataW H} (hf : fs[i]? = some f) (hx : xs[i]? = some d) : Light P f.type d := fun n hn => by
  refine h n ?_
  simp only [DataW.weights, hu]
  refine DataW.weights_mem_each (j := i) (t := f.type) ?_ hx n hn
  rw [List.getElem?_map, Array.getElem?_toList, hf]
  rfl
theorem weights_mem_all {e : TypeId} : ∀ {ds : List (DataW H)} {i : Nat} {d : DataW H}, ds[i]? = some d → ∀ n ∈ d.weights P e, n ∈ DataW.weightsAll P e ds
  | d0 :: ds, 0, d, hd, n, hn => by
    simp only [List.getElem?_cons_zero, Option.some.injEq] at hd
    subst hd
    simp only [DataW.weightsAll, List.mem_append]
    exact .inl hn
  | d0 :: ds, i + 1, d, hd, n, hn => by
    simp only [List.getElem?_cons_succ] at hd
    simp only [DataW.weightsAll, List.mem_append]
    exact .inr (weights_mem_all hd n hn)
  | [], _, _, hd, _, _ => by simp at hd
theorem light_elem {t e : TypeId} (hu : P.underlying t = some (.slice e)) {es sp : List (DataW H)} (h : Light P t (.slice es sp)) {i : Nat} {d : DataW H} (hx : es[i]? = some d) : Light P e d := fun n hn => by
  refine h n ?_
  simp only [DataW.weights, hu, List.mem_cons, List.mem_append]
  exact .inr (.inl (weights_mem_all hx n hn))
theorem light_len {t e : TypeId} (hu : P.underlying t = some (.slice e)) {es sp : List (DataW H)} (h : Light P t (.slice es sp)) : es.length * P.bytesOf e ≤ reachBytes := by
  have h1 : (es.length + sp.length) * P.bytesOf e ≤ reachBytes := h _ (by simp only [DataW.weights, hu, List.mem_cons, true_or])
  exact Nat.le_trans (Nat.mul_le_mul_right _ (Nat.le_add_right _ _)) h1
/-- A slice, its elements one by one. -/
theorem open_elems {t e : TypeId} {m : Nat} (hu : P.underlying t = some (.slice e)) (hm : P.cellsOf e = m) {cs : List Value} {fuel : Nat} {x : DataW H × List MemPlace}
    (h : DataW.trod enc P W base spare held fuel t cs = some x) (hl : Light P t x.1) :
    ∃ A len cap, cs = [.slice A len cap] ∧ len ≤ cap ∧ len * P.bytesOf e ≤ reachBytes ∧ (len = 0 ∨ ∃ (ad : Addr) (rows : Nat → List Value), A = some ad ∧ ∀ i, i < len → (rows i).length = m ∧ (∀ j, j < m → W.cell? ((ad.add (i * m)).add j) = (rows i)[j]?) ∧ ∃ n y, DataW.trod enc P W base spare held n e (rows i) = some y ∧ Light P e y.1) := by
  rcases DataW.trod_slice hu h with ⟨hcs, -⟩ | ⟨a, l, c, elems, rest, n, -, hcs, hx, -, hlc, -, hel, hc, -, -⟩
  · exact ⟨none, 0, 0, hcs, Nat.le_refl _, by simp, .inl rfl⟩
  · subst hx
    have hll := light_len hu hl
    rw [List.length_map, hel] at hll
    refine ⟨some a, l, c, hcs, hlc, hll, ?_⟩
    rcases Nat.eq_zero_or_pos l with h0 | h0
    · exact .inl h0
    · right
      rw [hm] at hc
      refine ⟨a, fun i => (W.cells? base (a.add (i * m)) m).getD [], rfl, fun i hi => ?_⟩
      have h1 := hc i hi
      cases hcs : W.cells? base (a.add (i * m)) m with
      | none =>
        rw [hcs] at h1
        simp at h1
        omega
      | some cs =>
        obtain ⟨-, hl2, hcell⟩ := World.cells?_some hcs
        rw [hcs] at h1
        simp only [Option.bind_some] at h1
        simp only [hcs, Option.getD_some]
        refine ⟨hl2, hcell, n, elems[i]'(by omega), ?_, light_elem hu hl (i := i) ?_⟩
        · rw [h1, List.getElem?_eq_getElem (by omega)]
        · simp [List.getElem?_eq_getElem (show i < elems.length by omega)]
end
theorem Shape.cells_get {α : Type} {S : Shape α} {l : List α} (hf : S.all l) (k : Nat) : (S.cells l)[k]? = (l[k / S.sz]?).bind (fun a => (S.enc a)[k % S.sz]?) := by
  have h1 : ∀ v ∈ l.map S.val, v.cells.size = S.sz := by
    intro v hv
    obtain ⟨a, ha, rfl⟩ := List.mem_map.1 hv
    rw [S.venc, List.size_toArray, S.len a (hf a ha)]
  have h2 := Great.flat_get S.pos (l.map S.val) h1 k
  have e : ((l.map S.val).flatMap fun v => v.cells.toList) = S.cells l := by
    rw [List.flatMap_map]
    unfold Shape.cells
    congr 1
    funext a
    rw [S.venc]
  rw [e] at h2
  rw [h2, List.getElem?_map]
  cases l[k / S.sz]? with
  | none => rfl
  | some a =>
    simp only [Option.map_some, Option.bind_some, S.venc]
    simp
theorem open_shp {H : Type} {enc : TypeId × Value → H} {W : World} {base : Nat} {spare : Nat → Bool} {held : Bool} {α : Type} (S : Shape α) (X : α → Prop) (hm : Tryd.prog.cellsOf S.t = S.sz) (hB : 0 < Tryd.prog.bytesOf S.t)
    (helem : ∀ fuel cs y, DataW.trod enc Tryd.prog W base spare held fuel S.t cs = some y → Light Tryd.prog S.t y.1 → ∃ a, cs = S.enc a ∧ S.ok a ∧ X a) {cs : List Value} {fuel : Nat} {x : DataW H × List MemPlace}
    (h : DataW.trod enc Tryd.prog W base spare held fuel S.ts cs = some x) (hl : Light Tryd.prog S.ts x.1) :
    ∃ A len cap l, cs = [.slice A len cap] ∧ RS S W A len cap l ∧ (∀ a ∈ l, X a) ∧ len * Tryd.prog.bytesOf S.t ≤ reachBytes := by
  obtain ⟨A, len, cap, hcs, hlc, hll, h0 | ⟨ad, rows, rfl, hr⟩⟩ := open_elems S.und hm h hl
  · subst h0
    exact ⟨A, 0, cap, [], hcs, RS.nil S W A cap, fun a ha => (by cases ha), hll⟩
  · have hrow : ∀ i, i < len → ∃ a, rows i = S.enc a ∧ S.ok a ∧ X a := fun i hi => by
      obtain ⟨-, -, n, y, hy, hly⟩ := hr i hi
      exact helem n _ y hy hly
    obtain ⟨f, hfun⟩ : ∃ f : Nat → α, ∀ i, i < len → rows i = S.enc (f i) ∧ S.ok (f i) ∧ X (f i) :=
      ⟨fun i => if hi : i < len then Classical.choose (hrow i hi) else S.z, fun i hi => by
        have := Classical.choose_spec (hrow i hi)
        simp only [hi, dif_pos]
        exact this⟩
    have hmem : ∀ a ∈ (List.range len).map f, ∃ i, i < len ∧ a = f i := fun a ha => by
      obtain ⟨i, hi, rfl⟩ := List.mem_map.1 ha
      exact ⟨i, by simpa using hi, rfl⟩
    have hall : S.all ((List.range len).map f) := fun a ha => by
      obtain ⟨i, hi, rfl⟩ := hmem a ha
      exact (hfun i hi).2.1
    have hsm : len ≤ 281474976710656 := by
      have h2 : len ≤ len * Tryd.prog.bytesOf S.t := Nat.le_mul_of_pos_right _ hB
      have h3 := reachBytes_lt
      omega
    refine ⟨some ad, len, cap, (List.range len).map f, hcs, ⟨⟨by rw [Shape.cells_len hall]; simp, hlc, hsm, fun hp => ⟨ad, rfl, fun j v hj => ?_⟩⟩, hall⟩, fun a ha => ?_, hll⟩
    · rw [Shape.cells_get hall] at hj
      have hpos := S.pos
      have hdm := Nat.div_add_mod' j S.sz
      cases hq : ((List.range len).map f)[j / S.sz]? with
      | none => rw [hq] at hj; cases hj
      | some a =>
        rw [hq] at hj
        simp only [Option.bind_some] at hj
        have hlt : j / S.sz < len := by
          have := (List.getElem?_eq_some_iff.1 hq).1
          simpa using this
        have hfa : a = f (j / S.sz) := by
          rw [List.getElem?_map, List.getElem?_range hlt] at hq
          simpa using hq.symm
        have h1 := (hr _ hlt).2.1 (j % S.sz) (Nat.mod_lt _ hpos)
        rw [add_add, hdm, (hfun _ hlt).1, ← hfa, hj] at h1
        exact h1
    · obtain ⟨i, hi, rfl⟩ := hmem a ha
      exact (hfun i hi).2.2
end Go.Proofs.YtifejiclenpfoaaDoor

/- Two arrays of sixteen bytes, held equal. -/
namespace Go.Proofs.YtifejiclenpfoaaDoor
open Go.RowKit
set_option linter.unusedVariables false
set_option linter.unusedSimpArgs false
set_option maxRecDepth 4000

theorem mapM_all {α β : Type} (f : α → Option β) (g : α → β) : ∀ is : List α, (∀ i ∈ is, f i = some (g i)) → is.mapM f = some (is.map g)
  | [], _ => rfl
  | i :: is, h => by
    rw [List.mapM_cons, h i (by simp), mapM_all f g is (fun j hj => h j (by simp [hj]))]
    rfl
theorem flat1 {α β : Type} (f : α → β) : ∀ is : List α, (is.map fun i => [f i]).flatten = is.map f
  | [] => rfl
  | i :: is => by
    have := flat1 f is
    simp only [List.map_cons, List.flatten_cons, this]
    rfl
theorem key_u8 (x : Int) (h0 : 0 ≤ x) (h1 : x < 256) : Tryd.prog.keyLits 1 5 [.int .u8 x] = some [Lit.int .u8 x] := by
  unfold Program.keyLits
  rw [Tryd.underlying5]
  simp [Lit.wf, IntKind.min, IntKind.max, IntKind.bits, IntKind.signed]
  omega
theorem keys_arr (l : List Int) (hl : B16 l) : (List.range 16).mapM (fun i => Tryd.prog.keyLits 1 5 (((arrV l).toList.drop (i * Tryd.prog.cellsOf 5)).take (Tryd.prog.cellsOf 5))) = some ((List.range 16).map fun i => [Lit.int .u8 (rd l ((i : Nat) : Int))]) := by
  have hc : Tryd.prog.cellsOf 5 = 1 := by kernel_rfl
  rw [hc]
  refine mapM_all _ _ _ (fun i hi => ?_)
  have hi' : i < l.length := by rw [hl.len]; exact List.mem_range.1 hi
  have hr := hl.rd (i : Int)
  have e : ((arrV l).toList.drop (i * 1)).take 1 = [.int .u8 (rd l (i : Int))] := by
    apply List.ext_getElem?
    intro j
    cases j with
    | zero =>
      rw [List.getElem?_take]
      simp only [Nat.mul_one, List.getElem?_drop, arrV, Nat.add_zero, if_pos (show 0 < 1 by omega), List.getElem?_cons_zero]
      exact nums_get .u8 l i hi'
    | succ j =>
      rw [List.getElem?_take, if_neg (by omega)]
      rfl
  rw [e, key_u8 _ hr.1 hr.2]
end Go.Proofs.YtifejiclenpfoaaDoor

/- The comparison of two arrays as an operation. -/
namespace Go.Proofs.YtifejiclenpfoaaDoor
open Go.RowKit
set_option linter.unusedVariables false
set_option linter.unusedSimpArgs false
set_option maxRecDepth 4000
end Go.Proofs.YtifejiclenpfoaaDoor

/- Two prefixes, two addresses, held equal. -/
namespace Go.Proofs.YtifejiclenpfoaaDoor
open Go.RowKit
set_option linter.unusedVariables false
set_option linter.unusedSimpArgs false
set_option maxRecDepth 4000

def lits (k : IntKind) (l : List Int) : List Lit := l.map fun x => .int k x
theorem keyl_arr (l : List Int) (hl : B16 l) : Tryd.prog.keyLits 2 98 (nums .u8 l) = some (lits .u8 l) := by
  have hk := keys_arr l hl
  have he : (arrV l).toList = nums .u8 l := by simp [arrV]
  rw [he] at hk
  unfold Program.keyLits
  rw [Tryd.underlying98]
  simp only
  rw [if_pos (by rw [show (nums .u8 l).length = 16 by simp [nums, hl.len]]; kernel_rfl), hk]
  simp only [Option.map_some, flat1]
  refine congrArg some ?_
  unfold lits
  apply List.ext_getElem
  · simp [hl.len]
  · intro i h1 h2
    simp only [List.length_map, List.length_range] at h1
    simp [rd, List.getD_eq_getElem?_getD, hl.len, h1]
theorem keyl_int (d : Nat) (v : Int) (hv : (Lit.int .i64 v).wf = true) : Tryd.prog.keyLits (d + 1) 3 [.int .i64 v] = some [.int .i64 v] := by
  unfold Program.keyLits
  rw [Tryd.underlying3]
  simp only
  rw [if_pos ⟨trivial, hv⟩]
theorem keyl_adr (v : Int) (l : List Int) (hl : B16 l) (hv : (Lit.int .i64 v).wf = true) : Tryd.prog.keyLits 3 100 (adrV v l).toList = some (.int .i64 v :: lits .u8 l) := by
  unfold Program.keyLits
  rw [Tryd.underlying100]
  simp only
  have h1 : (adrV v l).toList = .int .i64 v :: nums .u8 l := by simp [adrV]
  rw [h1, if_pos ⟨by rw [show (Value.int IntKind.i64 v :: nums .u8 l).length = 17 by simp [nums, hl.len]]; kernel_rfl, by kernel_rfl⟩]
  have c1 : Tryd.prog.cellsOf 3 = 1 := by kernel_rfl
  have c2 : Tryd.prog.cellsOf 98 = 16 := by kernel_rfl
  simp only [List.mapM_cons, List.mapM_nil, c1, c2, List.drop_zero, List.take_succ_cons, List.take_zero, List.drop_succ_cons]
  rw [keyl_int 1 v hv, List.take_of_length_le (by simp [nums, hl.len]), keyl_arr l hl]
  simp
theorem keyl_pfx (v : Int) (l : List Int) (b : Int) (hl : B16 l) (hv : (Lit.int .i64 v).wf = true) (hb : (Lit.int .i64 b).wf = true) : Tryd.prog.keyLits 4 102 (pfxV v l b).toList = some (.int .i64 v :: lits .u8 l ++ [.int .i64 b]) := by
  unfold Program.keyLits
  rw [Tryd.underlying102]
  simp only
  have h1 : (pfxV v l b).toList = .int .i64 v :: (nums .u8 l ++ [.int .i64 b]) := by simp [pfxV]
  rw [h1, if_pos ⟨by rw [show (Value.int IntKind.i64 v :: (nums .u8 l ++ [Value.int IntKind.i64 b])).length = 18 by simp [nums, hl.len]]; kernel_rfl, by kernel_rfl⟩]
  have c1 : Tryd.prog.cellsOf 100 = 17 := by kernel_rfl
  have c2 : Tryd.prog.cellsOf 3 = 1 := by kernel_rfl
  have hln : (nums .u8 l).length = 16 := by simp [nums, hl.len]
  have e1 : (Value.int IntKind.i64 v :: (nums .u8 l ++ [Value.int IntKind.i64 b])).take 17 = (adrV v l).toList := by
    simp [adrV, List.take_append, hln]
  have e2 : (Value.int IntKind.i64 v :: (nums .u8 l ++ [Value.int IntKind.i64 b])).drop 17 = [.int .i64 b] := by
    simp [List.drop_append, hln]
  simp only [List.mapM_cons, List.mapM_nil, c1, c2, List.drop_zero]
  rw [e1, e2, keyl_adr v l hl hv]
  simp only [List.take_succ_cons, List.take_zero]
  rw [keyl_int 2 b hb]
  simp
theorem lits_inj {k : IntKind} : ∀ {l m : List Int}, lits k l = lits k m → l = m
  | [], [], _ => rfl
  | [], _ :: _, h => by simp [lits] at h
  | _ :: _, [], h => by simp [lits] at h
  | a :: l, b :: m, h => by
    simp only [lits, List.map_cons, List.cons.injEq, Lit.int.injEq, true_and] at h
    rw [h.1, lits_inj (l := l) (m := m) h.2]
theorem pfx_formed (v : Int) (l : List Int) (b : Int) (hl : B16 l) : (Value.agg (pfxV v l b)).formed Tryd.prog 102 = true := by
  simp only [Value.formed, Tryd.underlying102, pfx_size hl.len]
  kernel_rfl
structure Pfx.ok (p : Pfx) : Prop where
  l : B16 p.l
  v : (Lit.int .i64 p.v).wf = true
  b : (Lit.int .i64 p.b).wf = true
def Pfx.eqB (p q : Pfx) : Bool := decide (p.v = q.v) && decide (p.l = q.l) && decide (p.b = q.b)
theorem Pfx.eqB_iff (p q : Pfx) : p.eqB q = true ↔ p = q := by
  unfold Pfx.eqB
  simp only [Bool.and_eq_true, decide_eq_true_eq]
  constructor
  · rintro ⟨⟨h1, h2⟩, h3⟩
    cases p; cases q
    simp_all
  · rintro rfl
    exact ⟨⟨rfl, rfl⟩, rfl⟩
theorem pfx_equal (p q : Pfx) (hp : p.ok) (hq : q.ok) (w : World) : (Op.equal 102 (.agg (pfxV p.v p.l p.b)) (.agg (pfxV q.v q.l q.b))).run Tryd.prog w = .ok (p.eqB q) w := by
  obtain ⟨r, hr, hiff⟩ := run_equalIn_deep (P := Tryd.prog) 9996 4 102 (by kernel_rfl) w 4 4 (.agg (pfxV p.v p.l p.b)) (.agg (pfxV q.v q.l q.b)) _ _ (pfx_formed _ _ _ hp.l) (pfx_formed _ _ _ hq.l) (keyl_pfx _ _ _ hp.l hp.v hp.b) (keyl_pfx _ _ _ hq.l hq.v hq.b)
  have h2 : (Op.equal 102 (.agg (pfxV p.v p.l p.b)) (.agg (pfxV q.v q.l q.b))).run Tryd.prog w = .ok r w := hr
  suffices hs : r = p.eqB q by rw [h2, hs]
  rw [Bool.eq_iff_iff, hiff, Pfx.eqB_iff]
  constructor
  · intro h
    simp only [List.cons_append, List.cons.injEq, Lit.int.injEq, true_and] at h
    obtain ⟨h3, h4⟩ := h
    obtain ⟨h5, h6⟩ := List.append_inj h4 (by simp [lits, hp.l.len, hq.l.len])
    simp only [List.cons.injEq, Lit.int.injEq, true_and, and_true] at h6
    cases p; cases q
    simp only at h3 h5 h6
    rw [h3, lits_inj h5, h6]
  · rintro rfl
    rfl
section
variable {r : Operand → Value} {o : Oper} {x y : Operand} {ty : TypeId}
theorem exec_eql (t : TypeId) (hgt : Tryd.prog.eqGuardType Tryd.prog.depth t = false) (ho : o.op = .binOp .eql t x y ty) (cx cy : Array Value) (hx : r x = .agg cx) (hy : r y = .agg cy) (w : World) {b : Bool}
    (he : (Op.equal t (.agg cx) (.agg cy)).run Tryd.prog w = .ok b w) : (execOp r o).run Tryd.prog w = .ok (.value (.bool b)) w := by
  have hg : (eqGuard .eql t x y (.agg cx) (.agg cy)).run Tryd.prog w = .ok () w := by
    simp [eqGuard, Sem.run_bind, run_program, hgt]
  have hq : (binOp .eql t (.agg cx) (.agg cy)).run Tryd.prog w = .ok (.bool b) w := by
    show ((do pure (Value.bool (← Op.equal t (.agg cx) (.agg cy))) : Sem Value)).run Tryd.prog w = _
    rw [Sem.run_bind, he]
    rfl
  unfold execOp
  simp only [ho, hx, hy, Sem.run_bind, hg, hq, Result.andThen_ok, Sem.run_pure]
theorem exec_neq (t : TypeId) (hgt : Tryd.prog.eqGuardType Tryd.prog.depth t = false) (ho : o.op = .binOp .neq t x y ty) (cx cy : Array Value) (hx : r x = .agg cx) (hy : r y = .agg cy) (w : World) {b : Bool}
    (he : (Op.equal t (.agg cx) (.agg cy)).run Tryd.prog w = .ok b w) : (execOp r o).run Tryd.prog w = .ok (.value (.bool (!b))) w := by
  have hg : (eqGuard .neq t x y (.agg cx) (.agg cy)).run Tryd.prog w = .ok () w := by
    simp [eqGuard, Sem.run_bind, run_program, hgt]
  have hq : (binOp .neq t (.agg cx) (.agg cy)).run Tryd.prog w = .ok (.bool (!b)) w := by
    show ((do pure (Value.bool (!(← Op.equal t (.agg cx) (.agg cy)))) : Sem Value)).run Tryd.prog w = _
    rw [Sem.run_bind, he]
    rfl
  unfold execOp
  simp only [ho, hx, hy, Sem.run_bind, hg, hq, Result.andThen_ok, Sem.run_pure]
theorem pfx_eql_exec (ho : o.op = .binOp .eql 102 x y ty) (p q : Pfx) (hx : r x = .agg (pfxV p.v p.l p.b)) (hy : r y = .agg (pfxV q.v q.l q.b)) (hp : p.ok) (hq : q.ok) (w : World) : (execOp r o).run Tryd.prog w = .ok (.value (.bool (p.eqB q))) w :=
  exec_eql 102 (by kernel_rfl) ho _ _ hx hy w (pfx_equal p q hp hq w)
end
end Go.Proofs.YtifejiclenpfoaaDoor

/- Arguments that are addresses and prefixes, opened. -/
namespace Go.Proofs.YtifejiclenpfoaaDoor
open Go.ChangeShapes Go.WideShapes Go.ChangeAt Go.RowKit
set_option linter.unusedVariables false
set_option linter.unusedSimpArgs false
set_option maxRecDepth 4000
def cellI : Option Value → Int
  | some (.int _ y) => y
  | _ => 0
section
variable {H : Type} {enc : TypeId × Value → H} {W : World} {base : Nat} {spare : Nat → Bool} {held : Bool} {fuel : Nat} {x : DataW H × List MemPlace}
theorem open_arr16 {cs : List Value} (h : DataW.trod enc Tryd.prog W base spare held fuel 98 cs = some x) : ∃ l, cs = nums .u8 l ∧ B16 l := by
  obtain ⟨xs, m, -, -, hlen, hxl, hel⟩ := DataW.trod_array Tryd.underlying98 h
  have c1 : Tryd.prog.cellsOf 5 = 1 := by kernel_rfl
  have c2 : Tryd.prog.cellsOf 98 = 16 := by kernel_rfl
  rw [c2] at hlen
  have hat : ∀ i, i < 16 → ∃ y : Int, cs[i]? = some (.int .u8 y) ∧ (Lit.int .u8 y).wf = true := by
    intro i hi
    have h1 := hel i hi
    rw [c1, Nat.mul_one] at h1
    cases hx : xs[i]? with
    | none =>
      rw [hx] at h1
      exfalso
      have : xs.length ≤ i := List.getElem?_eq_none_iff.1 hx
      omega
    | some x0 =>
      rw [hx] at h1
      obtain ⟨y, hy, -, hw⟩ := DataW.trod_int Tryd.underlying5 h1
      refine ⟨y, ?_, hw⟩
      have h2 := congrArg (fun l => l[0]?) hy
      simpa [List.getElem?_take, List.getElem?_drop] using h2
  refine ⟨(List.range 16).map fun i => cellI cs[i]?, ?_, ?_, ?_⟩
  · apply List.ext_getElem (by simp [nums, hlen])
    intro i h1 h2
    obtain ⟨y, hy, -⟩ := hat i (by omega)
    have h3 : cs[i] = .int .u8 y := by
      rw [List.getElem?_eq_getElem h1] at hy
      injection hy
    simp [nums, h3, hy, cellI]
  · simp
  · intro z hz
    simp only [List.mem_map, List.mem_range] at hz
    obtain ⟨i, hi, rfl⟩ := hz
    obtain ⟨y, hy, hw⟩ := hat i hi
    simp only [hy, cellI]
    simp [Lit.wf, IntKind.min, IntKind.max, IntKind.bits, IntKind.signed] at hw
    omega
theorem one_of {l : List Value} {v : Value} (h : l.take 1 = [v]) : l = v :: l.drop 1 := by
  cases l with
  | nil => cases h
  | cons a r =>
    simp only [List.take_succ_cons, List.take_zero, List.cons.injEq, and_true] at h
    rw [h]
    rfl
theorem open_adr_cells {cs : List Value} (h : DataW.trod enc Tryd.prog W base spare held fuel 100 cs = some x) : ∃ v l, cs = .int .i64 v :: nums .u8 l ∧ B16 l ∧ (Lit.int .i64 v).wf = true := by
  obtain ⟨xs, m, -, -, hlen, hxl, hg⟩ := DataW.trod_struct Tryd.underlying100 h
  have c1 : Tryd.prog.cellsOf 3 = 1 := by kernel_rfl
  have c2 : Tryd.prog.cellsOf 98 = 16 := by kernel_rfl
  have c3 : Tryd.prog.cellsOf 100 = 17 := by kernel_rfl
  have h0 : DataW.trod enc Tryd.prog W base spare held m 3 ((cs.drop 0).take (Tryd.prog.cellsOf 3)) = xs[0]? := hg 0 _ rfl
  have h1 : DataW.trod enc Tryd.prog W base spare held m 98 ((cs.drop 1).take (Tryd.prog.cellsOf 98)) = xs[1]? := hg 1 _ rfl
  rw [c3] at hlen
  rw [c1, List.drop_zero] at h0
  rw [c2] at h1
  have hx2 : xs.length = 2 := hxl
  match xs, hx2 with
  | [x0, x1], _ =>
    obtain ⟨v, hv, -, hw⟩ := DataW.trod_int Tryd.underlying3 (show DataW.trod enc Tryd.prog W base spare held m 3 (cs.take 1) = some x0 from h0)
    obtain ⟨l, hl, hb⟩ := open_arr16 (show DataW.trod enc Tryd.prog W base spare held m 98 ((cs.drop 1).take 16) = some x1 from h1)
    rw [List.take_of_length_le (by rw [List.length_drop]; omega)] at hl
    exact ⟨v, l, by rw [one_of hv, hl], hb, hw⟩
theorem open_pfx_cells {cs : List Value} (h : DataW.trod enc Tryd.prog W base spare held fuel 102 cs = some x) : ∃ v l b, cs = .int .i64 v :: (nums .u8 l ++ [.int .i64 b]) ∧ B16 l ∧ (Lit.int .i64 v).wf = true ∧ (Lit.int .i64 b).wf = true := by
  obtain ⟨xs, m, -, -, hlen, hxl, hg⟩ := DataW.trod_struct Tryd.underlying102 h
  have c1 : Tryd.prog.cellsOf 3 = 1 := by kernel_rfl
  have c2 : Tryd.prog.cellsOf 100 = 17 := by kernel_rfl
  have c3 : Tryd.prog.cellsOf 102 = 18 := by kernel_rfl
  have h0 : DataW.trod enc Tryd.prog W base spare held m 100 ((cs.drop 0).take (Tryd.prog.cellsOf 100)) = xs[0]? := hg 0 _ rfl
  have h1 : DataW.trod enc Tryd.prog W base spare held m 3 ((cs.drop 17).take (Tryd.prog.cellsOf 3)) = xs[1]? := hg 1 _ rfl
  rw [c3] at hlen
  rw [c2, List.drop_zero] at h0
  rw [c1] at h1
  have hx2 : xs.length = 2 := hxl
  match xs, hx2 with
  | [x0, x1], _ =>
    obtain ⟨v, l, hvl, hb, hw⟩ := open_adr_cells (show DataW.trod enc Tryd.prog W base spare held m 100 (cs.take 17) = some x0 from h0)
    obtain ⟨b, hv, -, hwb⟩ := DataW.trod_int Tryd.underlying3 (show DataW.trod enc Tryd.prog W base spare held m 3 ((cs.drop 17).take 1) = some x1 from h1)
    rw [List.take_of_length_le (by rw [List.length_drop]; omega)] at hv
    refine ⟨v, l, b, ?_, hb, hw, hwb⟩
    rw [← List.take_append_drop 17 cs, hvl, hv]
    rfl
end
end Go.Proofs.YtifejiclenpfoaaDoor

/- Plain laws of layer 5, fourth part: what bytes tell. -/
namespace Go.Proofs.YtifejiclenpfoaaDoor
set_option linter.unusedVariables false
set_option linter.unusedSimpArgs false
set_option maxRecDepth 4000

def fullB (b : Int) : Nat := ((b + 7) / 8).toNat
/-- Bytes, noughts behind them: sixteen. -/
def pad (l : List Int) : List Int := l ++ List.replicate (16 - l.length) 0
/-- What the bytes of an address are, of which so many bits may be set. -/
def someE (xs : List Int) (bits : Nat) (wrong : Int) : Int := if xs.length < fullB bits then 7 else if clearA (pad (xs.take (fullB bits))) bits then 0 else wrong
theorem fullB_le {bits : Nat} (h : bits ≤ 128) : fullB bits ≤ 16 := by unfold fullB; omega
end Go.Proofs.YtifejiclenpfoaaDoor

/- Plain laws of layer 5, fifth part: the prefixes of an address. -/
namespace Go.Proofs.YtifejiclenpfoaaDoor
set_option linter.unusedVariables false
set_option linter.unusedSimpArgs false
set_option maxRecDepth 4000

end Go.Proofs.YtifejiclenpfoaaDoor

/- Plain laws of layer 5, sixth part: there and back. -/
namespace Go.Proofs.YtifejiclenpfoaaDoor
set_option linter.unusedVariables false
set_option linter.unusedSimpArgs false
set_option maxRecDepth 4000

def encP (p : Pfx) : List Int := p.v % 256 :: p.b % 256 :: p.l.take (fullB p.b)
theorem right_b {p : Pfx} (h : p.right = true) : ∃ b : Nat, p.b = b ∧ b ≤ widthA p.v ∧ b ≤ 128 := by
  obtain ⟨h1, h2, h3, h4⟩ := (p.right_iff).1 h
  have := widthA_le p.v
  exact ⟨p.b.toNat, by omega, by omega, by omega⟩
theorem encP_len {p : Pfx} (hp : B16 p.l) (h : p.right = true) : (encP p).length = 2 + fullB p.b := by
  obtain ⟨b, hb, hw, h128⟩ := right_b h
  have hf := fullB_le h128
  simp [encP, hp.len, hb]
  omega
end Go.Proofs.YtifejiclenpfoaaDoor

/- Plain laws of tables (layer 9): rows by rising prefixes; the longest match; set, drop and get. -/
namespace Go.Proofs.YtifejiclenpfoaaDoor
set_option linter.unusedVariables false
set_option linter.unusedSimpArgs false
set_option maxRecDepth 4000

structure Row where
  p : Pfx
  h : Int
def Row.fits (r : Row) : Prop := B16 r.p.l
def Row.okB (r : Row) : Bool := r.p.right && decide (1 ≤ r.h) && decide (r.h ≤ 255)
def rowZ : Row := ⟨⟨0, List.replicate 16 0, 0⟩, 0⟩
def rising : List Row → Bool
  | [] => true
  | [_] => true
  | a :: b :: t => decide (a.p.cmp b.p < 0) && rising (b :: t)
/-- May it be a table? -/
def tabB (t : List Row) : Bool := decide (t.length ≤ 40) && t.all Row.okB && rising t
def rowAt (t : List Row) (i : Nat) : Row := t.getD i rowZ
theorem rowAt_get {t : List Row} {i : Nat} (h : i < t.length) : t[i]? = some (rowAt t i) := by
  simp [rowAt, List.getD_eq_getElem?_getD, h]
/-! The longest match. -/
def bestStep (v : Int) (l : List Int) (b : Option Row) (r : Row) : Option Row := if r.p.has v l && (match b with | none => true | some x => decide (x.p.b < r.p.b)) then some r else b
def longest (t : List Row) (v : Int) (l : List Int) : Option Row := t.foldl (bestStep v l) none
/-- The row at place i matches; none that matches has more bits, and none ahead of it as many. -/
structure Best (t : List Row) (v : Int) (l : List Int) (i : Nat) (r : Row) : Prop where
  at_ : t[i]? = some r
  has : r.p.has v l = true
  top : ∀ j x, t[j]? = some x → x.p.has v l = true → x.p.b ≤ r.p.b ∧ (j < i → x.p.b < r.p.b)
end Go.Proofs.YtifejiclenpfoaaDoor

/- Plain laws of tables (layer 9), second part: set, drop and get. -/
namespace Go.Proofs.YtifejiclenpfoaaDoor
set_option linter.unusedVariables false
set_option linter.unusedSimpArgs false
set_option maxRecDepth 4000

def Fits (t : List Row) : Prop := ∀ r ∈ t, B16 r.p.l
end Go.Proofs.YtifejiclenpfoaaDoor

/- Plain laws of tables (layer 9), third part: tables by what is in them. -/
namespace Go.Proofs.YtifejiclenpfoaaDoor
set_option linter.unusedVariables false
set_option linter.unusedSimpArgs false
set_option maxRecDepth 4000

theorem tabB_to {t : List Row} (h : tabB t = true) : t.length ≤ 40 ∧ (∀ r ∈ t, r.okB = true) ∧ rising t = true := by
  unfold tabB at h
  simp only [Bool.and_eq_true, decide_eq_true_eq, List.all_eq_true] at h
  exact ⟨h.1.1, h.1.2, h.2⟩
theorem okB_iff (r : Row) : r.okB = true ↔ r.p.right = true ∧ 1 ≤ r.h ∧ r.h ≤ 255 := by
  unfold Row.okB
  simp only [Bool.and_eq_true, decide_eq_true_eq]
  exact ⟨fun h => ⟨h.1.1, h.1.2, h.2⟩, fun h => ⟨⟨h.1, h.2.1⟩, h.2.2⟩⟩
/-! The longest match, by what is in a table. -/
/-! Set, dropped, got. -/
end Go.Proofs.YtifejiclenpfoaaDoor

/- Plain laws of tables (layer 9), fifth part: what two have not alike. -/
namespace Go.Proofs.YtifejiclenpfoaaDoor
set_option linter.unusedVariables false
set_option linter.unusedSimpArgs false
set_option maxRecDepth 4000

/-- A table of hops that stand. -/
structure Tab (t : List Row) : Prop where
  fits : Fits t
  up : rising t = true
  hop : ∀ r ∈ t, 1 ≤ r.h
theorem Tab.of {t : List Row} (hf : Fits t) (h : tabB t = true) : Tab t := ⟨hf, (tabB_to h).2.2, fun r hr => ((okB_iff r).1 ((tabB_to h).2.1 r hr)).2.1⟩
end Go.Proofs.YtifejiclenpfoaaDoor

/- Rows of a table in memory: by value (19 cells), in a block, in a slice. -/
namespace Go.Proofs.YtifejiclenpfoaaDoor
open Go.RowKit
set_option linter.unusedVariables false
set_option linter.unusedSimpArgs false
set_option maxRecDepth 4000

theorem pfxV_list (v : Int) (l : List Int) (b : Int) : (pfxV v l b).toList = .int .i64 v :: (nums .u8 l ++ [.int .i64 b]) := rfl
/-- A table by value: its rows. -/
def tabV (A : Option Addr) (n c : Nat) : Array Value := #[.slice A n c]
/-! Rows of a slice. -/
theorem Fits.take {t : List Row} (h : Fits t) (n : Nat) : Fits (t.take n) := fun r hr => h r (List.mem_of_mem_take hr)
theorem Fits.drop {t : List Row} (h : Fits t) (n : Nat) : Fits (t.drop n) := fun r hr => h r (List.mem_of_mem_drop hr)
theorem Fits.at_ {t : List Row} (h : Fits t) {i : Nat} (hi : i < t.length) : (rowAt t i).fits := h _ (List.mem_of_getElem? (rowAt_get hi))
/-! Rows, built and held equal. -/
structure Row.ok (r : Row) : Prop where
  p : r.p.ok
  h : (Lit.int .i64 r.h).wf = true
theorem Row.ok.fits {r : Row} (h : r.ok) : r.fits := h.p.l
def Row.eqB (r s : Row) : Bool := r.p.eqB s.p && decide (r.h = s.h)
theorem Row.eqB_iff (r s : Row) : r.eqB s = true ↔ r = s := by
  unfold Row.eqB
  simp only [Bool.and_eq_true, decide_eq_true_eq, Pfx.eqB_iff]
  constructor
  · rintro ⟨h1, h2⟩
    cases r; cases s
    simp_all
  · rintro rfl
    exact ⟨rfl, rfl⟩
section
variable {r : Operand → Value} {o : Oper} {x y : Operand} {ty : TypeId}
end
end Go.Proofs.YtifejiclenpfoaaDoor

/- Layer 5 (prefix): cut. -/
namespace Go.Proofs.YtifejiclenpfoaaDoor
open Go.RowKit
set_option linter.unusedVariables false
set_option linter.unusedSimpArgs false
set_option maxRecDepth 4000

end Go.Proofs.YtifejiclenpfoaaDoor

/- The document's answer for layer 5 (junctionboxref05): Width, at, RightAddr. -/
namespace Go.Proofs.YtifejiclenpfoaaDoor
open Go.RowKit
set_option linter.unusedVariables false
set_option linter.unusedSimpArgs false
set_option maxRecDepth 4000

end Go.Proofs.YtifejiclenpfoaaDoor

/- Layer 5 (prefix): Of. -/
namespace Go.Proofs.YtifejiclenpfoaaDoor
open Go.RowKit
set_option linter.unusedVariables false
set_option linter.unusedSimpArgs false
set_option maxRecDepth 4000

end Go.Proofs.YtifejiclenpfoaaDoor

/- The document's answer for layer 5: Of. -/
namespace Go.Proofs.YtifejiclenpfoaaDoor
open Go.RowKit
set_option linter.unusedVariables false
set_option linter.unusedSimpArgs false
set_option maxRecDepth 4000

theorem pfx_byte {w : World} {g : Nat} {t : TypeId} {v b : Int} {l : List Int} (hl : B16 l) (h : w.heap[g]? = some (.cells (pfxV v l b) t (0, 0))) (i : Nat) (hi : i < 16) : w.cell? ⟨g, 1 + i, none⟩ = some (.int .u8 (rd l (i : Int))) := by
  rw [blk_cell h, Nat.add_comm]
  unfold pfxV
  rw [List.getElem?_toArray, List.getElem?_cons_succ, List.getElem?_append_left (by simp [nums, hl.len]; exact hi)]
  exact nums_get .u8 l i (by rw [hl.len]; exact hi)
end Go.Proofs.YtifejiclenpfoaaDoor

/- Slices of int of the call's own. -/
namespace Go.Proofs.YtifejiclenpfoaaDoor
open Go.RowKit
set_option linter.unusedVariables false
set_option linter.unusedSimpArgs false
set_option maxRecDepth 4000

structure RI (w : World) (A : Option Addr) (n c : Nat) (xs : List Int) : Prop where
  rv : RV w 1 A n c (nums .i64 xs)
structure OI (w : World) (base : Nat) (A : Option Addr) (n c : Nat) (xs : List Int) : Prop where
  ov : OV w base 3 1 A n c (nums .i64 xs)
section
variable {w w1 : World} {base base' : Nat} {A : Option Addr} {n c : Nat} {xs : List Int}
theorem RI.len (h : RI w A n c xs) : xs.length = n := by have := h.rv.len; simpa [nums] using this
theorem RI.cap (h : RI w A n c xs) : n ≤ c := h.rv.cap
theorem RI.small (h : RI w A n c xs) : n ≤ 281474976710656 := h.rv.small
theorem RI.at_ (h : RI w A n c xs) (i : Int) (h0 : 0 ≤ i) (h1 : i < n) : ∃ ad, A = some ad ∧ w.cell? (ad.add i.toNat) = some (.int .i64 (rd xs i)) := by
  obtain ⟨ad, e, hc⟩ := h.rv.cells (by omega)
  exact ⟨ad, e, hc _ _ (nums_get _ _ _ (by have := h.len; omega))⟩
theorem RI.below (h : RI w A n c xs) (hb : Below w.heap.size w w1) : RI w1 A n c xs := ⟨h.rv.below hb⟩
theorem RI.grown (h : RI w A n c xs) {row : Option Nat} (hg : w.grownBy w1 row) (hne : ∀ ad, A = some ad → some ad.block ≠ row) : RI w1 A n c xs := ⟨h.rv.grown hg hne⟩
theorem OI.len (h : OI w base A n c xs) : xs.length = n := by have := h.ov.len; simpa [nums] using this
theorem OI.cap (h : OI w base A n c xs) : n ≤ c := h.ov.cap
theorem OI.small (h : OI w base A n c xs) : n ≤ 281474976710656 := h.ov.small
theorem OI.base_ (h : OI w base A n c xs) : ∀ ad, A = some ad → base ≤ ad.block := h.ov.base_
theorem OI.lt (h : OI w base A n c xs) : ∀ ad, A = some ad → ad.block < w.heap.size := h.ov.lt
theorem OI.reads (h : OI w base A n c xs) : RI w A n c xs := ⟨h.ov.reads⟩
theorem OI.lower (h : OI w base A n c xs) (hb : base' ≤ base) : OI w base' A n c xs := ⟨h.ov.lower hb⟩
theorem OI.grown (h : OI w base A n c xs) {row : Option Nat} (hg : w.grownBy w1 row) (hne : ∀ ad, A = some ad → some ad.block ≠ row) : OI w1 base A n c xs := ⟨h.ov.grown hg hne⟩
theorem OI.below (h : OI w base A n c xs) (hb : Below w.heap.size w w1) : OI w1 base A n c xs := ⟨h.ov.below hb⟩
end
theorem OI.new (W : World) (base : Nat) (xs : List Int) (hb : base ≤ W.heap.size) (hn : xs.length ≤ 281474976710656) :
    OI (W.alloc (.cells (nums .i64 xs).toArray 3)) base (some ⟨W.heap.size, 0, none⟩) xs.length xs.length xs :=
  ⟨by have := OV.new W base 3 1 (nums .i64 xs).toArray xs.length hb (by simp [nums]) hn; simpa using this⟩
theorem RI.one (W : World) (y : Int) : RI (W.alloc (.cells #[.int .i64 y] 3)) (some ⟨W.heap.size, 0, none⟩) 1 1 [y] := (OI.new W 0 [y] (by omega) (by simp)).reads
end Go.Proofs.YtifejiclenpfoaaDoor

/- Layer 5 (prefix): Compare. -/
namespace Go.Proofs.YtifejiclenpfoaaDoor
open Go.RowKit
set_option linter.unusedVariables false
set_option linter.unusedSimpArgs false
set_option maxRecDepth 4000

theorem rb_pfx {w : World} {g : Nat} {t : TypeId} {v b : Int} {l : List Int} (hl : B16 l) (h : w.heap[g]? = some (.cells (pfxV v l b) t (0, 0))) : RB w (some ⟨g, 1, none⟩) 16 16 l :=
  ⟨⟨by simp [nums, hl.len], Nat.le_refl _, by omega, fun _ => ⟨_, rfl, fun j u hj => by
    have hlt := (List.getElem?_eq_some_iff.1 hj).1
    simp only [nums, List.length_map, hl.len] at hlt
    rw [nums_get _ _ _ (by rw [hl.len]; exact hlt)] at hj
    rw [add_spot _ rfl, ← hj]
    exact pfx_byte hl h j hlt⟩⟩, hl.rng⟩
end Go.Proofs.YtifejiclenpfoaaDoor

/- Layer 9 (table): against, hop, and the closure of place. -/
namespace Go.Proofs.YtifejiclenpfoaaDoor
open Go.RowKit
set_option linter.unusedVariables false
set_option linter.unusedSimpArgs false
set_option maxRecDepth 4000

end Go.Proofs.YtifejiclenpfoaaDoor

/- Layer 9 (table): the place of a prefix. -/
namespace Go.Proofs.YtifejiclenpfoaaDoor
open Go.RowKit
set_option linter.unusedVariables false
set_option linter.unusedSimpArgs false
set_option maxRecDepth 4000

end Go.Proofs.YtifejiclenpfoaaDoor

/- Layer 9 (table): Check. -/
namespace Go.Proofs.YtifejiclenpfoaaDoor
open Go.RowKit
set_option linter.unusedVariables false
set_option linter.unusedSimpArgs false
set_option maxRecDepth 4000

end Go.Proofs.YtifejiclenpfoaaDoor

/- The library's functions over slices, at rows. -/
namespace Go.Proofs.YtifejiclenpfoaaDoor
open Go.RowKit
set_option linter.unusedVariables false
set_option linter.unusedSimpArgs false
set_option maxRecDepth 4000
end Go.Proofs.YtifejiclenpfoaaDoor

/- Two rows of the call's own, appended to by turns. -/
namespace Go.Proofs.YtifejiclenpfoaaDoor
open Go.RowKit
set_option linter.unusedVariables false
set_option linter.unusedSimpArgs false
set_option maxRecDepth 4000
def Apart (A1 A2 : Option Addr) : Prop := ∀ a b, A1 = some a → A2 = some b → a.block ≠ b.block
theorem Apart.symm {A1 A2 : Option Addr} (h : Apart A1 A2) : Apart A2 A1 := fun a b ha hb e => h b a hb ha e.symm
theorem own_of {A : Option Addr} {n c k : Nat} (h : (Value.slice A n c).ownBlock = some k) : ∃ ad, A = some ad ∧ ad.block = k := by
  cases A with
  | none => cases h
  | some ad =>
    injection h with h
    exact ⟨ad, rfl, h⟩
end Go.Proofs.YtifejiclenpfoaaDoor

/- The document's answer for layer 5: Compare. -/
namespace Go.Proofs.YtifejiclenpfoaaDoor
open Go.RowKit
set_option linter.unusedVariables false
set_option linter.unusedSimpArgs false
set_option maxRecDepth 4000

end Go.Proofs.YtifejiclenpfoaaDoor
