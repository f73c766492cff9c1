/- Words and small lemmas that the contracts of this seat share. -/
import Derived.Test.YtcloepjeckbmoaaDoorProg
import Derived.WalkKit
import Derived.WalkSpells
import Derived.WalkLawsBesides
import Derived.KernelRfl
import Derived.Deep.LoopGhost
import Derived.Deep.QuietTactic
import Derived.BigQuiet
import Derived.Deep.DeepCutAuto
import Derived.Deep.CutBlock
import Derived.Deep.RegionHeld3
import Derived.Deep.RegionWith
import Derived.Lib.Hide
import Derived.Maps.AppendAt
import Derived.Lib.AppendZerosOnto
namespace Go.Proofs.YtcloepjeckbmoaaDoor
open Go.RowKit
set_option linter.unusedVariables false
set_option linter.unusedSimpArgs false

/-! ### Lists of numbers, and rows of bytes -/
def nums (k : IntKind) (xs : List Int) : List Value := xs.map fun x => .int k x
theorem nums_length (k : IntKind) (xs : List Int) : (nums k xs).length = xs.length := by simp [nums]
theorem nums_append (k : IntKind) (xs ys : List Int) : nums k (xs ++ ys) = nums k xs ++ nums k ys := by simp [nums]
theorem nums_get (k : IntKind) (xs : List Int) (j : Nat) (h : j < xs.length) : (nums k xs)[j]? = some (.int k (xs.getD j 0)) := by
  simp [nums, List.getElem?_eq_getElem h, List.getD_eq_getElem?_getD]
theorem nums_one (k : IntKind) (xs : List Int) : ∀ u ∈ nums k xs, u.oneCell' = true := by
  intro u hu
  simp only [nums, List.mem_map] at hu
  obtain ⟨x, _, rfl⟩ := hu
  rfl
def rd (xs : List Int) (i : Int) : Int := xs.getD i.toNat 0
def Bytes (xs : List Int) : Prop := ∀ x ∈ xs, 0 ≤ x ∧ x < 256
theorem Bytes.nil : Bytes [] := fun _ h => by cases h
theorem Bytes.append {xs ys : List Int} (h : Bytes xs) (k : Bytes ys) : Bytes (xs ++ ys) := fun x hx => (List.mem_append.1 hx).elim (h x) (k x)
theorem Bytes.take {xs : List Int} (h : Bytes xs) (n : Nat) : Bytes (xs.take n) := fun x hx => h x (List.mem_of_mem_take hx)
theorem Bytes.drop {xs : List Int} (h : Bytes xs) (n : Nat) : Bytes (xs.drop n) := fun x hx => h x (List.mem_of_mem_drop hx)
theorem Bytes.getD {xs : List Int} (h : Bytes xs) (j : Nat) : 0 ≤ xs.getD j 0 ∧ xs.getD j 0 < 256 := by
  rw [List.getD_eq_getElem?_getD]
  cases hj : xs[j]? with
  | none => simp
  | some x => simpa using h x (List.mem_of_getElem? hj)

/-! ### The world -/
theorem add_plain (g j : Nat) : (⟨g, 0, none⟩ : Addr).add j = ⟨g, j, none⟩ := by unfold Addr.add; split <;> simp_all
theorem add_add (a : Addr) (i j : Nat) : (a.add i).add j = a.add (i + j) := by
  unfold Addr.add
  by_cases h1 : i = 0 <;> by_cases h2 : j = 0 <;> simp [h1, h2, Nat.add_assoc]
theorem add_block (a : Addr) (i : Nat) : (a.add i).block = a.block := by unfold Addr.add; split <;> rfl
theorem cell_below {w w1 : World} (h : Below w.heap.size w w1) {a : Addr} {v : Value} (hc : w.cell? a = some v) : w1.cell? a = some v := (h.cell (World.block_lt_of_cell? w a hc)).trans hc
theorem below_alloc {w W : World} (h : Below w.heap.size w W) (o : Obj) : Below w.heap.size w (W.alloc o) := h.alloc h.size o
theorem below_drewN {B : Nat} {w W : World} (h : Below B w W) (n : Nat) : Below B w (W.drewN n) := ⟨h.os, h.tape, h.output, h.size, h.block⟩
theorem below_then {B : Nat} {w w1 w2 : World} (h : Below B w w1) (hB : B ≤ w1.heap.size) (k : Below w1.heap.size w1 w2) : Below B w w2 :=
  h.trans ⟨k.os, k.tape, k.output, k.size, fun i hi => k.block i (Nat.lt_of_lt_of_le hi hB)⟩
theorem below_step {w w1 w2 : World} (h : Below w.heap.size w w1) (k : Below w1.heap.size w1 w2) : Below w.heap.size w w2 := below_then h h.size k
theorem grown_of_below {w w1 : World} (h : Below w.heap.size w w1) (row : Option Nat) : w.grownBy w1 row := ⟨h.os, h.tape, h.output, h.size, fun i hi _ => h.block i hi⟩
theorem below_of_grown {w w1 : World} (h : w.grownBy w1 none) : Below w.heap.size w w1 := ⟨h.os, h.tape, h.output, h.size, fun i hi => h.block i hi (by simp)⟩
theorem grown_refl (w : World) (row : Option Nat) : w.grownBy w row := ⟨rfl, rfl, rfl, Nat.le_refl _, fun _ _ _ => rfl⟩
theorem grown_drewN (w : World) (n : Nat) (row : Option Nat) : w.grownBy (w.drewN n) row := ⟨rfl, rfl, rfl, Nat.le_refl _, fun _ _ _ => rfl⟩
theorem blk_lt {w : World} {g : Nat} {o : Obj} (h : w.heap[g]? = some o) : g < w.heap.size := (Array.getElem?_eq_some_iff.1 h).1
theorem blk_below {w w1 : World} {g : Nat} {o : Obj} (h : w.heap[g]? = some o) (hb : Below w.heap.size w w1) : w1.heap[g]? = some o := (hb.block g (blk_lt h)).trans h
theorem blk_grown {w w1 : World} {g : Nat} {o : Obj} {row : Option Nat} (h : w.heap[g]? = some o) (hg : w.grownBy w1 row) (hne : some g ≠ row) : w1.heap[g]? = some o := (hg.block g (blk_lt h) hne).trans h
theorem blk_new (w : World) (o : Obj) : (w.alloc o).heap[w.heap.size]? = some o := heap_alloc_new w o
theorem blk_cell {w : World} {g : Nat} {t : TypeId} {cs : Array Value} (h : w.heap[g]? = some (.cells cs t (0, 0))) (i : Nat) : w.cell? ⟨g, i, none⟩ = cs[i]? := cell_of_row w g i cs t (0, 0) h
theorem blk_frozen {w : World} {g : Nat} {t : TypeId} {cs : Array Value} (h : w.heap[g]? = some (.cells cs t (0, 0))) (i : Nat) : w.frozen? ⟨g, i, none⟩ = false := by simp [World.frozen?, h]
theorem blk_set {w : World} {g : Nat} {t : TypeId} {cs : Array Value} (h : w.heap[g]? = some (.cells cs t (0, 0))) (i : Nat) (u : Value) : (w.setCell ⟨g, i, none⟩ u).heap[g]? = some (.cells (cs.setIfInBounds i u) t (0, 0)) := heap_setCell_same w g i cs t u h

/-- Nothing that was there has turned but the blocks g and h. -/
structure Kept2 (w w' : World) (g h : Nat) : Prop where
  os : w'.os = w.os
  tape : w'.tape = w.tape
  output : w'.output = w.output
  size : w.heap.size ≤ w'.heap.size
  block : ∀ k, k < w.heap.size → k ≠ g → k ≠ h → w'.heap[k]? = w.heap[k]?
theorem Kept2.refl (w : World) (g h : Nat) : Kept2 w w g h := ⟨rfl, rfl, rfl, Nat.le_refl _, fun _ _ _ _ => rfl⟩
theorem Kept2.trans {w w1 w2 : World} {g h : Nat} (a : Kept2 w w1 g h) (b : Kept2 w1 w2 g h) : Kept2 w w2 g h :=
  ⟨b.os.trans a.os, b.tape.trans a.tape, b.output.trans a.output, Nat.le_trans a.size b.size, fun k hk h1 h2 => (b.block k (Nat.lt_of_lt_of_le hk a.size) h1 h2).trans (a.block k hk h1 h2)⟩
theorem Kept2.of_grown {w w1 : World} {x g h : Nat} (a : w.grownBy w1 (some x)) (hx : x = g ∨ x = h) : Kept2 w w1 g h :=
  ⟨a.os, a.tape, a.output, a.size, fun k hk h1 h2 => a.block k hk (fun e => by injection e with e; rcases hx with rfl | rfl <;> simp_all)⟩
theorem grown_setCell (w : World) (a : Addr) (v : Value) : w.grownBy (w.setCell a v) (some a.block) :=
  ⟨rfl, rfl, rfl, by simp [World.setCell], fun k _ hk => Below.heap_setCell w a v k (fun e => hk (by rw [e]))⟩
theorem grown_trans {w w1 w2 : World} {row : Option Nat} (a : w.grownBy w1 row) (b : w1.grownBy w2 row) : w.grownBy w2 row :=
  ⟨b.os.trans a.os, b.tape.trans a.tape, b.output.trans a.output, Nat.le_trans a.size b.size, fun k hk h => (b.block k (Nat.lt_of_lt_of_le hk a.size) h).trans (a.block k hk h)⟩
theorem blk_set_far {w : World} {g : Nat} {o : Obj} (h : w.heap[g]? = some o) {a : Addr} (hne : g ≠ a.block) (v : Value) : (w.setCell a v).heap[g]? = some o := (Below.heap_setCell w a v g hne).trans h

/-- Below block b nothing has turned but the block g. -/
structure KeptB (w w' : World) (g b : Nat) : Prop where
  os : w'.os = w.os
  tape : w'.tape = w.tape
  output : w'.output = w.output
  size : w.heap.size ≤ w'.heap.size
  block : ∀ k, k < b → k ≠ g → w'.heap[k]? = w.heap[k]?
theorem KeptB.refl (w : World) (g b : Nat) : KeptB w w g b := ⟨rfl, rfl, rfl, Nat.le_refl _, fun _ _ _ => rfl⟩
theorem KeptB.trans {w w1 w2 : World} {g b : Nat} (h : KeptB w w1 g b) (k : KeptB w1 w2 g b) : KeptB w w2 g b :=
  ⟨k.os.trans h.os, k.tape.trans h.tape, k.output.trans h.output, Nat.le_trans h.size k.size, fun i hi h1 => (k.block i hi h1).trans (h.block i hi h1)⟩
theorem KeptB.of_below {w w1 : World} {g b : Nat} (h : Below b w w1) : KeptB w w1 g b := ⟨h.os, h.tape, h.output, h.size, fun k hk _ => h.block k hk⟩
theorem KeptB.set (w : World) (g b i : Nat) (v : Value) : KeptB w (w.setCell ⟨g, i, none⟩ v) g b :=
  ⟨rfl, rfl, rfl, by simp [World.setCell], fun k _ hk => Below.heap_setCell w _ v k hk⟩

/-! ### Rows of cells: what is read, what is owned. An element takes sz cells; n elements; cs: all their cells -/
structure RV (w : World) (sz : Nat) (A : Option Addr) (n c : Nat) (cs : List Value) : Prop where
  len : cs.length = n * sz
  cap : n ≤ c
  small : n ≤ 281474976710656
  cells : 0 < n → ∃ ad, A = some ad ∧ ∀ j v, cs[j]? = some v → w.cell? (ad.add j) = some v

section
variable {w w1 : World} {sz : Nat} {A : Option Addr} {n c : Nat} {cs : List Value}
theorem RV.nil (w : World) (sz : Nat) (A : Option Addr) (c : Nat) : RV w sz A 0 c [] := ⟨by simp, Nat.zero_le _, by omega, fun h => absurd h (by omega)⟩
theorem RV.below (h : RV w sz A n c cs) (hb : Below w.heap.size w w1) : RV w1 sz A n c cs :=
  ⟨h.len, h.cap, h.small, fun hn => by obtain ⟨ad, e, hc⟩ := h.cells hn; exact ⟨ad, e, fun j v hj => cell_below hb (hc j v hj)⟩⟩
theorem RV.grown (h : RV w sz A n c cs) {row : Option Nat} (hg : w.grownBy w1 row) (hne : ∀ ad, A = some ad → some ad.block ≠ row) : RV w1 sz A n c cs :=
  ⟨h.len, h.cap, h.small, fun hn => by
    obtain ⟨ad, e, hc⟩ := h.cells hn
    exact ⟨ad, e, fun j v hj => hg.cell (hc j v hj) (by rw [add_block]; exact hne ad e)⟩⟩
theorem RV.take (h : RV w sz A n c cs) (m : Nat) (hm : m ≤ n) : RV w sz A m c (cs.take (m * sz)) := by
  have hms : m * sz ≤ n * sz := Nat.mul_le_mul_right _ hm
  refine ⟨by rw [List.length_take, h.len]; omega, Nat.le_trans hm h.cap, Nat.le_trans hm h.small, fun hp => ?_⟩
  obtain ⟨ad, e, hc⟩ := h.cells (by omega)
  refine ⟨ad, e, fun j v hj => hc j v ?_⟩
  rw [List.getElem?_take] at hj
  split at hj
  · exact hj
  · cases hj
theorem RV.drop (h : RV w sz A n c cs) (m : Nat) (hm : m ≤ n) : RV w sz (if c = m then A else A.map (·.add (m * sz))) (n - m) (c - m) (cs.drop (m * sz)) := by
  have hcap := h.cap
  refine ⟨by rw [List.length_drop, h.len, Nat.sub_mul], by omega, by have := h.small; omega, fun hp => ?_⟩
  obtain ⟨ad, rfl, hcell⟩ := h.cells (by omega)
  rw [if_neg (by omega)]
  refine ⟨ad.add (m * sz), rfl, fun j v hj => ?_⟩
  rw [add_add]
  exact hcell _ _ (by rw [← List.getElem?_drop]; exact hj)
theorem RV.capmono (h : RV w sz A n c cs) {c' : Nat} (hc : n ≤ c') : RV w sz A n c' cs := ⟨h.len, hc, h.small, h.cells⟩
end

/-- A row of the call's own, in a block from base on; it may begin inside its block, and its capacity may end before the block does. -/
structure OV (w : World) (base : Nat) (e : TypeId) (sz : Nat) (A : Option Addr) (n c : Nat) (cs : List Value) : Prop where
  len : cs.length = n * sz
  cap : n ≤ c
  small : n ≤ 281474976710656
  capmax : c ≤ maxLen
  form : ∀ ad, A = some ad → base ≤ ad.block ∧ ad.spot = none ∧ ∃ cur, w.heap[ad.block]? = some (.cells cur e (0, 0)) ∧ ad.off + c * sz ≤ cur.size ∧ ∀ j v, cs[j]? = some v → cur[ad.off + j]? = some v
  bare : A = none → c = 0
theorem add_spot (a : Addr) (h : a.spot = none) (j : Nat) : a.add j = ⟨a.block, a.off + j, none⟩ := by
  obtain ⟨b, o, s⟩ := a
  subst h
  unfold Addr.add
  split
  · subst_vars; rfl
  · rfl
section
variable {w w1 : World} {base base' : Nat} {e : TypeId} {sz : Nat} {A : Option Addr} {n c : Nat} {cs : List Value}
theorem OV.reads (h : OV w base e sz A n c cs) : RV w sz A n c cs := by
  refine ⟨h.len, h.cap, h.small, fun hp => ?_⟩
  cases A with
  | none => have := h.bare rfl; have := h.cap; omega
  | some ad =>
    refine ⟨ad, rfl, fun j v hj => ?_⟩
    obtain ⟨_, hs, cur, hh, _, hc⟩ := h.form ad rfl
    rw [add_spot ad hs, blk_cell hh]
    exact hc j v hj
theorem OV.lower (h : OV w base e sz A n c cs) (hb : base' ≤ base) : OV w base' e sz A n c cs :=
  ⟨h.len, h.cap, h.small, h.capmax, fun ad ha => let ⟨h1, h2⟩ := h.form ad ha; ⟨Nat.le_trans hb h1, h2⟩, h.bare⟩
theorem OV.grown (h : OV w base e sz A n c cs) {row : Option Nat} (hg : w.grownBy w1 row) (hne : ∀ ad, A = some ad → some ad.block ≠ row) : OV w1 base e sz A n c cs :=
  ⟨h.len, h.cap, h.small, h.capmax, fun ad ha => let ⟨h1, h2, cur, hh, r⟩ := h.form ad ha; ⟨h1, h2, cur, blk_grown hh hg (hne ad ha), r⟩, h.bare⟩
theorem OV.below (h : OV w base e sz A n c cs) (hb : Below w.heap.size w w1) : OV w1 base e sz A n c cs := h.grown (grown_of_below hb none) (fun _ _ => by simp)
theorem OV.nil (w : World) (base : Nat) (e : TypeId) (sz : Nat) : OV w base e sz none 0 0 [] := ⟨by simp, by omega, by omega, by simp only [maxLen]; omega, (fun _ h => by cases h), fun _ => rfl⟩
theorem OV.base_ (h : OV w base e sz A n c cs) : ∀ ad, A = some ad → base ≤ ad.block := fun ad ha => (h.form ad ha).1
theorem OV.lt (h : OV w base e sz A n c cs) : ∀ ad, A = some ad → ad.block < w.heap.size := fun ad ha => let ⟨_, _, _, hh, _⟩ := h.form ad ha; blk_lt hh
/-- s[:m:c'] -/
theorem OV.take (h : OV w base e sz A n c cs) (m c' : Nat) (hm : m ≤ n) (hc : m ≤ c') (hc' : c' ≤ c) : OV w base e sz A m c' (cs.take (m * sz)) := by
  have hms : m * sz ≤ n * sz := Nat.mul_le_mul_right _ hm
  have hcs : c' * sz ≤ c * sz := Nat.mul_le_mul_right _ hc'
  refine ⟨by rw [List.length_take, h.len]; omega, hc, Nat.le_trans hm h.small, Nat.le_trans hc' h.capmax, fun ad ha => ?_, fun ha => by have := h.bare ha; omega⟩
  obtain ⟨h1, h2, cur, hh, h3, h4⟩ := h.form ad ha
  refine ⟨h1, h2, cur, hh, by omega, fun j v hj => h4 j v ?_⟩
  rw [List.getElem?_take] at hj
  split at hj
  · exact hj
  · cases hj
theorem OV.of_own (h : w.ownsRow base e sz (.slice A n c) n cs) (hn : n ≤ 281474976710656) : OV w base e sz A n c cs := by
  rcases h.2 with ⟨he, h0⟩ | ⟨g, cap, cur, he, hb, hh, hc, hm, hs, ht⟩
  · injection he with h1 h2 h3
    subst h1; subst h3; subst h0
    obtain rfl : cs = [] := List.eq_nil_of_length_eq_zero (by simpa using h.1)
    exact OV.nil _ _ _ _
  · injection he with h1 h2 h3
    subst h1; subst h3
    refine ⟨h.1, hc, hn, hm, fun ad ha => ?_, fun ha => by cases ha⟩
    injection ha with ha
    subst ha
    refine ⟨hb, rfl, cur, hh, by simp only [Nat.zero_add]; omega, fun j v hj => ?_⟩
    rw [← ht, List.getElem?_take] at hj
    split at hj
    · simpa using hj
    · cases hj
end
/-- A literal, or what make lays. -/
theorem OV.new (W : World) (base : Nat) (e : TypeId) (sz : Nat) (cs : Array Value) (n : Nat) (hb : base ≤ W.heap.size) (hl : cs.size = n * sz) (hn : n ≤ 281474976710656) :
    OV (W.alloc (.cells cs e)) base e sz (some ⟨W.heap.size, 0, none⟩) n n cs.toList :=
  ⟨by simpa using hl, Nat.le_refl _, hn, by simp only [maxLen]; omega, fun ad ha => by
    injection ha with ha
    subst ha
    exact ⟨hb, rfl, cs, blk_new _ _, by simp only [Nat.zero_add]; omega, fun j v hj => by simpa using hj⟩, fun ha => by cases ha⟩

/-! What a run of cells written leaves. -/
theorem setCells_far {g : Nat} : ∀ (vs : List Value) (o : Nat) {w : World} (k : Nat), k ≠ g → (w.setCells g o vs).heap[k]? = w.heap[k]?
  | [], _, _, _, _ => rfl
  | v :: r, o, w, k, hk => by
    rw [World.setCells, setCells_far r (o + 1) k hk]
    exact Below.heap_setCell w ⟨g, o, none⟩ v k hk
theorem setCells_same (g : Nat) : ∀ (vs : List Value) (o : Nat) (w : World), (w.setCells g o vs).os = w.os ∧ (w.setCells g o vs).tape = w.tape ∧ (w.setCells g o vs).output = w.output ∧ (w.setCells g o vs).heap.size = w.heap.size
  | [], _, _ => ⟨rfl, rfl, rfl, rfl⟩
  | v :: r, o, w => by
    obtain ⟨h1, h2, h3, h4⟩ := setCells_same g r (o + 1) (w.setCell ⟨g, o, none⟩ v)
    rw [World.setCells]
    exact ⟨h1, h2, h3, by rw [h4]; simp [World.setCell]⟩
theorem setCells_grown (g o : Nat) (vs : List Value) (w : World) : w.grownBy (w.setCells g o vs) (some g) := by
  obtain ⟨h1, h2, h3, h4⟩ := setCells_same g vs o w
  exact ⟨h1, h2, h3, by rw [h4]; exact Nat.le_refl _, fun k _ hk => setCells_far vs o k (fun h => hk (by rw [h]))⟩
theorem setCells_row {g : Nat} {e : TypeId} : ∀ (vs : List Value) (o : Nat) (w : World) (cur : Array Value), w.heap[g]? = some (.cells cur e (0, 0)) → o + vs.length ≤ cur.size →
    ∃ cur', (w.setCells g o vs).heap[g]? = some (.cells cur' e (0, 0)) ∧ cur'.size = cur.size ∧ ∀ j, cur'[j]? = if o ≤ j ∧ j < o + vs.length then vs[j - o]? else cur[j]?
  | [], o, w, cur, h, _ => ⟨cur, h, rfl, fun j => by rw [if_neg (by simp)]⟩
  | v :: r, o, w, cur, h, hl => by
    have h2 := blk_set h o v
    simp only [List.length_cons] at hl
    obtain ⟨cur', h3, h4, h5⟩ := setCells_row r (o + 1) (w.setCell ⟨g, o, none⟩ v) _ h2 (by simp; omega)
    refine ⟨cur', h3, by rw [h4]; simp, fun j => ?_⟩
    rw [h5 j]
    simp only [List.length_cons]
    by_cases h6 : o + 1 ≤ j ∧ j < o + 1 + r.length
    · rw [if_pos h6, if_pos (by omega), show j - o = (j - (o + 1)) + 1 by omega]
      rfl
    · rw [if_neg h6]
      by_cases h7 : j = o
      · subst h7
        rw [if_pos (by omega)]
        simp [show j < cur.size by omega]
      · rw [if_neg (by omega)]
        simp [Ne.symm h7]

/-- append(v, ys...): v a row of the call's own, ys a row that is read (nil let in). -/
theorem run_append_rows {P : Program} (W : World) (base : Nat) (t ty e : TypeId) (sz bytes : Nat) (z : Value) (A : Option Addr) (n c : Nat) (xs : List Value) (A2 : Option Addr) (m c2 : Nat) (ys : List Value)
    (ht : P.underlying t = some (.slice e)) (hinfo : (P.info? e).map (fun i => (i.zero, i.size, i.bytes)) = some (some z, sz, bytes)) (hzs : z.cells.size = sz) (hs0 : 0 < sz) (hb0 : 0 < bytes)
    (HO : OV W base e sz A n c xs) (HR : RV W sz A2 m c2 ys) (hone : ∀ u ∈ ys, u.oneCell' = true) (hbase : base ≤ W.heap.size) (hl : (n + m) * bytes ≤ 140737488355328) :
    ∃ A' c' w', (Builtin.append_ #[t, t] ty #[.slice A n c, .slice A2 m c2]).run P W = .ok (.slice A' (n + m) c') w' ∧
      OV w' base e sz A' (n + m) c' (xs ++ ys) ∧ W.grownBy w' ((Value.slice A n c).ownBlock) ∧ (A' = A ∨ ∀ ad, A' = some ad → W.heap.size ≤ ad.block) := by
  have hm : ys.length = m * sz := HR.len
  have hlen : n + m ≤ 140737488355328 := Nat.le_trans (Nat.le_mul_of_pos_right _ hb0) hl
  obtain ⟨i0, hi, hzz⟩ := Option.map_eq_some_iff.1 hinfo
  simp only [Prod.mk.injEq] at hzz
  obtain ⟨hz0, hz1, hz2⟩ := hzz
  have hcap := HO.cap
  have hmax : n + m ≤ maxLen := by simp only [maxLen]; omega
  rcases A2 with _ | ad2
  · have h0 : m = 0 := by
      rcases Nat.eq_zero_or_pos m with h0 | h0
      · exact h0
      · obtain ⟨ad, e, _⟩ := HR.cells h0
        cases e
    subst h0
    obtain rfl : ys = [] := List.eq_nil_of_length_eq_zero (by simpa using hm)
    refine ⟨A, c, W, ?_, by simpa using HO, grown_refl _ _, .inl rfl⟩
    cases A <;> simp [Builtin.append_, run_underlying ht, sizeOf, typeInfo, hi, Builtin.lenOf, Builtin.firstCells, hcap, storeCells]
  · have hcells : ∀ j u, ys[j]? = some u → W.cell? (ad2.add j) = some u := by
      intro j u hu
      have hj : j < ys.length := (List.getElem?_eq_some_iff.1 hu).1
      obtain ⟨ad', h', hc⟩ := HR.cells (by rcases Nat.eq_zero_or_pos m with h0 | h0; (subst h0; omega); exact h0)
      injection h' with h'
      subst h'
      exact hc j u hu
    -- a new row
    have fresh : ∀ v1 w1, w1.ownsRow W.heap.size e sz v1 (n + m) (xs ++ ys) → 0 < n + m → ∃ A' c', v1 = .slice A' (n + m) c' ∧ OV w1 base e sz A' (n + m) c' (xs ++ ys) ∧ (∃ ad', A' = some ad' ∧ W.heap.size ≤ ad'.block ∧ ad'.off = 0 ∧ ad'.spot = none) := by
      intro v1 w1 h2 hp
      rcases h2.2 with ⟨rfl, hz⟩ | ⟨g, cap, cur, rfl, hb, _⟩
      · omega
      · exact ⟨_, cap, rfl, (OV.of_own h2 (by omega)).lower hbase, _, rfl, hb, rfl, rfl⟩
    rcases A with _ | ad
    · have hc0 := HO.bare rfl
      subst hc0
      obtain rfl : n = 0 := by omega
      obtain rfl : xs = [] := List.eq_nil_of_length_eq_zero (by simpa using HO.len)
      obtain ⟨v1, w1, hr, h2, h3, _, h5⟩ := run_append_own_at (P := P) W W.heap.size t ty e i0 z sz bytes ht hi hz0 hz1 hz2 hzs hs0 (.slice none 0 0) 0 [] (World.ownsRow_nil W _ e sz) ad2 m c2 ys hm hcells hone hmax hl (Nat.le_refl _)
      rcases h2.2 with ⟨rfl, hz⟩ | ⟨g, cap, cur, rfl, hb, hh, _⟩
      · obtain rfl : m = 0 := by omega
        exact ⟨none, 0, w1, hr, (OV.of_own h2 (by omega)).lower hbase, h3, .inl rfl⟩
      · refine ⟨_, cap, w1, hr, (OV.of_own h2 (by omega)).lower hbase, h3, .inr (fun ad ha => ?_)⟩
        injection ha with ha
        subst ha
        exact hb
    · obtain ⟨hb, hs, cur, hh, hfit, hcs⟩ := HO.form ad rfl
      obtain ⟨g, off, spot⟩ := ad
      simp only at hs hb hh hfit hcs
      subst hs
      by_cases hroom : n + m ≤ c
      · have hns : (n + m) * sz ≤ c * sz := Nat.mul_le_mul_right _ hroom
        rw [Nat.add_mul] at hns
        subst hz1
        have hr := run_append_room_cells (P := P) W t ty e i0 ht hi g off n c ad2 m c2 ys hm hcells hone hroom
          (fun j hj => by rw [blk_cell hh, Array.getElem?_eq_getElem (by omega)]; rfl) (fun j _ => blk_frozen hh _)
        obtain ⟨cur', h3, h4, h5⟩ := setCells_row ys (off + n * i0.size) W cur hh (by omega)
        refine ⟨_, _, _, hr, ⟨by rw [List.length_append, HO.len, hm, Nat.add_mul], hroom, by omega, HO.capmax, fun ad' ha => ?_, fun ha => by cases ha⟩, setCells_grown _ _ _ _, .inl rfl⟩
        injection ha with ha
        subst ha
        refine ⟨hb, rfl, cur', h3, by rw [h4]; exact hfit, fun j v hj => ?_⟩
        have hxl := HO.len
        show cur'[off + j]? = some v
        rw [h5]
        by_cases hjx : j < xs.length
        · rw [List.getElem?_append_left hjx] at hj
          rw [if_neg (by omega)]
          exact hcs j v hj
        · rw [List.getElem?_append_right (by omega)] at hj
          have hlt := (List.getElem?_eq_some_iff.1 hj).1
          rw [if_pos (by omega), show off + j - (off + n * i0.size) = j - xs.length by omega]
          exact hj
      · obtain ⟨v1, w1, hr, h2, h3⟩ := run_append_arg_grows (P := P) (w := W) t ty e i0 z sz bytes ht hi hz0 hz1 hz2 hzs hs0 ⟨g, off, none⟩ n c xs HO.len
          (fun j u hu => by rw [add_spot _ rfl, blk_cell hh]; exact hcs j u hu) ad2 m c2 ys hm hcells (by omega) hmax hl
        obtain ⟨A', c', rfl, h4, ad', rfl, h6, h7, h8⟩ := fresh v1 w1 h2 (by omega)
        refine ⟨_, c', w1, hr, h4, ⟨h3.os, h3.tape, h3.output, h3.size, fun k hk _ => h3.block k hk (by simp)⟩, .inr (fun ad ha => ?_)⟩
        injection ha with ha
        subst ha
        exact h6

theorem own_row {base : Nat} {A : Option Addr} {n c : Nat} (h : ∀ ad, A = some ad → base ≤ ad.block) : ∀ k, (Value.slice A n c).ownBlock = some k → base ≤ k := by
  intro k hk
  cases A with
  | none => cases hk
  | some ad =>
    injection hk with hk
    rw [← hk]
    exact h ad rfl
/-- The world behind an append to a row that the call made. -/
theorem below_own {w W w' : World} {A : Option Addr} {n c : Nat} (hb : Below w.heap.size w W) (hg : W.grownBy w' ((Value.slice A n c).ownBlock)) (ha : ∀ ad, A = some ad → w.heap.size ≤ ad.block) : Below w.heap.size w w' :=
  hb.grown hg hb.size (fun k hk => by
    cases A with
    | none => cases hk
    | some ad =>
      injection hk with hk
      rw [← hk]
      exact ha ad rfl)

theorem OV.extend {w : World} {base : Nat} {e : TypeId} {sz : Nat} {A : Option Addr} {n c : Nat} {cs : List Value} (h : OV w base e sz A n c cs) (hc : c ≤ 281474976710656) : ∃ more, OV w base e sz A c c (cs ++ more) := by
  have hms : n * sz ≤ c * sz := Nat.mul_le_mul_right _ h.cap
  cases A with
  | none =>
    have h0 := h.bare rfl
    have := h.cap
    obtain rfl : n = 0 := by omega
    subst h0
    exact ⟨[], by simpa using h⟩
  | some ad =>
    obtain ⟨hb, hs, cur, hh, hfit, hcs⟩ := h.form ad rfl
    have hlen := h.len
    have hll : cur.toList.length = cur.size := Array.length_toList
    have e1 : ∀ j, j < c * sz → ((cs ++ (cur.toList.drop (ad.off + n * sz)).take ((c - n) * sz)))[j]? = cur[ad.off + j]? := by
      intro j hj
      by_cases hjn : j < cs.length
      · rw [List.getElem?_append_left hjn, List.getElem?_eq_getElem hjn]
        exact (hcs j _ (List.getElem?_eq_getElem hjn)).symm
      · rw [List.getElem?_append_right (by omega), List.getElem?_take, if_pos (by rw [Nat.sub_mul]; omega), List.getElem?_drop]
        rw [show ad.off + n * sz + (j - cs.length) = ad.off + j by omega]
        simp
    have hlen2 : (cs ++ (cur.toList.drop (ad.off + n * sz)).take ((c - n) * sz)).length = c * sz := by
      rw [List.length_append, List.length_take, List.length_drop, hll, Nat.sub_mul, hlen]
      omega
    refine ⟨(cur.toList.drop (ad.off + n * sz)).take ((c - n) * sz), hlen2, Nat.le_refl _, hc, h.capmax, fun ad' ha => ?_, fun ha => by cases ha⟩
    injection ha with ha
    subst ha
    refine ⟨hb, hs, cur, hh, hfit, fun j v hj => ?_⟩
    have hlt : j < c * sz := by rw [← hlen2]; exact (List.getElem?_eq_some_iff.1 hj).1
    rw [← e1 j hlt]
    exact hj

/-- append(s[:cap(s)], make([]T, k)...), what slices.Grow does where there is no room: the old elements lie at the begin of a new row. -/
theorem run_grow_rows {P : Program} (W : World) (base : Nat) (t tn ty e : TypeId) (sz bytes : Nat) (z : Value) (kn kq : IntKind) (A : Option Addr) (n c : Nat) (xs : List Value) (k : Nat)
    (ht : P.underlying t = some (.slice e)) (htn : P.underlying tn = some (.int kn)) (hinfo : (P.info? e).map (fun i => (i.zero, i.size, i.bytes)) = some (some z, sz, bytes)) (hzs : z.cells.size = sz) (hs0 : 0 < sz) (hb0 : 0 < bytes)
    (HO : OV W base e sz A n c xs) (h0 : 0 < k) (hbase : base ≤ W.heap.size) (hl : (c + k) * bytes ≤ 140737488355328) :
    ∃ A' c' w', (Builtin.append_ #[t, tn] ty #[.slice A c c, .int kq k]).run P W = .ok (.slice A' (c + k) c') w' ∧
      OV w' base e sz A' n c' xs ∧ c + k ≤ c' ∧ Below W.heap.size W w' ∧ (∀ ad, A' = some ad → W.heap.size ≤ ad.block) := by
  have hck : c + k ≤ 140737488355328 := Nat.le_trans (Nat.le_mul_of_pos_right _ hb0) hl
  obtain ⟨i0, hi, hzz⟩ := Option.map_eq_some_iff.1 hinfo
  simp only [Prod.mk.injEq] at hzz
  obtain ⟨hz0, hz1, hz2⟩ := hzz
  obtain ⟨more, HE⟩ := HO.extend (by omega)
  have hcap := HO.cap
  have hold : (Builtin.firstCells i0.size c (.slice A c c)).run P W.drew = .ok (xs ++ more).toArray W.drew := by
    cases A with
    | none =>
      have hc0 := HO.bare rfl
      subst hc0
      have : xs ++ more = [] := List.eq_nil_of_length_eq_zero (by simpa using HE.len)
      rw [this]
      rfl
    | some ad =>
      refine run_firstCells_some (P := P) W.drew i0.size c ad c c (xs ++ more) (by rw [hz1]; exact HE.len) (fun j u hu => ?_)
      obtain ⟨_, hs, cur, hh, _, hcs⟩ := HE.form ad rfl
      have : W.drew.cell? (ad.add j) = W.cell? (ad.add j) := rfl
      rw [this, add_spot ad hs, blk_cell hh]
      exact hcs j u hu
  have hkb : k * bytes ≤ (c + k) * bytes := Nat.mul_le_mul_right _ (by omega)
  have hrun := Lib.run_append_grow_zeros (P := P) W t tn ty e i0 z kq kn ht htn hi hz0 A c c (xs ++ more) hold k h0 (by omega) (by omega) (by omega) (by rw [hz2]; omega) (growslice_fits (by omega) (by rw [hz2]; exact hl))
  have hge := grownCap_ge W (c + k) c e
  have hmx := grownCap_le_maxLen W (c + k) c e (by simp only [maxLen]; omega)
  refine ⟨_, _, _, hrun, ?_, hge, ?_, fun ad ha => by injection ha with ha; subst ha; exact Nat.le_refl _⟩
  · have hsize : ((xs ++ more).toArray ++ Builtin.zeroCells z.cells k ++ Builtin.zeroCells z.cells (grownCap W (c + k) c e - (c + k))).size = grownCap W (c + k) c e * sz := by
      rw [Array.size_append, Array.size_append, List.size_toArray, HE.len, size_zeroCells, size_zeroCells, hzs, ← Nat.add_mul, ← Nat.add_mul]
      congr 1
      omega
    refine ⟨HO.len, by omega, HO.small, hmx, fun ad ha => ?_, fun ha => by cases ha⟩
    injection ha with ha
    subst ha
    refine ⟨hbase, rfl, _, heap_alloc_new W.drew _, by rw [hsize]; simp, fun j v hj => ?_⟩
    have hlt := (List.getElem?_eq_some_iff.1 hj).1
    show _[0 + j]? = some v
    rw [Nat.zero_add, Array.getElem?_append_left (by rw [Array.size_append, List.size_toArray, List.length_append]; omega), Array.getElem?_append_left (by rw [List.size_toArray, List.length_append]; omega), List.getElem?_toArray, List.getElem?_append_left hlt]
    exact hj
  · exact ⟨rfl, rfl, rfl, by simp, fun i hi => Below.heap_alloc W.drew _ i hi⟩

/-! ### Bytes -/
/-- What reads as bytes. -/
structure RB (w : World) (A : Option Addr) (n c : Nat) (xs : List Int) : Prop where
  rv : RV w 1 A n c (nums .u8 xs)
  range : Bytes xs
/-- Bytes of the call's own: blocks from base on. -/
structure OB (w : World) (base : Nat) (A : Option Addr) (n c : Nat) (xs : List Int) : Prop where
  ov : OV w base 5 1 A n c (nums .u8 xs)
  range : Bytes xs

section
variable {w w1 : World} {base base' : Nat} {A : Option Addr} {n c : Nat} {xs : List Int}
theorem RB.len (h : RB w A n c xs) : xs.length = n := by have := h.rv.len; simpa [nums] using this
theorem RB.cap (h : RB w A n c xs) : n ≤ c := h.rv.cap
theorem RB.small (h : RB w A n c xs) : n ≤ 281474976710656 := h.rv.small
theorem RB.nil (w : World) (A : Option Addr) (c : Nat) : RB w A 0 c [] := ⟨RV.nil w 1 A c, Bytes.nil⟩
theorem RB.at_ (h : RB w A n c xs) (i : Int) (h0 : 0 ≤ i) (h1 : i < n) : ∃ ad, A = some ad ∧ w.cell? (ad.add i.toNat) = some (.int .u8 (rd xs i)) := by
  obtain ⟨ad, e, hc⟩ := h.rv.cells (by omega)
  exact ⟨ad, e, hc _ _ (nums_get _ _ _ (by have := h.len; omega))⟩
theorem RB.rng (h : RB w A n c xs) (i : Int) : 0 ≤ rd xs i ∧ rd xs i < 256 := h.range.getD _
theorem RB.below (h : RB w A n c xs) (hb : Below w.heap.size w w1) : RB w1 A n c xs := ⟨h.rv.below hb, h.range⟩
theorem RB.grown (h : RB w A n c xs) {row : Option Nat} (hg : w.grownBy w1 row) (hne : ∀ ad, A = some ad → some ad.block ≠ row) : RB w1 A n c xs := ⟨h.rv.grown hg hne, h.range⟩
theorem nums_take (k : IntKind) (xs : List Int) (m : Nat) : nums k (xs.take m) = (nums k xs).take m := by simp [nums, List.map_take]
theorem nums_drop (k : IntKind) (xs : List Int) (m : Nat) : nums k (xs.drop m) = (nums k xs).drop m := by simp [nums, List.map_drop]
theorem RB.take (h : RB w A n c xs) (m : Nat) (hm : m ≤ n) : RB w A m c (xs.take m) := ⟨by have := h.rv.take m hm; rwa [Nat.mul_one, ← nums_take] at this, h.range.take m⟩
theorem RB.drop (h : RB w A n c xs) (m : Nat) (hm : m ≤ n) : RB w (if c = m then A else A.map (·.add m)) (n - m) (c - m) (xs.drop m) := ⟨by have := h.rv.drop m hm; rwa [Nat.mul_one, ← nums_drop] at this, h.range.drop m⟩
theorem RB.capmono (h : RB w A n c xs) {c' : Nat} (hc : n ≤ c') : RB w A n c' xs := ⟨h.rv.capmono hc, h.range⟩
theorem OB.len (h : OB w base A n c xs) : xs.length = n := by have := h.ov.len; simpa [nums] using this
theorem OB.cap (h : OB w base A n c xs) : n ≤ c := h.ov.cap
theorem OB.base_ (h : OB w base A n c xs) : ∀ ad, A = some ad → base ≤ ad.block := h.ov.base_
theorem OB.lt (h : OB w base A n c xs) : ∀ ad, A = some ad → ad.block < w.heap.size := h.ov.lt
theorem OB.take (h : OB w base A n c xs) (m c' : Nat) (hm : m ≤ n) (hc : m ≤ c') (hc' : c' ≤ c) : OB w base A m c' (xs.take m) := ⟨by have := h.ov.take m c' hm hc hc'; rwa [Nat.mul_one, ← nums_take] at this, h.range.take m⟩
theorem OB.reads (h : OB w base A n c xs) : RB w A n c xs := ⟨h.ov.reads, h.range⟩
theorem OB.small (h : OB w base A n c xs) : n ≤ 281474976710656 := h.ov.small
theorem OB.lower (h : OB w base A n c xs) (hb : base' ≤ base) : OB w base' A n c xs := ⟨h.ov.lower hb, h.range⟩
theorem OB.grown (h : OB w base A n c xs) {row : Option Nat} (hg : w.grownBy w1 row) (hne : ∀ ad, A = some ad → some ad.block ≠ row) : OB w1 base A n c xs := ⟨h.ov.grown hg hne, h.range⟩
theorem OB.below (h : OB w base A n c xs) (hb : Below w.heap.size w w1) : OB w1 base A n c xs := ⟨h.ov.below hb, h.range⟩
theorem OB.nil (w : World) (base : Nat) : OB w base none 0 0 [] := ⟨OV.nil _ _ _ _, Bytes.nil⟩
end
theorem OB.new (W : World) (base : Nat) (xs : List Int) (hb : base ≤ W.heap.size) (hn : xs.length ≤ 281474976710656) (hr : Bytes xs) :
    OB (W.alloc (.cells (nums .u8 xs).toArray 5)) base (some ⟨W.heap.size, 0, none⟩) xs.length xs.length xs :=
  ⟨by have := OV.new W base 5 1 (nums .u8 xs).toArray xs.length hb (by simp [nums]) hn; simpa using this, hr⟩

theorem info_u8 : (Tryd.prog.info? 5).map (fun i => (i.zero, i.size, i.bytes)) = some (some (.int .u8 0), 1, 1) := by kernel_rfl

/-- append(v, ys...) on bytes of the call's own; ys is read. -/
theorem run_append_bytes (W : World) (base : Nat) (ty : TypeId) (A : Option Addr) (n c : Nat) (xs : List Int) (A2 : Option Addr) (m c2 : Nat) (ys : List Int)
    (HO : OB W base A n c xs) (HR : RB W A2 m c2 ys) (hbase : base ≤ W.heap.size) (hl : n + m ≤ 140737488355328) :
    ∃ A' c' w', (Builtin.append_ #[35, 35] ty #[.slice A n c, .slice A2 m c2]).run Tryd.prog W = .ok (.slice A' (n + m) c') w' ∧
      OB w' base A' (n + m) c' (xs ++ ys) ∧ W.grownBy w' ((Value.slice A n c).ownBlock) ∧ (A' = A ∨ ∀ ad, A' = some ad → W.heap.size ≤ ad.block) := by
  obtain ⟨A', c', w', h1, h2, h3, h4⟩ := run_append_rows W base 35 ty 5 1 1 (.int .u8 0) A n c (nums .u8 xs) A2 m c2 (nums .u8 ys) Tryd.underlying35 info_u8 rfl (by omega) (by omega) HO.ov HR.rv (nums_one _ _) hbase (by omega)
  exact ⟨A', c', w', h1, ⟨by rw [nums_append]; exact h2, HO.range.append HR.range⟩, h3, h4⟩

section
variable {P : Program} {ops : Array Oper} {rest : List Oper} {o : Oper} {a : Act} {Q : Exit → Act → World → Prop}
/-- One operation whose run is known. -/
theorem wpList_exec {W : World} (hgd : o.guard = none) {v : Value} {w' : World} (hrun : (execOp a.eval o).run P W = .ok (.value v) w') (h : wpList P ops Q rest (a.put o.dst v) w') : wpList P ops Q (o :: rest) a W :=
  wpList_plain hgd fun K hK => by
    unfold Oper.wp
    rw [hrun]
    exact hK _ _ h
end
section
variable {ops : Array Oper} {rest : List Oper} {o : Oper} {a : Act} {Q : Exit → Act → World → Prop}
theorem exec_append {W w' : World} (s x : Operand) (ts : Array TypeId) (ho : o.op = .call { callee := .builtin .append, args := #[s, x], argTypes := ts }) {vs vx v : Value} (hs : a.eval s = vs) (hx : a.eval x = vx)
    (hr : (Builtin.append_ ts o.type #[vs, vx]).run Tryd.prog W = .ok v w') : (execOp a.eval o).run Tryd.prog W = .ok (.value v) w' := by
  unfold execOp
  simp only [ho, resolve, invoke, builtin, Sem.run_bind, Sem.run_pure, Result.andThen_ok, List.map_toArray, List.map_cons, List.map_nil, hs, hx, hr]
theorem wpList_append_bytes {W : World} (hgd : o.guard = none) (s x : Operand) (ho : o.op = .call { callee := .builtin .append, args := #[s, x], argTypes := #[35, 35] })
    {base : Nat} {A : Option Addr} {n c : Nat} {xs : List Int} {A2 : Option Addr} {m c2 : Nat} {ys : List Int} (hs : a.eval s = .slice A n c) (hx : a.eval x = .slice A2 m c2)
    (HO : OB W base A n c xs) (HR : RB W A2 m c2 ys) (hbase : base ≤ W.heap.size) (hl : n + m ≤ 140737488355328)
    (h : ∀ A' c' w', OB w' base A' (n + m) c' (xs ++ ys) → W.grownBy w' ((Value.slice A n c).ownBlock) → (A' = A ∨ ∀ ad, A' = some ad → W.heap.size ≤ ad.block) → wpList Tryd.prog ops Q rest (a.put o.dst (.slice A' (n + m) c')) w') :
    wpList Tryd.prog ops Q (o :: rest) a W := by
  obtain ⟨A', c', w', h1, h2, h3, h4⟩ := run_append_bytes W base o.type A n c xs A2 m c2 ys HO HR hbase hl
  exact wpList_exec hgd (exec_append s x _ ho hs hx h1) (h _ _ _ h2 h3 h4)
end

theorem wpList_grow_bytes {ops : Array Oper} {rest : List Oper} {o : Oper} {a : Act} {Q : Exit → Act → World → Prop} {W : World} (hgd : o.guard = none) (s x : Operand) (ho : o.op = .call { callee := .builtin .append, args := #[s, x], argTypes := #[35, 3] })
    {base : Nat} {A : Option Addr} {n c : Nat} {xs : List Int} {k : Int} (hs : a.eval s = .slice A c c) (hx : a.eval x = .int .i64 k)
    (HO : OB W base A n c xs) (hk : 0 < k) (hbase : base ≤ W.heap.size) (hl : (c : Int) + k ≤ 140737488355328)
    (h : ∀ A' c' w' m, OB w' base A' n c' xs → Below W.heap.size W w' → (∀ ad, A' = some ad → W.heap.size ≤ ad.block) → m ≤ c' → (m : Int) = c + k → wpList Tryd.prog ops Q rest (a.put o.dst (.slice A' m c')) w') :
    wpList Tryd.prog ops Q (o :: rest) a W := by
  obtain ⟨q, rfl⟩ := Int.eq_ofNat_of_zero_le (Int.le_of_lt hk)
  obtain ⟨A', c', w', h1, h2, h3, h4, h5⟩ := run_grow_rows W base 35 3 o.type 5 1 1 (.int .u8 0) .i64 .i64 A n c (nums .u8 xs) q Tryd.underlying35 Tryd.underlying3 info_u8 rfl (by omega) (by omega) HO.ov (by omega) hbase (by omega)
  exact wpList_exec hgd (exec_append s x _ ho hs hx h1) (h _ _ _ _ ⟨h2, HO.range⟩ h4 h5 h3 (by omega))
theorem OB.empty (W : World) (base : Nat) (hb : base ≤ W.heap.size) : OB (W.alloc (.cells #[] 5)) base (some ⟨W.heap.size, 0, none⟩) 0 0 [] := OB.new W base [] hb (by simp) Bytes.nil

theorem RB.one (W : World) (y : Int) (h0 : 0 ≤ y) (h1 : y < 256) : RB (W.alloc (.cells #[.int .u8 y] 5)) (some ⟨W.heap.size, 0, none⟩) 1 1 [y] :=
  (OB.new W 0 [y] (by omega) (by simp) (by intro z hz; simp only [List.mem_singleton] at hz; omega)).reads

/-- s[m:] of a slice of elements of one cell. -/
theorem cut_from {P : Program} (t e : TypeId) {i : TypeInfo} (ht : P.underlying t = some (.slice e)) (hi : P.info? e = some i) (size : Nat) (hsz : i.size = size) (A : Option Addr) (n c : Nat) (j : Int) (h0 : 0 ≤ j) (hm : j ≤ n) :
    ∀ W : World, (Instr.slice t (.slice A n c) (some (.int .i64 j)) none none).run P W = .ok (.slice (if c = j.toNat then A else A.map (·.add (j.toNat * size))) (n - j.toNat) (c - j.toNat)) W := by
  intro W
  have hel : P.elem t = e := by simp [Program.elem, ht]
  have hu : P.underlying t = some (.slice (P.elem t)) := by rw [hel]; exact ht
  rw [run_slice_l W t A n c hu .i64 j h0 hm, hel]
  simp [sizeOf, typeInfo, hi, hsz, sliced, Result.andThen]
theorem cut_bytes (A : Option Addr) (n c : Nat) (j : Int) (h0 : 0 ≤ j) (hm : j ≤ n) :
    ∃ A1, (∀ W : World, (Instr.slice 35 (.slice A n c) (some (.int .i64 j)) none none).run Tryd.prog W = .ok (.slice A1 (n - j.toNat) (c - j.toNat)) W) ∧
      (∀ w xs, RB w A n c xs → RB w A1 (n - j.toNat) (c - j.toNat) (xs.drop j.toNat)) ∧ (∀ ad, A1 = some ad → ∃ ad0, A = some ad0 ∧ ad.block = ad0.block) := by
  obtain ⟨i0, hi, hzz⟩ := Option.map_eq_some_iff.1 info_u8
  simp only [Prod.mk.injEq] at hzz
  refine ⟨if c = j.toNat then A else A.map (·.add j.toNat), fun W => ?_, fun w xs h => h.drop j.toNat (by omega), fun ad ha => ?_⟩
  · rw [cut_from 35 5 Tryd.underlying35 hi 1 hzz.2.1 A n c j h0 hm W, Nat.mul_one]
  · split at ha
    · exact ⟨ad, ha, rfl⟩
    · cases A with
      | none => cases ha
      | some a0 =>
        simp only [Option.map_some, Option.some.injEq] at ha
        exact ⟨a0, rfl, by rw [← ha, add_block]⟩

/-! ### Arguments: slices of whole numbers -/
structure RN (w : World) (k : IntKind) (A : Option Addr) (n c : Nat) (xs : List Int) : Prop where
  rv : RV w 1 A n c (nums k xs)
  wf : ∀ x ∈ xs, (Lit.int k x).wf = true
section
variable {w w1 : World} {k : IntKind} {A : Option Addr} {n c : Nat} {xs : List Int}
theorem RN.len (h : RN w k A n c xs) : xs.length = n := by have := h.rv.len; simpa [nums] using this
theorem RN.cap (h : RN w k A n c xs) : n ≤ c := h.rv.cap
theorem RN.small (h : RN w k A n c xs) : n ≤ 281474976710656 := h.rv.small
theorem RN.at_ (h : RN w k A n c xs) (i : Int) (h0 : 0 ≤ i) (h1 : i < n) : ∃ ad, A = some ad ∧ w.cell? (ad.add i.toNat) = some (.int k (rd xs i)) := by
  obtain ⟨ad, e, hc⟩ := h.rv.cells (by omega)
  exact ⟨ad, e, hc _ _ (nums_get _ _ _ (by have := h.len; omega))⟩
theorem RN.below (h : RN w k A n c xs) (hb : Below w.heap.size w w1) : RN w1 k A n c xs := ⟨h.rv.below hb, h.wf⟩
theorem RN.wf_at (h : RN w k A n c xs) (i : Int) (h0 : 0 ≤ i) (h1 : i < n) : (Lit.int k (rd xs i)).wf = true := by
  apply h.wf
  have := h.len
  rw [rd, List.getD_eq_getElem?_getD, List.getElem?_eq_getElem (by omega)]
  exact List.getElem_mem _
theorem RN.bytes (h : RN w .u8 A n c xs) : RB w A n c xs := ⟨h.rv, fun x hx => by
  have := h.wf x hx
  simp [Lit.wf, IntKind.min, IntKind.max, IntKind.bits, IntKind.signed] at this
  omega⟩
end
/-- What an argument's reading says of a slice of whole numbers. -/
def IsRow (k : IntKind) (w : World) (a : Option Addr) (len cap : Nat) (zs : List Int) : Prop :=
  (a = none ∧ len = 0 ∧ cap = 0 ∧ zs = []) ∨
  ∃ x, a = some x ∧ len ≤ cap ∧ cap ≤ maxLen ∧ zs.length = cap ∧ (∀ i, i < zs.length → w.cell? (x.add i) = some (.int k (zs.getD i 0))) ∧ ∀ n ∈ zs, (Lit.int k n).wf = true
theorem RN.of_row {k : IntKind} {w : World} {a : Option Addr} {len cap : Nat} {zs : List Int} (h : IsRow k w a len cap zs) (hs : len ≤ 281474976710656) : RN w k a len cap (zs.take len) := by
  rcases h with ⟨rfl, rfl, rfl, rfl⟩ | ⟨x, rfl, hl, hm, hz, hc, hw⟩
  · exact ⟨RV.nil _ _ _ _, by simp⟩
  · refine ⟨⟨by simp [nums, List.length_take]; omega, hl, hs, fun _ => ⟨x, rfl, fun j v hj => ?_⟩⟩, fun y hy => hw y (List.mem_of_mem_take hy)⟩
    have hlt := (List.getElem?_eq_some_iff.1 hj).1
    simp only [nums, List.length_map, List.length_take] at hlt
    rw [nums_get _ _ _ (by rw [List.length_take]; omega)] at hj
    rw [hc j (by omega), ← hj]
    simp [List.getD_eq_getElem?_getD, show j < len by omega]

/-! ### Small run facts -/
@[go_sem] theorem eql_bytes_nil (w : World) (A : Option Addr) (n c : Nat) : (binOp .eql 35 (.slice A n c) (.slice none 0 0)).run Tryd.prog w = .ok (.bool A.isNone) w := Lib.run_eql_slice_nil w _ 5 A n c 0 0 Tryd.underlying35

theorem min2_i (k k' : IntKind) (x y : Int) : Builtin.min2 (.int k x) (.int k' y) = pure (.int k (min x y)) := by
  simp only [Builtin.min2]
  congr 2
  by_cases h : y < x
  · rw [if_pos h]; omega
  · rw [if_neg h]; omega
theorem max2_i (k k' : IntKind) (x y : Int) : Builtin.max2 (.int k x) (.int k' y) = pure (.int k (max x y)) := by
  simp only [Builtin.max2]
  congr 2
  by_cases h : y > x
  · rw [if_pos h]; omega
  · rw [if_neg h]; omega
@[go_sem] theorem min_int2 (ats : Array TypeId) (ty : TypeId) (k k1 : IntKind) (a b : Int) : Builtin.min_ ats ty #[.int k a, .int k1 b] = pure (.int k (min a b)) := by
  simp only [Builtin.min_, List.foldlM_cons, List.foldlM_nil, min2_i]
  rfl
@[go_sem] theorem min_int3 (ats : Array TypeId) (ty : TypeId) (k k1 k2 : IntKind) (a b c : Int) : Builtin.min_ ats ty #[.int k a, .int k1 b, .int k2 c] = pure (.int k (min (min a b) c)) := by
  simp only [Builtin.min_, List.foldlM_cons, List.foldlM_nil, min2_i]
  show (pure (Value.int k (min a b)) >>= fun s => Builtin.min2 s (.int k2 c) >>= fun s => pure s : Sem Value) = _
  show (Builtin.min2 (Value.int k (min a b)) (.int k2 c) >>= fun s => pure s : Sem Value) = _
  rw [min2_i]
  rfl
@[go_sem] theorem min_int4 (ats : Array TypeId) (ty : TypeId) (k k1 k2 k3 : IntKind) (a b c d : Int) : Builtin.min_ ats ty #[.int k a, .int k1 b, .int k2 c, .int k3 d] = pure (.int k (min (min (min a b) c) d)) := by
  simp only [Builtin.min_, List.foldlM_cons, List.foldlM_nil, min2_i]
  show (Builtin.min2 (Value.int k (min a b)) (.int k2 c) >>= fun s => Builtin.min2 s (.int k3 d) >>= fun s => pure s : Sem Value) = _
  rw [min2_i]
  show (Builtin.min2 (Value.int k (min (min a b) c)) (.int k3 d) >>= fun s => pure s : Sem Value) = _
  rw [min2_i]
  rfl
@[go_sem] theorem max_int2 (ats : Array TypeId) (ty : TypeId) (k k1 : IntKind) (a b : Int) : Builtin.max_ ats ty #[.int k a, .int k1 b] = pure (.int k (max a b)) := by
  simp only [Builtin.max_, List.foldlM_cons, List.foldlM_nil, max2_i]
  rfl

end Go.Proofs.YtcloepjeckbmoaaDoor
