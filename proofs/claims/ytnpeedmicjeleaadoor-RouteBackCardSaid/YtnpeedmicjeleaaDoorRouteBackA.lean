/- Words and small lemmas that the contracts of this seat share. -/
import Derived.Below
import Derived.BigQuiet
import Derived.ChangeOld
import Derived.ChangeSlices
import Derived.Deep.CutBlock
import Derived.Deep.DeepCutAuto
import Derived.Deep.LoopGhost
import Derived.Deep.MidRow
import Derived.Deep.OwnRows
import Derived.Deep.QuietTactic
import Derived.Deep.RegionHeld3
import Derived.Deep.RegionWith
import Derived.KernelRfl
import Derived.LaidMore
import Derived.Lib.AppendZerosOnto
import Derived.Lib.Bytealg
import Derived.Lib.Bytes
import Derived.Lib.Hide
import Derived.Maps.AppendAt
import Derived.OpenShut
import Derived.Orders
import Derived.ProofKit
import Derived.ShutString
import Derived.SizedLaws
import Derived.Still
import Derived.Stop.Joined
import Derived.WalkKit
import Derived.WalkLawsBesides
import Derived.WalkSpells
import Derived.Test.YtnpeedmicjeleaaDoorProg
import Derived.Test.YtnpeedmicjeleaaDoorRows
namespace Go.Proofs.YtnpeedmicjeleaaDoor
open Go.RowKit
set_option linter.unusedVariables false
set_option linter.unusedSimpArgs false
set_option maxRecDepth 4000

/-! ### Lists of numbers, and rows of bytes -/
def nums (k : IntKind) (xs : List Int) : List Value := xs.map fun x => .int k x
theorem nums_length (k : IntKind) (xs : List Int) : (nums k xs).length = xs.length := by simp [nums]
theorem nums_append (k : IntKind) (xs ys : List Int) : nums k (xs ++ ys) = nums k xs ++ nums k ys := by simp [nums]
theorem nums_get (k : IntKind) (xs : List Int) (j : Nat) (h : j < xs.length) : (nums k xs)[j]? = some (.int k (xs.getD j 0)) := by
  simp [nums, List.getElem?_eq_getElem h, List.getD_eq_getElem?_getD]
theorem nums_one (k : IntKind) (xs : List Int) : ∀ u ∈ nums k xs, u.oneCell' = true := by
  intro u hu
  simp only [nums, List.mem_map] at hu
  obtain ⟨x, _, rfl⟩ := hu
  rfl
def rd (xs : List Int) (i : Int) : Int := xs.getD i.toNat 0
def Bytes (xs : List Int) : Prop := ∀ x ∈ xs, 0 ≤ x ∧ x < 256
theorem Bytes.nil : Bytes [] := fun _ h => by cases h
theorem Bytes.append {xs ys : List Int} (h : Bytes xs) (k : Bytes ys) : Bytes (xs ++ ys) := fun x hx => (List.mem_append.1 hx).elim (h x) (k x)
theorem Bytes.take {xs : List Int} (h : Bytes xs) (n : Nat) : Bytes (xs.take n) := fun x hx => h x (List.mem_of_mem_take hx)
theorem Bytes.drop {xs : List Int} (h : Bytes xs) (n : Nat) : Bytes (xs.drop n) := fun x hx => h x (List.mem_of_mem_drop hx)
theorem Bytes.getD {xs : List Int} (h : Bytes xs) (j : Nat) : 0 ≤ xs.getD j 0 ∧ xs.getD j 0 < 256 := by
  rw [List.getD_eq_getElem?_getD]
  cases hj : xs[j]? with
  | none => simp
  | some x => simpa using h x (List.mem_of_getElem? hj)

/-! ### The world -/
theorem add_plain (g j : Nat) : (⟨g, 0, none⟩ : Addr).add j = ⟨g, j, none⟩ := by unfold Addr.add; split <;> simp_all
theorem add_add (a : Addr) (i j : Nat) : (a.add i).add j = a.add (i + j) := by
  unfold Addr.add
  by_cases h1 : i = 0 <;> by_cases h2 : j = 0 <;> simp [h1, h2, Nat.add_assoc]
theorem add_block (a : Addr) (i : Nat) : (a.add i).block = a.block := by unfold Addr.add; split <;> rfl
theorem cell_below {w w1 : World} (h : Below w.heap.size w w1) {a : Addr} {v : Value} (hc : w.cell? a = some v) : w1.cell? a = some v := (h.cell (World.block_lt_of_cell? w a hc)).trans hc
theorem below_alloc {w W : World} (h : Below w.heap.size w W) (o : Obj) : Below w.heap.size w (W.alloc o) := h.alloc h.size o
theorem below_drewN {B : Nat} {w W : World} (h : Below B w W) (n : Nat) : Below B w (W.drewN n) := ⟨h.os, h.tape, h.output, h.size, h.block⟩
theorem below_then {B : Nat} {w w1 w2 : World} (h : Below B w w1) (hB : B ≤ w1.heap.size) (k : Below w1.heap.size w1 w2) : Below B w w2 :=
  h.trans ⟨k.os, k.tape, k.output, k.size, fun i hi => k.block i (Nat.lt_of_lt_of_le hi hB)⟩
theorem below_step {w w1 w2 : World} (h : Below w.heap.size w w1) (k : Below w1.heap.size w1 w2) : Below w.heap.size w w2 := below_then h h.size k
theorem grown_of_below {w w1 : World} (h : Below w.heap.size w w1) (row : Option Nat) : w.grownBy w1 row := ⟨h.os, h.tape, h.output, h.size, fun i hi _ => h.block i hi⟩
theorem grown_refl (w : World) (row : Option Nat) : w.grownBy w row := ⟨rfl, rfl, rfl, Nat.le_refl _, fun _ _ _ => rfl⟩
theorem grown_drewN (w : World) (n : Nat) (row : Option Nat) : w.grownBy (w.drewN n) row := ⟨rfl, rfl, rfl, Nat.le_refl _, fun _ _ _ => rfl⟩
theorem blk_lt {w : World} {g : Nat} {o : Obj} (h : w.heap[g]? = some o) : g < w.heap.size := (Array.getElem?_eq_some_iff.1 h).1
theorem blk_below {w w1 : World} {g : Nat} {o : Obj} (h : w.heap[g]? = some o) (hb : Below w.heap.size w w1) : w1.heap[g]? = some o := (hb.block g (blk_lt h)).trans h
theorem blk_grown {w w1 : World} {g : Nat} {o : Obj} {row : Option Nat} (h : w.heap[g]? = some o) (hg : w.grownBy w1 row) (hne : some g ≠ row) : w1.heap[g]? = some o := (hg.block g (blk_lt h) hne).trans h
theorem blk_new (w : World) (o : Obj) : (w.alloc o).heap[w.heap.size]? = some o := heap_alloc_new w o
theorem blk_cell {w : World} {g : Nat} {t : TypeId} {cs : Array Value} (h : w.heap[g]? = some (.cells cs t (0, 0))) (i : Nat) : w.cell? ⟨g, i, none⟩ = cs[i]? := cell_of_row w g i cs t (0, 0) h
theorem blk_frozen {w : World} {g : Nat} {t : TypeId} {cs : Array Value} (h : w.heap[g]? = some (.cells cs t (0, 0))) (i : Nat) : w.frozen? ⟨g, i, none⟩ = false := by simp [World.frozen?, h]
theorem blk_set {w : World} {g : Nat} {t : TypeId} {cs : Array Value} (h : w.heap[g]? = some (.cells cs t (0, 0))) (i : Nat) (u : Value) : (w.setCell ⟨g, i, none⟩ u).heap[g]? = some (.cells (cs.setIfInBounds i u) t (0, 0)) := heap_setCell_same w g i cs t u h

/-- Nothing that was there has turned but the blocks g and h. -/
structure Kept2 (w w' : World) (g h : Nat) : Prop where
  os : w'.os = w.os
  tape : w'.tape = w.tape
  output : w'.output = w.output
  size : w.heap.size ≤ w'.heap.size
  block : ∀ k, k < w.heap.size → k ≠ g → k ≠ h → w'.heap[k]? = w.heap[k]?
theorem Kept2.refl (w : World) (g h : Nat) : Kept2 w w g h := ⟨rfl, rfl, rfl, Nat.le_refl _, fun _ _ _ _ => rfl⟩
theorem Kept2.trans {w w1 w2 : World} {g h : Nat} (a : Kept2 w w1 g h) (b : Kept2 w1 w2 g h) : Kept2 w w2 g h :=
  ⟨b.os.trans a.os, b.tape.trans a.tape, b.output.trans a.output, Nat.le_trans a.size b.size, fun k hk h1 h2 => (b.block k (Nat.lt_of_lt_of_le hk a.size) h1 h2).trans (a.block k hk h1 h2)⟩
theorem Kept2.of_grown {w w1 : World} {x g h : Nat} (a : w.grownBy w1 (some x)) (hx : x = g ∨ x = h) : Kept2 w w1 g h :=
  ⟨a.os, a.tape, a.output, a.size, fun k hk h1 h2 => a.block k hk (fun e => by injection e with e; rcases hx with rfl | rfl <;> simp_all)⟩
theorem grown_setCell (w : World) (a : Addr) (v : Value) : w.grownBy (w.setCell a v) (some a.block) :=
  ⟨rfl, rfl, rfl, by simp [World.setCell], fun k _ hk => Below.heap_setCell w a v k (fun e => hk (by rw [e]))⟩
theorem grown_trans {w w1 w2 : World} {row : Option Nat} (a : w.grownBy w1 row) (b : w1.grownBy w2 row) : w.grownBy w2 row :=
  ⟨b.os.trans a.os, b.tape.trans a.tape, b.output.trans a.output, Nat.le_trans a.size b.size, fun k hk h => (b.block k (Nat.lt_of_lt_of_le hk a.size) h).trans (a.block k hk h)⟩
theorem blk_set_far {w : World} {g : Nat} {o : Obj} (h : w.heap[g]? = some o) {a : Addr} (hne : g ≠ a.block) (v : Value) : (w.setCell a v).heap[g]? = some o := (Below.heap_setCell w a v g hne).trans h

/-- Below block b nothing has turned but the block g. -/
structure KeptB (w w' : World) (g b : Nat) : Prop where
  os : w'.os = w.os
  tape : w'.tape = w.tape
  output : w'.output = w.output
  size : w.heap.size ≤ w'.heap.size
  block : ∀ k, k < b → k ≠ g → w'.heap[k]? = w.heap[k]?
theorem KeptB.refl (w : World) (g b : Nat) : KeptB w w g b := ⟨rfl, rfl, rfl, Nat.le_refl _, fun _ _ _ => rfl⟩
theorem KeptB.trans {w w1 w2 : World} {g b : Nat} (h : KeptB w w1 g b) (k : KeptB w1 w2 g b) : KeptB w w2 g b :=
  ⟨k.os.trans h.os, k.tape.trans h.tape, k.output.trans h.output, Nat.le_trans h.size k.size, fun i hi h1 => (k.block i hi h1).trans (h.block i hi h1)⟩
theorem KeptB.of_below {w w1 : World} {g b : Nat} (h : Below b w w1) : KeptB w w1 g b := ⟨h.os, h.tape, h.output, h.size, fun k hk _ => h.block k hk⟩
theorem KeptB.set (w : World) (g b i : Nat) (v : Value) : KeptB w (w.setCell ⟨g, i, none⟩ v) g b :=
  ⟨rfl, rfl, rfl, by simp [World.setCell], fun k _ hk => Below.heap_setCell w _ v k hk⟩

/-! ### Rows of cells: what is read, what is owned. An element takes sz cells; n elements; cs: all their cells -/
structure RV (w : World) (sz : Nat) (A : Option Addr) (n c : Nat) (cs : List Value) : Prop where
  len : cs.length = n * sz
  cap : n ≤ c
  small : n ≤ 281474976710656
  cells : 0 < n → ∃ ad, A = some ad ∧ ∀ j v, cs[j]? = some v → w.cell? (ad.add j) = some v

section
variable {w w1 : World} {sz : Nat} {A : Option Addr} {n c : Nat} {cs : List Value}
theorem RV.nil (w : World) (sz : Nat) (A : Option Addr) (c : Nat) : RV w sz A 0 c [] := ⟨by simp, Nat.zero_le _, by omega, fun h => absurd h (by omega)⟩
theorem RV.below (h : RV w sz A n c cs) (hb : Below w.heap.size w w1) : RV w1 sz A n c cs :=
  ⟨h.len, h.cap, h.small, fun hn => by obtain ⟨ad, e, hc⟩ := h.cells hn; exact ⟨ad, e, fun j v hj => cell_below hb (hc j v hj)⟩⟩
theorem RV.grown (h : RV w sz A n c cs) {row : Option Nat} (hg : w.grownBy w1 row) (hne : ∀ ad, A = some ad → some ad.block ≠ row) : RV w1 sz A n c cs :=
  ⟨h.len, h.cap, h.small, fun hn => by
    obtain ⟨ad, e, hc⟩ := h.cells hn
    exact ⟨ad, e, fun j v hj => hg.cell (hc j v hj) (by rw [add_block]; exact hne ad e)⟩⟩
theorem RV.take (h : RV w sz A n c cs) (m : Nat) (hm : m ≤ n) : RV w sz A m c (cs.take (m * sz)) := by
  have hms : m * sz ≤ n * sz := Nat.mul_le_mul_right _ hm
  refine ⟨by rw [List.length_take, h.len]; omega, Nat.le_trans hm h.cap, Nat.le_trans hm h.small, fun hp => ?_⟩
  obtain ⟨ad, e, hc⟩ := h.cells (by omega)
  refine ⟨ad, e, fun j v hj => hc j v ?_⟩
  rw [List.getElem?_take] at hj
  split at hj
  · exact hj
  · cases hj
theorem RV.drop (h : RV w sz A n c cs) (m : Nat) (hm : m ≤ n) : RV w sz (if c = m then A else A.map (·.add (m * sz))) (n - m) (c - m) (cs.drop (m * sz)) := by
  have hcap := h.cap
  refine ⟨by rw [List.length_drop, h.len, Nat.sub_mul], by omega, by have := h.small; omega, fun hp => ?_⟩
  obtain ⟨ad, rfl, hcell⟩ := h.cells (by omega)
  rw [if_neg (by omega)]
  refine ⟨ad.add (m * sz), rfl, fun j v hj => ?_⟩
  rw [add_add]
  exact hcell _ _ (by rw [← List.getElem?_drop]; exact hj)
end

/-- A row of the call's own, in a block from base on; it may begin inside its block, and its capacity may end before the block does. -/
structure OV (w : World) (base : Nat) (e : TypeId) (sz : Nat) (A : Option Addr) (n c : Nat) (cs : List Value) : Prop where
  len : cs.length = n * sz
  cap : n ≤ c
  small : n ≤ 281474976710656
  capmax : c ≤ maxLen
  form : ∀ ad, A = some ad → base ≤ ad.block ∧ ad.spot = none ∧ ∃ cur, w.heap[ad.block]? = some (.cells cur e (0, 0)) ∧ ad.off + c * sz ≤ cur.size ∧ ∀ j v, cs[j]? = some v → cur[ad.off + j]? = some v
  bare : A = none → c = 0
theorem add_spot (a : Addr) (h : a.spot = none) (j : Nat) : a.add j = ⟨a.block, a.off + j, none⟩ := by
  obtain ⟨b, o, s⟩ := a
  subst h
  unfold Addr.add
  split
  · subst_vars; rfl
  · rfl
section
variable {w w1 : World} {base base' : Nat} {e : TypeId} {sz : Nat} {A : Option Addr} {n c : Nat} {cs : List Value}
theorem OV.reads (h : OV w base e sz A n c cs) : RV w sz A n c cs := by
  refine ⟨h.len, h.cap, h.small, fun hp => ?_⟩
  cases A with
  | none => have := h.bare rfl; have := h.cap; omega
  | some ad =>
    refine ⟨ad, rfl, fun j v hj => ?_⟩
    obtain ⟨_, hs, cur, hh, _, hc⟩ := h.form ad rfl
    rw [add_spot ad hs, blk_cell hh]
    exact hc j v hj
theorem OV.lower (h : OV w base e sz A n c cs) (hb : base' ≤ base) : OV w base' e sz A n c cs :=
  ⟨h.len, h.cap, h.small, h.capmax, fun ad ha => let ⟨h1, h2⟩ := h.form ad ha; ⟨Nat.le_trans hb h1, h2⟩, h.bare⟩
theorem OV.grown (h : OV w base e sz A n c cs) {row : Option Nat} (hg : w.grownBy w1 row) (hne : ∀ ad, A = some ad → some ad.block ≠ row) : OV w1 base e sz A n c cs :=
  ⟨h.len, h.cap, h.small, h.capmax, fun ad ha => let ⟨h1, h2, cur, hh, r⟩ := h.form ad ha; ⟨h1, h2, cur, blk_grown hh hg (hne ad ha), r⟩, h.bare⟩
theorem OV.below (h : OV w base e sz A n c cs) (hb : Below w.heap.size w w1) : OV w1 base e sz A n c cs := h.grown (grown_of_below hb none) (fun _ _ => by simp)
theorem OV.nil (w : World) (base : Nat) (e : TypeId) (sz : Nat) : OV w base e sz none 0 0 [] := ⟨by simp, by omega, by omega, by simp only [maxLen]; omega, (fun _ h => by cases h), fun _ => rfl⟩
theorem OV.base_ (h : OV w base e sz A n c cs) : ∀ ad, A = some ad → base ≤ ad.block := fun ad ha => (h.form ad ha).1
theorem OV.lt (h : OV w base e sz A n c cs) : ∀ ad, A = some ad → ad.block < w.heap.size := fun ad ha => let ⟨_, _, _, hh, _⟩ := h.form ad ha; blk_lt hh
/-- s[:m:c'] -/
theorem OV.take (h : OV w base e sz A n c cs) (m c' : Nat) (hm : m ≤ n) (hc : m ≤ c') (hc' : c' ≤ c) : OV w base e sz A m c' (cs.take (m * sz)) := by
  have hms : m * sz ≤ n * sz := Nat.mul_le_mul_right _ hm
  have hcs : c' * sz ≤ c * sz := Nat.mul_le_mul_right _ hc'
  refine ⟨by rw [List.length_take, h.len]; omega, hc, Nat.le_trans hm h.small, Nat.le_trans hc' h.capmax, fun ad ha => ?_, fun ha => by have := h.bare ha; omega⟩
  obtain ⟨h1, h2, cur, hh, h3, h4⟩ := h.form ad ha
  refine ⟨h1, h2, cur, hh, by omega, fun j v hj => h4 j v ?_⟩
  rw [List.getElem?_take] at hj
  split at hj
  · exact hj
  · cases hj
theorem OV.of_own (h : w.ownsRow base e sz (.slice A n c) n cs) (hn : n ≤ 281474976710656) : OV w base e sz A n c cs := by
  rcases h.2 with ⟨he, h0⟩ | ⟨g, cap, cur, he, hb, hh, hc, hm, hs, ht⟩
  · injection he with h1 h2 h3
    subst h1; subst h3; subst h0
    obtain rfl : cs = [] := List.eq_nil_of_length_eq_zero (by simpa using h.1)
    exact OV.nil _ _ _ _
  · injection he with h1 h2 h3
    subst h1; subst h3
    refine ⟨h.1, hc, hn, hm, fun ad ha => ?_, fun ha => by cases ha⟩
    injection ha with ha
    subst ha
    refine ⟨hb, rfl, cur, hh, by simp only [Nat.zero_add]; omega, fun j v hj => ?_⟩
    rw [← ht, List.getElem?_take] at hj
    split at hj
    · simpa using hj
    · cases hj
end
/-- A literal, or what make lays. -/
theorem OV.new (W : World) (base : Nat) (e : TypeId) (sz : Nat) (cs : Array Value) (n : Nat) (hb : base ≤ W.heap.size) (hl : cs.size = n * sz) (hn : n ≤ 281474976710656) :
    OV (W.alloc (.cells cs e)) base e sz (some ⟨W.heap.size, 0, none⟩) n n cs.toList :=
  ⟨by simpa using hl, Nat.le_refl _, hn, by simp only [maxLen]; omega, fun ad ha => by
    injection ha with ha
    subst ha
    exact ⟨hb, rfl, cs, blk_new _ _, by simp only [Nat.zero_add]; omega, fun j v hj => by simpa using hj⟩, fun ha => by cases ha⟩

/-! What a run of cells written leaves. -/
theorem setCells_far {g : Nat} : ∀ (vs : List Value) (o : Nat) {w : World} (k : Nat), k ≠ g → (w.setCells g o vs).heap[k]? = w.heap[k]?
  | [], _, _, _, _ => rfl
  | v :: r, o, w, k, hk => by
    rw [World.setCells, setCells_far r (o + 1) k hk]
    exact Below.heap_setCell w ⟨g, o, none⟩ v k hk
theorem setCells_same (g : Nat) : ∀ (vs : List Value) (o : Nat) (w : World), (w.setCells g o vs).os = w.os ∧ (w.setCells g o vs).tape = w.tape ∧ (w.setCells g o vs).output = w.output ∧ (w.setCells g o vs).heap.size = w.heap.size
  | [], _, _ => ⟨rfl, rfl, rfl, rfl⟩
  | v :: r, o, w => by
    obtain ⟨h1, h2, h3, h4⟩ := setCells_same g r (o + 1) (w.setCell ⟨g, o, none⟩ v)
    rw [World.setCells]
    exact ⟨h1, h2, h3, by rw [h4]; simp [World.setCell]⟩
theorem setCells_grown (g o : Nat) (vs : List Value) (w : World) : w.grownBy (w.setCells g o vs) (some g) := by
  obtain ⟨h1, h2, h3, h4⟩ := setCells_same g vs o w
  exact ⟨h1, h2, h3, by rw [h4]; exact Nat.le_refl _, fun k _ hk => setCells_far vs o k (fun h => hk (by rw [h]))⟩
theorem setCells_row {g : Nat} {e : TypeId} : ∀ (vs : List Value) (o : Nat) (w : World) (cur : Array Value), w.heap[g]? = some (.cells cur e (0, 0)) → o + vs.length ≤ cur.size →
    ∃ cur', (w.setCells g o vs).heap[g]? = some (.cells cur' e (0, 0)) ∧ cur'.size = cur.size ∧ ∀ j, cur'[j]? = if o ≤ j ∧ j < o + vs.length then vs[j - o]? else cur[j]?
  | [], o, w, cur, h, _ => ⟨cur, h, rfl, fun j => by rw [if_neg (by simp)]⟩
  | v :: r, o, w, cur, h, hl => by
    have h2 := blk_set h o v
    simp only [List.length_cons] at hl
    obtain ⟨cur', h3, h4, h5⟩ := setCells_row r (o + 1) (w.setCell ⟨g, o, none⟩ v) _ h2 (by simp; omega)
    refine ⟨cur', h3, by rw [h4]; simp, fun j => ?_⟩
    rw [h5 j]
    simp only [List.length_cons]
    by_cases h6 : o + 1 ≤ j ∧ j < o + 1 + r.length
    · rw [if_pos h6, if_pos (by omega), show j - o = (j - (o + 1)) + 1 by omega]
      rfl
    · rw [if_neg h6]
      by_cases h7 : j = o
      · subst h7
        rw [if_pos (by omega)]
        simp [show j < cur.size by omega]
      · rw [if_neg (by omega)]
        simp [Ne.symm h7]

/-- append(v, ys...): v a row of the call's own, ys a row that is read (nil let in). -/
theorem run_append_rows {P : Program} (W : World) (base : Nat) (t ty e : TypeId) (sz bytes : Nat) (z : Value) (A : Option Addr) (n c : Nat) (xs : List Value) (A2 : Option Addr) (m c2 : Nat) (ys : List Value)
    (ht : P.underlying t = some (.slice e)) (hinfo : (P.info? e).map (fun i => (i.zero, i.size, i.bytes)) = some (some z, sz, bytes)) (hzs : z.cells.size = sz) (hs0 : 0 < sz) (hb0 : 0 < bytes)
    (HO : OV W base e sz A n c xs) (HR : RV W sz A2 m c2 ys) (hone : ∀ u ∈ ys, u.oneCell' = true) (hbase : base ≤ W.heap.size) (hl : (n + m) * bytes ≤ 140737488355328) :
    ∃ A' c' w', (Builtin.append_ #[t, t] ty #[.slice A n c, .slice A2 m c2]).run P W = .ok (.slice A' (n + m) c') w' ∧
      OV w' base e sz A' (n + m) c' (xs ++ ys) ∧ W.grownBy w' ((Value.slice A n c).ownBlock) ∧ (A' = A ∨ ∀ ad, A' = some ad → W.heap.size ≤ ad.block) := by
  have hm : ys.length = m * sz := HR.len
  have hlen : n + m ≤ 140737488355328 := Nat.le_trans (Nat.le_mul_of_pos_right _ hb0) hl
  obtain ⟨i0, hi, hzz⟩ := Option.map_eq_some_iff.1 hinfo
  simp only [Prod.mk.injEq] at hzz
  obtain ⟨hz0, hz1, hz2⟩ := hzz
  have hcap := HO.cap
  have hmax : n + m ≤ maxLen := by simp only [maxLen]; omega
  rcases A2 with _ | ad2
  · have h0 : m = 0 := by
      rcases Nat.eq_zero_or_pos m with h0 | h0
      · exact h0
      · obtain ⟨ad, e, _⟩ := HR.cells h0
        cases e
    subst h0
    obtain rfl : ys = [] := List.eq_nil_of_length_eq_zero (by simpa using hm)
    refine ⟨A, c, W, ?_, by simpa using HO, grown_refl _ _, .inl rfl⟩
    cases A <;> simp [Builtin.append_, run_underlying ht, sizeOf, typeInfo, hi, Builtin.lenOf, Builtin.firstCells, hcap, storeCells]
  · have hcells : ∀ j u, ys[j]? = some u → W.cell? (ad2.add j) = some u := by
      intro j u hu
      have hj : j < ys.length := (List.getElem?_eq_some_iff.1 hu).1
      obtain ⟨ad', h', hc⟩ := HR.cells (by rcases Nat.eq_zero_or_pos m with h0 | h0; (subst h0; omega); exact h0)
      injection h' with h'
      subst h'
      exact hc j u hu
    -- a new row
    have fresh : ∀ v1 w1, w1.ownsRow W.heap.size e sz v1 (n + m) (xs ++ ys) → 0 < n + m → ∃ A' c', v1 = .slice A' (n + m) c' ∧ OV w1 base e sz A' (n + m) c' (xs ++ ys) ∧ (∃ ad', A' = some ad' ∧ W.heap.size ≤ ad'.block ∧ ad'.off = 0 ∧ ad'.spot = none) := by
      intro v1 w1 h2 hp
      rcases h2.2 with ⟨rfl, hz⟩ | ⟨g, cap, cur, rfl, hb, _⟩
      · omega
      · exact ⟨_, cap, rfl, (OV.of_own h2 (by omega)).lower hbase, _, rfl, hb, rfl, rfl⟩
    rcases A with _ | ad
    · have hc0 := HO.bare rfl
      subst hc0
      obtain rfl : n = 0 := by omega
      obtain rfl : xs = [] := List.eq_nil_of_length_eq_zero (by simpa using HO.len)
      obtain ⟨v1, w1, hr, h2, h3, _, h5⟩ := run_append_own_at (P := P) W W.heap.size t ty e i0 z sz bytes ht hi hz0 hz1 hz2 hzs hs0 (.slice none 0 0) 0 [] (World.ownsRow_nil W _ e sz) ad2 m c2 ys hm hcells hone hmax hl (Nat.le_refl _)
      rcases h2.2 with ⟨rfl, hz⟩ | ⟨g, cap, cur, rfl, hb, hh, _⟩
      · obtain rfl : m = 0 := by omega
        exact ⟨none, 0, w1, hr, (OV.of_own h2 (by omega)).lower hbase, h3, .inl rfl⟩
      · refine ⟨_, cap, w1, hr, (OV.of_own h2 (by omega)).lower hbase, h3, .inr (fun ad ha => ?_)⟩
        injection ha with ha
        subst ha
        exact hb
    · obtain ⟨hb, hs, cur, hh, hfit, hcs⟩ := HO.form ad rfl
      obtain ⟨g, off, spot⟩ := ad
      simp only at hs hb hh hfit hcs
      subst hs
      by_cases hroom : n + m ≤ c
      · have hns : (n + m) * sz ≤ c * sz := Nat.mul_le_mul_right _ hroom
        rw [Nat.add_mul] at hns
        subst hz1
        have hr := run_append_room_cells (P := P) W t ty e i0 ht hi g off n c ad2 m c2 ys hm hcells hone hroom
          (fun j hj => by rw [blk_cell hh, Array.getElem?_eq_getElem (by omega)]; rfl) (fun j _ => blk_frozen hh _)
        obtain ⟨cur', h3, h4, h5⟩ := setCells_row ys (off + n * i0.size) W cur hh (by omega)
        refine ⟨_, _, _, hr, ⟨by rw [List.length_append, HO.len, hm, Nat.add_mul], hroom, by omega, HO.capmax, fun ad' ha => ?_, fun ha => by cases ha⟩, setCells_grown _ _ _ _, .inl rfl⟩
        injection ha with ha
        subst ha
        refine ⟨hb, rfl, cur', h3, by rw [h4]; exact hfit, fun j v hj => ?_⟩
        have hxl := HO.len
        show cur'[off + j]? = some v
        rw [h5]
        by_cases hjx : j < xs.length
        · rw [List.getElem?_append_left hjx] at hj
          rw [if_neg (by omega)]
          exact hcs j v hj
        · rw [List.getElem?_append_right (by omega)] at hj
          have hlt := (List.getElem?_eq_some_iff.1 hj).1
          rw [if_pos (by omega), show off + j - (off + n * i0.size) = j - xs.length by omega]
          exact hj
      · obtain ⟨v1, w1, hr, h2, h3⟩ := run_append_arg_grows (P := P) (w := W) t ty e i0 z sz bytes ht hi hz0 hz1 hz2 hzs hs0 ⟨g, off, none⟩ n c xs HO.len
          (fun j u hu => by rw [add_spot _ rfl, blk_cell hh]; exact hcs j u hu) ad2 m c2 ys hm hcells (by omega) hmax hl
        obtain ⟨A', c', rfl, h4, ad', rfl, h6, h7, h8⟩ := fresh v1 w1 h2 (by omega)
        refine ⟨_, c', w1, hr, h4, ⟨h3.os, h3.tape, h3.output, h3.size, fun k hk _ => h3.block k hk (by simp)⟩, .inr (fun ad ha => ?_)⟩
        injection ha with ha
        subst ha
        exact h6

theorem own_row {base : Nat} {A : Option Addr} {n c : Nat} (h : ∀ ad, A = some ad → base ≤ ad.block) : ∀ k, (Value.slice A n c).ownBlock = some k → base ≤ k := by
  intro k hk
  cases A with
  | none => cases hk
  | some ad =>
    injection hk with hk
    rw [← hk]
    exact h ad rfl
/-- The world behind an append to a row that the call made. -/
theorem below_own {w W w' : World} {A : Option Addr} {n c : Nat} (hb : Below w.heap.size w W) (hg : W.grownBy w' ((Value.slice A n c).ownBlock)) (ha : ∀ ad, A = some ad → w.heap.size ≤ ad.block) : Below w.heap.size w w' :=
  hb.grown hg hb.size (fun k hk => by
    cases A with
    | none => cases hk
    | some ad =>
      injection hk with hk
      rw [← hk]
      exact ha ad rfl)

theorem OV.extend {w : World} {base : Nat} {e : TypeId} {sz : Nat} {A : Option Addr} {n c : Nat} {cs : List Value} (h : OV w base e sz A n c cs) (hc : c ≤ 281474976710656) : ∃ more, OV w base e sz A c c (cs ++ more) := by
  have hms : n * sz ≤ c * sz := Nat.mul_le_mul_right _ h.cap
  cases A with
  | none =>
    have h0 := h.bare rfl
    have := h.cap
    obtain rfl : n = 0 := by omega
    subst h0
    exact ⟨[], by simpa using h⟩
  | some ad =>
    obtain ⟨hb, hs, cur, hh, hfit, hcs⟩ := h.form ad rfl
    have hlen := h.len
    have hll : cur.toList.length = cur.size := Array.length_toList
    have e1 : ∀ j, j < c * sz → ((cs ++ (cur.toList.drop (ad.off + n * sz)).take ((c - n) * sz)))[j]? = cur[ad.off + j]? := by
      intro j hj
      by_cases hjn : j < cs.length
      · rw [List.getElem?_append_left hjn, List.getElem?_eq_getElem hjn]
        exact (hcs j _ (List.getElem?_eq_getElem hjn)).symm
      · rw [List.getElem?_append_right (by omega), List.getElem?_take, if_pos (by rw [Nat.sub_mul]; omega), List.getElem?_drop]
        rw [show ad.off + n * sz + (j - cs.length) = ad.off + j by omega]
        simp
    have hlen2 : (cs ++ (cur.toList.drop (ad.off + n * sz)).take ((c - n) * sz)).length = c * sz := by
      rw [List.length_append, List.length_take, List.length_drop, hll, Nat.sub_mul, hlen]
      omega
    refine ⟨(cur.toList.drop (ad.off + n * sz)).take ((c - n) * sz), hlen2, Nat.le_refl _, hc, h.capmax, fun ad' ha => ?_, fun ha => by cases ha⟩
    injection ha with ha
    subst ha
    refine ⟨hb, hs, cur, hh, hfit, fun j v hj => ?_⟩
    have hlt : j < c * sz := by rw [← hlen2]; exact (List.getElem?_eq_some_iff.1 hj).1
    rw [← e1 j hlt]
    exact hj

/-! ### Bytes -/
/-- What reads as bytes. -/
structure RB (w : World) (A : Option Addr) (n c : Nat) (xs : List Int) : Prop where
  rv : RV w 1 A n c (nums .u8 xs)
  range : Bytes xs
/-- Bytes of the call's own: blocks from base on. -/
structure OB (w : World) (base : Nat) (A : Option Addr) (n c : Nat) (xs : List Int) : Prop where
  ov : OV w base 5 1 A n c (nums .u8 xs)
  range : Bytes xs

section
variable {w w1 : World} {base base' : Nat} {A : Option Addr} {n c : Nat} {xs : List Int}
theorem RB.len (h : RB w A n c xs) : xs.length = n := by have := h.rv.len; simpa [nums] using this
theorem RB.cap (h : RB w A n c xs) : n ≤ c := h.rv.cap
theorem RB.small (h : RB w A n c xs) : n ≤ 281474976710656 := h.rv.small
theorem RB.nil (w : World) (A : Option Addr) (c : Nat) : RB w A 0 c [] := ⟨RV.nil w 1 A c, Bytes.nil⟩
theorem RB.at_ (h : RB w A n c xs) (i : Int) (h0 : 0 ≤ i) (h1 : i < n) : ∃ ad, A = some ad ∧ w.cell? (ad.add i.toNat) = some (.int .u8 (rd xs i)) := by
  obtain ⟨ad, e, hc⟩ := h.rv.cells (by omega)
  exact ⟨ad, e, hc _ _ (nums_get _ _ _ (by have := h.len; omega))⟩
theorem RB.rng (h : RB w A n c xs) (i : Int) : 0 ≤ rd xs i ∧ rd xs i < 256 := h.range.getD _
theorem RB.below (h : RB w A n c xs) (hb : Below w.heap.size w w1) : RB w1 A n c xs := ⟨h.rv.below hb, h.range⟩
theorem RB.grown (h : RB w A n c xs) {row : Option Nat} (hg : w.grownBy w1 row) (hne : ∀ ad, A = some ad → some ad.block ≠ row) : RB w1 A n c xs := ⟨h.rv.grown hg hne, h.range⟩
theorem nums_take (k : IntKind) (xs : List Int) (m : Nat) : nums k (xs.take m) = (nums k xs).take m := by simp [nums, List.map_take]
theorem nums_drop (k : IntKind) (xs : List Int) (m : Nat) : nums k (xs.drop m) = (nums k xs).drop m := by simp [nums, List.map_drop]
theorem RB.take (h : RB w A n c xs) (m : Nat) (hm : m ≤ n) : RB w A m c (xs.take m) := ⟨by have := h.rv.take m hm; rwa [Nat.mul_one, ← nums_take] at this, h.range.take m⟩
theorem RB.drop (h : RB w A n c xs) (m : Nat) (hm : m ≤ n) : RB w (if c = m then A else A.map (·.add m)) (n - m) (c - m) (xs.drop m) := ⟨by have := h.rv.drop m hm; rwa [Nat.mul_one, ← nums_drop] at this, h.range.drop m⟩
theorem OB.len (h : OB w base A n c xs) : xs.length = n := by have := h.ov.len; simpa [nums] using this
theorem OB.cap (h : OB w base A n c xs) : n ≤ c := h.ov.cap
theorem OB.base_ (h : OB w base A n c xs) : ∀ ad, A = some ad → base ≤ ad.block := h.ov.base_
theorem OB.lt (h : OB w base A n c xs) : ∀ ad, A = some ad → ad.block < w.heap.size := h.ov.lt
theorem OB.take (h : OB w base A n c xs) (m c' : Nat) (hm : m ≤ n) (hc : m ≤ c') (hc' : c' ≤ c) : OB w base A m c' (xs.take m) := ⟨by have := h.ov.take m c' hm hc hc'; rwa [Nat.mul_one, ← nums_take] at this, h.range.take m⟩
theorem OB.reads (h : OB w base A n c xs) : RB w A n c xs := ⟨h.ov.reads, h.range⟩
theorem OB.small (h : OB w base A n c xs) : n ≤ 281474976710656 := h.ov.small
theorem OB.lower (h : OB w base A n c xs) (hb : base' ≤ base) : OB w base' A n c xs := ⟨h.ov.lower hb, h.range⟩
theorem OB.grown (h : OB w base A n c xs) {row : Option Nat} (hg : w.grownBy w1 row) (hne : ∀ ad, A = some ad → some ad.block ≠ row) : OB w1 base A n c xs := ⟨h.ov.grown hg hne, h.range⟩
theorem OB.below (h : OB w base A n c xs) (hb : Below w.heap.size w w1) : OB w1 base A n c xs := ⟨h.ov.below hb, h.range⟩
theorem OB.nil (w : World) (base : Nat) : OB w base none 0 0 [] := ⟨OV.nil _ _ _ _, Bytes.nil⟩
end
theorem OB.new (W : World) (base : Nat) (xs : List Int) (hb : base ≤ W.heap.size) (hn : xs.length ≤ 281474976710656) (hr : Bytes xs) :
    OB (W.alloc (.cells (nums .u8 xs).toArray 5)) base (some ⟨W.heap.size, 0, none⟩) xs.length xs.length xs :=
  ⟨by have := OV.new W base 5 1 (nums .u8 xs).toArray xs.length hb (by simp [nums]) hn; simpa using this, hr⟩

theorem info_u8 : (Tryd.prog.info? 5).map (fun i => (i.zero, i.size, i.bytes)) = some (some (.int .u8 0), 1, 1) := by kernel_rfl

/-- append(v, ys...) on bytes of the call's own; ys is read. -/
theorem run_append_bytes (W : World) (base : Nat) (ty : TypeId) (A : Option Addr) (n c : Nat) (xs : List Int) (A2 : Option Addr) (m c2 : Nat) (ys : List Int)
    (HO : OB W base A n c xs) (HR : RB W A2 m c2 ys) (hbase : base ≤ W.heap.size) (hl : n + m ≤ 140737488355328) :
    ∃ A' c' w', (Builtin.append_ #[63, 63] ty #[.slice A n c, .slice A2 m c2]).run Tryd.prog W = .ok (.slice A' (n + m) c') w' ∧
      OB w' base A' (n + m) c' (xs ++ ys) ∧ W.grownBy w' ((Value.slice A n c).ownBlock) ∧ (A' = A ∨ ∀ ad, A' = some ad → W.heap.size ≤ ad.block) := by
  obtain ⟨A', c', w', h1, h2, h3, h4⟩ := run_append_rows W base 63 ty 5 1 1 (.int .u8 0) A n c (nums .u8 xs) A2 m c2 (nums .u8 ys) Tryd.underlying63 info_u8 rfl (by omega) (by omega) HO.ov HR.rv (nums_one _ _) hbase (by omega)
  exact ⟨A', c', w', h1, ⟨by rw [nums_append]; exact h2, HO.range.append HR.range⟩, h3, h4⟩

section
variable {P : Program} {ops : Array Oper} {rest : List Oper} {o : Oper} {a : Act} {Q : Exit → Act → World → Prop}
/-- One operation whose run is known. -/
theorem wpList_exec {W : World} (hgd : o.guard = none) {v : Value} {w' : World} (hrun : (execOp a.eval o).run P W = .ok (.value v) w') (h : wpList P ops Q rest (a.put o.dst v) w') : wpList P ops Q (o :: rest) a W :=
  wpList_plain hgd fun K hK => by
    unfold Oper.wp
    rw [hrun]
    exact hK _ _ h
end
section
variable {ops : Array Oper} {rest : List Oper} {o : Oper} {a : Act} {Q : Exit → Act → World → Prop}
theorem exec_append {W w' : World} (s x : Operand) (ts : Array TypeId) (ho : o.op = .call { callee := .builtin .append, args := #[s, x], argTypes := ts }) {vs vx v : Value} (hs : a.eval s = vs) (hx : a.eval x = vx)
    (hr : (Builtin.append_ ts o.type #[vs, vx]).run Tryd.prog W = .ok v w') : (execOp a.eval o).run Tryd.prog W = .ok (.value v) w' := by
  unfold execOp
  simp only [ho, resolve, invoke, builtin, Sem.run_bind, Sem.run_pure, Result.andThen_ok, List.map_toArray, List.map_cons, List.map_nil, hs, hx, hr]
theorem wpList_append_bytes {W : World} (hgd : o.guard = none) (s x : Operand) (ho : o.op = .call { callee := .builtin .append, args := #[s, x], argTypes := #[63, 63] })
    {base : Nat} {A : Option Addr} {n c : Nat} {xs : List Int} {A2 : Option Addr} {m c2 : Nat} {ys : List Int} (hs : a.eval s = .slice A n c) (hx : a.eval x = .slice A2 m c2)
    (HO : OB W base A n c xs) (HR : RB W A2 m c2 ys) (hbase : base ≤ W.heap.size) (hl : n + m ≤ 140737488355328)
    (h : ∀ A' c' w', OB w' base A' (n + m) c' (xs ++ ys) → W.grownBy w' ((Value.slice A n c).ownBlock) → (A' = A ∨ ∀ ad, A' = some ad → W.heap.size ≤ ad.block) → wpList Tryd.prog ops Q rest (a.put o.dst (.slice A' (n + m) c')) w') :
    wpList Tryd.prog ops Q (o :: rest) a W := by
  obtain ⟨A', c', w', h1, h2, h3, h4⟩ := run_append_bytes W base o.type A n c xs A2 m c2 ys HO HR hbase hl
  exact wpList_exec hgd (exec_append s x _ ho hs hx h1) (h _ _ _ h2 h3 h4)
end

theorem OB.empty (W : World) (base : Nat) (hb : base ≤ W.heap.size) : OB (W.alloc (.cells #[] 5)) base (some ⟨W.heap.size, 0, none⟩) 0 0 [] := OB.new W base [] hb (by simp) Bytes.nil

theorem RB.one (W : World) (y : Int) (h0 : 0 ≤ y) (h1 : y < 256) : RB (W.alloc (.cells #[.int .u8 y] 5)) (some ⟨W.heap.size, 0, none⟩) 1 1 [y] :=
  (OB.new W 0 [y] (by omega) (by simp) (by intro z hz; simp only [List.mem_singleton] at hz; omega)).reads

/-- s[m:] of a slice of elements of one cell. -/
theorem cut_from {P : Program} (t e : TypeId) {i : TypeInfo} (ht : P.underlying t = some (.slice e)) (hi : P.info? e = some i) (size : Nat) (hsz : i.size = size) (A : Option Addr) (n c : Nat) (j : Int) (h0 : 0 ≤ j) (hm : j ≤ n) :
    ∀ W : World, (Instr.slice t (.slice A n c) (some (.int .i64 j)) none none).run P W = .ok (.slice (if c = j.toNat then A else A.map (·.add (j.toNat * size))) (n - j.toNat) (c - j.toNat)) W := by
  intro W
  have hel : P.elem t = e := by simp [Program.elem, ht]
  have hu : P.underlying t = some (.slice (P.elem t)) := by rw [hel]; exact ht
  rw [run_slice_l W t A n c hu .i64 j h0 hm, hel]
  simp [sizeOf, typeInfo, hi, hsz, sliced, Result.andThen]
theorem cut_bytes (A : Option Addr) (n c : Nat) (j : Int) (h0 : 0 ≤ j) (hm : j ≤ n) :
    ∃ A1, (∀ W : World, (Instr.slice 63 (.slice A n c) (some (.int .i64 j)) none none).run Tryd.prog W = .ok (.slice A1 (n - j.toNat) (c - j.toNat)) W) ∧
      (∀ w xs, RB w A n c xs → RB w A1 (n - j.toNat) (c - j.toNat) (xs.drop j.toNat)) ∧ (∀ ad, A1 = some ad → ∃ ad0, A = some ad0 ∧ ad.block = ad0.block) := by
  obtain ⟨i0, hi, hzz⟩ := Option.map_eq_some_iff.1 info_u8
  simp only [Prod.mk.injEq] at hzz
  refine ⟨if c = j.toNat then A else A.map (·.add j.toNat), fun W => ?_, fun w xs h => h.drop j.toNat (by omega), fun ad ha => ?_⟩
  · rw [cut_from 63 5 Tryd.underlying63 hi 1 hzz.2.1 A n c j h0 hm W, Nat.mul_one]
  · split at ha
    · exact ⟨ad, ha, rfl⟩
    · cases A with
      | none => cases ha
      | some a0 =>
        simp only [Option.map_some, Option.some.injEq] at ha
        exact ⟨a0, rfl, by rw [← ha, add_block]⟩

/-! ### Arguments: slices of whole numbers -/
structure RN (w : World) (k : IntKind) (A : Option Addr) (n c : Nat) (xs : List Int) : Prop where
  rv : RV w 1 A n c (nums k xs)
  wf : ∀ x ∈ xs, (Lit.int k x).wf = true
section
variable {w w1 : World} {k : IntKind} {A : Option Addr} {n c : Nat} {xs : List Int}
theorem RN.len (h : RN w k A n c xs) : xs.length = n := by have := h.rv.len; simpa [nums] using this
theorem RN.cap (h : RN w k A n c xs) : n ≤ c := h.rv.cap
theorem RN.small (h : RN w k A n c xs) : n ≤ 281474976710656 := h.rv.small
theorem RN.at_ (h : RN w k A n c xs) (i : Int) (h0 : 0 ≤ i) (h1 : i < n) : ∃ ad, A = some ad ∧ w.cell? (ad.add i.toNat) = some (.int k (rd xs i)) := by
  obtain ⟨ad, e, hc⟩ := h.rv.cells (by omega)
  exact ⟨ad, e, hc _ _ (nums_get _ _ _ (by have := h.len; omega))⟩
theorem RN.below (h : RN w k A n c xs) (hb : Below w.heap.size w w1) : RN w1 k A n c xs := ⟨h.rv.below hb, h.wf⟩
theorem RN.bytes (h : RN w .u8 A n c xs) : RB w A n c xs := ⟨h.rv, fun x hx => by
  have := h.wf x hx
  simp [Lit.wf, IntKind.min, IntKind.max, IntKind.bits, IntKind.signed] at this
  omega⟩
end
/-! ### Small run facts -/
@[go_sem] theorem eql_bytes_nil (w : World) (A : Option Addr) (n c : Nat) : (binOp .eql 63 (.slice A n c) (.slice none 0 0)).run Tryd.prog w = .ok (.bool A.isNone) w := Lib.run_eql_slice_nil w _ 5 A n c 0 0 Tryd.underlying63

theorem min2_i (k k' : IntKind) (x y : Int) : Builtin.min2 (.int k x) (.int k' y) = pure (.int k (min x y)) := by
  simp only [Builtin.min2]
  congr 2
  by_cases h : y < x
  · rw [if_pos h]; omega
  · rw [if_neg h]; omega
theorem max2_i (k k' : IntKind) (x y : Int) : Builtin.max2 (.int k x) (.int k' y) = pure (.int k (max x y)) := by
  simp only [Builtin.max2]
  congr 2
  by_cases h : y > x
  · rw [if_pos h]; omega
  · rw [if_neg h]; omega
@[go_sem] theorem min_int2 (ats : Array TypeId) (ty : TypeId) (k k1 : IntKind) (a b : Int) : Builtin.min_ ats ty #[.int k a, .int k1 b] = pure (.int k (min a b)) := by
  simp only [Builtin.min_, List.foldlM_cons, List.foldlM_nil, min2_i]
  rfl
@[go_sem] theorem min_int3 (ats : Array TypeId) (ty : TypeId) (k k1 k2 : IntKind) (a b c : Int) : Builtin.min_ ats ty #[.int k a, .int k1 b, .int k2 c] = pure (.int k (min (min a b) c)) := by
  simp only [Builtin.min_, List.foldlM_cons, List.foldlM_nil, min2_i]
  show (pure (Value.int k (min a b)) >>= fun s => Builtin.min2 s (.int k2 c) >>= fun s => pure s : Sem Value) = _
  show (Builtin.min2 (Value.int k (min a b)) (.int k2 c) >>= fun s => pure s : Sem Value) = _
  rw [min2_i]
  rfl
@[go_sem] theorem min_int4 (ats : Array TypeId) (ty : TypeId) (k k1 k2 k3 : IntKind) (a b c d : Int) : Builtin.min_ ats ty #[.int k a, .int k1 b, .int k2 c, .int k3 d] = pure (.int k (min (min (min a b) c) d)) := by
  simp only [Builtin.min_, List.foldlM_cons, List.foldlM_nil, min2_i]
  show (Builtin.min2 (Value.int k (min a b)) (.int k2 c) >>= fun s => Builtin.min2 s (.int k3 d) >>= fun s => pure s : Sem Value) = _
  rw [min2_i]
  show (Builtin.min2 (Value.int k (min (min a b) c)) (.int k3 d) >>= fun s => pure s : Sem Value) = _
  rw [min2_i]
  rfl
@[go_sem] theorem max_int2 (ats : Array TypeId) (ty : TypeId) (k k1 : IntKind) (a b : Int) : Builtin.max_ ats ty #[.int k a, .int k1 b] = pure (.int k (max a b)) := by
  simp only [Builtin.max_, List.foldlM_cons, List.foldlM_nil, max2_i]
  rfl

end Go.Proofs.YtnpeedmicjeleaaDoor

/- What the rows of this seat share: the row's own closed facts, and the reading of an argument as a slice of whole numbers. -/
namespace Go.Proofs.YtnpeedmicjeleaaDoor
open Go.ChangeShapes Go.WideShapes Go.ChangeAt Go.RowKit
theorem own : ownKnob Tryd.prog.godebug = none := by kernel_rfl
theorem laidOut : laidOutB Tryd.prog = true := by kernel_rfl
theorem trod_blocks {H : Type} {enc : TypeId × Value → H} {P : Program} {W : World} {t : TypeId} {v : Value} {d : DataW H} {p : List MemPlace} (h : DataW.Trod enc P W 0 (fun _ => true) true t v d p) : ∀ x ∈ p, x.block < W.heap.size := by
  obtain ⟨m, hm⟩ := h
  exact DataW.trod_lt m _ _ _ hm
end Go.Proofs.YtnpeedmicjeleaaDoor

/- Contracts of package octet. -/
namespace Go.Proofs.YtnpeedmicjeleaaDoor
open Go.RowKit
set_option linter.unusedVariables false
set_option linter.unusedSimpArgs false
set_option maxRecDepth 4000

theorem bits_and1 (x : Int) (h0 : 0 ≤ x) (h1 : x < 256) : bits .and .u8 x 1 = x % 2 := bits_mask .u8 8 (by decide) wraps_u8 1 (by decide) x h0 h1
theorem div_lt256 (x : Int) (k : Nat) (h0 : 0 ≤ x) (h1 : x < 256) : 0 ≤ x / 2 ^ k ∧ x / 2 ^ k < 256 :=
  ⟨Int.ediv_nonneg h0 (Int.pow_nonneg (by omega)), Int.lt_of_le_of_lt (Int.ediv_le_self _ h0) h1⟩

theorem clone_any (A : Option Addr) (n c : Nat) (xs : List Int) (w : World) (hr : RB w A n c xs) (hn : n ≤ 140737488355328) :
    Calls Tryd.prog 114 #[.slice A n c] w fun e w' => ∃ A' c', e = .returned (.slice A' n c') ∧ OB w' w.heap.size A' n c' xs ∧ Below w.heap.size w w' := by
  cases A with
  | none =>
    have h0 : n = 0 := by
      rcases Nat.eq_zero_or_pos n with h | h
      · exact h
      · obtain ⟨ad, e, _⟩ := hr.rv.cells h
        cases e
    subst h0
    obtain rfl : xs = [] := List.eq_nil_of_length_eq_zero hr.len
    go_enter Tryd.func114, Tryd.ntmps114
    go_wp2
    go_ret
    exact ⟨_, _, rfl, OB.nil _ _, Below.refl _ _⟩
  | some ad =>
    go_enter Tryd.func114, Tryd.ntmps114
    go_wp2_with (at_builtin; refine wpList_append_bytes rfl (.tmp 5) (.tmp 6) rfl rfl rfl (OB.empty w w.heap.size (Nat.le_refl _)) (hr.below (below_alloc (Below.refl _ _) _)) (by simp) (by omega) ?_; intro A' c' w' h1 h2 h3; rw [Nat.zero_add, List.nil_append] at h1; rw [Nat.zero_add])
    go_ret
    exact ⟨_, _, rfl, h1, below_own (below_alloc (Below.refl _ _) _) h2 (fun ad h => by injection h with h; subst h; exact Nat.le_refl _)⟩

end Go.Proofs.YtnpeedmicjeleaaDoor

/- Contracts of the reader of package octet. -/
namespace Go.Proofs.YtnpeedmicjeleaaDoor
open Go.RowKit
set_option linter.unusedVariables false
set_option linter.unusedSimpArgs false
set_option maxRecDepth 4000

/-- The reader at block g: what is still to come, and why it is out of step (0: it is not). -/
def Rdr (w : World) (lo g : Nat) (xs : List Int) (e : Int) : Prop :=
  ∃ A n c, w.heap[g]? = some (.cells #[.slice A n c, .int .i64 e] 153 (0, 0)) ∧ RB w A n c xs ∧ ∀ ad, A = some ad → lo ≤ ad.block ∧ ad.block < g

variable {lo : Nat}
theorem left_any (g : Nat) (xs : List Int) (e0 : Int) (w : World) (h : Rdr w lo g xs e0) :
    Calls Tryd.prog 99 #[.pointer (some ⟨g, 0, none⟩)] w fun e w' => e = .returned (.int .i64 xs.length) ∧ w = w' := by
  obtain ⟨A, n, c, hb, hr, -⟩ := h
  have hl := Lib.hid hr.len
  have hc0 : w.cell? ⟨g, 0, none⟩ = some (.slice A n c) := by rw [blk_cell hb]; rfl
  clear hb hr
  go_enter Tryd.func99, Tryd.ntmps99
  go_wp2
  go_ret
  exact ⟨by rw [hl.out]; rfl, rfl⟩
theorem err_any (g : Nat) (xs : List Int) (e0 : Int) (w : World) (h : Rdr w lo g xs e0) :
    Calls Tryd.prog 101 #[.pointer (some ⟨g, 0, none⟩)] w fun e w' => e = .returned (.int .i64 e0) ∧ w = w' := by
  obtain ⟨A, n, c, hb, hr, -⟩ := h
  have hc0 : w.cell? ⟨g, 1, none⟩ = some (.int .i64 e0) := by rw [blk_cell hb]; rfl
  clear hb hr
  go_enter Tryd.func101, Tryd.ntmps101
  go_wp2
  go_ret
  exact ⟨rfl, rfl⟩
theorem read_any (A : Option Addr) (n c : Nat) (xs : List Int) (w : World) (hr : RB w A n c xs) (hn : n ≤ 140737488355328) :
    Calls Tryd.prog 98 #[.slice A n c] w fun e w' => ∃ g, e = .returned (.pointer (some ⟨g, 0, none⟩)) ∧ w.heap.size ≤ g ∧ Rdr w' w.heap.size g xs 0 ∧ Below w.heap.size w w' := by
  go_enter Tryd.func98, Tryd.ntmps98
  go_wp2_with fail
  refine (clone_any A n c xs w hr hn).mono ?_
  rintro e w1 ⟨A1, c1, rfl, h1, hb1⟩
  go_wp2
  go_ret
  refine ⟨_, rfl, hb1.size, ⟨A1, n, c1, blk_new _ _, h1.reads.below (below_alloc (Below.refl _ _) _), fun ad e => ⟨h1.base_ ad e, h1.lt ad e⟩⟩, hb1.alloc hb1.size _⟩

theorem xor_low (q b : Nat) (h : b < 256) : (2 ^ 8 * q) ^^^ b = 2 ^ 8 * q + b := by
  rw [Nat.two_pow_add_eq_or_of_lt (by omega)]
  apply Nat.eq_of_testBit_eq
  intro i
  rw [Nat.testBit_xor, Nat.testBit_or, Nat.testBit_two_pow_mul]
  by_cases hi : i < 8
  · simp [show ¬ 8 ≤ i by omega]
  · have : b.testBit i = false := Nat.testBit_lt_two_pow (Nat.lt_of_lt_of_le h (by rw [show 256 = 2 ^ 8 by rfl]; exact Nat.pow_le_pow_right (by omega) (by omega)))
    simp [this]
theorem shl8_xor (x c : Int) (hc0 : 0 ≤ c) (hc1 : c < 256) : bits .xor .u64 (IntKind.u64.wrap (x * 256)) c = (x * 256 + c) % 18446744073709551616 := by
  have hw : IntKind.u64.wrap (x * 256) = (x * 256) % 18446744073709551616 := by simp [IntKind.wrap, IntKind.bits, IntKind.signed]
  rw [hw, u64_xor _ _ (by omega) (by omega) hc0 (by omega)]
  obtain ⟨b, rfl⟩ := Int.eq_ofNat_of_zero_le hc0
  have hq : ∃ q : Nat, ((x * 256) % 18446744073709551616).toNat = 2 ^ 8 * q := ⟨(((x * 256) % 18446744073709551616) / 256).toNat, by omega⟩
  obtain ⟨q, hq⟩ := hq
  have hb : (b : Int).toNat = b := Int.toNat_natCast b
  rw [hq, hb, xor_low q b (by omega)]
  omega
theorem numfn_any (h : Nat) (x c : Int) (w : World) (hx0 : 0 ≤ x) (hx1 : x < 18446744073709551616) (hc0 : 0 ≤ c) (hc1 : c < 256) (hb : w.heap[h]? = some (.cells #[.int .u64 x] 154 (0, 0))) :
    Calls Tryd.prog 123 #[.int .u8 c, .pointer (some ⟨h, 0, none⟩)] w fun e w' => e = .returned (.tuple #[]) ∧ w.grownBy w' (some h) ∧ w'.heap[h]? = some (.cells #[.int .u64 ((x * 256 + c) % 18446744073709551616)] 154 (0, 0)) := by
  have HB := Lib.hid hb
  have hc0 : w.cell? ⟨h, 0, none⟩ = some (.int .u64 x) := by rw [blk_cell hb]; rfl
  have hf0 : w.frozen? ⟨h, 0, none⟩ = false := blk_frozen hb 0
  clear hb
  go_enter Tryd.func123, Tryd.ntmps123
  go_wp2
  go_end0
  rw [shl8_xor x c (by omega) hc1]
  exact ⟨rfl, grown_setCell _ _ _, blk_set HB.out 0 _⟩

/-- Bytes that are taken off a reader make a number. -/
def numOf (x : Int) (l : List Int) : Int := l.foldl (fun a c => (a * 256 + c) % 18446744073709551616) x
theorem numOf_range (l : List Int) : ∀ x : Int, 0 ≤ x → x < 18446744073709551616 → 0 ≤ numOf x l ∧ numOf x l < 18446744073709551616 := by
  induction l with
  | nil => intro x h0 h1; exact ⟨h0, h1⟩
  | cons c l ih => intro x _ _; exact ih _ (Int.emod_nonneg _ (by omega)) (Int.emod_lt_of_pos _ (by omega))
theorem numOf_snoc (x : Int) (l : List Int) (c : Int) : numOf x (l ++ [c]) = (numOf x l * 256 + c) % 18446744073709551616 := by simp [numOf]
theorem take_snoc_rd (xs : List Int) (k : Nat) (h : k < xs.length) : xs.take (k + 1) = xs.take k ++ [rd (xs.drop k) 0] := by
  rw [List.take_succ_eq_append_getElem h]
  simp [rd, List.getD_eq_getElem?_getD, List.getElem?_drop, List.getElem?_eq_getElem h]
/-- Whether so many bytes are taken off; what is left; why it is out of step then. -/
def offB (xs : List Int) (e m : Int) : Bool := e == 0 && decide (0 ≤ m) && decide (m ≤ xs.length)
def offE (xs : List Int) (e m : Int) : Int := if e ≠ 0 then e else if m < 0 then 2 else if (xs.length : Int) < m then 7 else 0
def offL (xs : List Int) (e m : Int) : List Int := if offB xs e m then xs.drop m.toNat else xs
def offT (xs : List Int) (e m : Int) : List Int := if offB xs e m then xs.take m.toNat else []

theorem Rdr.set {w : World} {g : Nat} {xs : List Int} {e : Int} (h : Rdr w lo g xs e) (e' : Int) : Rdr (w.setCell ⟨g, 1, none⟩ (.int .i64 e')) lo g xs e' := by
  obtain ⟨A, n, c, hb, hr, ha⟩ := h
  refine ⟨A, n, c, blk_set hb 1 _, hr.grown (grown_setCell _ _ _) (fun ad e h => ?_), ha⟩
  have := ha ad e
  injection h with h
  simp only at h
  omega

set_option maxHeartbeats 1000000 in
theorem off_num (g b : Nat) (xs : List Int) (e0 m x0 : Int) (w : World) (hr : Rdr w lo g xs e0) (hgh : g < b) (hb : w.heap[b]? = some (.cells #[.int .u64 x0] 154 (0, 0))) (hx0 : 0 ≤ x0) (hx1 : x0 < 18446744073709551616) (hm : m ≤ 9223372036854775807) :
    Calls Tryd.prog 118 #[.pointer (some ⟨g, 0, none⟩), .int .i64 m, .func (.func 123) #[] #[.pointer (some ⟨b, 0, none⟩)]] w fun e w' =>
      e = .returned (.bool (offB xs e0 m)) ∧ Rdr w' lo g (offL xs e0 m) (offE xs e0 m) ∧ w'.heap[b]? = some (.cells #[.int .u64 (numOf x0 (offT xs e0 m))] 154 (0, 0)) ∧ Kept2 w w' g b := by
  have HR := Lib.hid hr
  have HB := Lib.hid hb
  obtain ⟨A, n, c, hbl, hrb, ha⟩ := hr
  have hl := Lib.hid hrb.len
  have hc0 : w.cell? ⟨g, 0, none⟩ = some (.slice A n c) := by rw [blk_cell hbl]; rfl
  have hc1 : w.cell? ⟨g, 1, none⟩ = some (.int .i64 e0) := by rw [blk_cell hbl]; rfl
  have hf1 : w.frozen? ⟨g, 1, none⟩ = false := blk_frozen hbl 1
  by_cases he : e0 = 0
  · subst he
    by_cases hneg : m < 0
    · have e1 : offB xs 0 m = false := by simp [offB]; omega
      have e2 : offE xs 0 m = 2 := by simp [offE, hneg]
      have e3 : offL xs 0 m = xs := by simp [offL, e1]
      have e4 : offT xs 0 m = [] := by simp [offT, e1]
      rw [e1, e2, e3, e4]
      clear e1 e2 e3 e4 ha hb hbl
      go_enter Tryd.func118, Tryd.ntmps118
      go_wp2
      go_ret
      exact ⟨rfl, HR.out.set 2, blk_set_far HB.out (by simp; omega) _, Kept2.of_grown (grown_setCell _ _ _) (.inl rfl)⟩
    · have hneg' : 0 ≤ m := by omega
      clear hneg
      by_cases hlong : (n : Int) < m
      · have e1 : offB xs 0 m = false := by simp [offB, hl.out]; omega
        have e2 : offE xs 0 m = 7 := by rw [offE, if_neg (by simp), if_neg (by omega), hl.out, if_pos hlong]
        have e3 : offL xs 0 m = xs := by simp [offL, e1]
        have e4 : offT xs 0 m = [] := by simp [offT, e1]
        rw [e1, e2, e3, e4]
        clear e1 e2 e3 e4 ha hb hbl
        go_enter Tryd.func118, Tryd.ntmps118
        go_wp2
        go_ret
        exact ⟨rfl, HR.out.set 7, blk_set_far HB.out (by simp; omega) _, Kept2.of_grown (grown_setCell _ _ _) (.inl rfl)⟩
      · have hlong' : m ≤ n := by omega
        clear hlong
        obtain ⟨q, rfl⟩ := Int.eq_ofNat_of_zero_le hneg'
        have e1 : offB xs 0 q = true := by simp [offB, hl.out]; omega
        have e2 : offE xs 0 q = 0 := by rw [offE, if_neg (by simp), if_neg (by omega), hl.out, if_neg (by omega)]
        have e3 : offL xs 0 q = xs.drop q := by simp [offL, e1]
        have e4 : offT xs 0 q = xs.take q := by simp [offT, e1]
        rw [e1, e2, e3, e4]
        clear e1 e2 e3 e4
        have H0 : Hid (w.heap[g]? = some (.cells #[.slice A n c, .int .i64 0] 153 (0, 0)) ∧ RB w A n c xs ∧ ∀ ad, A = some ad → lo ≤ ad.block ∧ ad.block < g) := ⟨hbl, hrb, ha⟩
        clear hb hbl hrb ha
        have hdn : decide (n < q) = false := decide_eq_false (by omega)
        have hdq : decide ((q : Int) < 0) = false := decide_eq_false (by omega)
        go_enter Tryd.func118, Tryd.ntmps118
        go_wp2
        clear hdn hdq
        go_loopw [42] (fun i wr => ∃ k : Nat, i = .int .i64 k ∧ Hid (k ≤ q ∧ Rdr wr lo g (xs.drop k) 0 ∧ wr.heap[b]? = some (.cells #[.int .u64 (numOf x0 (xs.take k))] 154 (0, 0)) ∧ Kept2 w wr g b)) (fun i _ => q - (intOf i).toNat)
        case atStart => exact ⟨0, rfl, Nat.zero_le _, HR.out, HB.out, Kept2.refl _ _ _⟩
        case round =>
          obtain ⟨k, rfl, HH⟩ := hrel
          clear hc0 hc1 hf1
          have hkq := HH.out.1
          by_cases hlt : k < q
          · obtain ⟨A', n', c', hbl', hrb', ha'⟩ := HH.out.2.1
            have HB' := Lib.hid hbl'
            have HR' := Lib.hid hrb'
            have HA' := Lib.hid ha'
            have hl' : n' = n - k := by have := hrb'.len; rw [List.length_drop, hl.out] at this; exact this.symm
            have hn' : 0 < n' := by omega
            have hcap' := hrb'.cap
            have hsm' := hrb'.small
            have HL' := Lib.hid hl'
            obtain ⟨ad, rfl, hcell⟩ := hrb'.at_ 0 (by omega) (by omega)
            have hrg := hrb'.rng 0
            have hcell0 : wr.cell? ad = some (.int .u8 (rd (xs.drop k) 0)) := by simpa [Addr.add] using hcell
            clear hcell
            clear hl'
            have hc0 : wr.cell? ⟨g, 0, none⟩ = some (.slice (some ad) n' c') := by rw [blk_cell hbl']; rfl
            have hnr := numOf_range (xs.take k) x0 hx0 hx1
            have HC := Lib.hid (numfn_any b (numOf x0 (xs.take k)) (rd (xs.drop k) 0) wr hnr.1 hnr.2 hrg.1 hrg.2 HH.out.2.2.1)
            clear hbl' hrb' ha' hnr
            go_wp2_with fail
            refine HC.out.mono ?_
            rintro e w1 ⟨rfl, hg1, hh1⟩
            have hbl1 := blk_grown HB'.out hg1 (by simp; omega)
            have hd0 : w1.cell? ⟨g, 0, none⟩ = some (.slice (some ad) n' c') := by rw [blk_cell hbl1]; rfl
            have hf0 : w1.frozen? ⟨g, 0, none⟩ = false := blk_frozen hbl1 0
            have HB1 := Lib.hid hbl1
            have HH1 := Lib.hid hh1
            have HG1 := Lib.hid hg1
            clear hbl1 hh1 hg1 hc0 hcell0
            obtain ⟨A1, hsl, hsr, hsa⟩ := cut_bytes (some ad) n' c' 1 (by omega) (by omega)
            have HSR := Lib.hid (And.intro hsr hsa)
            clear hsr hsa
            go_wp2
            go_roundw
            case measure => simp [intOf]; omega
            case rel =>
              refine ⟨k + 1, by go_num, by omega, ?_, ?_, ?_⟩
              · refine ⟨A1, n' - 1, c' - 1, blk_set HB1.out 0 _, ?_, ?_⟩
                · have h2 := HSR.out.1 wr _ HR'.out
                  have h3 := (h2.grown HG1.out (fun ad' e h => ?_)).grown (grown_setCell w1 ⟨g, 0, none⟩ (.slice A1 (n' - 1) (c' - 1))) (fun ad' e h => ?_)
                  · rw [List.drop_drop] at h3
                    exact h3
                  · obtain ⟨a0, h4, h5⟩ := HSR.out.2 ad' e
                    have := HA'.out a0 h4
                    injection h with h
                    omega
                  · obtain ⟨a0, h4, h5⟩ := HSR.out.2 ad' e
                    have := HA'.out a0 h4
                    injection h with h
                    simp only at h
                    omega
                · intro ad' e
                  obtain ⟨a0, h4, h5⟩ := HSR.out.2 ad' e
                  have := HA'.out a0 h4
                  omega
              · rw [take_snoc_rd xs k (by rw [hl.out]; omega), numOf_snoc]
                exact blk_set_far HH1.out (by simp; omega) _
              · exact (HH.out.2.2.2.trans (Kept2.of_grown HG1.out (.inr rfl))).trans (Kept2.of_grown (grown_setCell _ _ _) (.inl rfl))
          · obtain rfl : k = q := by omega
            clear hlt
            go_wp2
            go_ret
            exact ⟨rfl, HH.out.2⟩
  · have e1 : offB xs e0 m = false := by simp [offB, he]
    have e2 : offE xs e0 m = e0 := by simp [offE, he]
    have e3 : offL xs e0 m = xs := by simp [offL, e1]
    have e4 : offT xs e0 m = [] := by simp [offT, e1]
    rw [e1, e2, e3, e4]
    have hb0 : (e0 == 0) = false := by simpa using he
    have hb1 : (e0 != 0) = true := by simpa using he
    clear e1 e2 e3 e4 ha hb hbl he
    go_enter Tryd.func118, Tryd.ntmps118
    go_wp2
    go_ret
    exact ⟨rfl, HR.out, HB.out, Kept2.refl _ _ _⟩

theorem Rdr.below {w w1 : World} {g : Nat} {xs : List Int} {e : Int} (h : Rdr w lo g xs e) (hb : Below w.heap.size w w1) : Rdr w1 lo g xs e := by
  obtain ⟨A, n, c, hbl, hr, ha⟩ := h
  exact ⟨A, n, c, blk_below hbl hb, hr.below hb, ha⟩
theorem Rdr.lt {w : World} {g : Nat} {xs : List Int} {e : Int} (h : Rdr w lo g xs e) : g < w.heap.size := by
  obtain ⟨A, n, c, hbl, hr, ha⟩ := h
  exact blk_lt hbl
theorem grown_of_kept2 {w w1 : World} {o : Obj} {g : Nat} (h : Kept2 (w.alloc o) w1 g w.heap.size) : w.grownBy w1 (some g) :=
  ⟨h.os, h.tape, h.output, by have := h.size; simp at this; omega, fun k hk hne => by
    rw [h.block k (by simp; omega) (fun e => hne (by rw [e])) (by omega)]
    exact Below.heap_alloc w o k hk⟩

theorem number_any (g : Nat) (xs : List Int) (e0 m : Int) (w : World) (hr : Rdr w lo g xs e0) (hm : m ≤ 9223372036854775807) :
    Calls Tryd.prog 115 #[.pointer (some ⟨g, 0, none⟩), .int .i64 m] w fun e w' =>
      e = .returned (.int .u64 (numOf 0 (offT xs e0 m))) ∧ Rdr w' lo g (offL xs e0 m) (offE xs e0 m) ∧ w.grownBy w' (some g) := by
  have HC := Lib.hid (off_num g w.heap.size xs e0 m 0 (w.alloc (.cells #[.int .u64 0] 154)) (hr.below (below_alloc (Below.refl _ _) _)) hr.lt (blk_new _ _) (by omega) (by omega) hm)
  clear hr
  go_enter Tryd.func115, Tryd.ntmps115
  go_wp2_with fail
  refine HC.out.mono ?_
  rintro e w1 ⟨rfl, h1, h2, h3⟩
  have hc : w1.cell? ⟨w.heap.size, 0, none⟩ = some (.int .u64 (numOf 0 (offT xs e0 m))) := by rw [blk_cell h2]; rfl
  have H1 := Lib.hid h1
  have H3 := Lib.hid h3
  clear h1 h2 h3
  go_wp2
  go_ret
  exact ⟨rfl, H1.out, grown_of_kept2 H3.out⟩
theorem u8_any (g : Nat) (xs : List Int) (e0 : Int) (w : World) (hr : Rdr w lo g xs e0) :
    Calls Tryd.prog 100 #[.pointer (some ⟨g, 0, none⟩)] w fun e w' =>
      e = .returned (.int .u8 (numOf 0 (offT xs e0 1) % 256)) ∧ Rdr w' lo g (offL xs e0 1) (offE xs e0 1) ∧ w.grownBy w' (some g) := by
  go_enter Tryd.func100, Tryd.ntmps100
  go_wp2_with fail
  refine (number_any g xs e0 1 w hr (by omega)).mono ?_
  rintro e w1 ⟨rfl, h1, h2⟩
  have H1 := Lib.hid (And.intro h1 h2)
  clear h1 h2 hr
  go_wp2
  go_ret
  exact ⟨rfl, H1.out⟩
/-- A captured slice of bytes at block b; what it holds lies behind it. -/
def Capt (w : World) (b : Nat) (xs : List Int) : Prop := ∃ A c, w.heap[b]? = some (.cells #[.slice A xs.length c] 63 (0, 0)) ∧ OB w (b + 1) A xs.length c xs
theorem Capt.start {w : World} {b : Nat} (h : w.heap[b]? = some (.cells #[.slice none 0 0] 63 (0, 0))) : Capt w b [] := ⟨none, 0, h, OB.nil _ _⟩
theorem Capt.far {w : World} {b : Nat} {xs : List Int} (h : Capt w b xs) {g : Nat} (hg : g < b) (i : Nat) (v : Value) : Capt (w.setCell ⟨g, i, none⟩ v) b xs := by
  obtain ⟨A, c, h1, h2⟩ := h
  refine ⟨A, c, blk_set_far h1 (by simp; omega) _, h2.grown (grown_setCell _ _ _) (fun ad e h => ?_)⟩
  have := h2.base_ ad e
  injection h with h
  simp only at h
  omega
theorem RB.keptB {w w1 : World} {A : Option Addr} {n c : Nat} {xs : List Int} {g b : Nat} (h : RB w A n c xs) (hk : KeptB w w1 g b) (ha : ∀ ad, A = some ad → ad.block < b ∧ ad.block ≠ g) : RB w1 A n c xs :=
  ⟨⟨h.rv.len, h.rv.cap, h.rv.small, fun hn => by
    obtain ⟨ad, e, hc⟩ := h.rv.cells hn
    obtain ⟨h1, h2⟩ := ha ad e
    exact ⟨ad, e, fun j v hj => (World.cell?_of_block (a := ad.add j) (by rw [add_block]; exact hk.block ad.block h1 h2)).trans (hc j v hj)⟩⟩, h.range⟩
theorem capt_app {w w1 : World} {b : Nat} {v : Value} {t : TypeId} {o : Obj} {A : Option Addr} {n c : Nat} (hb : w.heap[b]? = some (.cells #[v] t (0, 0))) (ha : ∀ ad, A = some ad → b + 1 ≤ ad.block)
    (hg : (w.alloc o).grownBy w1 ((Value.slice A n c).ownBlock)) : w1.cell? ⟨b, 0, none⟩ = some v ∧ w1.frozen? ⟨b, 0, none⟩ = false ∧ w1.heap[b]? = some (.cells #[v] t (0, 0)) := by
  have hb1 := blk_grown (blk_below hb (below_alloc (Below.refl _ _) o)) hg (fun e => by have := own_row ha b e.symm; omega)
  exact ⟨by rw [blk_cell hb1]; rfl, blk_frozen hb1 0, hb1⟩
theorem rawfn_any (b : Nat) (xs : List Int) (y : Int) (w : World) (hy0 : 0 ≤ y) (hy1 : y < 256) (hl : xs.length < 140737488355328) (h : Capt w b xs) :
    Calls Tryd.prog 119 #[.int .u8 y, .pointer (some ⟨b, 0, none⟩)] w fun e w' => e = .returned (.tuple #[]) ∧ Below b w w' ∧ Capt w' b (xs ++ [y]) := by
  obtain ⟨A, c, hb, ho⟩ := h
  have hc0 : w.cell? ⟨b, 0, none⟩ = some (.slice A xs.length c) := by rw [blk_cell hb]; rfl
  have hblt := blk_lt hb
  have HB := Lib.hid hb
  clear hb
  go_enter Tryd.func119, Tryd.ntmps119
  go_wp2_with (at_builtin; refine wpList_append_bytes rfl (.tmp 3) (.tmp 5) rfl rfl rfl (ho.below (below_alloc (Below.refl _ _) _)) (RB.one _ _ hy0 hy1) (by simp <;> omega) (by omega) ?_; intro A1 c1 w1 h1 h2 h3; obtain ⟨hd0, hf0, hb1⟩ := capt_app HB.out ho.base_ h2; have H1 := Lib.hid (And.intro h1 (And.intro h2 hb1)); clear h1 h2 h3 hb1)
  go_end0
  obtain ⟨h1, h2, h3⟩ := H1.out
  refine ⟨rfl, ?_, A1, c1, ?_, ?_⟩
  · exact (((Below.refl b w).alloc (Nat.le_of_lt hblt) _).grown h2 (by simp <;> omega) (fun k hk => Nat.le_of_succ_le (own_row ho.base_ k hk))).setCell (Nat.le_refl _) _
  · rw [List.length_append, List.length_singleton]
    exact blk_set h3 0 _
  · rw [List.length_append, List.length_singleton]
    refine h1.grown (grown_setCell _ _ _) (fun ad e h => ?_)
    have := h1.base_ ad e
    injection h with h
    simp only at h
    omega

set_option maxHeartbeats 1000000 in
theorem off_raw (g b : Nat) (xs : List Int) (e0 m : Int) (w : World) (hr : Rdr w lo g xs e0) (hgh : g < b) (hb : w.heap[b]? = some (.cells #[.slice none 0 0] 63 (0, 0))) (hm : m ≤ 9223372036854775807) (hxl : xs.length ≤ 140737488355328) :
    Calls Tryd.prog 118 #[.pointer (some ⟨g, 0, none⟩), .int .i64 m, .func (.func 119) #[] #[.pointer (some ⟨b, 0, none⟩)]] w fun e w' =>
      e = .returned (.bool (offB xs e0 m)) ∧ Rdr w' lo g (offL xs e0 m) (offE xs e0 m) ∧ Capt w' b (offT xs e0 m) ∧ KeptB w w' g b := by
  have HR := Lib.hid hr
  have HB := Lib.hid (Capt.start hb)
  obtain ⟨A, n, c, hbl, hrb, ha⟩ := hr
  have hl := Lib.hid hrb.len
  have hc0 : w.cell? ⟨g, 0, none⟩ = some (.slice A n c) := by rw [blk_cell hbl]; rfl
  have hc1 : w.cell? ⟨g, 1, none⟩ = some (.int .i64 e0) := by rw [blk_cell hbl]; rfl
  have hf1 : w.frozen? ⟨g, 1, none⟩ = false := blk_frozen hbl 1
  by_cases he : e0 = 0
  · subst he
    by_cases hneg : m < 0
    · have e1 : offB xs 0 m = false := by simp [offB]; omega
      have e2 : offE xs 0 m = 2 := by simp [offE, hneg]
      have e3 : offL xs 0 m = xs := by simp [offL, e1]
      have e4 : offT xs 0 m = [] := by simp [offT, e1]
      rw [e1, e2, e3, e4]
      clear e1 e2 e3 e4 ha hb hbl
      go_enter Tryd.func118, Tryd.ntmps118
      go_wp2
      go_ret
      exact ⟨rfl, HR.out.set 2, HB.out.far hgh _ _, KeptB.set _ _ _ _ _⟩
    · have hneg' : 0 ≤ m := by omega
      clear hneg
      by_cases hlong : (n : Int) < m
      · have e1 : offB xs 0 m = false := by simp [offB, hl.out]; omega
        have e2 : offE xs 0 m = 7 := by rw [offE, if_neg (by simp), if_neg (by omega), hl.out, if_pos hlong]
        have e3 : offL xs 0 m = xs := by simp [offL, e1]
        have e4 : offT xs 0 m = [] := by simp [offT, e1]
        rw [e1, e2, e3, e4]
        clear e1 e2 e3 e4 ha hb hbl
        go_enter Tryd.func118, Tryd.ntmps118
        go_wp2
        go_ret
        exact ⟨rfl, HR.out.set 7, HB.out.far hgh _ _, KeptB.set _ _ _ _ _⟩
      · have hlong' : m ≤ n := by omega
        clear hlong
        obtain ⟨q, rfl⟩ := Int.eq_ofNat_of_zero_le hneg'
        have e1 : offB xs 0 q = true := by simp [offB, hl.out]; omega
        have e2 : offE xs 0 q = 0 := by rw [offE, if_neg (by simp), if_neg (by omega), hl.out, if_neg (by omega)]
        have e3 : offL xs 0 q = xs.drop q := by simp [offL, e1]
        have e4 : offT xs 0 q = xs.take q := by simp [offT, e1]
        rw [e1, e2, e3, e4]
        clear e1 e2 e3 e4
        have H0 : Hid (w.heap[g]? = some (.cells #[.slice A n c, .int .i64 0] 153 (0, 0)) ∧ RB w A n c xs ∧ ∀ ad, A = some ad → lo ≤ ad.block ∧ ad.block < g) := ⟨hbl, hrb, ha⟩
        clear hb hbl hrb ha
        have hdn : decide (n < q) = false := decide_eq_false (by omega)
        have hdq : decide ((q : Int) < 0) = false := decide_eq_false (by omega)
        go_enter Tryd.func118, Tryd.ntmps118
        go_wp2
        clear hdn hdq
        go_loopw [42] (fun i wr => ∃ k : Nat, i = .int .i64 k ∧ Hid (k ≤ q ∧ Rdr wr lo g (xs.drop k) 0 ∧ Capt wr b (xs.take k) ∧ KeptB w wr g b)) (fun i _ => q - (intOf i).toNat)
        case atStart => exact ⟨0, rfl, Nat.zero_le _, HR.out, HB.out, KeptB.refl _ _ _⟩
        case round =>
          obtain ⟨k, rfl, HH⟩ := hrel
          clear hc0 hc1 hf1
          have hkq := HH.out.1
          by_cases hlt : k < q
          · obtain ⟨A', n', c', hbl', hrb', ha'⟩ := HH.out.2.1
            have HB' := Lib.hid hbl'
            have HR' := Lib.hid hrb'
            have HA' := Lib.hid ha'
            have hl' : n' = n - k := by have := hrb'.len; rw [List.length_drop, hl.out] at this; exact this.symm
            have hn' : 0 < n' := by omega
            have hcap' := hrb'.cap
            have hsm' := hrb'.small
            have HL' := Lib.hid hl'
            obtain ⟨ad, rfl, hcell⟩ := hrb'.at_ 0 (by omega) (by omega)
            have hrg := hrb'.rng 0
            have hcell0 : wr.cell? ad = some (.int .u8 (rd (xs.drop k) 0)) := by simpa [Addr.add] using hcell
            clear hcell
            clear hl'
            have hc0 : wr.cell? ⟨g, 0, none⟩ = some (.slice (some ad) n' c') := by rw [blk_cell hbl']; rfl
            have HC := Lib.hid (rawfn_any b (xs.take k) (rd (xs.drop k) 0) wr hrg.1 hrg.2 (by rw [List.length_take]; have := hl.out; omega) HH.out.2.2.1)
            clear hbl' hrb' ha'
            go_wp2_with fail
            refine HC.out.mono ?_
            rintro e w1 ⟨rfl, hg1, hh1⟩
            have hbl1 := (hg1.block g hgh).trans HB'.out
            have hd0 : w1.cell? ⟨g, 0, none⟩ = some (.slice (some ad) n' c') := by rw [blk_cell hbl1]; rfl
            have hf0 : w1.frozen? ⟨g, 0, none⟩ = false := blk_frozen hbl1 0
            have HB1 := Lib.hid hbl1
            have HH1 := Lib.hid hh1
            have HG1 := Lib.hid hg1
            clear hbl1 hh1 hg1 hc0 hcell0
            obtain ⟨A1, hsl, hsr, hsa⟩ := cut_bytes (some ad) n' c' 1 (by omega) (by omega)
            have HSR := Lib.hid (And.intro hsr hsa)
            clear hsr hsa
            go_wp2
            go_roundw
            case measure => simp [intOf]; omega
            case rel =>
              refine ⟨k + 1, by go_num, by omega, ?_, ?_, ?_⟩
              · refine ⟨A1, n' - 1, c' - 1, blk_set HB1.out 0 _, ?_, ?_⟩
                · have h2 := HSR.out.1 wr _ HR'.out
                  have h3 := (h2.keptB (KeptB.of_below (g := b) HG1.out) (fun ad' e => ?_)).grown (grown_setCell w1 ⟨g, 0, none⟩ (.slice A1 (n' - 1) (c' - 1))) (fun ad' e h => ?_)
                  · rw [List.drop_drop] at h3
                    exact h3
                  · obtain ⟨a0, h4, h5⟩ := HSR.out.2 ad' e
                    have := HA'.out a0 h4
                    omega
                  · obtain ⟨a0, h4, h5⟩ := HSR.out.2 ad' e
                    have := HA'.out a0 h4
                    injection h with h
                    simp only at h
                    omega
                · intro ad' e
                  obtain ⟨a0, h4, h5⟩ := HSR.out.2 ad' e
                  have := HA'.out a0 h4
                  omega
              · rw [take_snoc_rd xs k (by rw [hl.out]; omega)]
                exact HH1.out.far hgh _ _
              · exact (HH.out.2.2.2.trans (KeptB.of_below HG1.out)).trans (KeptB.set _ _ _ _ _)
          · obtain rfl : k = q := by omega
            clear hlt
            go_wp2
            go_ret
            exact ⟨rfl, HH.out.2⟩
  · have e1 : offB xs e0 m = false := by simp [offB, he]
    have e2 : offE xs e0 m = e0 := by simp [offE, he]
    have e3 : offL xs e0 m = xs := by simp [offL, e1]
    have e4 : offT xs e0 m = [] := by simp [offT, e1]
    rw [e1, e2, e3, e4]
    have hb0 : (e0 == 0) = false := by simpa using he
    have hb1 : (e0 != 0) = true := by simpa using he
    clear e1 e2 e3 e4 ha hb hbl he
    go_enter Tryd.func118, Tryd.ntmps118
    go_wp2
    go_ret
    exact ⟨rfl, HR.out, HB.out, KeptB.refl _ _ _⟩

theorem grown_of_keptB {w w1 : World} {o : Obj} {g : Nat} (h : KeptB (w.alloc o) w1 g w.heap.size) : w.grownBy w1 (some g) :=
  ⟨h.os, h.tape, h.output, by have := h.size; simp at this; omega, fun k hk hne => by
    rw [h.block k hk (fun e => hne (by rw [e]))]
    exact Below.heap_alloc w o k hk⟩
set_option maxHeartbeats 1000000 in
theorem raw_any (g : Nat) (xs : List Int) (e0 m : Int) (w : World) (hr : Rdr w lo g xs e0) (hm : m ≤ 9223372036854775807) (hxl : xs.length ≤ 140737488355328) :
    Calls Tryd.prog 103 #[.pointer (some ⟨g, 0, none⟩), .int .i64 m] w fun e w' =>
      ∃ A c, e = .returned (.slice A (offT xs e0 m).length c) ∧ OB w' w.heap.size A (offT xs e0 m).length c (offT xs e0 m) ∧ Rdr w' lo g (offL xs e0 m) (offE xs e0 m) ∧ w.grownBy w' (some g) := by
  have HC := Lib.hid (off_raw g w.heap.size xs e0 m (w.alloc (.cells #[.slice none 0 0] 63)) (hr.below (below_alloc (Below.refl _ _) _)) hr.lt (blk_new _ _) hm hxl)
  clear hr
  by_cases hB : offB xs e0 m = true
  · go_enter Tryd.func103, Tryd.ntmps103
    go_wp2_with fail
    refine HC.out.mono ?_
    rintro e w1 ⟨rfl, h1, ⟨A, c, h2, h4⟩, h3⟩
    have hc : w1.cell? ⟨w.heap.size, 0, none⟩ = some (.slice A (offT xs e0 m).length c) := by rw [blk_cell h2]; rfl
    have H1 := Lib.hid (And.intro h1 (And.intro h3 h4))
    clear h1 h2 h3 h4
    go_wp2
    go_ret
    exact ⟨A, c, rfl, H1.out.2.2.lower (by omega), H1.out.1, grown_of_keptB H1.out.2.1⟩
  · have hB' : offB xs e0 m = false := by simpa using hB
    clear hB
    go_enter Tryd.func103, Tryd.ntmps103
    go_wp2_with fail
    refine HC.out.mono ?_
    rintro e w1 ⟨rfl, h1, -, h3⟩
    have H1 := Lib.hid (And.intro h1 h3)
    clear h1 h3
    go_wp2
    go_ret
    have ht : offT xs e0 m = [] := by simp [offT, hB']
    rw [ht]
    exact ⟨none, 0, rfl, OB.nil _ _, H1.out.1, grown_of_keptB H1.out.2⟩
end Go.Proofs.YtnpeedmicjeleaaDoor

/- What the statements of layer 1 share: wakes, the references. -/
namespace Go.Proofs.YtnpeedmicjeleaaDoor
open Go.RowKit
set_option linter.unusedVariables false
set_option linter.unusedSimpArgs false
set_option maxRecDepth 4000

theorem wf_i64 {x : Int} (h : (Lit.int .i64 x).wf = true) : -9223372036854775808 ≤ x ∧ x ≤ 9223372036854775807 := by
  simp [Lit.wf, IntKind.min, IntKind.max, IntKind.bits, IntKind.signed] at h
  omega
theorem Rdr.grown {w w1 : World} {lo g : Nat} {xs : List Int} {e : Int} {row : Option Nat} (h : Rdr w lo g xs e) (hg : w.grownBy w1 row) (hr : ∀ b, row = some b → b ≠ g ∧ (b < lo ∨ g < b)) : Rdr w1 lo g xs e := by
  obtain ⟨A, n, c, hb, hrb, ha⟩ := h
  refine ⟨A, n, c, blk_grown hb hg (fun e => (hr g e.symm).1 rfl), hrb.grown hg (fun ad e h => ?_), ha⟩
  have h1 := ha ad e
  have h2 := hr ad.block h.symm
  omega
theorem offB_true {xs : List Int} {e m : Int} (h : offB xs e m = true) : e = 0 ∧ 0 ≤ m ∧ m ≤ xs.length := by
  simp [offB] at h
  exact ⟨h.1.1, h.1.2, h.2⟩
theorem offE_true {xs : List Int} {e m : Int} (h : offB xs e m = true) : offE xs e m = 0 := by
  obtain ⟨rfl, h1, h2⟩ := offB_true h
  rw [offE, if_neg (by simp), if_neg (by omega), if_neg (by omega)]
theorem offT_true {xs : List Int} {e m : Int} (h : offB xs e m = true) : offT xs e m = xs.take m.toNat := by simp [offT, h]
theorem offL_true {xs : List Int} {e m : Int} (h : offB xs e m = true) : offL xs e m = xs.drop m.toNat := by simp [offL, h]
end Go.Proofs.YtnpeedmicjeleaaDoor

/- A region that draws its order, walked once: operations that only compute go first, loads may go in any order among themselves, what else acts stands in one forced order. Built on the library's Orders and Still. -/
namespace Go.Proofs.YtnpeedmicjeleaaDoor
set_option linter.unusedVariables false
set_option linter.unusedSimpArgs false
set_option maxRecDepth 4000

section
variable {P : Program} {S : World → Prop} {ops : Array Oper} {Q : Exit → Act → World → Prop} {md : Region.Mode} {cl : Nat → Nat}

/-- What an operation yields in every world of a kind. -/
def YieldsS (P : Program) (ops : Array Oper) (S : World → Prop) (o : Oper) (v : Value) (a : Act) : Prop :=
  (Region.wanted o (yielded ops a.tmps) = true ∧ ∀ w, S w → ((execOp a.eval o).run P w = .ok (.value v) w ∨
    ∃ f args, (execOp a.eval o).run P w = .ok (.enter f args) w ∧ Calls P f args w fun e w' => e = .returned v ∧ w = w')) ∨
  (Region.wanted o (yielded ops a.tmps) = false ∧ v = undef)
theorem YieldsS.wpOp {S : World → Prop} {i : Nat} {o : Oper} {v : Value} {a : Act} (hi : ops[i]? = some o) (hy : YieldsS P ops S o v a)
    {K : Act → World → Prop} {w : World} (hw0 : S w) (h : K (a.put o.dst v) w) : wpOp P ops Q i K a w := by
  unfold Go.wpOp
  simp only [hi]
  rcases hy with ⟨hw, hv⟩ | ⟨hw, rfl⟩
  · rcases hv w hw0 with hv | ⟨f, args, hv, hc⟩
    · simp only [hw, if_true, Oper.wp, hv, Oper.upon]; exact .inl h
    · simp only [hw, if_true, Oper.wp, hv, Oper.upon]
      refine .inl (hc.mono ?_)
      rintro e w' ⟨rfl, rfl⟩
      exact h
  · simp only [hw, Bool.false_eq_true, if_false]; exact h
theorem YieldsS.of_same {S : World → Prop} {o : Oper} {v : Value} {a a' : Act} (hy : YieldsS P ops S o v a) (he : execOp a'.eval o = execOp a.eval o)
    (hw : Region.wanted o (yielded ops a'.tmps) = Region.wanted o (yielded ops a.tmps)) : YieldsS P ops S o v a' := by
  unfold YieldsS at *
  rw [he, hw]
  exact hy
theorem wpOp_putS {S : World → Prop} {j : Nat} {oi oj : Oper} {v : Value} (hj : ops[j]? = some oj) (hap : oi.apart ops oj = true)
    (hsi : ∀ cs b, oi.op ≠ .select cs b) (hsj : ∀ cs b, oj.op ≠ .select cs b)
    (hQ : ∀ c a w, Q (.panic c) (a.put oi.dst v) w → Q (.panic c) a w) {K : Act → World → Prop} {a : Act} {w : World}
    (hy : YieldsS P ops S oi v a) (h : wpOp P ops Q j K (a.put oi.dst v) w) :
    wpOp P ops Q j (fun a' w' => YieldsS P ops S oi v a' ∧ K (a'.put oi.dst v) w') a w := by
  obtain ⟨h1, h2, h3⟩ := Oper.apart_spec hap
  have keep : ∀ (a : Act), YieldsS P ops S oi v a → ∀ u, YieldsS P ops S oi v (a.put oj.dst u) := fun a hy u =>
    hy.of_same (execOp_put oi hsi a oj.dst u h3) (wanted_put oi a oj.dst u h3)
  have keepD : ∀ d, YieldsS P ops S oi v { a with defers := d :: a.defers } := fun d => hy.of_same rfl rfl
  unfold wpOp at *
  simp only [hj] at *
  rw [wanted_put oj a oi.dst v h1] at h
  split
  · rename_i hw
    simp only [hw, if_true] at h
    rcases h with h | ⟨hasks, hlets⟩
    case inr => exact .inr ⟨by unfold Oper.asks at *; rw [execOp_put oj hsj a oi.dst v h1] at hasks; exact hasks, hlets⟩
    refine .inl ?_
    unfold Oper.wp at *
    rw [execOp_put oj hsj a oi.dst v h1] at h
    generalize (execOp a.eval oj).run P w = r at *
    cases r with
    | ok n w' =>
      cases n <;> simp only [Oper.upon] at h ⊢
      case value u => exact ⟨keep a hy u, by rw [← Act.put_comm a v u h2]; exact h⟩
      case skip => exact ⟨keep a hy _, by rw [← Act.put_comm a v undef h2]; exact h⟩
      case defer d =>
        refine ⟨keep _ (keepD d) _, ?_⟩
        rw [← Act.put_comm _ v undef h2, ← Act.put_defers]
        exact h
      case enter f args =>
        refine Calls.mono h fun e w'' he => ?_
        cases e with
        | returned u => exact ⟨keep a hy u, by rw [← Act.put_comm a v u h2]; exact he⟩
        | panicked c => exact hQ _ _ _ he
        | outgrown => exact he
      case row row args => exact Rows.mono h fun u w'' he => ⟨keep a hy u, by rw [← Act.put_comm a v u h2]; exact he⟩
    | halt x w' =>
      cases x <;> simp only [Oper.upon] at h ⊢
      case panic u => exact hQ _ _ _ h
  · rename_i hw
    simp only [hw] at h
    exact ⟨keep a hy _, by rw [← Act.put_comm a v undef h2]; exact h⟩

/-- One operation, by its class: 0 it computes, whatever the world (of the kind S); 1 it reads; 2 it acts; 3 it acts, behind all but what is of class 3 or 4; 4 it computes, whatever the world. -/
def mOp (P : Program) (S : World → Prop) (ops : Array Oper) (Q : Exit → Act → World → Prop) (cl : Nat → Nat) (i : Nat) (K : Act → World → Prop) (a : Act) (w : World) : Prop :=
  match ops[i]? with
  | none => K a w
  | some o => match cl i with
    | 0 => ∃ v, YieldsS P ops S o v a ∧ K (a.put o.dst v) w
    | 1 => ∃ v, YieldsAt P ops w o v a ∧ K (a.put o.dst v) w
    | 3 => wpOp P ops Q i K a w
    | 4 => ∃ v, YieldsS P ops (fun _ => True) o v a ∧ K (a.put o.dst v) w
    | _ => wpOp P ops Q i (fun a' w' => S w' ∧ K a' w') a w
def wpM (P : Program) (S : World → Prop) (md : Region.Mode) (ops : Array Oper) (Q : Exit → Act → World → Prop) (cl : Nat → Nat) : Nat → Array Bool → Act → World → Prop
  | 0, listed, a, w => Region.ready md ops listed = [] ∧ Q .normal a w
  | fuel + 1, listed, a, w =>
    (Region.ready md ops listed = [] → Q .normal a w) ∧
    ∀ i ∈ Region.ready md ops listed, mOp P S ops Q cl i (wpM P S md ops Q cl fuel (listed.setIfInBounds i true)) a w
theorem yieldsAt_wpOp {i : Nat} {o : Oper} {v : Value} {a : Act} {w : World} (hi : ops[i]? = some o) (hy : YieldsAt P ops w o v a) {K : Act → World → Prop} (h : K (a.put o.dst v) w) : wpOp P ops Q i K a w :=
  wpOp_of_stOp (K := fun a' => K a' w) (fun _ h => h) (hy.stOp hi h)
theorem wpOp_of_mOp {i : Nat} {K : Act → World → Prop} {a : Act} {w : World} (hs : S w) (hc3 : cl i ≠ 3) (h : mOp P S ops Q cl i K a w) : wpOp P ops Q i (fun a' w' => S w' ∧ K a' w') a w := by
  unfold mOp at h
  cases hi : ops[i]? with
  | none => rw [hi] at h; unfold wpOp; rw [hi]; exact ⟨hs, h⟩
  | some o =>
    rw [hi] at h
    simp only at h
    split at h
    · obtain ⟨v, hy, hk⟩ := h; exact hy.wpOp hi hs ⟨hs, hk⟩
    · obtain ⟨v, hy, hk⟩ := h; exact yieldsAt_wpOp hi hy ⟨hs, hk⟩
    · rename_i hc; exact absurd hc hc3
    · obtain ⟨v, hy, hk⟩ := h; exact hy.wpOp hi trivial ⟨hs, hk⟩
    · exact h

theorem mOp_mono {i : Nat} {K K' : Act → World → Prop} {a : Act} {w : World} (hk : ∀ a w, K a w → K' a w) (h : mOp P S ops Q cl i K a w) : mOp P S ops Q cl i K' a w := by
  unfold mOp at *
  cases hi : ops[i]? with
  | none => rw [hi] at h; exact hk _ _ h
  | some o =>
    rw [hi] at h
    simp only at h ⊢
    split at h
    · obtain ⟨v, hy, h1⟩ := h; exact ⟨v, hy, hk _ _ h1⟩
    · obtain ⟨v, hy, h1⟩ := h; exact ⟨v, hy, hk _ _ h1⟩
    · exact wpOp_mono (fun a w h => hk _ _ h) h
    · obtain ⟨v, hy, h1⟩ := h; exact ⟨v, hy, hk _ _ h1⟩
    · exact wpOp_mono (fun a w h => ⟨h.1, hk _ _ h.2⟩) h

/-- What is listed has all listed that it waits for. -/
def Closed (md : Region.Mode) (ops : Array Oper) (listed : Array Bool) : Prop :=
  ∀ j oj, ops[j]? = some oj → listed.getD j false = true → ∀ e ∈ oj.after, Region.binds md e = true → listed.getD e.on false = true
theorem Closed.start (n : Nat) : Closed md ops (Array.replicate n false) := by
  intro j oj _ h
  rcases Nat.lt_or_ge j n with h' | h'
  · simp [h'] at h
  · simp [Array.getElem?_eq_none (show (Array.replicate n false).size ≤ j by simpa using h')] at h
theorem Closed.set {listed : Array Bool} {i : Nat} (h : Closed md ops listed) (hi : i ∈ Region.ready md ops listed) : Closed md ops (listed.setIfInBounds i true) := by
  obtain ⟨_, oi, hoi, hall⟩ := mem_ready.1 hi
  intro j oj hj hl e he hb
  by_cases hij : i = j
  · subst hij
    obtain rfl : oj = oi := Option.some.inj (hj.symm.trans hoi)
    exact getD_set_true (hall e he hb)
  · rw [getD_set_ne false hij] at hl
    exact getD_set_true (h j oj hj hl e he hb)
/-- i stands ahead of j, by whatever way. -/
def reach (md : Region.Mode) (ops : Array Oper) (i : Nat) : Nat → Nat → Bool
  | 0, _ => false
  | n + 1, j => match ops[j]? with
    | some oj => oj.after.any fun e => Region.binds md e && (e.on == i || reach md ops i n e.on)
    | none => false
theorem reach_spec {listed : Array Bool} {i : Nat} (hc : Closed md ops listed) : ∀ (n j : Nat) (oj : Oper), ops[j]? = some oj → (∀ e ∈ oj.after, Region.binds md e = true → listed.getD e.on false = true) →
    reach md ops i n j = true → listed.getD i false = true
  | 0, _, _, _, _, h => by simp [reach] at h
  | n + 1, j, oj, hj, hall, h => by
    simp only [reach, hj] at h
    obtain ⟨e, he, h1⟩ := Array.any_eq_true'.1 h
    simp only [Bool.and_eq_true, Bool.or_eq_true, beq_iff_eq] at h1
    have hl := hall e he h1.1
    rcases h1.2 with h2 | h2
    · rw [← h2]; exact hl
    · cases ho : ops[e.on]? with
      | none =>
        cases n with
        | zero => simp [reach] at h2
        | succ n => simp [reach, ho] at h2
      | some oe => exact reach_spec hc n e.on oe ho (hc e.on oe ho hl) h2

theorem listed_not {listed : Array Bool} {i : Nat} (h0 : listed.getD i true = false) (h1 : listed.getD i false = true) : False := by
  rcases Nat.lt_or_ge i listed.size with h' | h'
  · simp [h'] at h0 h1; rw [h0] at h1; cases h1
  · simp [Array.getElem?_eq_none h'] at h1

/-- What is of class 3 stands behind all that is not. -/
def Fin (md : Region.Mode) (ops : Array Oper) (cl : Nat → Nat) : Prop := ∀ j, cl j = 3 → ∀ k, k < ops.size → cl k ≠ 3 → cl k ≠ 4 → reach md ops k ops.size j = true
def clOf (l : List (Nat × Nat)) (i : Nat) : Nat := ((l.find? fun p => p.1 == i).map (·.2)).getD 2
def finB (md : Region.Mode) (ops : Array Oper) (l : List (Nat × Nat)) : Bool := l.all fun p => p.2 != 3 || (List.range ops.size).all fun k => clOf l k == 3 || clOf l k == 4 || reach md ops k ops.size p.1
/-- Only what is of class 3 is left. -/
def Tail (ops : Array Oper) (cl : Nat → Nat) (listed : Array Bool) : Prop := ∀ k, k < ops.size → cl k ≠ 3 → cl k ≠ 4 → listed.getD k false = true
theorem tail_of {listed : Array Bool} {i : Nat} (hf : Fin md ops cl) (hc : Closed md ops listed) (hi : i ∈ Region.ready md ops listed) (h3 : cl i = 3) : Tail ops cl (listed.setIfInBounds i true) := by
  obtain ⟨_, oi, hoi, hall⟩ := mem_ready.1 hi
  intro k hk hne hne4
  exact getD_set_true (reach_spec hc ops.size i oi hoi hall (hf i h3 k hk hne hne4))
theorem Tail.set {listed : Array Bool} {i : Nat} (h : Tail ops cl listed) : Tail ops cl (listed.setIfInBounds i true) := fun k hk hne hne4 => getD_set_true (h k hk hne hne4)
theorem wpAny_tail : ∀ (fuel : Nat) (listed : Array Bool) (a : Act) (w : World), Tail ops cl listed → wpM P S md ops Q cl fuel listed a w → wpAny P md ops Q fuel listed a w
  | 0, _, _, _, _, h => h
  | fuel + 1, listed, a, w, ht, h => ⟨h.1, fun i hi => by
    have h1 := h.2 i hi
    obtain ⟨hun, oi, hoi, _⟩ := mem_ready.1 hi
    by_cases h3 : cl i = 3
    · unfold mOp at h1
      simp only [hoi, h3] at h1
      exact wpOp_mono (fun a' w' h' => wpAny_tail fuel _ a' w' ht.set h') h1
    · by_cases h4 : cl i = 4
      · unfold mOp at h1
        simp only [hoi, h4] at h1
        obtain ⟨v, hy, hk⟩ := h1
        exact hy.wpOp hoi trivial (wpAny_tail fuel _ _ _ ht.set hk)
      · exact (listed_not hun (ht i (Array.getElem?_eq_some_iff.1 hoi).1 h3 h4)).elim⟩
theorem wpAny_of_wpM (hf : Fin md ops cl) : ∀ (fuel : Nat) (listed : Array Bool) (a : Act) (w : World), Closed md ops listed → S w → wpM P S md ops Q cl fuel listed a w → wpAny P md ops Q fuel listed a w
  | 0, _, _, _, _, _, h => h
  | fuel + 1, listed, a, w, hcl, hs, h => ⟨h.1, fun i hi => by
    by_cases h3 : cl i = 3
    · have h1 := h.2 i hi
      obtain ⟨_, oi, hoi, _⟩ := mem_ready.1 hi
      unfold mOp at h1
      simp only [hoi, h3] at h1
      exact wpOp_mono (fun a' w' h' => wpAny_tail fuel _ a' w' (tail_of hf hcl hi h3) h') h1
    · exact wpOp_mono (fun a' w' h' => wpAny_of_wpM hf fuel _ a' w' (hcl.set hi) h'.1 h'.2) (wpOp_of_mOp hs h3 (h.2 i hi))⟩

theorem wpM_first0 (hf : Fin md ops cl) {i : Nat} {oi : Oper} {v : Value} (hi : ops[i]? = some oi) (hci : cl i = 0) (hsel : ∀ (j : Nat) (o : Oper) cs b, ops[j]? = some o → o.op ≠ .select cs b)
    (hQ : ∀ c a w, Q (.panic c) (a.put oi.dst v) w → Q (.panic c) a w) :
    ∀ (fuel : Nat) (listed : Array Bool) (a : Act) (w : World), Closed md ops listed →
      (∀ j oj, ops[j]? = some oj → j ≠ i → listed.getD j true = false → (∀ e ∈ oj.after, Region.binds md e = true → e.on ≠ i) → oi.apart ops oj = true) →
      i ∈ Region.ready md ops listed → YieldsS P ops S oi v a →
      wpM P S md ops Q cl fuel (listed.setIfInBounds i true) (a.put oi.dst v) w → wpM P S md ops Q cl (fuel + 1) listed a w := by
  intro fuel
  induction fuel with
  | zero =>
    intro listed a w _ _ hr hy H
    refine ⟨fun h => (by rw [h] at hr; cases hr), fun j hj => ?_⟩
    by_cases hji : j = i
    · subst hji; unfold mOp; rw [hi]; simp only [hci]; exact ⟨v, hy, H⟩
    · have := ready_mono hj hji
      rw [H.1] at this
      cases this
  | succ fuel ih =>
    intro listed a w hcl hfree hr hy H
    refine ⟨fun h => (by rw [h] at hr; cases hr), fun j hj => ?_⟩
    by_cases hji : j = i
    · subst hji; unfold mOp; rw [hi]; simp only [hci]; exact ⟨v, hy, H⟩
    · have h1 := H.2 j (ready_mono hj hji)
      obtain ⟨hjun, oj, hoj, hall⟩ := mem_ready.1 hj
      have hnot : ∀ e ∈ oj.after, Region.binds md e = true → e.on ≠ i := fun e he hb heq => by
        have h1 := hall e he hb
        rw [heq] at h1
        exact listed_not (mem_ready.1 hr).1 h1
      have hap := hfree j oj hoj hji hjun hnot
      obtain ⟨p1, p2, p3⟩ := Oper.apart_spec hap
      have hfree' : ∀ k ok, ops[k]? = some ok → k ≠ i → (listed.setIfInBounds j true).getD k true = false →
          (∀ e ∈ ok.after, Region.binds md e = true → e.on ≠ i) → oi.apart ops ok = true := fun k ok hk hki hun hno => by
        refine hfree k ok hk hki ?_ hno
        by_cases hjk : j = k
        · subst hjk; exact hjun
        · rw [getD_set_ne true hjk] at hun; exact hun
      have next : ∀ (a' : Act) (w' : World), YieldsS P ops S oi v a' → wpM P S md ops Q cl fuel ((listed.setIfInBounds i true).setIfInBounds j true) (a'.put oi.dst v) w' → wpM P S md ops Q cl (fuel + 1) (listed.setIfInBounds j true) a' w' := fun a' w' hy' h' =>
        ih (listed.setIfInBounds j true) a' w' (hcl.set hj) hfree' (ready_mono hr (Ne.symm hji)) hy' (by rw [Array.setIfInBounds_comm _ _ hji]; exact h')
      have keep : ∀ u, YieldsS P ops S oi v (a.put oj.dst u) := fun u =>
        hy.of_same (execOp_put oi (fun cs b => hsel i oi cs b hi) a oj.dst u p3) (wanted_put oi a oj.dst u p3)
      unfold mOp at h1 ⊢
      rw [hoj] at h1 ⊢
      simp only at h1 ⊢
      split at h1
      · rename_i hc
        obtain ⟨u, hyu, hk⟩ := h1
        refine ⟨u, hyu.of_same (execOp_put oj (fun cs b => hsel j oj cs b hoj) a oi.dst v p1).symm (wanted_put oj a oi.dst v p1).symm, next _ _ (keep u) ?_⟩
        rw [← Act.put_comm a v u p2]
        exact hk
      · rename_i hc
        obtain ⟨u, hyu, hk⟩ := h1
        refine ⟨u, hyu.of_same (execOp_put oj (fun cs b => hsel j oj cs b hoj) a oi.dst v p1).symm (wanted_put oj a oi.dst v p1).symm, next _ _ (keep u) ?_⟩
        rw [← Act.put_comm a v u p2]
        exact hk
      · rename_i hc
        exact (listed_not (mem_ready.1 hr).1 (reach_spec hcl ops.size j oj hoj hall (hf j hc i (Array.getElem?_eq_some_iff.1 hi).1 (by rw [hci]; decide) (by rw [hci]; decide)))).elim
      · rename_i hc
        obtain ⟨u, hyu, hk⟩ := h1
        refine ⟨u, hyu.of_same (execOp_put oj (fun cs b => hsel j oj cs b hoj) a oi.dst v p1).symm (wanted_put oj a oi.dst v p1).symm, next _ _ (keep u) ?_⟩
        rw [← Act.put_comm a v u p2]
        exact hk
      · exact wpOp_mono (fun a' w' h3 => ⟨h3.2.1, next a' w' h3.1 h3.2.2⟩) (wpOp_putS hoj hap (fun cs b => hsel i oi cs b hi) (fun cs b => hsel j oj cs b hoj) hQ hy h1)

theorem wpM_first4 {i : Nat} {oi : Oper} {v : Value} (hi : ops[i]? = some oi) (hci : cl i = 4) (hsel : ∀ (j : Nat) (o : Oper) cs b, ops[j]? = some o → o.op ≠ .select cs b)
    (hQ : ∀ c a w, Q (.panic c) (a.put oi.dst v) w → Q (.panic c) a w) :
    ∀ (fuel : Nat) (listed : Array Bool) (a : Act) (w : World), Closed md ops listed →
      (∀ j oj, ops[j]? = some oj → j ≠ i → listed.getD j true = false → (∀ e ∈ oj.after, Region.binds md e = true → e.on ≠ i) → oi.apart ops oj = true) →
      i ∈ Region.ready md ops listed → YieldsS P ops (fun _ => True) oi v a →
      wpM P S md ops Q cl fuel (listed.setIfInBounds i true) (a.put oi.dst v) w → wpM P S md ops Q cl (fuel + 1) listed a w := by
  intro fuel
  induction fuel with
  | zero =>
    intro listed a w _ _ hr hy H
    refine ⟨fun h => (by rw [h] at hr; cases hr), fun j hj => ?_⟩
    by_cases hji : j = i
    · subst hji; unfold mOp; rw [hi]; simp only [hci]; exact ⟨v, hy, H⟩
    · have := ready_mono hj hji
      rw [H.1] at this
      cases this
  | succ fuel ih =>
    intro listed a w hcl hfree hr hy H
    refine ⟨fun h => (by rw [h] at hr; cases hr), fun j hj => ?_⟩
    by_cases hji : j = i
    · subst hji; unfold mOp; rw [hi]; simp only [hci]; exact ⟨v, hy, H⟩
    · have h1 := H.2 j (ready_mono hj hji)
      obtain ⟨hjun, oj, hoj, hall⟩ := mem_ready.1 hj
      have hnot : ∀ e ∈ oj.after, Region.binds md e = true → e.on ≠ i := fun e he hb heq => by
        have h1 := hall e he hb
        rw [heq] at h1
        exact listed_not (mem_ready.1 hr).1 h1
      have hap := hfree j oj hoj hji hjun hnot
      obtain ⟨p1, p2, p3⟩ := Oper.apart_spec hap
      have hfree' : ∀ k ok, ops[k]? = some ok → k ≠ i → (listed.setIfInBounds j true).getD k true = false →
          (∀ e ∈ ok.after, Region.binds md e = true → e.on ≠ i) → oi.apart ops ok = true := fun k ok hk hki hun hno => by
        refine hfree k ok hk hki ?_ hno
        by_cases hjk : j = k
        · subst hjk; exact hjun
        · rw [getD_set_ne true hjk] at hun; exact hun
      have next : ∀ (a' : Act) (w' : World), YieldsS P ops (fun _ => True) oi v a' → wpM P S md ops Q cl fuel ((listed.setIfInBounds i true).setIfInBounds j true) (a'.put oi.dst v) w' → wpM P S md ops Q cl (fuel + 1) (listed.setIfInBounds j true) a' w' := fun a' w' hy' h' =>
        ih (listed.setIfInBounds j true) a' w' (hcl.set hj) hfree' (ready_mono hr (Ne.symm hji)) hy' (by rw [Array.setIfInBounds_comm _ _ hji]; exact h')
      have keep : ∀ u, YieldsS P ops (fun _ => True) oi v (a.put oj.dst u) := fun u =>
        hy.of_same (execOp_put oi (fun cs b => hsel i oi cs b hi) a oj.dst u p3) (wanted_put oi a oj.dst u p3)
      unfold mOp at h1 ⊢
      rw [hoj] at h1 ⊢
      simp only at h1 ⊢
      split at h1
      · rename_i hc
        obtain ⟨u, hyu, hk⟩ := h1
        refine ⟨u, hyu.of_same (execOp_put oj (fun cs b => hsel j oj cs b hoj) a oi.dst v p1).symm (wanted_put oj a oi.dst v p1).symm, next _ _ (keep u) ?_⟩
        rw [← Act.put_comm a v u p2]
        exact hk
      · rename_i hc
        obtain ⟨u, hyu, hk⟩ := h1
        refine ⟨u, hyu.of_same (execOp_put oj (fun cs b => hsel j oj cs b hoj) a oi.dst v p1).symm (wanted_put oj a oi.dst v p1).symm, next _ _ (keep u) ?_⟩
        rw [← Act.put_comm a v u p2]
        exact hk
      · exact wpOp_mono (fun a' w' h3 => next a' w' h3.1 h3.2) (wpOp_putS hoj hap (fun cs b => hsel i oi cs b hi) (fun cs b => hsel j oj cs b hoj) hQ hy h1)
      · rename_i hc
        obtain ⟨u, hyu, hk⟩ := h1
        refine ⟨u, hyu.of_same (execOp_put oj (fun cs b => hsel j oj cs b hoj) a oi.dst v p1).symm (wanted_put oj a oi.dst v p1).symm, next _ _ (keep u) ?_⟩
        rw [← Act.put_comm a v u p2]
        exact hk
      · exact wpOp_mono (fun a' w' h3 => ⟨h3.2.1, next a' w' h3.1 h3.2.2⟩) (wpOp_putS hoj hap (fun cs b => hsel i oi cs b hi) (fun cs b => hsel j oj cs b hoj) hQ hy h1)

theorem wpM_first1 {i N : Nat} {oi : Oper} {v : Value} {w : World} (hi : ops[i]? = some oi) (hci : cl i = 1) (hsel : ∀ (j : Nat) (o : Oper) cs b, ops[j]? = some o → o.op ≠ .select cs b) :
    ∀ (fuel : Nat) (listed : Array Bool) (a : Act), Closed md ops listed →
      (∀ j oj, ops[j]? = some oj → listed.getD j true = false → cl j = 0 ∨ cl j = 1 ∨ reach md ops i N j = true) →
      (∀ j oj, ops[j]? = some oj → j ≠ i → listed.getD j true = false → (∀ e ∈ oj.after, Region.binds md e = true → e.on ≠ i) → oi.apart ops oj = true) →
      i ∈ Region.ready md ops listed → YieldsAt P ops w oi v a →
      wpM P S md ops Q cl fuel (listed.setIfInBounds i true) (a.put oi.dst v) w → wpM P S md ops Q cl (fuel + 1) listed a w := by
  intro fuel
  induction fuel with
  | zero =>
    intro listed a _ _ _ hr hy H
    refine ⟨fun h => (by rw [h] at hr; cases hr), fun j hj => ?_⟩
    by_cases hji : j = i
    · subst hji; unfold mOp; rw [hi]; simp only [hci]; exact ⟨v, hy, H⟩
    · have := ready_mono hj hji
      rw [H.1] at this
      cases this
  | succ fuel ih =>
    intro listed a hcl hblock hfree hr hy H
    refine ⟨fun h => (by rw [h] at hr; cases hr), fun j hj => ?_⟩
    by_cases hji : j = i
    · subst hji; unfold mOp; rw [hi]; simp only [hci]; exact ⟨v, hy, H⟩
    · have h1 := H.2 j (ready_mono hj hji)
      obtain ⟨hjun, oj, hoj, hall⟩ := mem_ready.1 hj
      have hnot : ∀ e ∈ oj.after, Region.binds md e = true → e.on ≠ i := fun e he hb heq => by
        have h1 := hall e he hb
        rw [heq] at h1
        exact listed_not (mem_ready.1 hr).1 h1
      have hap := hfree j oj hoj hji hjun hnot
      obtain ⟨p1, p2, p3⟩ := Oper.apart_spec hap
      have hmono : ∀ k, (listed.setIfInBounds j true).getD k true = false → listed.getD k true = false := fun k hun => by
        by_cases hjk : j = k
        · subst hjk; exact hjun
        · rw [getD_set_ne true hjk] at hun; exact hun
      have next : ∀ (a' : Act), YieldsAt P ops w oi v a' → wpM P S md ops Q cl fuel ((listed.setIfInBounds i true).setIfInBounds j true) (a'.put oi.dst v) w → wpM P S md ops Q cl (fuel + 1) (listed.setIfInBounds j true) a' w := fun a' hy' h' =>
        ih (listed.setIfInBounds j true) a' (hcl.set hj) (fun k ok hk hun => hblock k ok hk (hmono k hun)) (fun k ok hk hki hun hno => hfree k ok hk hki (hmono k hun) hno) (ready_mono hr (Ne.symm hji)) hy' (by rw [Array.setIfInBounds_comm _ _ hji]; exact h')
      have keep : ∀ u, YieldsAt P ops w oi v (a.put oj.dst u) := fun u =>
        hy.of_same (execOp_put oi (fun cs b => hsel i oi cs b hi) a oj.dst u p3) (wanted_put oi a oj.dst u p3)
      unfold mOp at h1 ⊢
      rw [hoj] at h1 ⊢
      simp only at h1 ⊢
      rcases hblock j oj hoj hjun with hc | hc | hc
      · rw [hc] at h1 ⊢
        obtain ⟨u, hyu, hk⟩ := h1
        refine ⟨u, hyu.of_same (execOp_put oj (fun cs b => hsel j oj cs b hoj) a oi.dst v p1).symm (wanted_put oj a oi.dst v p1).symm, next _ (keep u) ?_⟩
        rw [← Act.put_comm a v u p2]
        exact hk
      · rw [hc] at h1 ⊢
        obtain ⟨u, hyu, hk⟩ := h1
        refine ⟨u, hyu.of_same (execOp_put oj (fun cs b => hsel j oj cs b hoj) a oi.dst v p1).symm (wanted_put oj a oi.dst v p1).symm, next _ (keep u) ?_⟩
        rw [← Act.put_comm a v u p2]
        exact hk
      · exact (listed_not (mem_ready.1 hr).1 (reach_spec hcl N j oj hoj hall hc)).elim

theorem wpM_only {i fuel : Nat} {listed : Array Bool} {a : Act} {w : World} (hr : Region.ready md ops listed = [i])
    (H : mOp P S ops Q cl i (wpM P S md ops Q cl fuel (listed.setIfInBounds i true)) a w) : wpM P S md ops Q cl (fuel + 1) listed a w := by
  refine ⟨fun h => (by rw [h] at hr; cases hr), fun j hj => ?_⟩
  rw [hr, List.mem_singleton] at hj
  subst hj
  exact H

/-- The operations in the order that is told. -/
def wpO (P : Program) (S : World → Prop) (ops : Array Oper) (Q : Exit → Act → World → Prop) (cl : Nat → Nat) : List Nat → Act → World → Prop
  | [], a, w => Q .normal a w
  | i :: l, a, w => mOp P S ops Q cl i (wpO P S ops Q cl l) a w
def ordB (md : Region.Mode) (ops : Array Oper) (cl : Nat → Nat) : List Nat → Array Bool → Bool
  | [], listed => (Region.ready md ops listed).isEmpty
  | i :: l, listed => (match cl i with
    | 0 => (Region.ready md ops listed).contains i && Region.free md ops listed i
    | 1 => (Region.ready md ops listed).contains i && Region.free md ops listed i && (List.range ops.size).all fun j => listed.getD j true || cl j == 0 || cl j == 1 || reach md ops i ops.size j
    | 4 => (Region.ready md ops listed).contains i && Region.free md ops listed i
    | _ => Region.ready md ops listed == [i]) && ordB md ops cl l (listed.setIfInBounds i true)
theorem wpM_of_wpO (hf : Fin md ops cl) (hs : Region.noSelect ops = true) (hQ : ∀ c dst v a w, Q (.panic c) (a.put dst v) w → Q (.panic c) a w) : ∀ (l : List Nat) (listed : Array Bool) (a : Act) (w : World), Closed md ops listed →
    ordB md ops cl l listed = true → wpO P S ops Q cl l a w → wpM P S md ops Q cl l.length listed a w
  | [], _, _, _, _, hB, h => ⟨by simpa [ordB] using hB, h⟩
  | i :: l, listed, a, w, hcl, hB, h => by
    simp only [ordB, Bool.and_eq_true] at hB
    obtain ⟨hB1, hB2⟩ := hB
    simp only [wpO] at h
    have h0 := h
    unfold mOp at h
    split at hB1
    · rename_i hc
      simp only [Bool.and_eq_true, List.contains_iff_mem] at hB1
      obtain ⟨_, oi, hoi, _⟩ := mem_ready.1 hB1.1
      rw [hoi] at h
      simp only [hc] at h
      obtain ⟨v, hy, hk⟩ := h
      exact wpM_first0 hf hoi hc (Region.noSelect_spec hs) (fun c a w => hQ c oi.dst v a w) l.length listed a w hcl (Region.free_spec hoi hB1.2) hB1.1 hy (wpM_of_wpO hf hs hQ l _ _ w (hcl.set hB1.1) hB2 hk)
    · rename_i hc
      simp only [Bool.and_eq_true, List.contains_iff_mem, List.all_eq_true, List.mem_range, Bool.or_eq_true, beq_iff_eq] at hB1
      obtain ⟨_, oi, hoi, _⟩ := mem_ready.1 hB1.1.1
      rw [hoi] at h
      simp only [hc] at h
      obtain ⟨v, hy, hk⟩ := h
      refine wpM_first1 (N := ops.size) hoi hc (Region.noSelect_spec hs) l.length listed a hcl (fun j oj hj hun => ?_) (Region.free_spec hoi hB1.1.2) hB1.1.1 hy (wpM_of_wpO hf hs hQ l _ _ w (hcl.set hB1.1.1) hB2 hk)
      have := hB1.2 j (Array.getElem?_eq_some_iff.1 hj).1
      rw [hun] at this
      simpa [or_assoc] using this
    · rename_i hc
      simp only [Bool.and_eq_true, List.contains_iff_mem] at hB1
      obtain ⟨_, oi, hoi, _⟩ := mem_ready.1 hB1.1
      rw [hoi] at h
      simp only [hc] at h
      obtain ⟨v, hy, hk⟩ := h
      exact wpM_first4 hoi hc (Region.noSelect_spec hs) (fun c a w => hQ c oi.dst v a w) l.length listed a w hcl (Region.free_spec hoi hB1.2) hB1.1 hy (wpM_of_wpO hf hs hQ l _ _ w (hcl.set hB1.1) hB2 hk)
    · simp only [beq_iff_eq] at hB1
      have hr : i ∈ Region.ready md ops listed := by rw [hB1]; exact List.mem_singleton.2 rfl
      exact wpM_only hB1 (mOp_mono (fun a' w' h' => wpM_of_wpO hf hs hQ l _ a' w' (hcl.set hr) hB2 h') h0)
end

def onlyNormal (K : Act → World → Prop) : Exit → Act → World → Prop
  | .normal, a, w => K a w
  | _, _, _ => False
theorem fin_of {md : Region.Mode} {ops : Array Oper} {l : List (Nat × Nat)} (h : finB md ops l = true) : Fin md ops (clOf l) := by
  intro j hj k hk hne hne4
  unfold clOf at hj
  cases hf : l.find? (fun p => p.1 == j) with
  | none => rw [hf] at hj; simp at hj
  | some p =>
    rw [hf] at hj
    have h1 := List.mem_of_find?_eq_some hf
    have h2 : (p.1 == j) = true := by have := List.find?_some hf; exact this
    have h3 := List.all_eq_true.1 h p h1
    have h4 : p.2 = 3 := by simpa using hj
    have h5 : p.1 = j := by simpa using h2
    simp only [h4, bne_self_eq_false, Bool.false_or, List.all_eq_true, List.mem_range, Bool.or_eq_true, beq_iff_eq] at h3
    rw [h5] at h3
    rcases h3 k hk with (h6 | h6) | h6
    · exact absurd h6 hne
    · exact absurd h6 hne4
    · exact h6
theorem wp_region_mix {P : Program} (S : World → Prop) {ops : Array Oper} {id : Nat} {Q : Exit → Act → World → Prop} {a : Act} {w : World} (l : List (Nat × Nat)) (hm : P.follows .mixedOrders = true)
    (hB : (finB .any ops l && Region.noSelect ops && decide (l.length = ops.size) && ordB .any ops (clOf l) (l.map (·.1)) (Array.replicate ops.size false)) = true)
    (hS : S w.drew) (h : wpO P S ops (onlyNormal (Q .normal)) (clOf l) (l.map (·.1)) a w.drew) : (Code.region id ops true).wp P Q a w := by
  simp only [Bool.and_eq_true, decide_eq_true_eq] at hB
  refine wp_mono (Q := onlyNormal (Q .normal)) (wp_region_any hm (wpAny_of_wpM (S := S) (cl := clOf l) (fin_of hB.1.1.1) _ _ _ _ (Closed.start _) hS ?_)) (fun e a w hq => ?_)
  · have := wpM_of_wpO (P := P) (S := S) (md := .any) (Q := onlyNormal (Q .normal)) (cl := clOf l) (fin_of hB.1.1.1) hB.1.1.2 (fun c dst v a w h => h) (l.map (·.1)) (Array.replicate ops.size false) a w.drew (Closed.start _) hB.2 h
    rw [List.length_map, hB.1.2] at this
    exact this
  · cases e <;> first | exact hq | exact hq.elim

section
variable {P : Program} {S : World → Prop} {ops : Array Oper} {Q : Exit → Act → World → Prop} {cl : Nat → Nat} {i : Nat} {l : List Nat} {o : Oper} {a : Act} {w : World}
theorem wpO_step0 (ho : ops[i]? = some o) (hc : cl i = 0) (h : ∀ K : Act → World → Prop, (∀ a w, wpO P S ops Q cl l a w → K a w) →
    if Region.wanted o (yielded ops a.tmps) then ∃ v, (∀ w0, (execOp a.eval o).run P w0 = .ok (.value v) w0) ∧ K (a.put o.dst v) w else K (a.put o.dst undef) w) : wpO P S ops Q cl (i :: l) a w := by
  have h1 := h _ (fun _ _ h => h)
  simp only [wpO, mOp, ho, hc]
  split at h1
  · rename_i hw
    obtain ⟨v, hv, hk⟩ := h1
    exact ⟨v, .inl ⟨hw, fun w0 _ => .inl (hv w0)⟩, hk⟩
  · rename_i hw
    exact ⟨undef, .inr ⟨by simpa using hw, rfl⟩, h1⟩
theorem wpO_step1 (ho : ops[i]? = some o) (hc : cl i = 1) (h : ∀ K : Act → World → Prop, (∀ a w, wpO P S ops Q cl l a w → K a w) →
    if Region.wanted o (yielded ops a.tmps) then ∃ v, (execOp a.eval o).run P w = .ok (.value v) w ∧ K (a.put o.dst v) w else K (a.put o.dst undef) w) : wpO P S ops Q cl (i :: l) a w := by
  have h1 := h _ (fun _ _ h => h)
  simp only [wpO, mOp, ho, hc]
  split at h1
  · rename_i hw
    obtain ⟨v, hv, hk⟩ := h1
    exact ⟨v, .inl ⟨hw, .inl hv⟩, hk⟩
  · rename_i hw
    exact ⟨undef, .inr ⟨by simpa using hw, rfl⟩, h1⟩
/-- The same where it bears a guard that lets it. -/
theorem wpO_loadW (ho : ops[i]? = some o) (hc : cl i = 0) (hg : Region.wanted o (yielded ops a.tmps) = true) {t : TypeId} {x : Operand} (hop : o.op = .load t x) {ad : Addr} {v : Value} (hx : a.eval x = .pointer (some ad))
    (hrun : ∀ w0, S w0 → (Instr.loadAt t (.pointer (some ad))).run P w0 = .ok v w0) (h : wpO P S ops Q cl l (a.put o.dst v) w) : wpO P S ops Q cl (i :: l) a w := by
  simp only [wpO, mOp, ho, hc]
  refine ⟨v, .inl ⟨hg, fun w0 hs => .inl ?_⟩, h⟩
  unfold execOp
  simp only [hop, hx, Sem.run_bind, hrun w0 hs, Result.andThen_ok, Sem.run_pure]
/-- A call that leaves the world as it is, and answers the same in every world of the kind. -/
theorem wpO_quiet (ho : ops[i]? = some o) (hc : cl i = 0) (hg : Region.wanted o (yielded ops a.tmps) = true) {f : FuncId} {fn : Func} {xs : Array Operand} {ts : Array TypeId} {vs : Array Value} {v : Value} (hf : P.funcs[f]? = some fn)
    (hn : (fn.name == "runtime.NumGoroutine") = false) (hb : fn.body.isNone = false) (hop : o.op = .call { callee := .value (.func f), args := xs, argTypes := ts }) (hvs : xs.toList.map a.eval = vs.toList)
    (hcall : ∀ w0, S w0 → Calls P f vs w0 fun e w' => e = .returned v ∧ w0 = w') (h : wpO P S ops Q cl l (a.put o.dst v) w) : wpO P S ops Q cl (i :: l) a w := by
  simp only [wpO, mOp, ho, hc]
  refine ⟨v, .inl ⟨hg, fun w0 hs => .inr ⟨f, vs, ?_, hcall w0 hs⟩⟩, h⟩
  have hv : xs.map a.eval = vs := by
    apply Array.toList_inj.1
    rw [Array.toList_map]
    exact hvs
  have h1 : fn.name ≠ "runtime.NumGoroutine" := by simpa using hn
  have he : (callFunc f vs).run P w0 = .ok (.enter f vs) w0 := by
    cases hbd : fn.body with
    | none => rw [hbd] at hb; cases hb
    | some c => simp [callFunc, hf, h1, hbd]
  have hd : (resolve a.eval { callee := .value (.func f), args := xs, argTypes := ts } o.type).run P w0 = .ok { target := .fn (.func f) #[], args := vs } w0 := by
    simp [resolve, hv, Deferred.ofValue, Act.eval]
  unfold execOp
  simp only [hop, Sem.run_bind, hd, Result.andThen_ok, invoke]
  simpa using he
theorem wpO_step2 (ho : ops[i]? = some o) (hc : cl i = 2) (hS : S w) (h : ∀ K : Act → World → Prop, (∀ a w, S w ∧ wpO P S ops Q cl l a w → K a w) →
    if Region.wanted o (yielded ops a.tmps) then o.wp P a w K Q else K (a.put o.dst undef) w) : wpO P S ops Q cl (i :: l) a w := by
  have h1 := h _ (fun _ _ h => h)
  simp only [wpO, mOp, ho, hc]
  unfold wpOp
  rw [ho]
  simp only
  split at h1
  · rename_i hw
    rw [if_pos hw]
    exact .inl h1
  · rename_i hw
    rw [if_neg hw]
    exact h1
theorem wpO_step3 (ho : ops[i]? = some o) (hc : cl i = 3) (h : ∀ K : Act → World → Prop, (∀ a w, wpO P S ops Q cl l a w → K a w) →
    if Region.wanted o (yielded ops a.tmps) then o.wp P a w K Q else K (a.put o.dst undef) w) : wpO P S ops Q cl (i :: l) a w := by
  have h1 := h _ (fun _ _ h => h)
  simp only [wpO, mOp, ho, hc]
  unfold wpOp
  rw [ho]
  simp only
  split at h1
  · rename_i hw
    rw [if_pos hw]
    exact .inl h1
  · rename_i hw
    rw [if_neg hw]
    exact h1
theorem wpO_nil {K : Act → World → Prop} (h : K a w) : wpO P S ops (onlyNormal K) cl [] a w := h
end

open Go.RowKit in
theorem below_drew1 (w : World) : Below w.heap.size w w.drew := ⟨rfl, rfl, rfl, Nat.le_refl _, fun _ _ => rfl⟩

end Go.Proofs.YtnpeedmicjeleaaDoor

/- Plain laws on lists of bytes and numbers (no program in sight). -/
namespace Go.Proofs.YtnpeedmicjeleaaDoor
set_option linter.unusedVariables false
set_option linter.unusedSimpArgs false
set_option maxRecDepth 4000

theorem take_rd (xs : List Int) (k : Nat) (h : k < xs.length) : xs.take (k + 1) = xs.take k ++ [rd xs k] := by
  rw [List.take_succ_eq_append_getElem h]
  simp [rd, List.getD_eq_getElem?_getD, List.getElem?_eq_getElem h]
theorem pow_pos2 (k : Nat) : (0 : Int) < 2 ^ k := Int.pow_pos (by omega)
end Go.Proofs.YtnpeedmicjeleaaDoor

/- Plain laws of addresses and prefixes (layer 5): no program in sight. -/
namespace Go.Proofs.YtnpeedmicjeleaaDoor
set_option linter.unusedVariables false
set_option linter.unusedSimpArgs false
set_option maxRecDepth 4000

/-- Sixteen bytes. -/
structure B16 (l : List Int) : Prop where
  len : l.length = 16
  rng : Bytes l
theorem B16.rd {l : List Int} (h : B16 l) (i : Int) : 0 ≤ rd l i ∧ rd l i < 256 := h.rng.getD _
/-- A bit of an address. -/
def bitA (l : List Int) (i : Nat) : Int := rd l ((i / 8 : Nat) : Int) / 2 ^ (7 - i % 8) % 2
theorem bitA_mk (l : List Int) (q r : Nat) (hr : r < 8) : bitA l (8 * q + r) = rd l (q : Int) / 2 ^ (7 - r) % 2 := by
  unfold bitA
  rw [show (8 * q + r) / 8 = q by omega, show (8 * q + r) % 8 = r by omega]
def widthA (v : Int) : Nat := if v = 4 then 32 else if v = 6 then 128 else 0
theorem widthA_le (v : Int) : widthA v ≤ 128 := by unfold widthA; split <;> (try split) <;> omega
def clearA (l : List Int) (k : Nat) : Bool := (List.range 128).all fun i => decide (i < k) || bitA l i == 0
theorem clearA_iff (l : List Int) (k : Nat) : clearA l k = true ↔ ∀ i, k ≤ i → i < 128 → bitA l i = 0 := by
  simp only [clearA, List.all_eq_true, List.mem_range, Bool.or_eq_true, decide_eq_true_eq, beq_iff_eq]
  constructor
  · intro h i h1 h2
    rcases h i h2 with h3 | h3
    · omega
    · exact h3
  · intro h i h2
    by_cases h3 : i < k
    · exact .inl h3
    · exact .inr (h i (by omega) h2)
def rightA (v : Int) (l : List Int) : Bool := decide (widthA v ≠ 0) && clearA l (widthA v)
def rightP (v : Int) (l : List Int) (b : Int) : Bool := rightA v l && decide (0 ≤ b) && decide (b ≤ widthA v) && clearA l b.toNat
def cutB (x : Int) (keep : Int) : Int := if keep ≤ 0 then 0 else if keep < 8 then x / 2 ^ (8 - keep).toNat * 2 ^ (8 - keep).toNat else x
def cutA (l : List Int) (k : Int) : List Int := (List.range 16).map fun i => cutB (rd l (i : Nat)) (k - 8 * i)

theorem rd_map (f : Nat → Int) (n i : Nat) (h : i < n) : rd ((List.range n).map f) (i : Int) = f i := by simp [rd, List.getD_eq_getElem?_getD, h]
theorem cutB_range (x keep : Int) (h0 : 0 ≤ x) (h1 : x < 256) : 0 ≤ cutB x keep ∧ cutB x keep < 256 := by
  unfold cutB
  split
  · omega
  · split
    · have hp := pow_pos2 (8 - keep).toNat
      have h2 := Int.ediv_mul_le x (show (2 : Int) ^ (8 - keep).toNat ≠ 0 by omega)
      have h3 : 0 ≤ x / 2 ^ (8 - keep).toNat := Int.ediv_nonneg h0 (by omega)
      exact ⟨Int.mul_nonneg h3 (by omega), by omega⟩
    · exact ⟨h0, h1⟩
theorem cutA_16 {l : List Int} (h : B16 l) (k : Int) : B16 (cutA l k) :=
  ⟨by simp [cutA], fun y hy => by
    simp only [cutA, List.mem_map] at hy
    obtain ⟨i, -, rfl⟩ := hy
    exact cutB_range _ _ (h.rd _).1 (h.rd _).2⟩
theorem cutB_bit (x keep : Int) (r : Nat) (hr : r < 8) : cutB x keep / 2 ^ (7 - r) % 2 = if (r : Int) < keep then x / 2 ^ (7 - r) % 2 else 0 := by
  unfold cutB
  by_cases h1 : keep ≤ 0
  · rw [if_pos h1, if_neg (by omega)]
    simp
  · rw [if_neg h1]
    by_cases h2 : keep < 8
    · rw [if_pos h2]
      obtain ⟨s, hs⟩ : ∃ s : Nat, (8 - keep).toNat = s := ⟨_, rfl⟩
      have hk : keep = 8 - s := by omega
      rw [hs]
      subst hk
      have hs1 : s = 1 ∨ s = 2 ∨ s = 3 ∨ s = 4 ∨ s = 5 ∨ s = 6 ∨ s = 7 := by omega
      have hr1 : r = 0 ∨ r = 1 ∨ r = 2 ∨ r = 3 ∨ r = 4 ∨ r = 5 ∨ r = 6 ∨ r = 7 := by omega
      clear hs h1 h2 hr
      rcases hs1 with rfl | rfl | rfl | rfl | rfl | rfl | rfl <;> rcases hr1 with rfl | rfl | rfl | rfl | rfl | rfl | rfl | rfl <;> simp <;> omega
    · rw [if_neg h2, if_pos (by omega)]
theorem bitA_cut (l : List Int) (k : Int) (i : Nat) (hi : i < 128) : bitA (cutA l k) i = if (i : Int) < k then bitA l i else 0 := by
  obtain ⟨q, r, rfl, hr⟩ : ∃ q r, i = 8 * q + r ∧ r < 8 := ⟨i / 8, i % 8, by omega, by omega⟩
  rw [bitA_mk _ _ _ hr, bitA_mk _ _ _ hr]
  unfold cutA
  rw [rd_map _ _ _ (by omega), cutB_bit _ _ _ hr]
  by_cases h : (r : Int) < k - 8 * (q : Int)
  · rw [if_pos h, if_pos (by omega)]
  · rw [if_neg h, if_neg (by omega)]
theorem byte_ext (x y : Int) (hx0 : 0 ≤ x) (hx1 : x < 256) (hy0 : 0 ≤ y) (hy1 : y < 256) (h : ∀ j : Nat, j < 8 → x / 2 ^ j % 2 = y / 2 ^ j % 2) : x = y := by
  have h0 := h 0 (by omega)
  have h1 := h 1 (by omega)
  have h2 := h 2 (by omega)
  have h3 := h 3 (by omega)
  have h4 := h 4 (by omega)
  have h5 := h 5 (by omega)
  have h6 := h 6 (by omega)
  have h7 := h 7 (by omega)
  simp only [show (2 : Int) ^ 0 = 1 from rfl, show (2 : Int) ^ 1 = 2 from rfl, show (2 : Int) ^ 2 = 4 from rfl, show (2 : Int) ^ 3 = 8 from rfl, show (2 : Int) ^ 4 = 16 from rfl, show (2 : Int) ^ 5 = 32 from rfl, show (2 : Int) ^ 6 = 64 from rfl, show (2 : Int) ^ 7 = 128 from rfl] at h0 h1 h2 h3 h4 h5 h6 h7
  clear h
  omega
theorem ext16 {l m : List Int} (hl : B16 l) (hm : B16 m) (h : ∀ i, i < 128 → bitA l i = bitA m i) : l = m := by
  apply List.ext_getElem (by rw [hl.len, hm.len])
  intro q h1 h2
  have hq : q < 16 := by rw [← hl.len]; exact h1
  have e1 : rd l (q : Int) = l[q] := by simp [rd, List.getD_eq_getElem?_getD, h1]
  have e2 : rd m (q : Int) = m[q] := by simp [rd, List.getD_eq_getElem?_getD, h2]
  rw [← e1, ← e2]
  refine byte_ext _ _ (hl.rd _).1 (hl.rd _).2 (hm.rd _).1 (hm.rd _).2 (fun j hj => ?_)
  have h3 := h (8 * q + (7 - j)) (by omega)
  rw [bitA_mk _ _ _ (by omega), bitA_mk _ _ _ (by omega), show 7 - (7 - j) = j by omega] at h3
  exact h3
end Go.Proofs.YtnpeedmicjeleaaDoor

/- The references of layer 1, and equality of bytes. -/
namespace Go.Proofs.YtnpeedmicjeleaaDoor
open Go.RowKit
set_option linter.unusedVariables false
set_option linter.unusedSimpArgs false
set_option maxRecDepth 4000

/-- A block of bytes. -/
def Blk (w : World) (b : Nat) (xs : List Int) : Prop := w.heap[b]? = some (.cells (nums .u8 xs).toArray 5 (0, 0))
theorem Blk.cell {w : World} {b : Nat} {xs : List Int} (h : Blk w b xs) (i : Int) (h0 : 0 ≤ i) (h1 : i < xs.length) : w.cell? ⟨b, i.toNat, none⟩ = some (.int .u8 (rd xs i)) ∧ w.frozen? ⟨b, i.toNat, none⟩ = false := by
  refine ⟨?_, blk_frozen h _⟩
  rw [blk_cell h, List.getElem?_toArray]
  exact nums_get _ _ _ (by omega)
theorem nums_set (k : IntKind) (xs : List Int) (i : Nat) (y : Int) : (nums k xs).set i (.int k y) = nums k (xs.set i y) := by simp [nums, List.map_set]
theorem Blk.set {w : World} {b : Nat} {xs : List Int} (h : Blk w b xs) (i : Nat) (y : Int) : Blk (w.setCell ⟨b, i, none⟩ (.int .u8 y)) b (xs.set i y) := by
  have := blk_set h i (.int .u8 y)
  rw [List.setIfInBounds_toArray, nums_set] at this
  exact this
theorem Blk.ob {w : World} {b base : Nat} {xs : List Int} (h : Blk w b xs) (hb : base ≤ b) (hr : Bytes xs) (hn : xs.length ≤ 281474976710656) : OB w base (some ⟨b, 0, none⟩) xs.length xs.length xs :=
  ⟨⟨by simp [nums], Nat.le_refl _, hn, by simp only [maxLen]; omega, (fun ad ha => by
    injection ha with ha
    subst ha
    exact ⟨hb, rfl, _, h, by simp [nums], fun j v hj => by simpa using hj⟩), fun ha => by cases ha⟩, hr⟩
theorem Blk.below {w w1 : World} {b : Nat} {xs : List Int} (h : Blk w b xs) (hb : Below w.heap.size w w1) : Blk w1 b xs := blk_below h hb
theorem Blk.new (W : World) (m : Nat) : Blk (W.alloc (.cells (madeCells #[.int .u8 0] m) 5)) W.heap.size (List.replicate m 0) := by
  unfold Blk
  rw [blk_new]
  congr 2
  apply Array.ext
  · simp [madeCells, nums]
  · intro i h1 h2
    simp [madeCells, nums, Nat.mod_one]
theorem sequal_any (A : Option Addr) (n c : Nat) (xs : List Int) (A2 : Option Addr) (m c2 : Nat) (ys : List Int) (w : World) (h1 : RB w A n c xs) (h2 : RB w A2 m c2 ys) :
    Calls Tryd.prog 79 #[.slice A n c, .slice A2 m c2] w fun e w' => e = .returned (.bool (decide (xs = ys))) ∧ Below w.heap.size w w' := by
  have hn := h1.small
  have hm := h2.small
  have HL1 := Lib.hid h1.len
  have HL2 := Lib.hid h2.len
  have H1 := Lib.hid h1
  have H2 := Lib.hid h2
  clear h1 h2
  by_cases hne : n = m
  · subst hne
    go_enter Tryd.func79, Tryd.ntmps79
    go_wp2
    go_loopw [13] (fun i wr => ∃ k : Nat, i = .int .i64 k ∧ Hid (k ≤ n ∧ xs.take k = ys.take k ∧ Below w.heap.size w wr)) (fun i _ => n - (intOf i).toNat)
    case atStart => exact ⟨0, rfl, Nat.zero_le _, by simp, Below.refl _ _⟩
    case round =>
      obtain ⟨k, rfl, HH⟩ := hrel
      have hkn := HH.out.1
      by_cases hlt : k < n
      · have HLT := Lib.hid hlt
        obtain ⟨ad1, rfl, hc1⟩ := (H1.out.below HH.out.2.2).at_ k (by omega) (by omega)
        obtain ⟨ad2, rfl, hc2⟩ := (H2.out.below HH.out.2.2).at_ k (by omega) (by omega)
        have hd1 : wr.cell? (ad1.add k) = some (.int .u8 (rd xs k)) := hc1
        have hd2 : wr.cell? (ad2.add k) = some (.int .u8 (rd ys k)) := hc2
        clear hc1 hc2
        have q0 : 0 ≤ (k : Int) := by omega
        have q1 : (k : Int) < (n : Int) := by omega
        by_cases heq : rd xs k = rd ys k
        · have hb0 : (rd xs k != rd ys k) = false := by simp [heq]
          have HE := Lib.hid heq
          clear heq
          go_wp2
          go_quiet (fail)
          go_wp2
          go_roundw
          case measure => simp [intOf]; omega
          case rel =>
            refine ⟨k + 1, by go_num, by omega, ?_, below_drewN HH.out.2.2 _⟩
            rw [take_rd xs k (by rw [HL1.out]; exact HLT.out), take_rd ys k (by rw [HL2.out]; exact HLT.out), HH.out.2.1, HE.out]
        · have hb0 : (rd xs k != rd ys k) = true := by simp [heq]
          have HE := Lib.hid heq
          clear heq
          go_wp2
          go_quiet (fail)
          go_wp2
          go_ret
          refine ⟨?_, below_drewN HH.out.2.2 _⟩
          rw [decide_eq_false (fun h => by subst h; exact absurd rfl HE.out)]
          rfl
      · obtain rfl : k = n := by omega
        clear hlt
        go_wp2
        go_ret
        refine ⟨?_, HH.out.2.2⟩
        have h3 := HH.out.2.1
        rw [List.take_of_length_le (by rw [HL1.out]; exact Nat.le_refl _), List.take_of_length_le (by rw [HL2.out]; exact Nat.le_refl _)] at h3
        rw [decide_eq_true h3]
        rfl
  · have hb0 : ((n : Int) != (m : Int)) = true := by simp; omega
    have hb1 : (n == m) = false := by simp; omega
    have hb2 : (n != m) = true := by simp; omega
    have HN := Lib.hid hne
    clear hne
    go_enter Tryd.func79, Tryd.ntmps79
    go_wp2
    go_ret
    refine ⟨?_, Below.refl _ _⟩
    rw [decide_eq_false (fun h => by have := HL1.out; have := HL2.out; have := HN.out; subst h; omega)]
    rfl

theorem equal_any (A : Option Addr) (n c : Nat) (xs : List Int) (A2 : Option Addr) (m c2 : Nat) (ys : List Int) (w : World) (h1 : RB w A n c xs) (h2 : RB w A2 m c2 ys) :
    Calls Tryd.prog 39 #[.slice A n c, .slice A2 m c2] w fun e w' => e = .returned (.bool (decide (xs = ys))) ∧ Below w.heap.size w w' := by
  go_enter Tryd.func39, Tryd.ntmps39
  go_wp2_with fail
  refine (sequal_any _ _ _ _ _ _ _ _ w h1 h2).mono ?_
  rintro e w1 ⟨rfl, hb⟩
  have HB := Lib.hid hb
  clear hb h1 h2
  go_wp2
  go_ret
  exact ⟨rfl, HB.out⟩
theorem Bytes.set {xs : List Int} (h : Bytes xs) (i : Nat) (y : Int) (h0 : 0 ≤ y) (h1 : y < 256) : Bytes (xs.set i y) := fun x hx => by
  rcases List.mem_or_eq_of_mem_set hx with h' | h'
  · exact h x h'
  · subst h'; exact ⟨h0, h1⟩
theorem OB.store {w : World} {base n c : Nat} {ad : Addr} {xs : List Int} (h : OB w base (some ad) n c xs) (i : Nat) (hi : i < n) (y : Int) (h0 : 0 ≤ y) (h1 : y < 256) : OB (w.setCell (ad.add i) (.int .u8 y)) base (some ad) n c (xs.set i y) := by
  obtain ⟨hb, hs, cur, hh, hfit, hcs⟩ := h.ov.form ad rfl
  have hl := h.len
  have hcap := h.cap
  refine ⟨⟨by simp [nums]; omega, hcap, h.small, h.ov.capmax, (fun ad' ha => ?_), fun ha => by cases ha⟩, h.range.set i y h0 h1⟩
  injection ha with ha
  subst ha
  rw [add_spot ad hs]
  refine ⟨hb, hs, _, blk_set hh _ _, by simpa using hfit, fun j v hj => ?_⟩
  rw [← nums_set, List.getElem?_set] at hj
  split at hj
  · rename_i hij
    subst hij
    split at hj
    · injection hj with hj
      subst hj
      rw [Array.getElem?_setIfInBounds_self_of_lt (by omega)]
    · cases hj
  · rename_i hij
    rw [Array.getElem?_setIfInBounds_ne (by omega)]
    exact hcs j v hj
theorem OB.far {w : World} {base n c : Nat} {A : Option Addr} {xs : List Int} (h : OB w base A n c xs) {p : Addr} (hp : ∀ ad, A = some ad → ad.block ≠ p.block) (v : Value) : OB (w.setCell p v) base A n c xs :=
  h.grown (grown_setCell w p v) (fun ad e h' => hp ad e (by injection h'))
end Go.Proofs.YtnpeedmicjeleaaDoor

/- bytes.Compare and cmp.Compare. -/
namespace Go.Proofs.YtnpeedmicjeleaaDoor
open Go.RowKit
set_option linter.unusedVariables false
set_option linter.unusedSimpArgs false
set_option maxRecDepth 4000

def cmpN (x y : Int) : Int := if x < y then -1 else if y < x then 1 else 0
/-- Which list comes first, number by number. -/
def cmpI : List Int → List Int → Int
  | [], [] => 0
  | [], _ :: _ => -1
  | _ :: _, [] => 1
  | a :: u, b :: v => if a < b then -1 else if b < a then 1 else cmpI u v
theorem cmpI_bytes : ∀ (xs ys : List Int), Bytes xs → Bytes ys → Lib.compareBytes (Lib.bytesOf xs) (Lib.bytesOf ys) = cmpI xs ys
  | [], [], _, _ => rfl
  | [], _ :: _, _, _ => rfl
  | _ :: _, [], _, _ => rfl
  | a :: u, b :: v, hx, hy => by
    have ha := hx a (by simp)
    have hb := hy b (by simp)
    have ih := cmpI_bytes u v (fun x h => hx x (List.mem_cons_of_mem _ h)) (fun x h => hy x (List.mem_cons_of_mem _ h))
    have key : ∀ p q : Int, 0 ≤ p → p < 256 → 0 ≤ q → q < 256 → (UInt8.ofNat p.toNat < UInt8.ofNat q.toNat ↔ p < q) := by
      intro p q h1 h2 h3 h4
      rw [UInt8.lt_iff_toNat_lt]
      simp only [UInt8.toNat_ofNat']
      omega
    show Lib.compareBytes (UInt8.ofNat a.toNat :: Lib.bytesOf u) (UInt8.ofNat b.toNat :: Lib.bytesOf v) = _
    simp only [Lib.compareBytes, cmpI, key a b ha.1 ha.2 hb.1 hb.2, key b a hb.1 hb.2 ha.1 ha.2, ih]

theorem loadBytes_run {P : Program} (w : World) : ∀ (n : Nat) (ad : Addr) (acc : ByteArray) (xs : List Int), xs.length = n → (∀ j, j < n → w.cell? (ad.add j) = some (.int .u8 (xs.getD j 0))) →
    (Extern.Bytes.loadBytes ad n acc).run P w = .ok ⟨acc.data ++ (Lib.bytesOf xs).toArray⟩ w
  | 0, ad, acc, xs, hl, _ => by
    obtain rfl : xs = [] := List.eq_nil_of_length_eq_zero hl
    simp [Extern.Bytes.loadBytes, Lib.bytesOf]
  | n + 1, ad, acc, x :: xs, hl, hc => by
    have h0 := hc 0 (by omega)
    have e0 : ad.add 0 = ad := by simp [Addr.add]
    rw [e0] at h0
    simp only [List.getD_cons_zero] at h0
    have ih := loadBytes_run (P := P) w n (ad.add 1) (acc.push x.toNat.toUInt8) xs (by simpa using hl) (fun j hj => by
      rw [add_add, hc (1 + j) (by omega), Nat.add_comm 1 j, List.getD_cons_succ])
    simp [Extern.Bytes.loadBytes, load, Sem.run, h0, ih, Lib.bytesOf]
  | n + 1, _, _, [], hl, _ => by simp at hl
theorem bytesOf_run {P : Program} (w : World) (A : Option Addr) (n c : Nat) (xs : List Int) (h : RB w A n c xs) : (Extern.Bytes.bytesOf (.slice A n c)).run P w = .ok ⟨(Lib.bytesOf xs).toArray⟩ w := by
  have hl := h.len
  cases A with
  | none =>
    have h0 : n = 0 := by
      rcases Nat.eq_zero_or_pos n with h' | h'
      · exact h'
      · obtain ⟨ad, e, _⟩ := h.rv.cells h'
        cases e
    subst h0
    obtain rfl : xs = [] := List.eq_nil_of_length_eq_zero hl
    rfl
  | some ad =>
    have := loadBytes_run (P := P) w n ad .empty xs hl (fun j hj => by
      obtain ⟨ad', e, hc⟩ := h.rv.cells (by omega)
      injection e with e
      subst e
      exact hc j _ (nums_get _ _ _ (by omega)))
    simpa [Extern.Bytes.bytesOf] using this
theorem xcompare {w : World} {A : Option Addr} {n c : Nat} {xs : List Int} {A2 : Option Addr} {m c2 : Nat} {ys : List Int} (h1 : RB w A n c xs) (h2 : RB w A2 m c2 ys) :
    (callFunc 120 #[.slice A n c, .slice A2 m c2]).run Tryd.prog w = .ok (.value (.int .i64 (cmpI xs ys))) w := by
  rw [run_callFunc_extern Tryd.func120 (by kernel_rfl) (by kernel_rfl) (by kernel_rfl) (show Extern.find Tryd.f120 = some Extern.BytealgCompare.compare by kernel_rfl)]
  have hr : (Extern.BytealgCompare.compare #[.slice A n c, .slice A2 m c2]).run Tryd.prog w = .ok (.int .i64 (cmpI xs ys)) w := by
    change Sem.run Tryd.prog (do pure (goInt (Extern.BytealgCompare.cmp (← Extern.Bytes.bytesOf (.slice A n c)) (← Extern.Bytes.bytesOf (.slice A2 m c2))))) w = _
    simp only [Sem.run_bind, bytesOf_run w A n c xs h1, bytesOf_run w A2 m c2 ys h2, Result.andThen, Sem.run_pure]
    rw [Lib.cmp_eq]
    simp only [cmpI_bytes xs ys h1.range h2.range]
    rfl
  rw [hr]
  rfl
theorem bcompare_any (A : Option Addr) (n c : Nat) (xs : List Int) (A2 : Option Addr) (m c2 : Nat) (ys : List Int) (w : World) (h1 : RB w A n c xs) (h2 : RB w A2 m c2 ys) :
    Calls Tryd.prog 106 #[.slice A n c, .slice A2 m c2] w fun e w' => e = .returned (.int .i64 (cmpI xs ys)) ∧ w = w' := by
  have hx := xcompare h1 h2
  clear h1 h2
  go_enter Tryd.func106, Tryd.ntmps106
  go_wp2
  go_ret
  exact ⟨rfl, rfl⟩

/-! What lists of numbers of the same length do, one behind the other. -/
theorem cmpI_refl : ∀ xs : List Int, cmpI xs xs = 0
  | [] => rfl
  | a :: u => by simp [cmpI, cmpI_refl u]
theorem cmpI_zero : ∀ xs ys : List Int, cmpI xs ys = 0 → xs = ys
  | [], [], _ => rfl
  | [], _ :: _, h => by simp [cmpI] at h
  | _ :: _, [], h => by simp [cmpI] at h
  | a :: u, b :: v, h => by
    simp only [cmpI] at h
    split at h
    · omega
    · split at h
      · omega
      · rw [cmpI_zero u v h, show a = b by omega]
theorem cmpI_append : ∀ xs ys u v : List Int, xs.length = ys.length → cmpI (xs ++ u) (ys ++ v) = if cmpI xs ys ≠ 0 then cmpI xs ys else cmpI u v
  | [], [], u, v, _ => by simp [cmpI]
  | [], _ :: _, _, _, h => by simp at h
  | _ :: _, [], _, _, h => by simp at h
  | a :: p, b :: q, u, v, h => by
    have ih := cmpI_append p q u v (by simpa using h)
    simp only [List.cons_append, cmpI]
    split
    · simp
    · split
      · simp
      · exact ih
end Go.Proofs.YtnpeedmicjeleaaDoor

/- Plain laws of prefixes (layer 5), second part: what contains what, and how two stand to one another. -/
namespace Go.Proofs.YtnpeedmicjeleaaDoor
set_option linter.unusedVariables false
set_option linter.unusedSimpArgs false
set_option maxRecDepth 4000

structure Pfx where
  v : Int
  l : List Int
  b : Int
def Pfx.right (p : Pfx) : Bool := rightP p.v p.l p.b
def Pfx.has (p : Pfx) (v : Int) (l : List Int) : Bool := p.right && rightA v l && decide (p.v = v) && decide (cutA l p.b = p.l)
def Pfx.holds (p q : Pfx) : Bool := q.right && decide (p.b ≤ q.b) && p.has q.v q.l
def Pfx.row (p : Pfx) : List Int := p.v :: (p.l ++ [p.b])
def Pfx.cmp (p q : Pfx) : Int := cmpI p.row q.row

theorem Pfx.right_iff (p : Pfx) : p.right = true ↔ rightA p.v p.l = true ∧ 0 ≤ p.b ∧ p.b ≤ widthA p.v ∧ ∀ i : Nat, p.b ≤ i → i < 128 → bitA p.l i = 0 := by
  unfold Pfx.right rightP
  simp only [Bool.and_eq_true, decide_eq_true_eq, clearA_iff]
  constructor
  · rintro ⟨⟨⟨h1, h2⟩, h3⟩, h4⟩
    exact ⟨h1, h2, h3, fun i hi => h4 i (by omega)⟩
  · rintro ⟨h1, h2, h3, h4⟩
    exact ⟨⟨⟨h1, h2⟩, h3⟩, fun i hi => h4 i (by omega)⟩
theorem cmpI_neg : ∀ xs ys : List Int, cmpI xs ys = - cmpI ys xs
  | [], [] => rfl
  | [], _ :: _ => rfl
  | _ :: _, [] => rfl
  | a :: u, b :: v => by
    have ih := cmpI_neg u v
    simp only [cmpI]
    by_cases h1 : a < b
    · rw [if_pos h1, if_neg (by omega), if_pos h1]
    · by_cases h2 : b < a
      · rw [if_neg h1, if_pos h2, if_pos h2]; rfl
      · rw [if_neg h1, if_neg h2, if_neg h2, if_neg h1, ih]
theorem cmpI_trans : ∀ xs ys zs : List Int, cmpI xs ys < 0 → cmpI ys zs < 0 → cmpI xs zs < 0
  | [], [], _, h, _ => by simp [cmpI] at h
  | _ :: _, [], _, h, _ => by simp [cmpI] at h
  | _, _ :: _, [], _, h => by simp [cmpI] at h
  | [], b :: v, c :: t, _, _ => by simp [cmpI]
  | a :: u, b :: v, c :: t, h, k => by
    have ih := cmpI_trans u v t
    simp only [cmpI] at h k ⊢
    by_cases h1 : a < b
    · by_cases k1 : b < c
      · rw [if_pos (by omega)]; omega
      · rw [if_neg k1] at k
        by_cases k2 : c < b
        · rw [if_pos k2] at k; omega
        · rw [if_pos (by omega)]; omega
    · rw [if_neg h1] at h
      by_cases h2 : b < a
      · rw [if_pos h2] at h; omega
      · rw [if_neg h2] at h
        by_cases k1 : b < c
        · rw [if_pos (by omega)]; omega
        · rw [if_neg k1] at k
          by_cases k2 : c < b
          · rw [if_pos k2] at k; omega
          · rw [if_neg k2] at k
            rw [if_neg (by omega), if_neg (by omega)]
            exact ih h k
theorem cmpI_one (a b : Int) : cmpI [a] [b] = cmpN a b := by simp [cmpI, cmpN]
theorem Pfx.cmp_eq (p q : Pfx) (hp : B16 p.l) (hq : B16 q.l) : p.cmp q = if cmpN p.v q.v ≠ 0 then cmpN p.v q.v else if cmpI p.l q.l ≠ 0 then cmpI p.l q.l else cmpN p.b q.b := by
  unfold Pfx.cmp Pfx.row
  simp only [cmpI]
  rw [cmpI_append _ _ _ _ (by rw [hp.len, hq.len]), cmpI_one]
  unfold cmpN
  by_cases h1 : p.v < q.v
  · simp [h1]
  · by_cases h2 : q.v < p.v
    · simp [h1, h2]
    · simp [h1, h2]
theorem Pfx.row_inj (p q : Pfx) (hp : B16 p.l) (hq : B16 q.l) (h : p.row = q.row) : p = q := by
  unfold Pfx.row at h
  simp only [List.cons.injEq] at h
  obtain ⟨h1, h2⟩ := h
  obtain ⟨h3, h4⟩ := List.append_inj h2 (by rw [hp.len, hq.len])
  cases p
  cases q
  simp at h1 h3 h4
  simp [h1, h3, h4]
theorem Pfx.cmp_zero (p q : Pfx) (hp : B16 p.l) (hq : B16 q.l) : p.cmp q = 0 ↔ p = q :=
  ⟨fun h => p.row_inj q hp hq (cmpI_zero _ _ h), fun h => by subst h; exact cmpI_refl _⟩
theorem Pfx.cmp_trans (p q r : Pfx) (h : p.cmp q < 0) (k : q.cmp r < 0) : p.cmp r < 0 := cmpI_trans _ _ _ h k
end Go.Proofs.YtnpeedmicjeleaaDoor

/- Plain laws of layer 5, third part: bits, nibbles, prefixes of an address. -/
namespace Go.Proofs.YtnpeedmicjeleaaDoor
set_option linter.unusedVariables false
set_option linter.unusedSimpArgs false
set_option maxRecDepth 4000

def errA (v : Int) (l : List Int) : Int := if rightA v l then 0 else 150
def errP (v : Int) (l : List Int) (b : Int) : Int := if rightP v l b then 0 else 151
theorem errP_true {v : Int} {l : List Int} {b : Int} (h : rightP v l b = true) : errP v l b = 0 := by unfold errP; rw [h]; rfl
theorem errP_false {v : Int} {l : List Int} {b : Int} (h : rightP v l b = false) : errP v l b = 151 := by unfold errP; rw [h]; rfl
end Go.Proofs.YtnpeedmicjeleaaDoor

/- Layer 5 (prefix): Width, clear, CheckAddr, Check. -/
namespace Go.Proofs.YtnpeedmicjeleaaDoor
open Go.RowKit
set_option linter.unusedVariables false
set_option linter.unusedSimpArgs false
set_option maxRecDepth 4000

/-- What the table of widths holds. -/
structure Laid (w : World) : Prop where
  at_ : ∀ i : Nat, i < 7 → w.cell? ⟨0, i, none⟩ = some (.int .i64 (widthA i))
theorem Laid.below {w w1 : World} (h : Laid w) (hb : Below w.heap.size w w1) : Laid w1 := ⟨fun i hi => cell_below hb (h.at_ i hi)⟩
def arrV (l : List Int) : Array Value := (nums .u8 l).toArray
def adrV (v : Int) (l : List Int) : Array Value := (.int .i64 v :: nums .u8 l).toArray
def pfxV (v : Int) (l : List Int) (b : Int) : Array Value := (.int .i64 v :: (nums .u8 l ++ [.int .i64 b])).toArray

theorem width_any (v : Int) (w : World) (hL : Laid w) : Calls Tryd.prog 90 #[.int .i64 v] w fun e w' => e = .returned (.int .i64 (widthA v)) ∧ w = w' := by
  by_cases h0 : v < 0
  · have hw : widthA v = 0 := by unfold widthA; rw [if_neg (by omega), if_neg (by omega)]
    rw [hw]
    clear hL hw
    go_enter Tryd.func90, Tryd.ntmps90
    go_wp2
    go_ret
    exact ⟨rfl, rfl⟩
  · have h0' : 0 ≤ v := by omega
    clear h0
    by_cases h7 : 7 ≤ v
    · have hw : widthA v = 0 := by unfold widthA; rw [if_neg (by omega), if_neg (by omega)]
      rw [hw]
      clear hL hw
      go_enter Tryd.func90, Tryd.ntmps90
      go_wp2
      go_ret
      exact ⟨rfl, rfl⟩
    · have h7' : v < 7 := by omega
      clear h7
      obtain ⟨k, rfl⟩ := Int.eq_ofNat_of_zero_le h0'
      have hc := hL.at_ k (by omega)
      clear hL
      go_enter Tryd.func90, Tryd.ntmps90
      go_wp2
      go_ret
      exact ⟨rfl, rfl⟩

theorem arr_cell {w : World} {g : Nat} {t : TypeId} {l : List Int} (h : w.heap[g]? = some (.cells (arrV l) t (0, 0))) (i : Nat) (hi : i < l.length) : w.cell? ⟨g, i, none⟩ = some (.int .u8 (rd l (i : Int))) := by
  rw [blk_cell h]
  unfold arrV
  rw [List.getElem?_toArray]
  exact nums_get .u8 l i hi

set_option maxHeartbeats 1000000 in
theorem clear_any (l : List Int) (k : Nat) (w : World) (hl : B16 l) : Calls Tryd.prog 91 #[.agg (arrV l), .int .i64 k] w fun e w' => e = .returned (.bool (clearA l k)) ∧ Below w.heap.size w w' := by
  have hb := blk_new w (.cells (arrV l) 45)
  obtain ⟨cs, hcs⟩ : ∃ cs, arrV l = cs := ⟨_, rfl⟩
  rw [hcs] at hb ⊢
  have hbe : Below w.heap.size w (w.alloc (.cells cs 45)) := below_alloc (Below.refl _ _) _
  have HB := Lib.hid hb
  have HBE := Lib.hid hbe
  have HCS := Lib.hid hcs
  clear hb hbe hcs
  go_enter Tryd.func91, Tryd.ntmps91
  go_wp2_with fail
  go_loop [5] (fun v => ∃ x : Int, v = .int .i64 x ∧ Hid ((k : Int) ≤ x ∧ ∀ j : Nat, k ≤ j → (j : Int) < x → j < 128 → bitA l j = 0)) (fun v => 128 - (intOf v).toNat)
  case atStart => exact ⟨k, rfl, Int.le_refl _, fun j h1 h2 => by omega⟩
  case round =>
    obtain ⟨x, rfl, HH⟩ := hrel
    have hx0 : 0 ≤ x := by have := HH.out.1; omega
    by_cases hlt : x < 128
    · have hc := arr_cell (by rw [HCS.out]; exact HB.out) (l := l) (x / 8).toNat (by rw [hl.len]; omega)
      rw [show (((x / 8).toNat : Nat) : Int) = x / 8 by omega] at hc
      have hx8 : x / 8 < 16 := by omega
      have hx80 : 0 ≤ x / 8 := by omega
      have hx7 : x % 8 < 8 := by omega
      have hx70 : 0 ≤ x % 8 := by omega
      have hr := hl.rd (x / 8)
      have hd := div_lt256 (rd l (x / 8)) (7 - x % 8).toNat hr.1 hr.2
      have hand := bits_and1 _ hd.1 hd.2
      have hbe : bitA l x.toNat = rd l (x / 8) / 2 ^ (7 - x % 8).toNat % 2 := by
        unfold bitA
        rw [show ((x.toNat / 8 : Nat) : Int) = x / 8 by omega, show 7 - x.toNat % 8 = (7 - x % 8).toNat by omega]
      have HBI := Lib.hid hbe
      clear hbe
      by_cases hbit : rd l (x / 8) / 2 ^ (7 - x % 8).toNat % 2 = 1
      · have hfin : clearA l k = false := by
          rw [Bool.eq_false_iff]
          intro h
          have := (clearA_iff l k).1 h x.toNat (by have := HH.out.1; omega) (by omega)
          rw [HBI.out] at this
          omega
        have HF := Lib.hid hfin
        clear hfin
        go_wp2_with fail
        go_ret
        rw [HF.out]
        exact ⟨rfl, HBE.out⟩
      · have hb1 : (rd l (x / 8) / 2 ^ (7 - x % 8).toNat % 2 == 1) = false := by simpa using hbit
        have HZ := Lib.hid hbit
        clear hbit
        go_wp2_with fail
        go_round
        case measure => simp [intOf]; omega
        case rel =>
          refine ⟨x + 1, by go_num, by have := HH.out.1; omega, fun j h1 h2 h3 => ?_⟩
          by_cases hj : (j : Int) < x
          · exact HH.out.2 j h1 hj h3
          · rw [show j = x.toNat by omega, HBI.out]
            have := HZ.out
            omega
    · have hfin : clearA l k = true := (clearA_iff l k).2 (fun j h1 h2 => HH.out.2 j h1 (by omega) h2)
      have HF := Lib.hid hfin
      have hlt' : 128 ≤ x := by omega
      clear hfin hlt
      go_wp2
      go_ret
      rw [HF.out]
      exact ⟨rfl, HBE.out⟩
end Go.Proofs.YtnpeedmicjeleaaDoor

/- The table of widths: what the row's condition gives the walks; the door's own heap meets it. -/
namespace Go.Proofs.YtnpeedmicjeleaaDoor
open Go.ChangeShapes Go.WideShapes Go.ChangeAt Go.RowKit
set_option linter.unusedVariables false
set_option linter.unusedSimpArgs false
set_option maxRecDepth 4000
abbrev laid1 : List (String × DataW Unit) := [("junctionbox/prefix.widths", Rows.laid_junctionbox_prefix_widths)]
theorem gWidths : Tryd.prog.globalNamed "junctionbox/prefix.widths" = some 0 := by kernel_rfl
theorem tWidths : (Tryd.prog.globals[0]?).map (·.type) = some 146 := by kernel_rfl
theorem door_met (os : Os) (args : Array Value) : laidMetH Tryd.prog laid1 ((World.doorLaid Tryd.prog 400 os).forCall (fun _ _ => 0) ⟨#[], args, []⟩).memory :=
  laidMetH_of_parts3 (fuel := 8) (laidMet_of_run' 8 (by kernel_rfl) (by kernel_rfl)) (by kernel_rfl) (by kernel_rfl)
theorem of_laid {W : World} (h : laidMetH Tryd.prog laid1 W) : Laid W := by
  rw [MakeChecks.laidMetH_plain _ _ _ (by kernel_rfl)] at h
  obtain ⟨ps, ⟨g0, t0, cs0, f0, p0, q0, hg0, ht0, hv0, hd0, _, _⟩, _, _⟩ := h
  obtain rfl := Option.some.inj (gWidths.symm.trans hg0)
  obtain rfl := Option.some.inj (tWidths.symm.trans ht0)
  obtain ⟨xs, m1, rfl, hx1, hlen, hn7, hel⟩ := DataW.trod_array Tryd.underlying146 hd0
  have c1 : Tryd.prog.cellsOf 3 = 1 := by kernel_rfl
  simp only [Prod.mk.injEq, DataW.agg.injEq] at hx1
  have hx2 : [.lit (.int .i64 0), .lit (.int .i64 0), .lit (.int .i64 0), .lit (.int .i64 0), .lit (.int .i64 32), .lit (.int .i64 0), .lit (.int .i64 128)] = xs.map (·.1) := DataW.agg.inj hx1.1
  have hat : ∀ (i : Nat) (n : Int), i < 7 → (xs.map (·.1))[i]? = some (.lit (.int .i64 n)) → W.cell? ⟨0, i, none⟩ = some (.int .i64 n) := by
    intro i n hi hxi
    have h0 := hel i hi
    rw [c1, Nat.mul_one] at h0
    rw [List.getElem?_map] at hxi
    cases hx : xs[i]? with
    | none => rw [hx] at hxi; cases hxi
    | some x0 =>
      rw [hx] at h0 hxi
      obtain ⟨k, e1, e2, -⟩ := DataW.trod_int Tryd.underlying3 h0
      have hk : k = n := by
        rw [e2] at hxi
        simpa using hxi
      have hc := World.var?_cell hg0 hv0 i
      rw [hc, ← hk]
      have h2 := congrArg (fun l => l[0]?) e1
      simpa [List.getElem?_take, List.getElem?_drop] using h2
  refine ⟨fun i hi => hat i _ hi ?_⟩
  rw [← hx2]
  match i, hi with
  | 0, _ => rfl
  | 1, _ => rfl
  | 2, _ => rfl
  | 3, _ => rfl
  | 4, _ => rfl
  | 5, _ => rfl
  | 6, _ => rfl
end Go.Proofs.YtnpeedmicjeleaaDoor

/- Opening an argument: a slice whose elements take several cells; small numbers and truth values by their cells. -/
namespace Go.Proofs.YtnpeedmicjeleaaDoor
open Go.ChangeShapes Go.WideShapes Go.ChangeAt Go.RowKit
set_option linter.unusedVariables false
variable {H : Type} {enc : TypeId × Value → H} {P : Program} {W : World} {base : Nat} {spare : Nat → Bool} {held : Bool}

end Go.Proofs.YtnpeedmicjeleaaDoor

/- Values of several cells: out of a block, into a block, as results. -/
namespace Go.Proofs.YtnpeedmicjeleaaDoor
open Go.RowKit
set_option linter.unusedVariables false
set_option linter.unusedSimpArgs false
set_option maxRecDepth 4000

/-- Cells written over others from a place on. -/
def splice (cs : Array Value) (o : Nat) (vs : List Value) : Array Value := (cs.toList.take o ++ vs ++ cs.toList.drop (o + vs.length)).toArray
theorem splice_all (cs : Array Value) (vs : List Value) (h : vs.length = cs.size) : splice cs 0 vs = vs.toArray := by
  unfold splice
  rw [List.drop_of_length_le (by simp [h])]
  simp
theorem splice_get (cs : Array Value) (o : Nat) (vs : List Value) (ho : o + vs.length ≤ cs.size) (j : Nat) : (splice cs o vs)[j]? = if o ≤ j ∧ j < o + vs.length then vs[j - o]? else cs[j]? := by
  have hl : (cs.toList.take o).length = o := by rw [List.length_take, Array.length_toList]; omega
  have e : (splice cs o vs)[j]? = (cs.toList.take o ++ (vs ++ cs.toList.drop (o + vs.length)))[j]? := by
    unfold splice
    rw [List.append_assoc]
    exact List.getElem?_toArray ..
  have e2 : cs[j]? = cs.toList[j]? := (Array.getElem?_toList ..).symm
  rw [e, e2]
  by_cases h4 : j < o
  · rw [if_neg (by omega), List.getElem?_append_left (by omega), List.getElem?_take, if_pos h4]
  · rw [List.getElem?_append_right (by omega), hl]
    by_cases h5 : j < o + vs.length
    · rw [if_pos (by omega), List.getElem?_append_left (by omega)]
    · rw [if_neg (by omega), List.getElem?_append_right (by omega), List.getElem?_drop]
      congr 1
      omega
section
variable {P : Program} {w : World} {g : Nat} {t : TypeId} {cs : Array Value}
theorem blk_there (h : w.heap[g]? = some (.cells cs t (0, 0))) (o n : Nat) (hn : o + n ≤ cs.size) : w.there g o n := fun j hj => by
  rw [blk_cell h, blk_frozen h, Array.getElem?_eq_getElem (by omega)]
  exact ⟨rfl, rfl⟩
theorem set_blk (h : w.heap[g]? = some (.cells cs t (0, 0))) (o : Nat) (vs : List Value) (ho : o + vs.length ≤ cs.size) : (w.setCells g o vs).heap[g]? = some (.cells (splice cs o vs) t (0, 0)) := by
  obtain ⟨cur', h1, h2, h3⟩ := setCells_row vs o w cs h ho
  rw [h1, show cur' = splice cs o vs from Array.ext_getElem? (fun j => (h3 j).trans (splice_get cs o vs ho j).symm)]
theorem run_store_blk (h : w.heap[g]? = some (.cells cs t (0, 0))) (ty : TypeId) (o : Nat) (cells : Array Value) (hfit : o + cells.size ≤ cs.size) (hi : (P.info? ty).map (·.size) = some cells.size) (h1 : cells.all (·.oneCell') = true) :
    ∃ w', (Instr.storeAt ty (.pointer (some ⟨g, o, none⟩)) (.agg cells)).run P w = .ok () w' ∧ w.grownBy w' (some g) ∧ w'.heap.size = w.heap.size ∧ w'.heap[g]? = some (.cells (splice cs o cells.toList) t (0, 0)) :=
  ⟨_, run_storeAt_mid w g o ty cells (blk_there h o _ hfit) hi h1, setCells_grown g o _ w, (setCells_same g _ o w).2.2.2, set_blk h o _ (by simpa using hfit)⟩
theorem wpList_store_blk {ops : Array Oper} {rest : List Oper} {op : Oper} {a : Act} {Q : Exit → Act → World → Prop} (hb : w.heap[g]? = some (.cells cs t (0, 0))) (ty : TypeId) (o : Nat) (cells : Array Value)
    (hfit : o + cells.size ≤ cs.size) (hi : (P.info? ty).map (·.size) = some cells.size) (h1 : cells.all (·.oneCell') = true)
    (x y : Operand) (ho : op.op = .store ty x y) (hx : a.eval x = .pointer (some ⟨g, o, none⟩)) (hy : a.eval y = .agg cells) (hw : Region.wanted op (yielded ops a.tmps) = true)
    (h : ∀ w', w.grownBy w' (some g) → w'.heap.size = w.heap.size → w'.heap[g]? = some (.cells (splice cs o cells.toList) t (0, 0)) → wpList P ops Q rest (a.put op.dst undef) w') : wpList P ops Q (op :: rest) a w := by
  obtain ⟨w', hr, h2, h3, h4⟩ := run_store_blk (P := P) hb ty o cells hfit hi h1
  refine wpList_step (fun K hK => ?_)
  rw [if_pos hw]
  unfold Oper.wp execOp
  simp only [ho, hx, hy, Sem.run_bind, hr, Result.andThen_ok, Sem.run_pure]
  exact hK _ _ (h w' h2 h3 h4)
theorem oper_store_blk {op : Oper} {a : Act} {K : Act → World → Prop} {Q : Exit → Act → World → Prop} (hb : w.heap[g]? = some (.cells cs t (0, 0))) (ty : TypeId) (o : Nat) (cells : Array Value)
    (hfit : o + cells.size ≤ cs.size) (hi : (P.info? ty).map (·.size) = some cells.size) (h1 : cells.all (·.oneCell') = true)
    (x y : Operand) (ho : op.op = .store ty x y) (hx : a.eval x = .pointer (some ⟨g, o, none⟩)) (hy : a.eval y = .agg cells)
    (h : ∀ w', w.grownBy w' (some g) → w'.heap.size = w.heap.size → w'.heap[g]? = some (.cells (splice cs o cells.toList) t (0, 0)) → K (a.put op.dst undef) w') : op.wp P a w K Q := by
  obtain ⟨w', hr, h2, h3, h4⟩ := run_store_blk (P := P) hb ty o cells hfit hi h1
  unfold Oper.wp execOp
  simp only [ho, hx, hy, Sem.run_bind, hr, Result.andThen_ok, Sem.run_pure]
  exact h w' h2 h3 h4
theorem loadVar_of {ty : TypeId} {ad : Addr} {v : Value} (h : (Instr.loadAt ty (.pointer (some ad))).run P w = .ok v w) : (loadVar ty ad).run P w = .ok v w := by
  simpa only [Instr.loadAt, Instr.sureAddr, Sem.run_bind, Sem.run_pure, Result.andThen_ok] using h
theorem results_c1 {fn : Func} {p : Tmp} {ty : TypeId} {ad : Addr} {v : Value} {tmps : Array Value} (h : fn.results = #[.cell p ty]) (hp : tmps.getD p undef = .pointer (some ad)) (hl : (Instr.loadAt ty (.pointer (some ad))).run P w = .ok v w) :
    (results fn tmps).run P w = .ok v w := by
  have hp' : tmps[p]?.getD undef = .pointer (some ad) := by simpa using hp
  simp [results, h, hp', asAddr, loadVar_of hl]
theorem results_c2 {fn : Func} {p u : Tmp} {ty : TypeId} {ad : Addr} {v : Value} {tmps : Array Value} (h : fn.results = #[.cell p ty, .tmp u]) (hp : tmps.getD p undef = .pointer (some ad)) (hl : (Instr.loadAt ty (.pointer (some ad))).run P w = .ok v w) :
    (results fn tmps).run P w = .ok (.tuple #[v, tmps.getD u undef]) w := by
  have hp' : tmps[p]?.getD undef = .pointer (some ad) := by simpa using hp
  simp [results, h, hp', asAddr, loadVar_of hl]
theorem results_c3 {fn : Func} {p u x : Tmp} {ty : TypeId} {ad : Addr} {v : Value} {tmps : Array Value} (h : fn.results = #[.cell p ty, .tmp u, .tmp x]) (hp : tmps.getD p undef = .pointer (some ad)) (hl : (Instr.loadAt ty (.pointer (some ad))).run P w = .ok v w) :
    (results fn tmps).run P w = .ok (.tuple #[v, tmps.getD u undef, tmps.getD x undef]) w := by
  have hp' : tmps[p]?.getD undef = .pointer (some ad) := by simpa using hp
  simp [results, h, hp', asAddr, loadVar_of hl]
end
theorem oper_exec {P : Program} {o : Oper} {a : Act} {w w' : World} {K : Act → World → Prop} {Q : Exit → Act → World → Prop} {v : Value} (hrun : (execOp a.eval o).run P w = .ok (.value v) w') (h : K (a.put o.dst v) w') : o.wp P a w K Q := by
  unfold Oper.wp
  rw [hrun]
  exact h
theorem oper_append_bytes {o : Oper} {a : Act} {K : Act → World → Prop} {Q : Exit → Act → World → Prop} {W : World} (s x : Operand) (ho : o.op = .call { callee := .builtin .append, args := #[s, x], argTypes := #[63, 63] })
    {base : Nat} {A : Option Addr} {n c : Nat} {xs : List Int} {A2 : Option Addr} {m c2 : Nat} {ys : List Int} (hs : a.eval s = .slice A n c) (hx : a.eval x = .slice A2 m c2)
    (HO : OB W base A n c xs) (HR : RB W A2 m c2 ys) (hbase : base ≤ W.heap.size) (hl : n + m ≤ 140737488355328)
    (h : ∀ A' c' w', OB w' base A' (n + m) c' (xs ++ ys) → W.grownBy w' ((Value.slice A n c).ownBlock) → (A' = A ∨ ∀ ad, A' = some ad → W.heap.size ≤ ad.block) → K (a.put o.dst (.slice A' (n + m) c')) w') : o.wp Tryd.prog a W K Q := by
  obtain ⟨A', c', w', h1, h2, h3, h4⟩ := run_append_bytes W base o.type A n c xs A2 m c2 ys HO HR hbase hl
  exact oper_exec (exec_append s x _ ho hs hx h1) (h _ _ _ h2 h3 h4)
/-- Behind a write to a block of the call's own. -/
theorem below_grown {w w1 w2 : World} {g : Nat} (hb : Below w.heap.size w w1) (hg : w1.grownBy w2 (some g)) (h : w.heap.size ≤ g) : Below w.heap.size w w2 :=
  hb.grown hg hb.size (fun k hk => by injection hk with hk; omega)
end Go.Proofs.YtnpeedmicjeleaaDoor

/- Layer 5 (prefix): whole arrays and structs out of a block; CheckAddr, Check. -/
namespace Go.Proofs.YtnpeedmicjeleaaDoor
open Go.RowKit
set_option linter.unusedVariables false
set_option linter.unusedSimpArgs false
set_option maxRecDepth 4000

theorem adr_v {w : World} {g : Nat} {t : TypeId} {v : Int} {l : List Int} (h : w.heap[g]? = some (.cells (adrV v l) t (0, 0))) : w.cell? ⟨g, 0, none⟩ = some (.int .i64 v) := by
  rw [blk_cell h]; rfl
theorem adr_b {w : World} {g : Nat} {t : TypeId} {v : Int} {l : List Int} (h : w.heap[g]? = some (.cells (adrV v l) t (0, 0))) (i : Nat) (hi : i < l.length) : w.cell? ⟨g, 1 + i, none⟩ = some (.int .u8 (rd l (i : Int))) := by
  rw [blk_cell h, Nat.add_comm]
  unfold adrV
  rw [List.getElem?_toArray, List.getElem?_cons_succ]
  exact nums_get .u8 l i hi
theorem load_arr {w : World} {b o : Nat} {l : List Int} (hl : B16 l) (hc : ∀ i, i < 16 → w.cell? ⟨b, o + i, none⟩ = some (.int .u8 (rd l (i : Int)))) :
    (Instr.loadAt 45 (.pointer (some ⟨b, o, none⟩))).run Tryd.prog w = .ok (.agg (arrV l)) w := by
  refine run_loadAt_mid w b o 45 (nums .u8 l) (.array 16 5) (fun j v hv => ?_) Tryd.underlying45 rfl ?_
  · have hj : j < l.length := by
      have := (List.getElem?_eq_some_iff.1 hv).1
      simpa [nums] using this
    rw [nums_get .u8 l j hj] at hv
    rw [hc j (by rw [← hl.len]; exact hj), ← hv]
    rfl
  · rw [show (nums .u8 l).length = 16 by simp [nums, hl.len]]
    kernel_rfl
theorem load_adr {w : World} {b o : Nat} {v : Int} {l : List Int} (hl : B16 l) (h0 : w.cell? ⟨b, o, none⟩ = some (.int .i64 v)) (hc : ∀ i, i < 16 → w.cell? ⟨b, o + 1 + i, none⟩ = some (.int .u8 (rd l (i : Int)))) :
    (Instr.loadAt 47 (.pointer (some ⟨b, o, none⟩))).run Tryd.prog w = .ok (.agg (adrV v l)) w := by
  refine run_loadAt_mid w b o 47 (.int .i64 v :: nums .u8 l) _ (fun j u hv => ?_) Tryd.underlying47 rfl ?_
  · cases j with
    | zero =>
      simp only [List.getElem?_cons_zero, Option.some.injEq] at hv
      rw [← hv]
      exact h0
    | succ j =>
      rw [List.getElem?_cons_succ] at hv
      have hj : j < l.length := by
        have := (List.getElem?_eq_some_iff.1 hv).1
        simpa [nums] using this
      rw [nums_get .u8 l j hj] at hv
      rw [show o + (j + 1) = o + 1 + j by omega, hc j (by rw [← hl.len]; exact hj), ← hv]
      rfl
  · rw [show (Value.int IntKind.i64 v :: nums .u8 l).length = 17 by simp [nums, hl.len]]
    kernel_rfl

/-- A load of several cells at once, told; a guard that lets it. -/
theorem wpList_load_g {P : Program} {ops : Array Oper} {rest : List Oper} {o : Oper} {a : Act} {Q : Exit → Act → World → Prop} {w : World} {t : TypeId} {ad : Addr} {v : Value} (hrun : (Instr.loadAt t (.pointer (some ad))).run P w = .ok v w)
    (x : Operand) (ho : o.op = .load t x) (hx : a.eval x = .pointer (some ad)) (hw : Region.wanted o (yielded ops a.tmps) = true) (h : wpList P ops Q rest (a.put o.dst v) w) : wpList P ops Q (o :: rest) a w := by
  refine wpList_step (fun K hK => ?_)
  rw [if_pos hw]
  unfold Oper.wp execOp
  simp only [ho, hx, Sem.run_bind, hrun, Result.andThen_ok, Sem.run_pure]
  exact hK _ _ h
theorem checkAddr_any (v : Int) (l : List Int) (w : World) (hL : Laid w) (hl : B16 l) : Calls Tryd.prog 89 #[.agg (adrV v l)] w fun e w' => e = .returned (.int .i64 (errA v l)) ∧ Below w.heap.size w w' := by
  have hb := blk_new w (.cells (adrV v l) 47)
  have hv := adr_v hb
  have hld := load_arr (b := w.heap.size) (o := 1) hl (fun i hi => adr_b hb i (by rw [hl.len]; exact hi))
  have hbe : Below w.heap.size w (w.alloc (.cells (adrV v l) 47)) := below_alloc (Below.refl _ _) _
  have HL := Lib.hid (hL.below hbe)
  have HBE := Lib.hid hbe
  obtain ⟨cs, hcs⟩ : ∃ cs, adrV v l = cs := ⟨_, rfl⟩
  rw [hcs] at hv hld HL HBE ⊢
  clear hb hcs hbe hL
  go_enter Tryd.func89, Tryd.ntmps89
  go_wp2_with fail
  refine (width_any v _ HL.out).mono ?_
  rintro e w1 ⟨rfl, rfl⟩
  by_cases hw : widthA v = 0
  · have hr : rightA v l = false := by unfold rightA; simp [hw]
    have HR : Hid (errA v l = 150) := by unfold errA; rw [hr]; rfl
    rw [hw]
    clear hr hw
    go_wp2
    go_ret
    rw [HR.out]
    exact ⟨rfl, HBE.out⟩
  · have hw0 : ((widthA v : Int) == 0) = false := by simp; omega
    have hw1 : ((widthA v) == 0) = false := by simp; omega
    have hr : rightA v l = clearA l (widthA v) := by unfold rightA; simp [hw]
    have HR := Lib.hid hr
    clear hr hw
    go_wp2_with (refine wpList_load_g hld _ rfl rfl (by go_simp) ?_)
    refine (clear_any l (widthA v) _ hl).mono ?_
    rintro e w2 ⟨rfl, hb2⟩
    have HB2 := Lib.hid (below_step HBE.out hb2)
    clear hb2 hv hld
    cases hc : clearA l (widthA v) with
    | false =>
      have HE : Hid (errA v l = 150) := by unfold errA; rw [HR.out, hc]; rfl
      go_wp2
      go_ret
      rw [HE.out]
      exact ⟨rfl, HB2.out⟩
    | true =>
      have HE : Hid (errA v l = 0) := by unfold errA; rw [HR.out, hc]; rfl
      go_wp2
      go_ret
      rw [HE.out]
      exact ⟨rfl, HB2.out⟩
end Go.Proofs.YtnpeedmicjeleaaDoor

/- Layer 5 (prefix): Check. -/
namespace Go.Proofs.YtnpeedmicjeleaaDoor
open Go.RowKit
set_option linter.unusedVariables false
set_option linter.unusedSimpArgs false
set_option maxRecDepth 4000

theorem pfx_cells (v : Int) (l : List Int) (b : Int) (hl : B16 l) : (pfxV v l b).toList.length = 18 := by simp [pfxV, nums, hl.len]
theorem load_pfx {w : World} {g : Nat} {v : Int} {l : List Int} {b : Int} (hl : B16 l) (h : w.heap[g]? = some (.cells (pfxV v l b) 49 (0, 0))) :
    (Instr.loadAt 49 (.pointer (some ⟨g, 0, none⟩))).run Tryd.prog w = .ok (.agg (pfxV v l b)) w := by
  refine run_loadAt_mid w g 0 49 (pfxV v l b).toList _ (fun j u hv => ?_) Tryd.underlying49 rfl ?_
  · rw [Nat.zero_add, blk_cell h]
    simpa using hv
  · rw [pfx_cells v l b hl]
    kernel_rfl
/-- What lies in a block that holds a prefix, in every world that goes on from one. -/
structure PfxAt (w : World) (g : Nat) (v : Int) (l : List Int) (b : Int) : Prop where
  all : ∀ w0, Below w.heap.size w w0 →
    (Instr.loadAt 47 (.pointer (some ⟨g, 0, none⟩))).run Tryd.prog w0 = .ok (.agg (adrV v l)) w0 ∧
    (Instr.loadAt 3 (.pointer (some ⟨g, 17, none⟩))).run Tryd.prog w0 = .ok (.int .i64 b) w0 ∧
    (Instr.loadAt 3 (.pointer (some ⟨g, 0, none⟩))).run Tryd.prog w0 = .ok (.int .i64 v) w0 ∧
    (Instr.loadAt 45 (.pointer (some ⟨g, 1, none⟩))).run Tryd.prog w0 = .ok (.agg (arrV l)) w0 ∧
    (Instr.loadAt 49 (.pointer (some ⟨g, 0, none⟩))).run Tryd.prog w0 = .ok (.agg (pfxV v l b)) w0
theorem load_int {w : World} {ad : Addr} {v : Value} (h : w.cell? ad = some v) : (Instr.loadAt 3 (.pointer (some ad))).run Tryd.prog w = .ok v w := by
  go_simp
theorem pfx_at {w : World} {g : Nat} {v : Int} {l : List Int} {b : Int} (hl : B16 l) (h : w.heap[g]? = some (.cells (pfxV v l b) 49 (0, 0))) : PfxAt w g v l b := by
  refine ⟨fun w0 hb => ?_⟩
  have h0 := blk_below h hb
  have c0 : w0.cell? ⟨g, 0, none⟩ = some (.int .i64 v) := by rw [blk_cell h0]; rfl
  have c1 : ∀ i, i < 16 → w0.cell? ⟨g, 1 + i, none⟩ = some (.int .u8 (rd l (i : Int))) := fun i hi => by
    rw [blk_cell h0, Nat.add_comm]
    unfold pfxV
    rw [List.getElem?_toArray, List.getElem?_cons_succ, List.getElem?_append_left (by simp [nums, hl.len]; exact hi)]
    exact nums_get .u8 l i (by rw [hl.len]; exact hi)
  have c2 : w0.cell? ⟨g, 17, none⟩ = some (.int .i64 b) := by
    rw [blk_cell h0]
    unfold pfxV
    rw [List.getElem?_toArray, List.getElem?_cons_succ, List.getElem?_append_right (by simp [nums, hl.len])]
    simp [nums, hl.len]
  exact ⟨load_adr hl c0 (fun i hi => by rw [show 0 + 1 + i = 1 + i by omega]; exact c1 i hi), load_int c2, load_int c0, load_arr hl c1, load_pfx hl h0⟩

set_option maxHeartbeats 2000000 in
theorem check_any (v : Int) (l : List Int) (b : Int) (w : World) (hL : Laid w) (hl : B16 l) : Calls Tryd.prog 54 #[.agg (pfxV v l b)] w fun e w' => e = .returned (.int .i64 (errP v l b)) ∧ Below w.heap.size w w' := by
  have hpa := pfx_at hl (blk_new w (.cells (pfxV v l b) 49))
  have hbe : Below w.heap.size w (w.alloc (.cells (pfxV v l b) 49)) := below_alloc (Below.refl _ _) _
  have HL := Lib.hid (hL.below hbe)
  have HBE := Lib.hid hbe
  obtain ⟨cs, hcs⟩ : ∃ cs, pfxV v l b = cs := ⟨_, rfl⟩
  rw [hcs] at hpa HL HBE ⊢
  have HP := Lib.hid hpa
  clear hcs hbe hL hpa
  go_enter Tryd.func54, Tryd.ntmps54
  go_wp2_with fail
  refine wp_region_mix (fun w0 => Below (w.alloc (.cells cs 49)).heap.size (w.alloc (.cells cs 49)) w0) [(0, 0), (1, 0), (2, 2), (3, 0), (4, 0), (5, 0), (6, 0), (7, 0), (8, 0), (9, 0), (10, 0), (11, 0), (12, 0), (13, 0), (14, 0), (15, 2), (16, 0), (17, 0), (18, 0), (19, 0), (20, 0), (21, 0), (22, 0), (23, 0), (24, 2), (25, 0), (26, 0)] (by kernel_rfl) (by kernel_rfl) (below_drew1 _) ?_
  simp only [List.map_cons, List.map_nil]
  iterate 1 (refine wpO_step0 rfl rfl (fun K hK => ?_); go_simp; refine hK _ _ ?_; clear hK K)
  refine wpO_loadW (t := 47) (ad := ⟨w.heap.size, 0, none⟩) rfl rfl ?hw rfl rfl (fun w0 hS => (HP.out.all w0 hS).1) ?_
  case hw => go_simp
  refine wpO_step2 rfl rfl (below_drew1 _) (fun K hK => ?_)
  go_simp
  refine (checkAddr_any v l _ (HL.out.below (below_drew1 _)) hl).mono ?_
  rintro e w1 ⟨rfl, hb1⟩
  have HS1 := Lib.hid (below_step (below_drew1 _) hb1)
  clear hb1
  refine hK _ _ ⟨HS1.out, ?_⟩
  clear hK K
  cases hA : rightA v l with
  | false =>
    have HE : Hid (errP v l b = 151) := by unfold errP rightP; rw [hA]; rfl
    have hEA : errA v l = 150 := by unfold errA; rw [hA]; rfl
    rw [hEA]
    clear hA hEA
    repeat first | (refine wpO_step0 rfl rfl (fun K hK => ?_); go_simp; refine hK _ _ ?_; clear hK K) | (refine wpO_step2 rfl rfl HS1.out (fun K hK => ?_); go_simp; refine hK _ _ ⟨HS1.out, ?_⟩; clear hK K)
    refine wpO_nil ?_
    go_wp2
    go_ret
    rw [HE.out]
    exact ⟨rfl, below_step HBE.out HS1.out⟩
  | true =>
    have hEA : errA v l = 0 := by unfold errA; rw [hA]; rfl
    rw [hEA]
    clear hEA
    iterate 3 (refine wpO_step0 rfl rfl (fun K hK => ?_); go_simp; refine hK _ _ ?_; clear hK K)
    refine wpO_loadW (t := 3) (ad := ⟨w.heap.size, 17, none⟩) rfl rfl ?hw rfl rfl (fun w0 hS => (HP.out.all w0 hS).2.1) ?_
    case hw => go_simp
    by_cases hb0 : b < 0
    · have HE : Hid (errP v l b = 151) := by
        have h1 : rightP v l b = false := by
          unfold rightP
          rw [decide_eq_false (show ¬ 0 ≤ b by omega)]
          cases rightA v l <;> rfl
        unfold errP
        rw [h1]
        rfl
      clear hA
      repeat first | (refine wpO_step0 rfl rfl (fun K hK => ?_); go_simp; refine hK _ _ ?_; clear hK K) | (refine wpO_step2 rfl rfl HS1.out (fun K hK => ?_); go_simp; refine hK _ _ ⟨HS1.out, ?_⟩; clear hK K)
      refine wpO_nil ?_
      go_wp2
      go_ret
      rw [HE.out]
      exact ⟨rfl, below_step HBE.out HS1.out⟩
    · have hb0' : 0 ≤ b := by omega
      clear hb0
      iterate 4 (refine wpO_step0 rfl rfl (fun K hK => ?_); go_simp; refine hK _ _ ?_; clear hK K)
      refine wpO_loadW (t := 3) (ad := ⟨w.heap.size, 17, none⟩) rfl rfl ?hw rfl rfl (fun w0 hS => (HP.out.all w0 hS).2.1) ?_
      case hw => go_simp
      iterate 2 (refine wpO_step0 rfl rfl (fun K hK => ?_); go_simp; refine hK _ _ ?_; clear hK K)
      refine wpO_loadW (t := 3) (ad := ⟨w.heap.size, 0, none⟩) rfl rfl ?hw rfl rfl (fun w0 hS => (HP.out.all w0 hS).2.2.1) ?_
      case hw => go_simp
      refine wpO_step2 rfl rfl HS1.out (fun K hK => ?_)
      go_simp
      refine (width_any v _ (HL.out.below HS1.out)).mono ?_
      rintro e w2 ⟨rfl, rfl⟩
      refine hK _ _ ⟨HS1.out, ?_⟩
      clear hK K
      have hwl := widthA_le v
      by_cases hbw : (widthA v : Int) < b
      · have HE : Hid (errP v l b = 151) := by
          have h1 : rightP v l b = false := by
            unfold rightP
            rw [decide_eq_false (show ¬ b ≤ widthA v by omega)]
            cases rightA v l <;> cases decide (0 ≤ b) <;> rfl
          unfold errP
          rw [h1]
          rfl
        clear hA
        repeat first | (refine wpO_step0 rfl rfl (fun K hK => ?_); go_simp; refine hK _ _ ?_; clear hK K) | (refine wpO_step2 rfl rfl HS1.out (fun K hK => ?_); go_simp; refine hK _ _ ⟨HS1.out, ?_⟩; clear hK K)
        refine wpO_nil ?_
        go_wp2
        go_ret
        rw [HE.out]
        exact ⟨rfl, below_step HBE.out HS1.out⟩
      · have hbw' : b ≤ (widthA v : Int) := by omega
        clear hbw
        obtain ⟨k, rfl⟩ := Int.eq_ofNat_of_zero_le hb0'
        have hbn : k ≤ widthA v := by omega
        iterate 5 (refine wpO_step0 rfl rfl (fun K hK => ?_); go_simp; refine hK _ _ ?_; clear hK K)
        refine wpO_loadW (t := 45) (ad := ⟨w.heap.size, 1, none⟩) rfl rfl ?hw rfl rfl (fun w0 hS => (HP.out.all w0 hS).2.2.2.1) ?_
        case hw => go_simp
        iterate 1 (refine wpO_step0 rfl rfl (fun K hK => ?_); go_simp; refine hK _ _ ?_; clear hK K)
        refine wpO_loadW (t := 3) (ad := ⟨w.heap.size, 17, none⟩) rfl rfl ?hw rfl rfl (fun w0 hS => (HP.out.all w0 hS).2.1) ?_
        case hw => go_simp
        refine wpO_step2 rfl rfl HS1.out (fun K hK => ?_)
        go_simp
        refine (clear_any l k _ hl).mono ?_
        rintro e w3 ⟨rfl, hb3⟩
        have HS3 := Lib.hid (below_step HS1.out hb3)
        clear hb3
        refine hK _ _ ⟨HS3.out, ?_⟩
        clear hK K
        cases hC : clearA l k with
        | false =>
          have HE : Hid (errP v l k = 151) := by
            have h1 : rightP v l k = false := by
              unfold rightP
              rw [show (k : Int).toNat = k by omega, hC]
              exact Bool.and_false _
            unfold errP
            rw [h1]
            rfl
          clear hA hC
          repeat first | (refine wpO_step0 rfl rfl (fun K hK => ?_); go_simp; refine hK _ _ ?_; clear hK K) | (refine wpO_step2 rfl rfl HS3.out (fun K hK => ?_); go_simp; refine hK _ _ ⟨HS3.out, ?_⟩; clear hK K)
          refine wpO_nil ?_
          go_wp2
          go_ret
          rw [HE.out]
          exact ⟨rfl, below_step HBE.out HS3.out⟩
        | true =>
          have HE : Hid (errP v l k = 0) := by
            unfold errP rightP
            rw [show (k : Int).toNat = k by omega, hC, hA, decide_eq_true hb0', decide_eq_true hbw']
            rfl
          clear hA hC
          repeat first | (refine wpO_step0 rfl rfl (fun K hK => ?_); go_simp; refine hK _ _ ?_; clear hK K) | (refine wpO_step2 rfl rfl HS3.out (fun K hK => ?_); go_simp; refine hK _ _ ⟨HS3.out, ?_⟩; clear hK K)
          refine wpO_nil ?_
          go_wp2
          go_ret
          rw [HE.out]
          exact ⟨rfl, below_step HBE.out HS3.out⟩
end Go.Proofs.YtnpeedmicjeleaaDoor

/- Addresses and prefixes, built and written. -/
namespace Go.Proofs.YtnpeedmicjeleaaDoor
open Go.RowKit
set_option linter.unusedVariables false
set_option linter.unusedSimpArgs false
set_option maxRecDepth 4000

theorem len16 {l : List Int} (h : l.length = 16) : ∃ a b c d e f g h i j k m n o p q : Int, l = [a, b, c, d, e, f, g, h, i, j, k, m, n, o, p, q] := by
  match l, h with
  | [a, b, c, d, e, f, g, h, i, j, k, m, n, o, p, q], _ => exact ⟨a, b, c, d, e, f, g, h, i, j, k, m, n, o, p, q, rfl⟩
abbrev zero16 : List Int := List.replicate 16 0
theorem zero16_B : B16 zero16 := ⟨rfl, fun x hx => by simp [zero16] at hx; omega⟩
theorem built_adr (v : Int) (l : List Int) (h : l.length = 16) : Tryd.prog.built 47 [(0, .int .i64 v), (1, .agg (arrV l))] = some (adrV v l) := by
  obtain ⟨a, b, c, d, e, f, g, h, i, j, k, m, n, o, p, q, rfl⟩ := len16 h
  kernel_rfl
theorem built_pfx (v : Int) (l : List Int) (x : Int) (h : l.length = 16) : Tryd.prog.built 49 [(0, .agg (adrV v l)), (1, .int .i64 x)] = some (pfxV v l x) := by
  obtain ⟨a, b, c, d, e, f, g, h, i, j, k, m, n, o, p, q, rfl⟩ := len16 h
  kernel_rfl
theorem run_build_adr (w : World) (v : Int) (l : List Int) (h : l.length = 16) : (Instr.build 47 #[(0, .int .i64 v), (1, .agg (arrV l))]).run Tryd.prog w = .ok (.agg (adrV v l)) w := run_build w _ _ _ (built_adr v l h)
theorem run_build_pfx (w : World) (v : Int) (l : List Int) (x : Int) (h : l.length = 16) : (Instr.build 49 #[(0, .agg (adrV v l)), (1, .int .i64 x)]).run Tryd.prog w = .ok (.agg (pfxV v l x)) w := run_build w _ _ _ (built_pfx v l x h)
theorem run_build_pfx_nil (w : World) : (Instr.build 49 #[]).run Tryd.prog w = .ok (.agg (pfxV 0 zero16 0)) w := run_build w _ _ _ (by kernel_rfl)
theorem run_build_arr_nil (w : World) : (Instr.build 45 #[]).run Tryd.prog w = .ok (.agg (arrV zero16)) w := run_build w _ _ _ (by kernel_rfl)

theorem arr_size {l : List Int} (h : l.length = 16) : (arrV l).size = 16 := by simp [arrV, nums, h]
theorem adr_size {v : Int} {l : List Int} (h : l.length = 16) : (adrV v l).size = 17 := by simp [adrV, nums, h]
theorem pfx_size {v x : Int} {l : List Int} (h : l.length = 16) : (pfxV v l x).size = 18 := by simp [pfxV, nums, h]
theorem arr_one (l : List Int) : (arrV l).all (·.oneCell') = true := by simp [arrV, nums, Value.oneCell']
theorem pfx_one (v x : Int) (l : List Int) : (pfxV v l x).all (·.oneCell') = true := by simp [pfxV, nums, Value.oneCell']
theorem info_arr {l : List Int} (h : l.length = 16) : (Tryd.prog.info? 45).map (·.size) = some (arrV l).size := by rw [arr_size h]; kernel_rfl
theorem info_adr {v : Int} {l : List Int} (h : l.length = 16) : (Tryd.prog.info? 47).map (·.size) = some (adrV v l).size := by rw [adr_size h]; kernel_rfl
theorem info_pfx {v x : Int} {l : List Int} (h : l.length = 16) : (Tryd.prog.info? 49).map (·.size) = some (pfxV v l x).size := by rw [pfx_size h]; kernel_rfl
theorem splice_pfx (c : Array Value) (v x : Int) (l : List Int) (hl : l.length = 16) (hc : c.size = 18) : splice c 0 (pfxV v l x).toList = pfxV v l x := by
  rw [splice_all _ _ (by rw [Array.length_toList, pfx_size hl, hc])]
theorem splice_arr0 (c : Array Value) (l : List Int) (hl : l.length = 16) (hc : c.size = 16) : splice c 0 (arrV l).toList = arrV l := by
  rw [splice_all _ _ (by rw [Array.length_toList, arr_size hl, hc])]

theorem exec_build {P : Program} {r : Operand → Value} {o : Oper} {w : World} (t : TypeId) (parts : Array (Nat × Operand)) (ho : o.op = .build t parts) (vs : Array (Nat × Value)) (hv : (parts.map fun (i, x) => (i, r x)) = vs) {v : Value} (hr : (Instr.build t vs).run P w = .ok v w) :
    (execOp r o).run P w = .ok (.value v) w := by
  subst hv
  unfold execOp
  simp only [ho, Sem.run_bind, hr, Result.andThen_ok, Sem.run_pure]
theorem exec_build_pfx {r : Operand → Value} {o : Oper} {x y : Operand} {v b : Int} {l : List Int} (ho : o.op = .build 49 #[(0, x), (1, y)]) (hx : r x = .agg (adrV v l)) (hy : r y = .int .i64 b) (hl : l.length = 16) (w : World) :
    (execOp r o).run Tryd.prog w = .ok (.value (.agg (pfxV v l b))) w :=
  exec_build _ _ ho #[(0, .agg (adrV v l)), (1, .int .i64 b)] (by simp [hx, hy]) (run_build_pfx w v l b hl)
theorem exec_build_adr {r : Operand → Value} {o : Oper} {x y : Operand} {v : Int} {l : List Int} (ho : o.op = .build 47 #[(0, x), (1, y)]) (hx : r x = .int .i64 v) (hy : r y = .agg (arrV l)) (hl : l.length = 16) (w : World) :
    (execOp r o).run Tryd.prog w = .ok (.value (.agg (adrV v l))) w :=
  exec_build _ _ ho #[(0, .int .i64 v), (1, .agg (arrV l))] (by simp [hx, hy]) (run_build_adr w v l hl)
section
variable {ops : Array Oper} {rest : List Oper} {o : Oper} {a : Act} {Q : Exit → Act → World → Prop} {w : World} {x y : Operand} {v b : Int} {l : List Int}
end
end Go.Proofs.YtnpeedmicjeleaaDoor

/- Slices of elements of whatever shape: what is read (RS), what is the call's own (OS). -/
namespace Go.Proofs.YtnpeedmicjeleaaDoor
open Go.RowKit
set_option linter.unusedVariables false
set_option linter.unusedSimpArgs false
set_option maxRecDepth 4000

/-- Cells that stand in a block from a place on. -/
def CellsAt (w : World) (b o : Nat) (cs : List Value) : Prop := ∀ j v, cs[j]? = some v → w.cell? ⟨b, o + j, none⟩ = some v
theorem CellsAt.mid {w : World} {b o : Nat} (xs : List Value) {ys zs : List Value} (h : CellsAt w b o (xs ++ (ys ++ zs))) : CellsAt w b (o + xs.length) ys := by
  intro j v hj
  rw [Nat.add_assoc]
  refine h _ _ ?_
  rw [List.getElem?_append_right (by omega), Nat.add_sub_cancel_left, List.getElem?_append_left (List.getElem?_eq_some_iff.1 hj).1]
  exact hj
theorem CellsAt.left {w : World} {b o : Nat} {xs ys : List Value} (h : CellsAt w b o (xs ++ ys)) : CellsAt w b o xs := fun j v hj => h j v (by rw [List.getElem?_append_left (List.getElem?_eq_some_iff.1 hj).1]; exact hj)
theorem CellsAt.right {w : World} {b o : Nat} {xs ys : List Value} (h : CellsAt w b o (xs ++ ys)) : CellsAt w b (o + xs.length) ys := by
  have := CellsAt.mid xs (ys := ys) (zs := []) (w := w) (b := b) (o := o) (by rw [List.append_nil]; exact h)
  exact this
theorem CellsAt.below {w w1 : World} {b o : Nat} {cs : List Value} (h : CellsAt w b o cs) (hb : Below w.heap.size w w1) : CellsAt w1 b o cs := fun j v hj => cell_below hb (h j v hj)
theorem CellsAt.grown {w w1 : World} {b o : Nat} {cs : List Value} (h : CellsAt w b o cs) {row : Option Nat} (hg : w.grownBy w1 row) (hne : some b ≠ row) : CellsAt w1 b o cs := fun j v hj => hg.cell (h j v hj) hne
theorem cells_blk {w : World} {g : Nat} {t : TypeId} {cs : Array Value} (h : w.heap[g]? = some (.cells cs t (0, 0))) : CellsAt w g 0 cs.toList := fun j v hj => by
  rw [blk_cell h, Nat.zero_add]
  simpa using hj
theorem cell_spot2 {w : World} {a : Addr} {v : Value} (h : w.cell? a = some v) : a.spot = none := by
  unfold World.cell? at h
  split at h
  · split at h
    · simp at h
    · rename_i hs
      cases hsp : a.spot with
      | none => rfl
      | some x => simp [hsp] at hs
  · simp at h
theorem add_plain2 (b o j : Nat) : (⟨b, o, none⟩ : Addr).add j = ⟨b, o + j, none⟩ := by unfold Addr.add; split <;> simp_all
theorem load_cells {P : Program} {w : World} {b o : Nat} {t : TypeId} {d : TypeDesc} {cs : Array Value} (h : CellsAt w b o cs.toList) (hu : P.underlying t = some d) (hd : d.isRow = true) (hi : (P.info? t).map (·.size) = some cs.size) :
    (Instr.loadAt t (.pointer (some ⟨b, o, none⟩))).run P w = .ok (.agg cs) w := by
  have := run_loadAt_mid (P := P) w b o t cs.toList d h hu hd (by rw [hi, Array.length_toList])
  simpa using this

theorem exec_build1 {P : Program} {r : Operand → Value} {o : Oper} {w : World} {t : TypeId} {i0 : Nat} {x0 : Operand} {v0 v : Value} (ho : o.op = .build t #[(i0, x0)]) (h0 : r x0 = v0) (hr : (Instr.build t #[(i0, v0)]).run P w = .ok v w) : (execOp r o).run P w = .ok (.value v) w :=
  exec_build t _ ho #[(i0, v0)] (by simp [h0]) hr
theorem exec_build2 {P : Program} {r : Operand → Value} {o : Oper} {w : World} {t : TypeId} {i0 i1 : Nat} {x0 x1 : Operand} {v0 v1 v : Value} (ho : o.op = .build t #[(i0, x0), (i1, x1)]) (h0 : r x0 = v0) (h1 : r x1 = v1) (hr : (Instr.build t #[(i0, v0), (i1, v1)]).run P w = .ok v w) : (execOp r o).run P w = .ok (.value v) w :=
  exec_build t _ ho #[(i0, v0), (i1, v1)] (by simp [h0, h1]) hr
theorem exec_build3 {P : Program} {r : Operand → Value} {o : Oper} {w : World} {t : TypeId} {i0 i1 i2 : Nat} {x0 x1 x2 : Operand} {v0 v1 v2 v : Value} (ho : o.op = .build t #[(i0, x0), (i1, x1), (i2, x2)]) (h0 : r x0 = v0) (h1 : r x1 = v1) (h2 : r x2 = v2) (hr : (Instr.build t #[(i0, v0), (i1, v1), (i2, v2)]).run P w = .ok v w) : (execOp r o).run P w = .ok (.value v) w :=
  exec_build t _ ho #[(i0, v0), (i1, v1), (i2, v2)] (by simp [h0, h1, h2]) hr
theorem exec_build4 {P : Program} {r : Operand → Value} {o : Oper} {w : World} {t : TypeId} {i0 i1 i2 i3 : Nat} {x0 x1 x2 x3 : Operand} {v0 v1 v2 v3 v : Value} (ho : o.op = .build t #[(i0, x0), (i1, x1), (i2, x2), (i3, x3)]) (h0 : r x0 = v0) (h1 : r x1 = v1) (h2 : r x2 = v2) (h3 : r x3 = v3) (hr : (Instr.build t #[(i0, v0), (i1, v1), (i2, v2), (i3, v3)]).run P w = .ok v w) : (execOp r o).run P w = .ok (.value v) w :=
  exec_build t _ ho #[(i0, v0), (i1, v1), (i2, v2), (i3, v3)] (by simp [h0, h1, h2, h3]) hr
/-- One operation whose run is known; its guard, if it has one, lets it by. -/
theorem wpList_exw {P : Program} {ops : Array Oper} {rest : List Oper} {o : Oper} {a : Act} {Q : Exit → Act → World → Prop} {W w' : World} {v : Value} (hw : Region.wanted o (yielded ops a.tmps) = true) (hrun : (execOp a.eval o).run P W = .ok (.value v) w') (h : wpList P ops Q rest (a.put o.dst v) w') : wpList P ops Q (o :: rest) a W := by
  refine wpList_step (fun K hK => ?_)
  rw [if_pos hw]
  unfold Oper.wp
  rw [hrun]
  exact hK _ _ h
/-- A kind of elements: type t, slice type ts; an element's cells and its value; z: the zero. -/
structure Shape (α : Type) where
  t : TypeId
  ts : TypeId
  sz : Nat
  bytes : Nat
  z : α
  ok : α → Prop
  enc : α → List Value
  val : α → Value
  len : ∀ a, ok a → (enc a).length = sz
  one : ∀ a, ∀ u ∈ enc a, u.oneCell' = true
  okz : ok z
  pos : 0 < sz
  bpos : 0 < bytes
  blt : bytes ≤ 10000
  und : Tryd.prog.underlying ts = some (.slice t)
  info : (Tryd.prog.info? t).map (fun i => (i.zero, i.size, i.bytes)) = some (some (val z), sz, bytes)
  venc : ∀ a, (val a).cells = (enc a).toArray
  ld : ∀ (w : World) (b o : Nat) (a : α), ok a → CellsAt w b o (enc a) → (Instr.loadAt t (.pointer (some ⟨b, o, none⟩))).run Tryd.prog w = .ok (val a) w
theorem Shape.zenc {α : Type} (S : Shape α) : (S.val S.z).cells = (S.enc S.z).toArray := S.venc _
theorem Shape.zc {α : Type} (S : Shape α) : (S.val S.z).cells.size = S.sz := by rw [S.zenc, List.size_toArray, S.len _ S.okz]
section
variable {α : Type} (S : Shape α)
def Shape.at_ (l : List α) (i : Nat) : α := l.getD i S.z
def Shape.cells (l : List α) : List Value := l.flatMap S.enc
def Shape.all (l : List α) : Prop := ∀ a ∈ l, S.ok a
variable {S}
theorem Shape.at_get {l : List α} {i : Nat} (h : i < l.length) : l[i]? = some (S.at_ l i) := by
  unfold Shape.at_
  rw [List.getD_eq_getElem?_getD, List.getElem?_eq_getElem h]
  rfl
theorem Shape.cells_append (l m : List α) : S.cells (l ++ m) = S.cells l ++ S.cells m := by simp [Shape.cells]
theorem Shape.cells_one (a : α) : S.cells [a] = S.enc a := by simp [Shape.cells]
theorem Shape.cells_cons (a : α) (l : List α) : S.cells (a :: l) = S.enc a ++ S.cells l := by simp [Shape.cells]
theorem Shape.cells_cell (l : List α) : ∀ u ∈ S.cells l, u.oneCell' = true := by
  intro u hu
  obtain ⟨r, _, h⟩ := List.mem_flatMap.1 hu
  exact S.one r u h
theorem Shape.all.tail {a : α} {l : List α} (h : S.all (a :: l)) : S.all l := fun r hr => h r (by simp [hr])
theorem Shape.all.take {l : List α} (h : S.all l) (n : Nat) : S.all (l.take n) := fun r hr => h r (List.mem_of_mem_take hr)
theorem Shape.all.drop {l : List α} (h : S.all l) (n : Nat) : S.all (l.drop n) := fun r hr => h r (List.mem_of_mem_drop hr)
theorem Shape.all.append {l m : List α} (h : S.all l) (k : S.all m) : S.all (l ++ m) := fun r hr => (List.mem_append.1 hr).elim (h r) (k r)
theorem Shape.all.at_ {l : List α} (h : S.all l) {i : Nat} (hi : i < l.length) : S.ok (S.at_ l i) := h _ (List.mem_of_getElem? (Shape.at_get hi))
theorem Shape.all_nil : S.all [] := fun r hr => by cases hr
theorem Shape.all_one {a : α} (h : S.ok a) : S.all [a] := fun r hr => by rw [List.mem_singleton] at hr; rw [hr]; exact h
theorem Shape.cells_len : ∀ {l : List α}, S.all l → (S.cells l).length = l.length * S.sz
  | [], _ => by simp [Shape.cells]
  | a :: l, h => by
    rw [Shape.cells_cons, List.length_append, Shape.cells_len h.tail, S.len a (h a (by simp)), List.length_cons, Nat.add_mul]
    omega
theorem Shape.cells_take {l : List α} (h : S.all l) (n : Nat) (hn : n ≤ l.length) : (S.cells l).take (n * S.sz) = S.cells (l.take n) := by
  have e : S.cells l = S.cells (l.take n) ++ S.cells (l.drop n) := by rw [← Shape.cells_append, List.take_append_drop]
  rw [e, List.take_left' (by rw [Shape.cells_len (h.take n), List.length_take, Nat.min_eq_left hn])]
theorem Shape.cells_drop {l : List α} (h : S.all l) (n : Nat) (hn : n ≤ l.length) : (S.cells l).drop (n * S.sz) = S.cells (l.drop n) := by
  have e : S.cells l = S.cells (l.take n) ++ S.cells (l.drop n) := by rw [← Shape.cells_append, List.take_append_drop]
  rw [e, List.drop_left' (by rw [Shape.cells_len (h.take n), List.length_take, Nat.min_eq_left hn])]
theorem Shape.split_at {l : List α} {i : Nat} (hi : i < l.length) : l = l.take i ++ (S.at_ l i :: l.drop (i + 1)) := by
  have h2 : l[i]'hi = S.at_ l i := by
    have := Shape.at_get (S := S) hi
    rw [List.getElem?_eq_getElem hi] at this
    exact Option.some.inj this
  rw [← h2, List.getElem_cons_drop, List.take_append_drop]
end
/-- A slice of elements, read. -/
structure RS {α : Type} (S : Shape α) (w : World) (A : Option Addr) (n c : Nat) (l : List α) : Prop where
  rv : RV w S.sz A n c (S.cells l)
  fits : S.all l
/-- A slice of elements of the call's own. -/
structure OS {α : Type} (S : Shape α) (w : World) (base : Nat) (A : Option Addr) (n c : Nat) (l : List α) : Prop where
  ov : OV w base S.t S.sz A n c (S.cells l)
  fits : S.all l
section
variable {α : Type} {S : Shape α} {w w1 : World} {base base' : Nat} {A : Option Addr} {n c : Nat} {l : List α}
theorem RS.len (h : RS S w A n c l) : l.length = n := by
  have h1 := h.rv.len
  rw [Shape.cells_len h.fits] at h1
  exact Nat.eq_of_mul_eq_mul_right S.pos h1
theorem OS.len (h : OS S w base A n c l) : l.length = n := by
  have h1 := h.ov.len
  rw [Shape.cells_len h.fits] at h1
  exact Nat.eq_of_mul_eq_mul_right S.pos h1
theorem OS.reads (h : OS S w base A n c l) : RS S w A n c l := ⟨h.ov.reads, h.fits⟩
theorem RS.below (h : RS S w A n c l) (hb : Below w.heap.size w w1) : RS S w1 A n c l := ⟨h.rv.below hb, h.fits⟩
theorem OS.below (h : OS S w base A n c l) (hb : Below w.heap.size w w1) : OS S w1 base A n c l := ⟨h.ov.below hb, h.fits⟩
theorem OS.lower (h : OS S w base A n c l) (hb : base' ≤ base) : OS S w base' A n c l := ⟨h.ov.lower hb, h.fits⟩
theorem OS.grown (h : OS S w base A n c l) {row : Option Nat} (hg : w.grownBy w1 row) (hne : ∀ ad, A = some ad → some ad.block ≠ row) : OS S w1 base A n c l := ⟨h.ov.grown hg hne, h.fits⟩
theorem RS.grown (h : RS S w A n c l) {row : Option Nat} (hg : w.grownBy w1 row) (hne : ∀ ad, A = some ad → some ad.block ≠ row) : RS S w1 A n c l := ⟨h.rv.grown hg hne, h.fits⟩
theorem OS.cap (h : OS S w base A n c l) : n ≤ c := h.ov.cap
theorem RS.cap (h : RS S w A n c l) : n ≤ c := h.rv.cap
theorem RS.small (h : RS S w A n c l) : n ≤ 281474976710656 := h.rv.small
theorem OS.small (h : OS S w base A n c l) : n ≤ 281474976710656 := h.ov.small
theorem OS.base_ (h : OS S w base A n c l) : ∀ ad, A = some ad → base ≤ ad.block := h.ov.base_
theorem OS.lt (h : OS S w base A n c l) : ∀ ad, A = some ad → ad.block < w.heap.size := h.ov.lt
theorem RS.nil (S : Shape α) (w : World) (A : Option Addr) (c : Nat) : RS S w A 0 c [] := ⟨RV.nil w S.sz A c, Shape.all_nil⟩
theorem OS.nil (S : Shape α) (w : World) (base : Nat) : OS S w base none 0 0 [] := ⟨OV.nil w base _ S.sz, Shape.all_nil⟩
theorem RS.take (h : RS S w A n c l) (m : Nat) (hm : m ≤ n) : RS S w A m c (l.take m) := ⟨by rw [← Shape.cells_take h.fits m (by rw [h.len]; exact hm)]; exact h.rv.take m hm, h.fits.take m⟩
theorem OS.take (h : OS S w base A n c l) (m c' : Nat) (hm : m ≤ n) (hc : m ≤ c') (hc' : c' ≤ c) : OS S w base A m c' (l.take m) := ⟨by rw [← Shape.cells_take h.fits m (by rw [h.len]; exact hm)]; exact h.ov.take m c' hm hc hc', h.fits.take m⟩
theorem RS.drop (h : RS S w A n c l) (m : Nat) (hm : m ≤ n) : RS S w (if c = m then A else A.map (·.add (m * S.sz))) (n - m) (c - m) (l.drop m) := ⟨by rw [← Shape.cells_drop h.fits m (by rw [h.len]; exact hm)]; exact h.rv.drop m hm, h.fits.drop m⟩
theorem OS.new (S : Shape α) (W : World) (base : Nat) (l : List α) (hb : base ≤ W.heap.size) (hf : S.all l) (hn : l.length ≤ 281474976710656) : OS S (W.alloc (.cells (S.cells l).toArray S.t)) base (some ⟨W.heap.size, 0, none⟩) l.length l.length l := ⟨by
  have := OV.new W base S.t S.sz (S.cells l).toArray l.length hb (by rw [List.size_toArray, Shape.cells_len hf]) hn
  simpa using this, hf⟩
theorem OS.empty (S : Shape α) (W : World) (base : Nat) (hb : base ≤ W.heap.size) : OS S (W.alloc (.cells #[] S.t)) base (some ⟨W.heap.size, 0, none⟩) 0 0 [] := OS.new S W base [] hb Shape.all_nil (by simp)
theorem OS.one (S : Shape α) (W : World) (base : Nat) (a : α) (hb : base ≤ W.heap.size) (hf : S.ok a) : OS S (W.alloc (.cells (S.enc a).toArray S.t)) base (some ⟨W.heap.size, 0, none⟩) 1 1 [a] := by
  have := OS.new S W base [a] hb (Shape.all_one hf) (by simp)
  rw [Shape.cells_one] at this
  exact this
theorem RS.at_ (h : RS S w A n c l) (hp : 0 < n) : ∃ b o, A = some ⟨b, o, none⟩ ∧ ∀ i, i < n → CellsAt w b (o + i * S.sz) (S.enc (S.at_ l i)) := by
  obtain ⟨ad, rfl, hc⟩ := h.rv.cells hp
  have hlen := Shape.cells_len h.fits
  have hn := h.len
  have hpos := S.pos
  have hln : 0 < l.length * S.sz := Nat.mul_pos (by omega) hpos
  have hs : ad.spot = none := by
    cases hx : (S.cells l)[0]? with
    | none => rw [List.getElem?_eq_none_iff] at hx; omega
    | some v =>
      have := hc 0 v hx
      have k := cell_spot2 this
      unfold Addr.add at k
      simpa using k
  obtain ⟨b, o, s⟩ := ad
  simp only at hs
  subst hs
  refine ⟨b, o, rfl, fun i hi => ?_⟩
  have e : S.cells l = S.cells (l.take i) ++ (S.enc (S.at_ l i) ++ S.cells (l.drop (i + 1))) := by
    conv => lhs; rw [Shape.split_at (S := S) (l := l) (i := i) (by omega)]
    rw [Shape.cells_append]
    rfl
  have hm : CellsAt w b o (S.cells l) := fun j v hj => by
    have := hc j v hj
    rwa [add_plain2] at this
  rw [e] at hm
  have := hm.mid
  rwa [Shape.cells_len (h.fits.take i), List.length_take, Nat.min_eq_left (by omega)] at this
theorem RS.fits_at (h : RS S w A n c l) {i : Nat} (hi : i < n) : S.ok (S.at_ l i) := h.fits.at_ (by rw [h.len]; exact hi)
theorem RS.get (h : RS S w A n c l) {i : Nat} (hi : i < n) : l[i]? = some (S.at_ l i) := Shape.at_get (by rw [h.len]; exact hi)
end
theorem run_append_shp {α : Type} (S : Shape α) (W : World) (base : Nat) (ty : TypeId) (A : Option Addr) (n c : Nat) (t : List α) (A2 : Option Addr) (m c2 : Nat) (u : List α)
    (HO : OS S W base A n c t) (HR : RS S W A2 m c2 u) (hbase : base ≤ W.heap.size) (hl : n + m ≤ 10000000) :
    ∃ A' c' w', (Builtin.append_ #[S.ts, S.ts] ty #[.slice A n c, .slice A2 m c2]).run Tryd.prog W = .ok (.slice A' (n + m) c') w' ∧
      OS S w' base A' (n + m) c' (t ++ u) ∧ W.grownBy w' ((Value.slice A n c).ownBlock) ∧ (A' = A ∨ ∀ ad, A' = some ad → W.heap.size ≤ ad.block) := by
  have hb1 := S.blt
  have hb2 : (n + m) * S.bytes ≤ 10000000 * 10000 := Nat.mul_le_mul hl hb1
  obtain ⟨A', c', w', h1, h2, h3, h4⟩ := run_append_rows W base S.ts ty S.t S.sz S.bytes (S.val S.z) A n c (S.cells t) A2 m c2 (S.cells u) S.und S.info S.zc S.pos S.bpos HO.ov HR.rv (Shape.cells_cell u) hbase (by omega)
  exact ⟨A', c', w', h1, ⟨by rw [Shape.cells_append]; exact h2, HO.fits.append HR.fits⟩, h3, h4⟩
section
variable {α : Type} (S : Shape α) {ops : Array Oper} {rest : List Oper} {o : Oper} {a : Act} {Q : Exit → Act → World → Prop}
theorem wpList_append_shp {W : World} (hgd : o.guard = none) (s x : Operand) (ho : o.op = .call { callee := .builtin .append, args := #[s, x], argTypes := #[S.ts, S.ts] })
    {base : Nat} {A : Option Addr} {n c : Nat} {t : List α} {A2 : Option Addr} {m c2 : Nat} {u : List α} (hs : a.eval s = .slice A n c) (hx : a.eval x = .slice A2 m c2)
    (HO : OS S W base A n c t) (HR : RS S W A2 m c2 u) (hbase : base ≤ W.heap.size) (hl : n + m ≤ 10000000)
    (h : ∀ A' c' w', OS S w' base A' (n + m) c' (t ++ u) → W.grownBy w' ((Value.slice A n c).ownBlock) → (A' = A ∨ ∀ ad, A' = some ad → W.heap.size ≤ ad.block) → wpList Tryd.prog ops Q rest (a.put o.dst (.slice A' (n + m) c')) w') :
    wpList Tryd.prog ops Q (o :: rest) a W := by
  obtain ⟨A', c', w', h1, h2, h3, h4⟩ := run_append_shp S W base o.type A n c t A2 m c2 u HO HR hbase hl
  exact wpList_exec hgd (exec_append s x _ ho hs hx h1) (h _ _ _ h2 h3 h4)
theorem oper_append_shp {K : Act → World → Prop} {W : World} (s x : Operand) (ho : o.op = .call { callee := .builtin .append, args := #[s, x], argTypes := #[S.ts, S.ts] })
    {base : Nat} {A : Option Addr} {n c : Nat} {t : List α} {A2 : Option Addr} {m c2 : Nat} {u : List α} (hs : a.eval s = .slice A n c) (hx : a.eval x = .slice A2 m c2)
    (HO : OS S W base A n c t) (HR : RS S W A2 m c2 u) (hbase : base ≤ W.heap.size) (hl : n + m ≤ 10000000)
    (h : ∀ A' c' w', OS S w' base A' (n + m) c' (t ++ u) → W.grownBy w' ((Value.slice A n c).ownBlock) → (A' = A ∨ ∀ ad, A' = some ad → W.heap.size ≤ ad.block) → K (a.put o.dst (.slice A' (n + m) c')) w') :
    o.wp Tryd.prog a W K Q := by
  obtain ⟨A', c', w', h1, h2, h3, h4⟩ := run_append_shp S W base o.type A n c t A2 m c2 u HO HR hbase hl
  exact oper_exec (exec_append s x _ ho hs hx h1) (h _ _ _ h2 h3 h4)
end
end Go.Proofs.YtnpeedmicjeleaaDoor
