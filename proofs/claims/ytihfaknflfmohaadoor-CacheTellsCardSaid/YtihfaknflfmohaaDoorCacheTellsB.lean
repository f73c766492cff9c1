/- Plain laws of tables (layer 9): rows by rising prefixes; the longest match; set, drop and get. -/
import Derived.DeepKeys4
import Derived.IntWalk
import Derived.Maps.OwnOps
import Derived.Maps.Views
import Derived.Test.YtihfaknflfmohaaDoorCacheTellsA
namespace Go.Proofs.YtihfaknflfmohaaDoor
set_option linter.unusedVariables false
set_option linter.unusedSimpArgs false
set_option maxRecDepth 4000

structure Row where
  p : Pfx
  h : Int
def Row.fits (r : Row) : Prop := B16 r.p.l
def Row.okB (r : Row) : Bool := r.p.right && decide (1 ≤ r.h) && decide (r.h ≤ 255)
def rowZ : Row := ⟨⟨0, List.replicate 16 0, 0⟩, 0⟩
def rising : List Row → Bool
  | [] => true
  | [_] => true
  | a :: b :: t => decide (a.p.cmp b.p < 0) && rising (b :: t)
/-- May it be a table? -/
def tabB (t : List Row) : Bool := decide (t.length ≤ 40) && t.all Row.okB && rising t
def rowAt (t : List Row) (i : Nat) : Row := t.getD i rowZ
theorem rowAt_get {t : List Row} {i : Nat} (h : i < t.length) : t[i]? = some (rowAt t i) := by
  simp [rowAt, List.getD_eq_getElem?_getD, h]
theorem rowAt_eq {t : List Row} {i : Nat} {r : Row} (h : t[i]? = some r) : rowAt t i = r := by
  simp [rowAt, List.getD_eq_getElem?_getD, h]

theorem cmp_irrefl (p : Pfx) : ¬ p.cmp p < 0 := by
  have : p.cmp p = 0 := cmpI_refl _
  omega
theorem rising_cons {a : Row} {t : List Row} (h : rising (a :: t) = true) : rising t = true := by
  cases t with
  | nil => rfl
  | cons b t => simp only [rising, Bool.and_eq_true] at h; exact h.2
theorem rising_head {a : Row} : ∀ {t : List Row}, rising (a :: t) = true → ∀ r ∈ t, a.p.cmp r.p < 0
  | [], _, r, hr => by cases hr
  | b :: t, h, r, hr => by
    have h2 := h
    simp only [rising, Bool.and_eq_true, decide_eq_true_eq] at h2
    rcases List.mem_cons.1 hr with rfl | hr
    · exact h2.1
    · exact a.p.cmp_trans b.p r.p h2.1 (rising_head (rising_cons h) r hr)
/-- Up to a place, by the rows' neighbours. -/
theorem rising_iff (t : List Row) : rising t = true ↔ ∀ i, i + 1 < t.length → (rowAt t i).p.cmp (rowAt t (i + 1)).p < 0 := by
  induction t with
  | nil => simp [rising]
  | cons a t ih =>
    cases t with
    | nil => simp [rising]
    | cons b t =>
      simp only [rising, Bool.and_eq_true, decide_eq_true_eq, ih]
      constructor
      · rintro ⟨h1, h2⟩ i hi
        cases i with
        | zero => exact h1
        | succ i => exact h2 i (by simpa using hi)
      · intro h
        exact ⟨h 0 (by simp), fun i hi => h (i + 1) (by simpa using hi)⟩
theorem tabB_iff (t : List Row) : tabB t = true ↔ t.length ≤ 40 ∧ (∀ i, i < t.length → (rowAt t i).okB = true) ∧ ∀ i, i + 1 < t.length → (rowAt t i).p.cmp (rowAt t (i + 1)).p < 0 := by
  unfold tabB
  simp only [Bool.and_eq_true, decide_eq_true_eq, rising_iff, List.all_eq_true]
  constructor
  · rintro ⟨⟨h1, h2⟩, h3⟩
    exact ⟨h1, fun i hi => h2 _ (List.mem_of_getElem? (rowAt_get hi)), h3⟩
  · rintro ⟨h1, h2, h3⟩
    refine ⟨⟨h1, fun r hr => ?_⟩, h3⟩
    obtain ⟨i, hi, he⟩ := List.getElem_of_mem hr
    have := h2 i hi
    rwa [rowAt_eq (List.getElem?_eq_some_iff.2 ⟨hi, he⟩)] at this

theorem snoc_indG {α : Type} {P : List α → Prop} (h0 : P []) (h1 : ∀ l a, P l → P (l ++ [a])) (l : List α) : P l := by
  have h : ∀ l : List α, P l.reverse := by
    intro l
    induction l with
    | nil => exact h0
    | cons a l ih => rw [List.reverse_cons]; exact h1 _ _ ih
  have := h l.reverse
  rwa [List.reverse_reverse] at this
/-! The longest match. -/
def bestStep (v : Int) (l : List Int) (b : Option Row) (r : Row) : Option Row := if r.p.has v l && (match b with | none => true | some x => decide (x.p.b < r.p.b)) then some r else b
def longest (t : List Row) (v : Int) (l : List Int) : Option Row := t.foldl (bestStep v l) none
theorem longest_snoc (t : List Row) (r : Row) (v : Int) (l : List Int) : longest (t ++ [r]) v l = bestStep v l (longest t v l) r := by simp [longest]
/-- The row at place i matches; none that matches has more bits, and none ahead of it as many. -/
structure Best (t : List Row) (v : Int) (l : List Int) (i : Nat) (r : Row) : Prop where
  at_ : t[i]? = some r
  has : r.p.has v l = true
  top : ∀ j x, t[j]? = some x → x.p.has v l = true → x.p.b ≤ r.p.b ∧ (j < i → x.p.b < r.p.b)
theorem longest_spec (v : Int) (l : List Int) : ∀ t : List Row, (longest t v l = none ∧ ∀ x ∈ t, x.p.has v l = false) ∨ ∃ i r, longest t v l = some r ∧ Best t v l i r := by
  intro t
  refine snoc_indG (P := fun t => (longest t v l = none ∧ ∀ x ∈ t, x.p.has v l = false) ∨ ∃ i r, longest t v l = some r ∧ Best t v l i r) (.inl ⟨rfl, fun x hx => by cases hx⟩) (fun t r ih => ?_) t
  · rw [longest_snoc]
    unfold bestStep
    rcases ih with ⟨h1, h2⟩ | ⟨i, x, h1, h2⟩
    · rw [h1]
      cases hr : r.p.has v l
      · refine .inl ⟨by simp, fun y hy => ?_⟩
        rcases List.mem_append.1 hy with hy | hy
        · exact h2 y hy
        · rw [List.mem_singleton] at hy; rw [hy]; exact hr
      · refine .inr ⟨t.length, r, by simp, by simp, hr, fun j y hj hy => ?_⟩
        rcases Nat.lt_or_ge j t.length with hlt | hge
        · rw [List.getElem?_append_left hlt] at hj
          rw [h2 y (List.mem_of_getElem? hj)] at hy
          cases hy
        · have : j = t.length := by
            have := (List.getElem?_eq_some_iff.1 hj).1
            simp at this
            omega
          subst this
          simp at hj
          subst hj
          exact ⟨Int.le_refl _, fun h => absurd h (Nat.lt_irrefl _)⟩
    · rw [h1]
      have hi : i < t.length := (List.getElem?_eq_some_iff.1 h2.at_).1
      by_cases hb : r.p.has v l = true ∧ x.p.b < r.p.b
      · refine .inr ⟨t.length, r, by simp [hb.1, hb.2], by simp, hb.1, fun j y hj hy => ?_⟩
        rcases Nat.lt_or_ge j t.length with hlt | hge
        · rw [List.getElem?_append_left hlt] at hj
          have := (h2.top j y hj hy).1
          exact ⟨by omega, fun _ => by omega⟩
        · have : j = t.length := by
            have := (List.getElem?_eq_some_iff.1 hj).1
            simp at this
            omega
          subst this
          simp at hj
          subst hj
          exact ⟨Int.le_refl _, fun h => absurd h (Nat.lt_irrefl _)⟩
      · have hno : (r.p.has v l && decide (x.p.b < r.p.b)) = false := by
          rw [Bool.eq_false_iff]
          intro h
          simp only [Bool.and_eq_true, decide_eq_true_eq] at h
          exact hb h
        refine .inr ⟨i, x, by simp [hno], by rw [List.getElem?_append_left hi]; exact h2.at_, h2.has, fun j y hj hy => ?_⟩
        rcases Nat.lt_or_ge j t.length with hlt | hge
        · rw [List.getElem?_append_left hlt] at hj
          exact h2.top j y hj hy
        · have : j = t.length := by
            have := (List.getElem?_eq_some_iff.1 hj).1
            simp at this
            omega
          subst this
          simp at hj
          subst hj
          refine ⟨?_, fun h => by omega⟩
          rcases Int.lt_or_le x.p.b r.p.b with hh | hh
          · exact absurd ⟨hy, hh⟩ hb
          · exact hh
theorem longest_none {t : List Row} {v : Int} {l : List Int} (h : ∀ x ∈ t, x.p.has v l = false) : longest t v l = none := by
  rcases longest_spec v l t with ⟨h1, _⟩ | ⟨j, x, h1, h2⟩
  · exact h1
  · have := h x (List.mem_of_getElem? h2.at_)
    rw [h2.has] at this
    cases this
end Go.Proofs.YtihfaknflfmohaaDoor

/- Plain laws of tables (layer 9), second part: set, drop and get. -/
namespace Go.Proofs.YtihfaknflfmohaaDoor
set_option linter.unusedVariables false
set_option linter.unusedSimpArgs false
set_option maxRecDepth 4000

def Fits (t : List Row) : Prop := ∀ r ∈ t, B16 r.p.l
end Go.Proofs.YtihfaknflfmohaaDoor

/- Plain laws of tables (layer 9), third part: tables by what is in them. -/
namespace Go.Proofs.YtihfaknflfmohaaDoor
set_option linter.unusedVariables false
set_option linter.unusedSimpArgs false
set_option maxRecDepth 4000

theorem mem_unique {x y : Row} : ∀ {t : List Row}, rising t = true → x ∈ t → y ∈ t → x.p = y.p → x = y
  | [], _, h, _, _ => by cases h
  | a :: t, ht, hx, hy, he => by
    have hh := rising_head ht
    rcases List.mem_cons.1 hx with e1 | m1
    · rcases List.mem_cons.1 hy with e2 | m2
      · rw [e1, e2]
      · have := hh y m2
        rw [← he, e1] at this
        exact absurd this (cmp_irrefl _)
    · rcases List.mem_cons.1 hy with e2 | m2
      · have := hh x m1
        rw [he, e2] at this
        exact absurd this (cmp_irrefl _)
      · exact mem_unique (rising_cons ht) m1 m2 he
theorem tabB_to {t : List Row} (h : tabB t = true) : t.length ≤ 40 ∧ (∀ r ∈ t, r.okB = true) ∧ rising t = true := by
  unfold tabB at h
  simp only [Bool.and_eq_true, decide_eq_true_eq, List.all_eq_true] at h
  exact ⟨h.1.1, h.1.2, h.2⟩
theorem okB_iff (r : Row) : r.okB = true ↔ r.p.right = true ∧ 1 ≤ r.h ∧ r.h ≤ 255 := by
  unfold Row.okB
  simp only [Bool.and_eq_true, decide_eq_true_eq]
  exact ⟨fun h => ⟨h.1.1, h.1.2, h.2⟩, fun h => ⟨⟨h.1, h.2.1⟩, h.2.2⟩⟩
/-! The longest match, by what is in a table. -/
theorem has_det {p q : Pfx} {v : Int} {l : List Int} (hp : p.has v l = true) (hq : q.has v l = true) (hb : p.b = q.b) : p = q := by
  unfold Pfx.has at hp hq
  simp only [Bool.and_eq_true, decide_eq_true_eq] at hp hq
  obtain ⟨⟨⟨_, _⟩, h3⟩, h4⟩ := hp
  obtain ⟨⟨⟨_, _⟩, k3⟩, k4⟩ := hq
  cases p; cases q
  simp only at h3 h4 k3 k4 hb
  subst hb
  rw [h4] at k4
  simp [h3, k3, k4]
def Top (t : List Row) (v : Int) (l : List Int) (r : Row) : Prop := r ∈ t ∧ r.p.has v l = true ∧ ∀ x ∈ t, x.p.has v l = true → x.p.b ≤ r.p.b
theorem longest_top {t : List Row} {v : Int} {l : List Int} {r : Row} (ht : rising t = true) : longest t v l = some r ↔ Top t v l r := by
  constructor
  · intro h
    rcases longest_spec v l t with ⟨h1, _⟩ | ⟨i, x, h1, h2⟩
    · rw [h1] at h; cases h
    · rw [h1] at h
      cases h
      refine ⟨List.mem_of_getElem? h2.at_, h2.has, fun y hy hh => ?_⟩
      obtain ⟨j, hj, he⟩ := List.getElem_of_mem hy
      exact (h2.top j y (List.getElem?_eq_some_iff.2 ⟨hj, he⟩) hh).1
  · rintro ⟨h1, h2, h3⟩
    rcases longest_spec v l t with ⟨_, k⟩ | ⟨i, x, k1, k2⟩
    · have := k r h1
      rw [h2] at this
      cases this
    · obtain ⟨j, hj, he⟩ := List.getElem_of_mem h1
      have e1 := (k2.top j r (List.getElem?_eq_some_iff.2 ⟨hj, he⟩) h2).1
      have e2 := h3 x (List.mem_of_getElem? k2.at_) k2.has
      rw [k1, mem_unique ht (List.mem_of_getElem? k2.at_) h1 (has_det k2.has h2 (by omega))]
theorem longest_no {t : List Row} {v : Int} {l : List Int} : longest t v l = none ↔ ∀ x ∈ t, x.p.has v l = false := by
  constructor
  · intro h
    rcases longest_spec v l t with ⟨_, h2⟩ | ⟨i, x, h1, _⟩
    · exact h2
    · rw [h1] at h; cases h
  · exact longest_none
/-! Set, dropped, got. -/
end Go.Proofs.YtihfaknflfmohaaDoor

/- Plain laws of tables (layer 9), fifth part: what two have not alike. -/
namespace Go.Proofs.YtihfaknflfmohaaDoor
set_option linter.unusedVariables false
set_option linter.unusedSimpArgs false
set_option maxRecDepth 4000

/-- A table of hops that stand. -/
structure Tab (t : List Row) : Prop where
  fits : Fits t
  up : rising t = true
  hop : ∀ r ∈ t, 1 ≤ r.h
theorem Tab.of {t : List Row} (hf : Fits t) (h : tabB t = true) : Tab t := ⟨hf, (tabB_to h).2.2, fun r hr => ((okB_iff r).1 ((tabB_to h).2.1 r hr)).2.1⟩
end Go.Proofs.YtihfaknflfmohaaDoor

/- Rows of a table in memory: by value (19 cells), in a block, in a slice. -/
namespace Go.Proofs.YtihfaknflfmohaaDoor
open Go.RowKit
set_option linter.unusedVariables false
set_option linter.unusedSimpArgs false
set_option maxRecDepth 4000

def rowC (r : Row) : List Value := .int .i64 r.p.v :: (nums .u8 r.p.l ++ [.int .i64 r.p.b, .int .i64 r.h])
def rowV (r : Row) : Array Value := (rowC r).toArray
theorem rowC_len {r : Row} (h : r.fits) : (rowC r).length = 19 := by simp [rowC, nums, h.len]
theorem rowV_size {r : Row} (h : r.fits) : (rowV r).size = 19 := by simp [rowV, rowC_len h]
theorem rowC_one (r : Row) : ∀ u ∈ rowC r, u.oneCell' = true := by
  intro u hu
  simp only [rowC, List.mem_cons, List.mem_append, List.not_mem_nil, or_false] at hu
  rcases hu with rfl | hu | rfl | rfl
  · rfl
  · exact nums_one _ _ u hu
  · rfl
  · rfl
theorem rowV_one (r : Row) : (rowV r).all (·.oneCell') = true := by simp [rowV, rowC, nums, Value.oneCell']
theorem rowV_list (r : Row) : (rowV r).toList = rowC r := rfl
theorem pfxV_list (v : Int) (l : List Int) (b : Int) : (pfxV v l b).toList = .int .i64 v :: (nums .u8 l ++ [.int .i64 b]) := rfl
theorem adrV_list (v : Int) (l : List Int) : (adrV v l).toList = .int .i64 v :: nums .u8 l := rfl
theorem info_row {r : Row} (h : r.fits) : (Tryd.prog.info? 38).map (·.size) = some (rowV r).size := by rw [rowV_size h]; kernel_rfl
/-- What loads of a row tell. -/
structure RowLd (w : World) (g o : Nat) (r : Row) : Prop where
  row : (Instr.loadAt 38 (.pointer (some ⟨g, o, none⟩))).run Tryd.prog w = .ok (.agg (rowV r)) w
  pfx : (Instr.loadAt 36 (.pointer (some ⟨g, o, none⟩))).run Tryd.prog w = .ok (.agg (pfxV r.p.v r.p.l r.p.b)) w
  adr : (Instr.loadAt 31 (.pointer (some ⟨g, o, none⟩))).run Tryd.prog w = .ok (.agg (adrV r.p.v r.p.l)) w
  ver : (Instr.loadAt 3 (.pointer (some ⟨g, o, none⟩))).run Tryd.prog w = .ok (.int .i64 r.p.v) w
  bts : (Instr.loadAt 29 (.pointer (some ⟨g, o + 1, none⟩))).run Tryd.prog w = .ok (.agg (arrV r.p.l)) w
  bit : (Instr.loadAt 3 (.pointer (some ⟨g, o + 17, none⟩))).run Tryd.prog w = .ok (.int .i64 r.p.b) w
  hop : (Instr.loadAt 3 (.pointer (some ⟨g, o + 18, none⟩))).run Tryd.prog w = .ok (.int .i64 r.h) w
theorem rowLd_of {w : World} {g o : Nat} {r : Row} (hf : r.fits) (h : CellsAt w g o (rowC r)) : RowLd w g o r := by
  have hn : (nums .u8 r.p.l).length = 16 := by rw [nums_length]; exact hf.len
  have e : rowC r = (pfxV r.p.v r.p.l r.p.b).toList ++ [.int .i64 r.h] := by rw [pfxV_list]; simp [rowC]
  have e2 : (pfxV r.p.v r.p.l r.p.b).toList = (adrV r.p.v r.p.l).toList ++ [.int .i64 r.p.b] := by rw [pfxV_list, adrV_list]; rfl
  have h1 : CellsAt w g o (pfxV r.p.v r.p.l r.p.b).toList := by rw [e] at h; exact h.left
  have h2 : CellsAt w g o (adrV r.p.v r.p.l).toList := by rw [e2] at h1; exact h1.left
  have h3 : CellsAt w g (o + 1) (arrV r.p.l).toList := by
    have := CellsAt.mid [Value.int .i64 r.p.v] (ys := nums .u8 r.p.l) (zs := []) (w := w) (b := g) (o := o) (by rw [List.append_nil]; exact h2)
    exact this
  refine ⟨load_cells (cs := rowV r) h Tryd.underlying38 rfl (info_row hf), load_cells h1 Tryd.underlying36 rfl (info_pfx hf.len), load_cells h2 Tryd.underlying31 rfl (info_adr hf.len), ?_, load_cells h3 Tryd.underlying29 rfl (info_arr hf.len), ?_, ?_⟩
  · exact load_int (h 0 _ rfl)
  · refine load_int (h 17 _ ?_)
    unfold rowC
    rw [List.getElem?_cons_succ, List.getElem?_append_right (by omega), hn]
    rfl
  · refine load_int (h 18 _ ?_)
    unfold rowC
    rw [List.getElem?_cons_succ, List.getElem?_append_right (by omega), hn]
    rfl

/-- What lies in a block that holds a row, in every world that goes on from one. -/
structure RowAt (w : World) (g : Nat) (r : Row) : Prop where
  all : ∀ w0, Below w.heap.size w w0 → RowLd w0 g 0 r
theorem row_at {w : World} {g : Nat} {t : TypeId} {r : Row} (hr : r.fits) (h : w.heap[g]? = some (.cells (rowV r) t (0, 0))) : RowAt w g r :=
  ⟨fun w0 hb => rowLd_of hr (cells_blk (blk_below h hb))⟩
/-- A table by value: its rows. -/
def tabV (A : Option Addr) (n c : Nat) : Array Value := #[.slice A n c]
theorem load_rows {w : World} {ad : Addr} {v : Value} (h : w.cell? ad = some v) : (Instr.loadAt 26 (.pointer (some ad))).run Tryd.prog w = .ok v w := by
  go_simp
structure TabAt (w : World) (g : Nat) (A : Option Addr) (n c : Nat) : Prop where
  all : ∀ w0, Below w.heap.size w w0 → (Instr.loadAt 28 (.pointer (some ⟨g, 0, none⟩))).run Tryd.prog w0 = .ok (.agg (tabV A n c)) w0 ∧ (Instr.loadAt 26 (.pointer (some ⟨g, 0, none⟩))).run Tryd.prog w0 = .ok (.slice A n c) w0
theorem tab_at {w : World} {g : Nat} {A : Option Addr} {n c : Nat} (h : w.heap[g]? = some (.cells (tabV A n c) 28 (0, 0))) : TabAt w g A n c := by
  refine ⟨fun w0 hb => ?_⟩
  have h0 := cells_blk (blk_below h hb)
  exact ⟨load_cells h0 Tryd.underlying28 rfl (by kernel_rfl), load_rows (h0 0 _ rfl)⟩

/-! Rows of a slice. -/
theorem zero_row : (Tryd.prog.info? 38).map (fun i => (i.zero, i.size, i.bytes)) = some (some (.agg (rowV rowZ)), 19, 40) := by kernel_rfl
def rowK : Shape Row where
  t := 38
  ts := 26
  sz := 19
  bytes := 40
  z := rowZ
  ok := Row.fits
  enc := rowC
  val := fun r => .agg (rowV r)
  len := fun _ h => rowC_len h
  one := rowC_one
  okz := zero16_B
  pos := by omega
  bpos := by omega
  blt := by omega
  und := Tryd.underlying26
  info := zero_row
  venc := fun _ => rfl
  ld := fun _ _ _ r hr h => load_cells (cs := rowV r) h Tryd.underlying38 rfl (info_row hr)
/-- A slice of rows, read. -/
abbrev RT (w : World) (A : Option Addr) (n c : Nat) (t : List Row) : Prop := RS rowK w A n c t
/-- A slice of rows of the call's own. -/
abbrev OT (w : World) (base : Nat) (A : Option Addr) (n c : Nat) (t : List Row) : Prop := OS rowK w base A n c t
theorem Fits.take {t : List Row} (h : Fits t) (n : Nat) : Fits (t.take n) := fun r hr => h r (List.mem_of_mem_take hr)
theorem Fits.drop {t : List Row} (h : Fits t) (n : Nat) : Fits (t.drop n) := fun r hr => h r (List.mem_of_mem_drop hr)
theorem Fits.append {t u : List Row} (h : Fits t) (k : Fits u) : Fits (t ++ u) := fun r hr => (List.mem_append.1 hr).elim (h r) (k r)
theorem Fits.at_ {t : List Row} (h : Fits t) {i : Nat} (hi : i < t.length) : (rowAt t i).fits := h _ (List.mem_of_getElem? (rowAt_get hi))
theorem RT.at_ {w : World} {A : Option Addr} {n c : Nat} {t : List Row} (h : RT w A n c t) (hp : 0 < n) : ∃ b o, A = some ⟨b, o, none⟩ ∧ ∀ i, i < n → CellsAt w b (o + i * 19) (rowC (rowAt t i)) := RS.at_ h hp
theorem RT.fits_at {w : World} {A : Option Addr} {n c : Nat} {t : List Row} (h : RT w A n c t) {i : Nat} (hi : i < n) : (rowAt t i).fits := RS.fits_at h hi
theorem RT.fits {w : World} {A : Option Addr} {n c : Nat} {t : List Row} (h : RT w A n c t) : Fits t := RS.fits h

/-! Rows, built and held equal. -/
theorem run_build_row_nil (w : World) : (Instr.build 38 #[]).run Tryd.prog w = .ok (.agg (rowV rowZ)) w := run_build w _ _ _ (by kernel_rfl)
structure Row.ok (r : Row) : Prop where
  p : r.p.ok
  h : (Lit.int .i64 r.h).wf = true
theorem Row.ok.fits {r : Row} (h : r.ok) : r.fits := h.p.l
def Row.eqB (r s : Row) : Bool := r.p.eqB s.p && decide (r.h = s.h)
theorem Row.eqB_iff (r s : Row) : r.eqB s = true ↔ r = s := by
  unfold Row.eqB
  simp only [Bool.and_eq_true, decide_eq_true_eq, Pfx.eqB_iff]
  constructor
  · rintro ⟨h1, h2⟩
    cases r; cases s
    simp_all
  · rintro rfl
    exact ⟨rfl, rfl⟩
theorem keyl_row (r : Row) (h : r.ok) : Tryd.prog.keyLits 5 38 (rowV r).toList = some ((.int .i64 r.p.v :: lits .u8 r.p.l ++ [.int .i64 r.p.b]) ++ [.int .i64 r.h]) := by
  unfold Program.keyLits
  rw [Tryd.underlying38]
  simp only
  rw [if_pos ⟨by rw [show (rowV r).toList.length = 19 by rw [Array.length_toList, rowV_size h.fits]]; kernel_rfl, by kernel_rfl⟩]
  have c1 : Tryd.prog.cellsOf 36 = 18 := by kernel_rfl
  have c2 : Tryd.prog.cellsOf 3 = 1 := by kernel_rfl
  have hln : (nums .u8 r.p.l).length = 16 := by rw [nums_length]; exact h.p.l.len
  have e0 : (rowV r).toList = (pfxV r.p.v r.p.l r.p.b).toList ++ [.int .i64 r.h] := by rw [pfxV_list, rowV_list]; simp [rowC]
  have hl18 : (pfxV r.p.v r.p.l r.p.b).toList.length = 18 := pfx_cells _ _ _ h.p.l
  have e1 : (rowV r).toList.take 18 = (pfxV r.p.v r.p.l r.p.b).toList := by rw [e0, List.take_left' hl18]
  have e2 : (rowV r).toList.drop 18 = [.int .i64 r.h] := by rw [e0, List.drop_left' hl18]
  simp only [List.mapM_cons, List.mapM_nil, c1, c2, List.drop_zero]
  rw [e1, e2, keyl_pfx _ _ _ h.p.l h.p.v h.p.b]
  simp only [List.take_succ_cons, List.take_zero]
  rw [keyl_int 3 r.h h.h]
  simp
theorem row_formed (r : Row) (h : r.fits) : (Value.agg (rowV r)).formed Tryd.prog 38 = true := by
  simp only [Value.formed, Tryd.underlying38, rowV_size h]
  kernel_rfl
theorem row_equal (r s : Row) (hr : r.ok) (hs : s.ok) (w : World) : (Op.equal 38 (.agg (rowV r)) (.agg (rowV s))).run Tryd.prog w = .ok (r.eqB s) w := by
  obtain ⟨b, hb, hiff⟩ := run_equalIn_deep (P := Tryd.prog) 9995 5 38 (by kernel_rfl) w 5 5 (.agg (rowV r)) (.agg (rowV s)) _ _ (row_formed _ hr.fits) (row_formed _ hs.fits) (keyl_row r hr) (keyl_row s hs)
  have h2 : (Op.equal 38 (.agg (rowV r)) (.agg (rowV s))).run Tryd.prog w = .ok b w := hb
  suffices hs2 : b = r.eqB s by rw [h2, hs2]
  rw [Bool.eq_iff_iff, hiff, Row.eqB_iff]
  constructor
  · intro h
    obtain ⟨h1, h2⟩ := List.append_inj h (by simp [lits, hr.p.l.len, hs.p.l.len])
    simp only [List.cons_append, List.cons.injEq, Lit.int.injEq, true_and, and_true] at h1 h2
    obtain ⟨h3, h4⟩ := h1
    obtain ⟨h5, h6⟩ := List.append_inj h4 (by simp [lits, hr.p.l.len, hs.p.l.len])
    simp only [List.cons.injEq, Lit.int.injEq, true_and, and_true] at h6
    obtain ⟨⟨a, b, c⟩, d⟩ := r
    obtain ⟨⟨a', b', c'⟩, d'⟩ := s
    simp only at h2 h3 h5 h6
    rw [h2, h3, lits_inj h5, h6]
  · rintro rfl
    rfl
section
variable {r : Operand → Value} {o : Oper} {x y : Operand} {ty : TypeId}
theorem row_eql_exec (ho : o.op = .binOp .eql 38 x y ty) (p q : Row) (hx : r x = .agg (rowV p)) (hy : r y = .agg (rowV q)) (hp : p.ok) (hq : q.ok) (w : World) : (execOp r o).run Tryd.prog w = .ok (.value (.bool (p.eqB q))) w :=
  exec_eql 38 (by kernel_rfl) ho _ _ hx hy w (row_equal p q hp hq w)
end
end Go.Proofs.YtihfaknflfmohaaDoor

/- Layer 5 (prefix): cut. -/
namespace Go.Proofs.YtihfaknflfmohaaDoor
open Go.RowKit
set_option linter.unusedVariables false
set_option linter.unusedSimpArgs false
set_option maxRecDepth 4000

theorem and_keep_all : ((List.range 256).all fun x => (List.range 8).all fun s => (x &&& ((255 * 2 ^ s) % 256)) == x / 2 ^ s * 2 ^ s) = true := by decide +kernel
theorem and_keep (x : Int) (s : Nat) (hx0 : 0 ≤ x) (hx1 : x < 256) (hs : s < 8) : bits .and .u8 x (255 * 2 ^ s % 256) = x / 2 ^ s * 2 ^ s := by
  obtain ⟨a, rfl⟩ := Int.eq_ofNat_of_zero_le hx0
  have h := and_keep_all
  rw [List.all_eq_true] at h
  have h1 := h a (List.mem_range.2 (by omega))
  rw [List.all_eq_true] at h1
  have h2 := beq_iff_eq.1 (h1 s (List.mem_range.2 hs))
  have e : (255 * 2 ^ s % 256 : Int) = ((255 * 2 ^ s % 256 : Nat) : Int) := by
    rw [Int.natCast_emod, Int.natCast_mul, Int.natCast_pow]; rfl
  rw [e, u8_and_nat a _ (by omega) (by omega), h2, Int.natCast_mul, Int.natCast_ediv, Int.natCast_pow]
  rfl
theorem arr_set {w : World} {g : Nat} {t : TypeId} {l : List Int} (h : w.heap[g]? = some (.cells (arrV l) t (0, 0))) (i : Nat) (y : Int) : (w.setCell ⟨g, i, none⟩ (.int .u8 y)).heap[g]? = some (.cells (arrV (l.set i y)) t (0, 0)) := by
  have := blk_set h i (.int .u8 y)
  unfold arrV at this ⊢
  rw [List.setIfInBounds_toArray, nums_set] at this
  exact this
theorem cut_step (l : List Int) (k : Int) (hl : B16 l) (i : Nat) (hi : i < 16) : (cutA l k).take (i + 1) ++ l.drop (i + 1) = ((cutA l k).take i ++ l.drop i).set i (cutB (rd l (i : Int)) (k - 8 * i)) := by
  have hlen : (cutA l k).length = 16 := (cutA_16 hl k).len
  apply List.ext_getElem
  · simp [hlen, hl.len]; omega
  · intro j h1 h2
    simp only [List.getElem_set, List.getElem_append, List.length_take, hlen, List.getElem_take, List.getElem_drop]
    by_cases hj : i = j
    · subst hj
      rw [dif_pos (by omega), if_pos rfl]
      simp [cutA]
    · rw [if_neg hj]
      by_cases hlt : j < i
      · rw [dif_pos (by omega), dif_pos (by omega)]
      · rw [dif_neg (by omega), dif_neg (by omega)]
        congr 1
        omega
set_option maxHeartbeats 1000000 in
theorem cut_any (l : List Int) (k : Int) (w : World) (hl : B16 l) (hk0 : 0 ≤ k) (hk1 : k ≤ 128) : Calls Tryd.prog 70 #[.agg (arrV l), .int .i64 k] w fun e w' => e = .returned (.agg (arrV (cutA l k))) ∧ Below w.heap.size w w' := by
  have hb := blk_new w (.cells (arrV l) 29)
  have hbe : Below w.heap.size w (w.alloc (.cells (arrV l) 29)) := below_alloc (Below.refl _ _) _
  have HB := Lib.hid hb
  have HBE := Lib.hid hbe
  obtain ⟨cs, hcs⟩ : ∃ cs, arrV l = cs := ⟨_, rfl⟩
  rw [hcs] at HB HBE ⊢
  have HCS := Lib.hid hcs
  clear hb hcs hbe
  go_enter Tryd.func70, Tryd.ntmps70
  go_wp2_with fail
  have hb0 : (w.alloc (.cells cs 29)).heap[w.heap.size]? = some (.cells cs 29) := HB.out
  have hsz : (w.alloc (.cells cs 29)).heap.size = w.heap.size + 1 := by simp
  have HZ : Hid (Below w.heap.size w ((w.alloc (.cells cs 29)).alloc (.cells (arrV (List.replicate 16 0)) 29)) ∧
      ((w.alloc (.cells cs 29)).alloc (.cells (arrV (List.replicate 16 0)) 29)).heap[w.heap.size]? = some (.cells (arrV l) 29 (0, 0)) ∧
      ((w.alloc (.cells cs 29)).alloc (.cells (arrV (List.replicate 16 0)) 29)).heap[w.heap.size + 1]? = some (.cells (arrV (List.replicate 16 0)) 29 (0, 0))) := by
    refine ⟨below_alloc HBE.out _, ?_, ?_⟩
    · rw [HCS.out]
      exact blk_below hb0 (below_alloc (Below.refl _ _) _)
    · have := blk_new (w.alloc (.cells cs 29)) (.cells (arrV (List.replicate 16 0)) 29)
      rw [hsz] at this
      exact this
  clear hb0 hsz
  go_loopw [7] (fun v wr => ∃ i : Nat, v = .int .i64 i ∧ Hid (i ≤ 16 ∧ Below w.heap.size w wr ∧ wr.heap[w.heap.size]? = some (.cells (arrV ((cutA l k).take i ++ l.drop i)) 29 (0, 0)) ∧ wr.heap[w.heap.size + 1]? = some (.cells (arrV (List.replicate 16 0)) 29 (0, 0)))) (fun v _ => 16 - (intOf v).toNat)
  case atStart => exact ⟨0, rfl, Nat.zero_le _, HZ.out.1, HZ.out.2.1, HZ.out.2.2⟩
  case round =>
    obtain ⟨i, rfl, HH⟩ := hrel
    clear HZ
    have hi := HH.out.1
    by_cases hlt : i < 16
    · have hlen : ((cutA l k).take i ++ l.drop i).length = 16 := by simp [(cutA_16 hl k).len, hl.len]; omega
      have hcell := arr_cell HH.out.2.2.1 i (by rw [hlen]; exact hlt)
      have hrd : rd ((cutA l k).take i ++ l.drop i) (i : Int) = rd l (i : Int) := by
        have h1 : ((cutA l k).take i).length = i := by simp [(cutA_16 hl k).len]; omega
        simp only [rd, Int.toNat_natCast, List.getD_eq_getElem?_getD]
        rw [List.getElem?_append_right (by omega), h1, List.getElem?_drop]
        simp
      rw [hrd] at hcell
      have hfr : wr.frozen? ⟨w.heap.size, i, none⟩ = false := blk_frozen HH.out.2.2.1 i
      have hlt' : (i : Int) < 16 := by omega
      have hg := hl.rd (i : Int)
      have HN : ∀ y, y = cutB (rd l (i : Int)) (k - 8 * i) → Below w.heap.size w (wr.setCell ⟨w.heap.size, i, none⟩ (.int .u8 y)) ∧ (wr.setCell ⟨w.heap.size, i, none⟩ (.int .u8 y)).heap[w.heap.size]? = some (.cells (arrV ((cutA l k).take (i + 1) ++ l.drop (i + 1))) 29 (0, 0)) ∧ (wr.setCell ⟨w.heap.size, i, none⟩ (.int .u8 y)).heap[w.heap.size + 1]? = some (.cells (arrV (List.replicate 16 0)) 29 (0, 0)) := fun y hy => by
        refine ⟨HH.out.2.1.setCell (Nat.le_refl _) _, ?_, blk_set_far HH.out.2.2.2 (by simp) _⟩
        rw [cut_step l k hl i hlt, ← hy]
        exact arr_set HH.out.2.2.1 i y
      have HNN := Lib.hid HN
      clear HN hrd hlen
      by_cases h1 : k - 8 * (i : Int) ≤ 0
      · have hy : (0 : Int) = cutB (rd l (i : Int)) (k - 8 * i) := by unfold cutB; rw [if_pos h1]
        have HY := Lib.hid hy
        clear hy
        go_wp2_with fail
        go_roundw
        case measure => simp [intOf]; omega
        case rel => exact ⟨i + 1, by go_num, by omega, HNN.out 0 HY.out⟩
      · by_cases h2 : k - 8 * (i : Int) < 8
        · have h1' : 0 < k - 8 * (i : Int) := by omega
          obtain ⟨kp, hkp⟩ : ∃ kp, k - 8 * (i : Int) = kp := ⟨_, rfl⟩
          have hx := and_keep (rd l (i : Int)) (8 - kp).toNat hg.1 hg.2 (by omega)
          have hy : rd l (i : Int) / 2 ^ (8 - kp).toNat * 2 ^ (8 - kp).toNat = cutB (rd l (i : Int)) (k - 8 * i) := by rw [hkp]; unfold cutB; rw [if_neg (by omega), if_pos (by omega)]
          have HY := Lib.hid hy
          have hq0 : 0 < kp := by omega
          have hq1 : kp < 8 := by omega
          have hw8 : IntKind.i64.wrap (8 - kp) = 8 - kp := by simp only [IntKind.wrap, IntKind.bits, IntKind.signed]; simp; omega
          have hs0 : 0 ≤ 8 - kp := by omega
          have hs1 : 8 - kp < 64 := by omega
          have hwu : IntKind.u8.wrap (255 * 2 ^ (8 - kp).toNat) = 255 * 2 ^ (8 - kp).toNat % 256 := by simp only [IntKind.wrap, IntKind.bits, IntKind.signed]; simp
          clear hy h1 h2 h1'
          go_wp2_with fail
          refine wp_region_mix (fun _ => True) [(0, 0), (1, 0), (3, 0), (4, 0), (5, 0), (2, 1), (6, 0), (7, 0), (8, 2)] (by kernel_rfl) (by kernel_rfl) trivial ?_
          simp only [List.map_cons, List.map_nil]
          repeat first | (refine wpO_step0 rfl rfl (fun K hK => ?_); go_simp; refine hK _ _ ?_; clear hK K) | (refine wpO_step1 rfl rfl (fun K hK => ?_); go_simp; refine hK _ _ ?_; clear hK K)
          have hfd : wr.drew.frozen? ⟨w.heap.size, i, none⟩ = false := hfr
          have hcd : wr.drew.cell? ⟨w.heap.size, i, none⟩ = some (.int .u8 (rd l (i : Int))) := hcell
          refine wpO_step2 rfl rfl trivial (fun K hK => ?_)
          go_simp
          refine hK _ _ ⟨trivial, ?_⟩
          clear hK K
          refine wpO_nil ?_
          have HND : Hid (Below w.heap.size w (wr.drew.setCell ⟨w.heap.size, i, none⟩ (.int .u8 (rd l (i : Int) / 2 ^ (8 - kp).toNat * 2 ^ (8 - kp).toNat))) ∧
              (wr.drew.setCell ⟨w.heap.size, i, none⟩ (.int .u8 (rd l (i : Int) / 2 ^ (8 - kp).toNat * 2 ^ (8 - kp).toNat))).heap[w.heap.size]? = some (.cells (arrV ((cutA l k).take (i + 1) ++ l.drop (i + 1))) 29 (0, 0)) ∧
              (wr.drew.setCell ⟨w.heap.size, i, none⟩ (.int .u8 (rd l (i : Int) / 2 ^ (8 - kp).toNat * 2 ^ (8 - kp).toNat))).heap[w.heap.size + 1]? = some (.cells (arrV (List.replicate 16 0)) 29 (0, 0))) := by
            refine ⟨HH.out.2.1.drew.setCell (Nat.le_refl _) _, ?_, blk_set_far (w := wr.drew) HH.out.2.2.2 (by simp) _⟩
            rw [cut_step l k hl i hlt, ← HY.out]
            exact arr_set (w := wr.drew) HH.out.2.2.1 i _
          clear hw8 hs0 hs1 hwu hx
          go_wp2_with fail
          go_roundw
          case measure => simp [intOf]; omega
          case rel => exact ⟨i + 1, by go_num, by omega, HND.out⟩
        · have hy : rd l (i : Int) = cutB (rd l (i : Int)) (k - 8 * i) := by unfold cutB; rw [if_neg h1, if_neg h2]
          have h1' : 0 < k - 8 * (i : Int) := by omega
          have h2' : 8 ≤ k - 8 * (i : Int) := by omega
          have HY := Lib.hid hy
          clear hy h1 h2
          go_wp2_with fail
          go_roundw
          case measure => simp [intOf]; omega
          case rel =>
            refine ⟨i + 1, by go_num, by omega, HH.out.2.1, ?_, HH.out.2.2.2⟩
            have hlen : ((cutA l k).take i ++ l.drop i).length = 16 := by simp [(cutA_16 hl k).len, hl.len]; omega
            have hs := cut_step l k hl i (by omega)
            rw [hs, ← HY.out]
            have hrd : rd ((cutA l k).take i ++ l.drop i) (i : Int) = rd l (i : Int) := by
              have h1 : ((cutA l k).take i).length = i := by simp [(cutA_16 hl k).len]; omega
              simp only [rd, Int.toNat_natCast, List.getD_eq_getElem?_getD]
              rw [List.getElem?_append_right (by omega), h1, List.getElem?_drop]
              simp
            rw [← hrd]
            have e : ((cutA l k).take i ++ l.drop i).set i (rd ((cutA l k).take i ++ l.drop i) (i : Int)) = (cutA l k).take i ++ l.drop i := by
              apply List.ext_getElem?
              intro j
              rw [List.getElem?_set]
              split
              · rename_i hj
                subst hj
                rw [if_pos (by rw [hlen]; omega)]
                simp [rd, List.getD_eq_getElem?_getD]
                rw [List.getElem?_eq_getElem (by rw [hlen]; omega)]
                rfl
              · rfl
            rw [e]
            exact HH.out.2.2.1
    · obtain rfl : i = 16 := by omega
      have hm1 : decide (((16 : Nat) : Int) < 16) = false := rfl
      have hfin := HH.out.2.2.1
      rw [List.take_of_length_le (by rw [(cutA_16 hl k).len]; exact Nat.le_refl _), List.drop_of_length_le (by rw [hl.len]; exact Nat.le_refl _), List.append_nil] at hfin
      have hld := load_arr (b := w.heap.size) (o := 0) (cutA_16 hl k) (fun i hi => by rw [Nat.zero_add]; exact arr_cell hfin i (by rw [(cutA_16 hl k).len]; exact hi))
      clear hlt
      have hsz : (arrV (cutA l k)).size = 16 := by simp [arrV, nums, (cutA_16 hl k).len]
      have hi16 : (Tryd.prog.info? 29).map (·.size) = some (arrV (cutA l k)).size := by rw [hsz]; kernel_rfl
      have hs16 : (arrV (List.replicate 16 0)).size = (arrV (cutA l k)).size := by rw [hsz]; simp [arrV, nums]
      have hone : (arrV (cutA l k)).all (·.oneCell') = true := by simp [arrV, nums, Value.oneCell']
      have hrow := setRow_heap wr (w.heap.size + 1) (arrV (List.replicate 16 0)) (arrV (cutA l k)) 29 (0, 0) HH.out.2.2.2
      have HBF : Hid (Below w.heap.size w (wr.setRow (w.heap.size + 1) (arrV (cutA l k)))) := by
        have hb := HH.out.2.1
        exact ⟨hb.os, hb.tape, hb.output, by rw [show (wr.setRow (w.heap.size + 1) (arrV (cutA l k))).heap.size = wr.heap.size by simp [World.setRow]]; exact hb.size, fun j hj => by rw [setRow_other _ _ _ _ (by omega)]; exact hb.block j hj⟩
      go_wp2_with (first | (refine wpList_load_g hld _ rfl rfl (by go_simp) ?_) | (refine wpList_store_row rfl 29 _ _ rfl (w.heap.size + 1) (arrV (cutA l k)) rfl rfl 29 (arrV (List.replicate 16 0)) HH.out.2.2.2 hi16 hs16 hone ?_))
      (try simp only [Exit.inBlock, Exit.then])
      refine bodyPost_ret (results_cell_row rfl _ _ (w.heap.size + 1) 29 (arrV (cutA l k)) (0, 0) _ rfl hrow Tryd.underlying29 rfl hi16) rfl ?_
      exact ⟨rfl, HBF.out⟩
end Go.Proofs.YtihfaknflfmohaaDoor

/- The document's answer for layer 5 (junctionboxref05): Width, at, RightAddr. -/
namespace Go.Proofs.YtihfaknflfmohaaDoor
open Go.RowKit
set_option linter.unusedVariables false
set_option linter.unusedSimpArgs false
set_option maxRecDepth 4000

theorem refwidth_any (v : Int) (w : World) : Calls Tryd.prog 67 #[.int .i64 v] w fun e w' => e = .returned (.int .i64 (widthA v)) ∧ w = w' := by
  by_cases h4 : v = 4
  · subst h4
    go_enter Tryd.func67, Tryd.ntmps67
    go_wp2
    go_ret
    exact ⟨rfl, rfl⟩
  · have h4' : (v == 4) = false := by simpa using h4
    by_cases h6 : v = 6
    · subst h6
      go_enter Tryd.func67, Tryd.ntmps67
      go_wp2
      go_ret
      exact ⟨rfl, rfl⟩
    · have h6' : (v == 6) = false := by simpa using h6
      have hw : widthA v = 0 := by unfold widthA; rw [if_neg h4, if_neg h6]
      rw [hw]
      clear h4 h6 hw
      go_enter Tryd.func67, Tryd.ntmps67
      go_wp2
      go_ret
      exact ⟨rfl, rfl⟩

theorem refat_any (l : List Int) (x : Int) (w : World) (hl : B16 l) (hx0 : 0 ≤ x) (hx1 : x < 128) : Calls Tryd.prog 68 #[.agg (arrV l), .int .i64 x] w fun e w' => e = .returned (.int .i64 (bitA l x.toNat)) ∧ Below w.heap.size w w' := by
  have hb := blk_new w (.cells (arrV l) 29)
  have hc := arr_cell hb (x / 8).toNat (by rw [hl.len]; omega)
  rw [show (((x / 8).toNat : Nat) : Int) = x / 8 by omega] at hc
  have hbe : Below w.heap.size w (w.alloc (.cells (arrV l) 29)) := below_alloc (Below.refl _ _) _
  obtain ⟨cs, hcs⟩ : ∃ cs, arrV l = cs := ⟨_, rfl⟩
  rw [hcs] at hc hbe ⊢
  have HBE := Lib.hid hbe
  clear hb hcs hbe
  have hx8 : x / 8 < 16 := by omega
  have hx80 : 0 ≤ x / 8 := by omega
  have hx7 : x % 8 < 8 := by omega
  have hx70 : 0 ≤ x % 8 := by omega
  have hr := hl.rd (x / 8)
  have hd := div_lt256 (rd l (x / 8)) (7 - x % 8).toNat hr.1 hr.2
  have hbt : bitA l x.toNat = rd l (x / 8) / 2 ^ (7 - x % 8).toNat % 2 := by
    unfold bitA
    rw [show ((x.toNat / 8 : Nat) : Int) = x / 8 by omega, show 7 - x.toNat % 8 = (7 - x % 8).toNat by omega]
  rw [hbt]
  clear hbt
  go_enter Tryd.func68, Tryd.ntmps68
  go_wp2
  go_ret
  refine ⟨?_, HBE.out⟩
  simp

/-- What lies in a block that holds an address, in every world that goes on from one. -/
structure AdrAt (w : World) (g : Nat) (v : Int) (l : List Int) : Prop where
  all : ∀ w0, Below w.heap.size w w0 →
    (Instr.loadAt 31 (.pointer (some ⟨g, 0, none⟩))).run Tryd.prog w0 = .ok (.agg (adrV v l)) w0 ∧
    (Instr.loadAt 3 (.pointer (some ⟨g, 0, none⟩))).run Tryd.prog w0 = .ok (.int .i64 v) w0 ∧
    (Instr.loadAt 29 (.pointer (some ⟨g, 1, none⟩))).run Tryd.prog w0 = .ok (.agg (arrV l)) w0
theorem adr_at {w : World} {g : Nat} {v : Int} {l : List Int} (hl : B16 l) (h : w.heap[g]? = some (.cells (adrV v l) 31 (0, 0))) : AdrAt w g v l := by
  refine ⟨fun w0 hb => ?_⟩
  have h0 := blk_below h hb
  have c1 : ∀ i, i < 16 → w0.cell? ⟨g, 1 + i, none⟩ = some (.int .u8 (rd l (i : Int))) := fun i hi => adr_b h0 i (by rw [hl.len]; exact hi)
  exact ⟨load_adr hl (adr_v h0) (fun i hi => by rw [show 0 + 1 + i = 1 + i by omega]; exact c1 i hi), load_int (adr_v h0), load_arr hl c1⟩

set_option maxHeartbeats 1000000 in
theorem rightAddr_any (v : Int) (l : List Int) (w : World) (hl : B16 l) : Calls Tryd.prog 27 #[.agg (adrV v l)] w fun e w' => e = .returned (.bool (rightA v l)) ∧ Below w.heap.size w w' := by
  have hb := blk_new w (.cells (adrV v l) 31)
  have hv := adr_v hb
  have hbe : Below w.heap.size w (w.alloc (.cells (adrV v l) 31)) := below_alloc (Below.refl _ _) _
  have HA := Lib.hid (adr_at hl hb)
  have HBE := Lib.hid hbe
  obtain ⟨cs, hcs⟩ : ∃ cs, adrV v l = cs := ⟨_, rfl⟩
  rw [hcs] at hv HA HBE ⊢
  clear hb hcs hbe
  go_enter Tryd.func27, Tryd.ntmps27
  go_wp2_with fail
  refine (refwidth_any v _).mono ?_
  rintro e w1 ⟨rfl, rfl⟩
  go_wp2_with fail
  clear hv
  have hwl := widthA_le v
  go_loopw [4] (fun i wr => ∃ m : Nat, i = .int .i64 m ∧ Hid (widthA v ≤ m ∧ ∀ j, widthA v ≤ j → j < m → j < 128 → bitA l j = 0) ∧ Hid (Below (w.alloc (.cells cs 31)).heap.size (w.alloc (.cells cs 31)) wr)) (fun i _ => 128 - (intOf i).toNat)
  case atStart => exact ⟨widthA v, rfl, ⟨Nat.le_refl _, fun j h1 h2 => by omega⟩, Below.refl _ _⟩
  case round =>
    obtain ⟨m, rfl, HH, HW⟩ := hrel
    by_cases hlt : m < 128
    · have hld := (HA.out.all wr HW.out).2.2
      have hlt' : (m : Int) < 128 := by omega
      have HLT := Lib.hid hlt
      clear hlt
      go_wp2_with (refine wpList_load_g hld _ rfl rfl (by go_simp) ?_)
      refine (refat_any l m wr hl (by omega) (by omega)).mono ?_
      rintro e w2 ⟨rfl, hb2⟩
      rw [show (m : Int).toNat = m by omega]
      have HW2 := Lib.hid (below_step HW.out hb2)
      clear hb2 hld
      by_cases hbit : bitA l m = 1
      · have hbt : (bitA l m == 1) = true := by simpa using hbit
        have hr : rightA v l = false := by
          unfold rightA
          have : clearA l (widthA v) = false := by
            rw [Bool.eq_false_iff]
            intro h
            have := (clearA_iff l (widthA v)).1 h m HH.out.1 HLT.out
            omega
          rw [this, Bool.and_false]
        have HR := Lib.hid hr
        clear hbit hr
        go_wp2
        go_ret
        rw [HR.out]
        exact ⟨rfl, below_step HBE.out HW2.out⟩
      · have hbt : (bitA l m == 1) = false := by simpa using hbit
        have HZ : Hid (bitA l m = 0) := (bitA_range l m).resolve_right hbit
        clear hbit
        go_wp2_with fail
        go_roundw
        case measure => simp [intOf]; omega
        case rel =>
          refine ⟨m + 1, by go_num, ⟨by have := HH.out.1; omega, fun j h1 h2 h3 => ?_⟩, HW2.out⟩
          by_cases hj : j < m
          · exact HH.out.2 j h1 hj h3
          · rw [show j = m by omega]
            exact HZ.out
    · have hm1 : decide ((m : Int) < 128) = false := decide_eq_false (by omega)
      have hr : rightA v l = decide (0 < widthA v) := by
        unfold rightA
        rw [(clearA_iff l (widthA v)).2 (fun j h1 h2 => HH.out.2 j h1 (by omega) h2), Bool.and_true]
        exact decide_eq_decide.2 ⟨fun h => Nat.pos_of_ne_zero h, fun h => Nat.ne_of_gt h⟩
      have HR := Lib.hid hr
      obtain ⟨n, hn⟩ : ∃ n, widthA v = n := ⟨_, rfl⟩
      rw [hn] at HR
      rw [hn]
      clear hr hlt hwl HH hn
      rcases Nat.eq_zero_or_pos n with h0 | h0
      · subst h0
        go_wp2_with fail
        go_ret
        rw [HR.out]
        exact ⟨rfl, below_step HBE.out HW.out⟩
      · have hd : decide ((0 : Int) < (n : Int)) = true := decide_eq_true (by omega)
        have hd2 : decide (0 < n) = true := decide_eq_true h0
        have HD2 := Lib.hid hd2
        clear hd2 h0
        go_wp2_with fail
        go_ret
        rw [HR.out, HD2.out]
        exact ⟨by simp, below_step HBE.out HW.out⟩
end Go.Proofs.YtihfaknflfmohaaDoor

/- Layer 5 (prefix): Of. -/
namespace Go.Proofs.YtihfaknflfmohaaDoor
open Go.RowKit
set_option linter.unusedVariables false
set_option linter.unusedSimpArgs false
set_option maxRecDepth 4000

end Go.Proofs.YtihfaknflfmohaaDoor

/- The document's answer for layer 5: Of. -/
namespace Go.Proofs.YtihfaknflfmohaaDoor
open Go.RowKit
set_option linter.unusedVariables false
set_option linter.unusedSimpArgs false
set_option maxRecDepth 4000

theorem pfx_byte {w : World} {g : Nat} {t : TypeId} {v b : Int} {l : List Int} (hl : B16 l) (h : w.heap[g]? = some (.cells (pfxV v l b) t (0, 0))) (i : Nat) (hi : i < 16) : w.cell? ⟨g, 1 + i, none⟩ = some (.int .u8 (rd l (i : Int))) := by
  rw [blk_cell h, Nat.add_comm]
  unfold pfxV
  rw [List.getElem?_toArray, List.getElem?_cons_succ, List.getElem?_append_left (by simp [nums, hl.len]; exact hi)]
  exact nums_get .u8 l i (by rw [hl.len]; exact hi)
end Go.Proofs.YtihfaknflfmohaaDoor

/- Slices of int of the call's own. -/
namespace Go.Proofs.YtihfaknflfmohaaDoor
open Go.RowKit
set_option linter.unusedVariables false
set_option linter.unusedSimpArgs false
set_option maxRecDepth 4000

structure RI (w : World) (A : Option Addr) (n c : Nat) (xs : List Int) : Prop where
  rv : RV w 1 A n c (nums .i64 xs)
structure OI (w : World) (base : Nat) (A : Option Addr) (n c : Nat) (xs : List Int) : Prop where
  ov : OV w base 3 1 A n c (nums .i64 xs)
section
variable {w w1 : World} {base base' : Nat} {A : Option Addr} {n c : Nat} {xs : List Int}
theorem RI.len (h : RI w A n c xs) : xs.length = n := by have := h.rv.len; simpa [nums] using this
theorem RI.cap (h : RI w A n c xs) : n ≤ c := h.rv.cap
theorem RI.small (h : RI w A n c xs) : n ≤ 281474976710656 := h.rv.small
theorem RI.at_ (h : RI w A n c xs) (i : Int) (h0 : 0 ≤ i) (h1 : i < n) : ∃ ad, A = some ad ∧ w.cell? (ad.add i.toNat) = some (.int .i64 (rd xs i)) := by
  obtain ⟨ad, e, hc⟩ := h.rv.cells (by omega)
  exact ⟨ad, e, hc _ _ (nums_get _ _ _ (by have := h.len; omega))⟩
theorem RI.below (h : RI w A n c xs) (hb : Below w.heap.size w w1) : RI w1 A n c xs := ⟨h.rv.below hb⟩
theorem RI.grown (h : RI w A n c xs) {row : Option Nat} (hg : w.grownBy w1 row) (hne : ∀ ad, A = some ad → some ad.block ≠ row) : RI w1 A n c xs := ⟨h.rv.grown hg hne⟩
theorem OI.len (h : OI w base A n c xs) : xs.length = n := by have := h.ov.len; simpa [nums] using this
theorem OI.cap (h : OI w base A n c xs) : n ≤ c := h.ov.cap
theorem OI.small (h : OI w base A n c xs) : n ≤ 281474976710656 := h.ov.small
theorem OI.base_ (h : OI w base A n c xs) : ∀ ad, A = some ad → base ≤ ad.block := h.ov.base_
theorem OI.lt (h : OI w base A n c xs) : ∀ ad, A = some ad → ad.block < w.heap.size := h.ov.lt
theorem OI.reads (h : OI w base A n c xs) : RI w A n c xs := ⟨h.ov.reads⟩
theorem OI.lower (h : OI w base A n c xs) (hb : base' ≤ base) : OI w base' A n c xs := ⟨h.ov.lower hb⟩
theorem OI.grown (h : OI w base A n c xs) {row : Option Nat} (hg : w.grownBy w1 row) (hne : ∀ ad, A = some ad → some ad.block ≠ row) : OI w1 base A n c xs := ⟨h.ov.grown hg hne⟩
theorem OI.below (h : OI w base A n c xs) (hb : Below w.heap.size w w1) : OI w1 base A n c xs := ⟨h.ov.below hb⟩
end
theorem OI.new (W : World) (base : Nat) (xs : List Int) (hb : base ≤ W.heap.size) (hn : xs.length ≤ 281474976710656) :
    OI (W.alloc (.cells (nums .i64 xs).toArray 3)) base (some ⟨W.heap.size, 0, none⟩) xs.length xs.length xs :=
  ⟨by have := OV.new W base 3 1 (nums .i64 xs).toArray xs.length hb (by simp [nums]) hn; simpa using this⟩
theorem RI.one (W : World) (y : Int) : RI (W.alloc (.cells #[.int .i64 y] 3)) (some ⟨W.heap.size, 0, none⟩) 1 1 [y] := (OI.new W 0 [y] (by omega) (by simp)).reads
theorem info_i64 : (Tryd.prog.info? 3).map (fun i => (i.zero, i.size, i.bytes)) = some (some (.int .i64 0), 1, 8) := by kernel_rfl
theorem run_append_ints (W : World) (base : Nat) (ty : TypeId) (A : Option Addr) (n c : Nat) (xs : List Int) (A2 : Option Addr) (m c2 : Nat) (ys : List Int)
    (HO : OI W base A n c xs) (HR : RI W A2 m c2 ys) (hbase : base ≤ W.heap.size) (hl : (n + m) * 8 ≤ 140737488355328) :
    ∃ A' c' w', (Builtin.append_ #[146, 146] ty #[.slice A n c, .slice A2 m c2]).run Tryd.prog W = .ok (.slice A' (n + m) c') w' ∧
      OI w' base A' (n + m) c' (xs ++ ys) ∧ W.grownBy w' ((Value.slice A n c).ownBlock) ∧ (A' = A ∨ ∀ ad, A' = some ad → W.heap.size ≤ ad.block) := by
  obtain ⟨A', c', w', h1, h2, h3, h4⟩ := run_append_rows W base 146 ty 3 1 8 (.int .i64 0) A n c (nums .i64 xs) A2 m c2 (nums .i64 ys) Tryd.underlying146 info_i64 rfl (by omega) (by omega) HO.ov HR.rv (nums_one _ _) hbase hl
  exact ⟨A', c', w', h1, ⟨by rw [nums_append]; exact h2⟩, h3, h4⟩
theorem wpList_append_ints {ops : Array Oper} {rest : List Oper} {o : Oper} {a : Act} {Q : Exit → Act → World → Prop} {W : World} (hgd : o.guard = none) (s x : Operand) (ho : o.op = .call { callee := .builtin .append, args := #[s, x], argTypes := #[146, 146] })
    {base : Nat} {A : Option Addr} {n c : Nat} {xs : List Int} {A2 : Option Addr} {m c2 : Nat} {ys : List Int} (hs : a.eval s = .slice A n c) (hx : a.eval x = .slice A2 m c2)
    (HO : OI W base A n c xs) (HR : RI W A2 m c2 ys) (hbase : base ≤ W.heap.size) (hl : (n + m) * 8 ≤ 140737488355328)
    (h : ∀ A' c' w', OI w' base A' (n + m) c' (xs ++ ys) → W.grownBy w' ((Value.slice A n c).ownBlock) → (A' = A ∨ ∀ ad, A' = some ad → W.heap.size ≤ ad.block) → wpList Tryd.prog ops Q rest (a.put o.dst (.slice A' (n + m) c')) w') :
    wpList Tryd.prog ops Q (o :: rest) a W := by
  obtain ⟨A', c', w', h1, h2, h3, h4⟩ := run_append_ints W base o.type A n c xs A2 m c2 ys HO HR hbase hl
  exact wpList_exec hgd (exec_append s x _ ho hs hx h1) (h _ _ _ h2 h3 h4)
end Go.Proofs.YtihfaknflfmohaaDoor

/- Layer 5 (prefix): Compare. -/
namespace Go.Proofs.YtihfaknflfmohaaDoor
open Go.RowKit
set_option linter.unusedVariables false
set_option linter.unusedSimpArgs false
set_option maxRecDepth 4000

theorem cmpint_any (x y : Int) (w : World) : Calls Tryd.prog 121 #[.int .i64 x, .int .i64 y] w fun e w' => e = .returned (.int .i64 (cmpN x y)) ∧ w = w' := by
  unfold cmpN
  by_cases h1 : x < y
  · rw [if_pos h1]
    go_enter Tryd.func121, Tryd.ntmps121
    go_wp2
    go_ret
    exact ⟨rfl, rfl⟩
  · rw [if_neg h1]
    by_cases h2 : y < x
    · rw [if_pos h2]
      go_enter Tryd.func121, Tryd.ntmps121
      go_wp2
      go_ret
      exact ⟨rfl, rfl⟩
    · rw [if_neg h2]
      obtain rfl : x = y := by omega
      clear h1 h2
      go_enter Tryd.func121, Tryd.ntmps121
      go_wp2
      go_ret
      exact ⟨rfl, rfl⟩
def orI : List Int → Int
  | [] => 0
  | x :: xs => if x ≠ 0 then x else orI xs
theorem orI_skip : ∀ (xs : List Int) (k : Nat), (∀ j : Nat, j < k → rd xs (j : Int) = 0) → orI xs = orI (xs.drop k)
  | _, 0, _ => rfl
  | [], _ + 1, _ => by simp
  | x :: xs, k + 1, h => by
    have h0 := h 0 (by omega)
    simp [rd] at h0
    rw [List.drop_succ_cons, ← orI_skip xs k (fun j hj => by have := h (j + 1) (by omega); simpa [rd] using this)]
    simp [orI, h0]
theorem orI_at (xs : List Int) (k : Nat) (hk : k < xs.length) (h : ∀ j : Nat, j < k → rd xs (j : Int) = 0) (hn : rd xs (k : Int) ≠ 0) : orI xs = rd xs (k : Int) := by
  rw [orI_skip xs k h, List.drop_eq_getElem_cons hk]
  have e : rd xs (k : Int) = xs[k] := by simp [rd, List.getD_eq_getElem?_getD, hk]
  rw [e] at hn ⊢
  simp [orI, hn]
theorem or_any (A : Option Addr) (n c : Nat) (xs : List Int) (w : World) (hr : RI w A n c xs) : Calls Tryd.prog 120 #[.slice A n c] w fun e w' => e = .returned (.int .i64 (orI xs)) ∧ w = w' := by
  have hn := hr.small
  have HL := Lib.hid hr.len
  have HR := Lib.hid hr
  clear hr
  go_enter Tryd.func120, Tryd.ntmps120
  go_wp2
  go_loop [5, 8] (fun _ i => ∃ k : Nat, i = .int .i64 k ∧ k ≤ n ∧ Hid (∀ j : Nat, j < k → rd xs (j : Int) = 0)) (fun _ i => n - (intOf i).toNat)
  case atStart => exact ⟨0, rfl, Nat.zero_le _, fun j h => by omega⟩
  case round =>
    obtain ⟨k, rfl, hk, HH⟩ := hrel
    by_cases hlt : k < n
    · obtain ⟨ad, rfl, hc⟩ := HR.out.at_ k (by omega) (by omega)
      have hc' : w.cell? (ad.add k) = some (.int .i64 (rd xs k)) := hc
      clear hc
      by_cases h0 : rd xs k = 0
      · have hb : (rd xs k != 0) = false := by simp [h0]
        have H0 := Lib.hid h0
        clear h0
        go_wp2
        go_round
        case measure => simp [intOf]; omega
        case rel =>
          refine ⟨k + 1, by go_num, by omega, fun j hj => ?_⟩
          by_cases hj' : j < k
          · exact HH.out j hj'
          · rw [show j = k by omega]; exact H0.out
      · have hb : (rd xs k != 0) = true := by simpa using h0
        have HE := Lib.hid (orI_at xs k (by rw [HL.out]; exact hlt) HH.out h0)
        clear h0
        go_wp2
        go_ret
        rw [HE.out]
        exact ⟨rfl, rfl⟩
    · obtain rfl : k = n := by omega
      have HE := Lib.hid (show orI xs = 0 by rw [orI_skip xs k HH.out, List.drop_of_length_le (by rw [HL.out]; exact Nat.le_refl _)]; rfl)
      clear hlt
      go_wp2
      go_ret
      rw [HE.out]
      exact ⟨rfl, rfl⟩

theorem rb_pfx {w : World} {g : Nat} {t : TypeId} {v b : Int} {l : List Int} (hl : B16 l) (h : w.heap[g]? = some (.cells (pfxV v l b) t (0, 0))) : RB w (some ⟨g, 1, none⟩) 16 16 l :=
  ⟨⟨by simp [nums, hl.len], Nat.le_refl _, by omega, fun _ => ⟨_, rfl, fun j u hj => by
    have hlt := (List.getElem?_eq_some_iff.1 hj).1
    simp only [nums, List.length_map, hl.len] at hlt
    rw [nums_get _ _ _ (by rw [hl.len]; exact hlt)] at hj
    rw [add_spot _ rfl, ← hj]
    exact pfx_byte hl h j hlt⟩⟩, hl.rng⟩
theorem cmp_or (p q : Pfx) (hp : B16 p.l) (hq : B16 q.l) : p.cmp q = orI [cmpN p.v q.v, cmpI p.l q.l, cmpN p.b q.b] := by
  rw [p.cmp_eq q hp hq]
  simp only [orI]
  split
  · rfl
  · split
    · rfl
    · split
      · rfl
      · omega

set_option maxHeartbeats 2000000 in
theorem compare_any (p q : Pfx) (w : World) (hp : B16 p.l) (hq : B16 q.l) : Calls Tryd.prog 103 #[.agg (pfxV p.v p.l p.b), .agg (pfxV q.v q.l q.b)] w fun e w' => e = .returned (.int .i64 (p.cmp q)) ∧ Below w.heap.size w w' := by
  have hblk1 := blk_new w (.cells (pfxV p.v p.l p.b) 36)
  have hbel1 : Below w.heap.size w (w.alloc (.cells (pfxV p.v p.l p.b) 36)) := below_alloc (Below.refl _ _) _
  have hblk2 := blk_new (w.alloc (.cells (pfxV p.v p.l p.b) 36)) (.cells (pfxV q.v q.l q.b) 36)
  have hbel2 : Below w.heap.size w ((w.alloc (.cells (pfxV p.v p.l p.b) 36)).alloc (.cells (pfxV q.v q.l q.b) 36)) := below_alloc (hbel1) _
  rw [show (w.alloc (.cells (pfxV p.v p.l p.b) 36)).heap.size = w.heap.size + 1 by simp] at hblk2
  replace hblk1 := blk_below hblk1 (below_alloc (Below.refl _ _) (.cells (pfxV q.v q.l q.b) 36))
  have HP1 := Lib.hid (pfx_at hp hblk1)
  have HBK1 := Lib.hid hblk1
  have HP2 := Lib.hid (pfx_at hq hblk2)
  have HBK2 := Lib.hid hblk2
  have HBE := Lib.hid hbel2
  obtain ⟨cs1, hcs1⟩ : ∃ cs, pfxV p.v p.l p.b = cs := ⟨_, rfl⟩
  obtain ⟨cs2, hcs2⟩ : ∃ cs, pfxV q.v q.l q.b = cs := ⟨_, rfl⟩
  simp only [hcs1, hcs2] at HBE HP1 HP2 HBK1 HBK2 ⊢
  have HC1 := Lib.hid hcs1
  have HC2 := Lib.hid hcs2
  clear hcs1 hblk1 hbel1 hcs2 hblk2 hbel2
  have HE := Lib.hid (cmp_or p q hp hq)
  go_enter Tryd.func103, Tryd.ntmps103
  go_wp2_with fail
  refine wp_region_mix (fun w0 => Below ((w.alloc (.cells cs1 36)).alloc (.cells cs2 36)).heap.size ((w.alloc (.cells cs1 36)).alloc (.cells cs2 36)) w0) [(0, 0), (1, 0), (2, 0), (3, 0), (4, 0), (5, 0), (7, 0), (8, 0), (9, 0), (10, 0), (11, 0), (12, 0), (14, 0), (15, 0), (16, 0), (17, 0), (6, 2), (13, 2), (18, 2), (19, 2), (20, 2), (21, 0)] (by kernel_rfl) (by kernel_rfl) (below_drew1 _) ?_
  simp only [List.map_cons, List.map_nil]
  iterate 2 (refine wpO_step0 rfl rfl (fun K hK => ?_); go_simp; refine hK _ _ ?_; clear hK K)
  refine wpO_loadW (t := 3) (ad := ⟨w.heap.size, 0, none⟩) rfl rfl ?hw rfl rfl ((fun w0 hS => (HP1.out.all w0 hS).2.2.1)) ?_
  case hw => go_simp
  iterate 2 (refine wpO_step0 rfl rfl (fun K hK => ?_); go_simp; refine hK _ _ ?_; clear hK K)
  refine wpO_loadW (t := 3) (ad := ⟨(w.heap.size+1), 0, none⟩) rfl rfl ?hw rfl rfl ((fun w0 hS => (HP2.out.all w0 hS).2.2.1)) ?_
  case hw => go_simp
  iterate 7 (refine wpO_step0 rfl rfl (fun K hK => ?_); go_simp; refine hK _ _ ?_; clear hK K)
  refine wpO_loadW (t := 3) (ad := ⟨w.heap.size, 17, none⟩) rfl rfl ?hw rfl rfl ((fun w0 hS => (HP1.out.all w0 hS).2.1)) ?_
  case hw => go_simp
  iterate 1 (refine wpO_step0 rfl rfl (fun K hK => ?_); go_simp; refine hK _ _ ?_; clear hK K)
  refine wpO_loadW (t := 3) (ad := ⟨(w.heap.size+1), 17, none⟩) rfl rfl ?hw rfl rfl ((fun w0 hS => (HP2.out.all w0 hS).2.1)) ?_
  case hw => go_simp
  refine wpO_step2 rfl rfl (below_drew1 _) (fun K hK => ?_)
  go_simp
  refine (cmpint_any p.v q.v _).mono ?_
  rintro e w1 ⟨rfl, rfl⟩
  refine hK _ _ ⟨below_drew1 _, ?_⟩
  clear hK K
  refine wpO_step2 rfl rfl (below_drew1 _) (fun K hK => ?_)
  go_simp
  refine (bcompare_any (some ⟨w.heap.size, 1, none⟩) 16 16 p.l (some ⟨w.heap.size + 1, 1, none⟩) 16 16 q.l _ (rb_pfx hp (by rw [HC1.out]; exact HBK1.out)) (rb_pfx hq (by rw [HC2.out]; exact HBK2.out))).mono ?_
  rintro e w1 ⟨rfl, rfl⟩
  refine hK _ _ ⟨below_drew1 _, ?_⟩
  clear hK K
  refine wpO_step2 rfl rfl (below_drew1 _) (fun K hK => ?_)
  go_simp
  refine (cmpint_any p.b q.b _).mono ?_
  rintro e w1 ⟨rfl, rfl⟩
  refine hK _ _ ⟨below_drew1 _, ?_⟩
  clear hK K
  obtain ⟨x0, h0⟩ : ∃ x, cmpN p.v q.v = x := ⟨_, rfl⟩
  obtain ⟨x1, h1⟩ : ∃ x, cmpI p.l q.l = x := ⟨_, rfl⟩
  obtain ⟨x2, h2⟩ : ∃ x, cmpN p.b q.b = x := ⟨_, rfl⟩
  rw [h0, h1, h2] at HE
  rw [h0, h1, h2]
  clear h0 h1 h2
  refine wpO_step2 rfl rfl (below_drew1 _) (fun K hK => ?_)
  go_simp
  have hri := (OI.new ((w.alloc (.cells cs1 36)).alloc (.cells cs2 36)) 0 [x0, x1, x2] (by omega) (by simp)).reads.below (below_drew1 _)
  rw [show ((w.alloc (.cells cs1 36)).alloc (.cells cs2 36)).heap.size = w.heap.size + 1 + 1 by simp] at hri
  have HRI := Lib.hid hri
  clear hri
  refine hK _ _ ⟨(below_alloc (Below.refl _ _) _).drew, ?_⟩
  clear hK K
  refine wpO_step2 rfl rfl ((below_alloc (Below.refl _ _) _).drew) (fun K hK => ?_)
  go_simp
  refine (or_any _ 3 3 [x0, x1, x2] _ HRI.out).mono ?_
  rintro e w1 ⟨rfl, rfl⟩
  refine hK _ _ ⟨(below_alloc (Below.refl _ _) _).drew, ?_⟩
  clear hK K
  iterate 1 (refine wpO_step0 rfl rfl (fun K hK => ?_); go_simp; refine hK _ _ ?_; clear hK K)
  refine wpO_nil ?_
  go_wp2
  go_ret
  rw [HE.out]
  exact ⟨rfl, below_step HBE.out (below_alloc (Below.refl _ _) _).drew⟩

/-- The document's Compare. -/
theorem cmpI_rd : ∀ (xs ys : List Int) (k : Nat), xs.length = ys.length → (∀ j : Nat, j < k → rd xs (j : Int) = rd ys (j : Int)) → cmpI xs ys = cmpI (xs.drop k) (ys.drop k)
  | _, _, 0, _, _ => rfl
  | [], [], k + 1, _, _ => by simp
  | [], _ :: _, _, h, _ => by simp at h
  | _ :: _, [], _, h, _ => by simp at h
  | x :: xs, y :: ys, k + 1, h, hk => by
    have h0 := hk 0 (by omega)
    simp [rd] at h0
    subst h0
    rw [List.drop_succ_cons, List.drop_succ_cons, ← cmpI_rd xs ys k (by simpa using h) (fun j hj => by have := hk (j + 1) (by omega); simpa [rd] using this)]
    simp [cmpI]
theorem cmpI_at (xs ys : List Int) (k : Nat) (hl : xs.length = ys.length) (hk : k < xs.length) (h : ∀ j : Nat, j < k → rd xs (j : Int) = rd ys (j : Int)) (hn : rd xs (k : Int) ≠ rd ys (k : Int)) : cmpI xs ys = if rd xs (k : Int) < rd ys (k : Int) then -1 else 1 := by
  rw [cmpI_rd xs ys k hl h, List.drop_eq_getElem_cons hk, List.drop_eq_getElem_cons (show k < ys.length by omega)]
  have e1 : rd xs (k : Int) = xs[k] := by simp [rd, List.getD_eq_getElem?_getD, hk]
  have e2 : rd ys (k : Int) = ys[k]'(by omega) := by simp [rd, List.getD_eq_getElem?_getD, show k < ys.length by omega]
  rw [e1, e2] at hn ⊢
  generalize xs[k] = x at hn ⊢
  generalize ys[k]'(by omega) = y at hn ⊢
  simp only [cmpI]
  by_cases h1 : x < y
  · rw [if_pos h1, if_pos h1]
  · rw [if_neg h1, if_neg h1, if_pos (by omega)]
theorem cmpI_same (xs ys : List Int) (hl : xs.length = ys.length) (h : ∀ j : Nat, j < xs.length → rd xs (j : Int) = rd ys (j : Int)) : cmpI xs ys = 0 := by
  rw [cmpI_rd xs ys xs.length hl h, List.drop_of_length_le (Nat.le_refl _), List.drop_of_length_le (by omega)]
  rfl
theorem row_take (p : Pfx) (hp : B16 p.l) (k : Nat) (hk : k < 16) : (p.row).take (k + 2) = (p.row).take (k + 1) ++ [rd p.l (k : Int)] := by
  have e : (p.row).take (k + 1 + 1) = (p.row).take (k + 1) ++ [(p.row)[k + 1]'(by simp [Pfx.row, hp.len]; omega)] := List.take_succ_eq_append_getElem (by simp [Pfx.row, hp.len]; omega)
  rw [e]
  congr 2
  simp only [Pfx.row, List.getElem_cons_succ]
  rw [List.getElem_append_left (by rw [hp.len]; exact hk)]
  simp [rd, List.getD_eq_getElem?_getD, hp.len, hk]
theorem row_len (p : Pfx) (hp : B16 p.l) : p.row.length = 18 := by simp [Pfx.row, hp.len]
theorem row_17 (p : Pfx) (hp : B16 p.l) : p.row.take 17 ++ [p.b] = p.row := by
  simp [Pfx.row, hp.len, List.take_append]

end Go.Proofs.YtihfaknflfmohaaDoor

/- Layer 9 (table): against, hop, and the closure of place. -/
namespace Go.Proofs.YtihfaknflfmohaaDoor
open Go.RowKit
set_option linter.unusedVariables false
set_option linter.unusedSimpArgs false
set_option maxRecDepth 4000

theorem against_any (r : Row) (p : Pfx) (w : World) (hr : r.fits) (hp : B16 p.l) : Calls Tryd.prog 64 #[.agg (rowV r), .agg (pfxV p.v p.l p.b)] w fun e w' => e = .returned (.int .i64 (r.p.cmp p)) ∧ Below w.heap.size w w' := by
  have hblk1 := blk_new w (.cells (rowV r) 112)
  have hbel1 : Below w.heap.size w (w.alloc (.cells (rowV r) 112)) := below_alloc (Below.refl _ _) _
  have hblk2 := blk_new (w.alloc (.cells (rowV r) 112)) (.cells (pfxV p.v p.l p.b) 36)
  have hbel2 : Below w.heap.size w ((w.alloc (.cells (rowV r) 112)).alloc (.cells (pfxV p.v p.l p.b) 36)) := below_alloc (hbel1) _
  rw [show (w.alloc (.cells (rowV r) 112)).heap.size = w.heap.size + 1 by simp] at hblk2
  replace hblk1 := blk_below hblk1 (below_alloc (Below.refl _ _) (.cells (pfxV p.v p.l p.b) 36))
  have HP1 := Lib.hid (row_at hr hblk1)
  have HBK1 := Lib.hid hblk1
  have HP2 := Lib.hid (pfx_at hp hblk2)
  have HBK2 := Lib.hid hblk2
  have HBE := Lib.hid hbel2
  obtain ⟨cs1, hcs1⟩ : ∃ cs, rowV r = cs := ⟨_, rfl⟩
  obtain ⟨cs2, hcs2⟩ : ∃ cs, pfxV p.v p.l p.b = cs := ⟨_, rfl⟩
  simp only [hcs1, hcs2] at HBE HP1 HP2 HBK1 HBK2 ⊢
  have HC1 := Lib.hid hcs1
  have HC2 := Lib.hid hcs2
  clear hcs1 hblk1 hbel1 hcs2 hblk2 hbel2
  have hl1 := (HP1.out.all _ (Below.refl _ _)).pfx
  have hl2 := (HP2.out.all _ (Below.refl _ _)).2.2.2.2
  go_enter Tryd.func64, Tryd.ntmps64
  go_wp2_with (first | ((with_reducible show wpList _ _ _ (Oper.mk _ (Op.load _ _) _ _ _ _ :: _) _ _); refine wpList_load_g hl1 _ rfl rfl (by go_simp) ?_) | ((with_reducible show wpList _ _ _ (Oper.mk _ (Op.load _ _) _ _ _ _ :: _) _ _); refine wpList_load_g hl2 _ rfl rfl (by go_simp) ?_))
  refine (compare_any r.p p _ hr hp).mono ?_
  rintro e w1 ⟨rfl, hbb1⟩
  have HB1 := Lib.hid hbb1
  clear hbb1 hl1 hl2
  go_wp2
  go_ret
  exact ⟨rfl, below_step HBE.out HB1.out⟩
def hopB (n : Int) : Bool := decide (1 ≤ n) && decide (n ≤ 255)
theorem hop_any (n : Int) (w : World) : Calls Tryd.prog 63 #[.int .i64 n] w fun e w' => e = .returned (.bool (hopB n)) ∧ w = w' := by
  by_cases h1 : 1 ≤ n
  · by_cases h2 : n ≤ 255
    · have HE := Lib.hid (show hopB n = true by unfold hopB; simp [h1, h2])
      go_enter Tryd.func63, Tryd.ntmps63
      go_wp2
      go_ret
      rw [HE.out]
      exact ⟨rfl, rfl⟩
    · have HE := Lib.hid (show hopB n = false by unfold hopB; simp [h2])
      have h2' : decide (n ≤ 255) = false := decide_eq_false h2
      clear h2
      go_enter Tryd.func63, Tryd.ntmps63
      go_wp2
      go_ret
      rw [HE.out]
      exact ⟨rfl, rfl⟩
  · have HE := Lib.hid (show hopB n = false by unfold hopB; simp [h1])
    have h1' : decide (1 ≤ n) = false := decide_eq_false h1
    clear h1
    go_enter Tryd.func63, Tryd.ntmps63
    go_wp2
    go_ret
    rw [HE.out]
    exact ⟨rfl, rfl⟩
end Go.Proofs.YtihfaknflfmohaaDoor

/- Layer 9 (table): the place of a prefix. -/
namespace Go.Proofs.YtihfaknflfmohaaDoor
open Go.RowKit
set_option linter.unusedVariables false
set_option linter.unusedSimpArgs false
set_option maxRecDepth 4000

end Go.Proofs.YtihfaknflfmohaaDoor

/- Layer 9 (table): Check. -/
namespace Go.Proofs.YtihfaknflfmohaaDoor
open Go.RowKit
set_option linter.unusedVariables false
set_option linter.unusedSimpArgs false
set_option maxRecDepth 4000

theorem store_row_fit {cs : Array Value} {r : Row} (hf : r.fits) (h : cs.size = 19) : 0 + (rowV r).size ≤ cs.size := by rw [rowV_size hf, h]; omega
theorem splice_row {cs : Array Value} {r : Row} (hf : r.fits) (h : cs.size = 19) : splice cs 0 (rowV r).toList = rowV r := splice_all _ _ (by rw [Array.length_toList, rowV_size hf, h])
def errT (t : List Row) : Int := if tabB t then 0 else 190
set_option maxHeartbeats 4000000 in
theorem tcheck_any (A : Option Addr) (n c : Nat) (t : List Row) (w : World) (hL : Laid w) (ht : RT w A n c t) (hn : n ≤ 100000) : Calls Tryd.prog 25 #[.agg (tabV A n c)] w fun e w' => e = .returned (.int .i64 (errT t)) ∧ Below w.heap.size w w' := by
  have hblk1 := blk_new w (.cells (tabV A n c) 28)
  have hbel1 : Below w.heap.size w (w.alloc (.cells (tabV A n c) 28)) := below_alloc (Below.refl _ _) _
  have HP1 := Lib.hid (tab_at hblk1)
  have HBK1 := Lib.hid hblk1
  have HBE := Lib.hid hbel1
  have HL := Lib.hid (hL.below HBE.out)
  obtain ⟨cs1, hcs1⟩ : ∃ cs, tabV A n c = cs := ⟨_, rfl⟩
  simp only [hcs1] at HBE HL HP1 HBK1 ⊢
  have HC1 := Lib.hid hcs1
  clear hL hcs1 hblk1 hbel1
  have HT := Lib.hid ht
  have hl1 := (HP1.out.all _ (Below.refl _ _)).2
  clear ht
  go_enter Tryd.func25, Tryd.ntmps25
  go_wp2_with ((with_reducible show wpList _ _ _ (Oper.mk _ (Op.load _ _) _ _ _ _ :: _) _ _); refine wpList_load_g hl1 _ rfl rfl (by go_simp) ?_)
  clear hl1
  go_loopw [8] (fun x wr => ∃ i : Nat, x = .int .i64 i ∧ Hid (i ≤ n ∧ i ≤ 40 ∧ (∀ k, k < i → (rowAt t k).okB = true) ∧ (∀ k, k + 1 < i → (rowAt t k).p.cmp (rowAt t (k + 1)).p < 0) ∧ Below (w.alloc (.cells cs1 28)).heap.size (w.alloc (.cells cs1 28)) wr)) (fun x _ => n - (intOf x).toNat)
  case atStart => exact ⟨0, rfl, Nat.zero_le _, by omega, fun k h => by omega, fun k h => by omega, Below.refl _ _⟩
  case round =>
    obtain ⟨i, rfl, HH⟩ := hrel
    by_cases hlt : i < n
    · have hlt' : (i : Int) < n := by omega
      obtain ⟨b, o, rfl, hc⟩ := HT.out.at_ (by omega)
      have HC := Lib.hid hc
      have HF := Lib.hid (HT.out.fits_at hlt)
      have hrow := (rowLd_of HF.out ((hc i hlt).below (below_step HBE.out HH.out.2.2.2.2))).row
      clear hc
      go_wp2_with (first | ((with_reducible show wpList _ _ _ (Oper.mk _ (Op.load _ _) _ _ _ _ :: _) _ _); refine wpList_load_g hrow _ rfl rfl (by go_simp) ?_) | (refine wpList_store_blk (blk_new wr _) 38 0 (rowV (rowAt t i)) (store_row_fit HF.out rfl) (info_row HF.out) (rowV_one _) _ _ rfl rfl rfl rfl ?_; intro w2 hg hs hb; rw [splice_row HF.out rfl] at hb; have H2 := Lib.hid (And.intro (below_grown (below_alloc (Below.refl wr.heap.size wr) _) hg (Nat.le_refl _)) (row_at HF.out hb)); clear hg hs hb))
      clear hrow
      have HBW := Lib.hid (below_step HH.out.2.2.2.2 H2.out.1)
      by_cases h40 : i = 40
      · have HE := Lib.hid (show errT t = 190 by
          unfold errT
          rw [if_neg]
          intro h
          have := ((tabB_iff t).1 h).1
          rw [HT.out.len] at this
          omega)
        have h40' : ((i : Int) == 40) = true := by simp; omega
        clear h40
        refine wp_region_mix (fun w0 => Below (w2).heap.size (w2) w0) [(0, 0), (1, 0), (2, 0), (3, 0), (4, 0), (5, 2), (6, 0), (7, 0), (8, 0), (9, 0), (10, 0), (11, 0), (12, 0), (13, 0), (14, 0), (15, 0), (16, 0), (17, 0), (18, 0), (19, 0), (20, 0), (21, 0), (22, 0), (23, 0), (24, 0), (25, 0), (26, 2), (27, 0), (28, 0), (29, 0)] (by kernel_rfl) (by kernel_rfl) (below_drew1 _) ?_
        simp only [List.map_cons, List.map_nil]
        repeat first | (refine wpO_step0 rfl rfl (fun K hK => ?_); go_simp; refine hK _ _ ?_; clear hK K) | (refine wpO_step2 rfl rfl (below_drew1 _) (fun K hK => ?_); go_simp; refine hK _ _ ⟨below_drew1 _, ?_⟩; clear hK K)
        refine wpO_nil ?_
        go_wp2
        go_ret
        rw [HE.out]
        exact ⟨rfl, below_step HBE.out (below_step HBW.out (below_drew1 _))⟩
      · have h40' : ((i : Int) == 40) = false := by simp; omega
        have HI := Lib.hid h40
        clear h40
        refine wp_region_mix (fun w0 => Below (w2).heap.size (w2) w0) [(0, 0), (1, 0), (2, 0), (3, 0), (4, 0), (5, 2), (6, 0), (7, 0), (8, 0), (9, 0), (10, 0), (11, 0), (12, 0), (13, 0), (14, 0), (15, 0), (16, 0), (17, 0), (18, 0), (19, 0), (20, 0), (21, 0), (22, 0), (23, 0), (24, 0), (25, 0), (26, 2), (27, 0), (28, 0), (29, 0)] (by kernel_rfl) (by kernel_rfl) (below_drew1 _) ?_
        simp only [List.map_cons, List.map_nil]
        iterate 4 (refine wpO_step0 rfl rfl (fun K hK => ?_); go_simp; refine hK _ _ ?_; clear hK K)
        refine wpO_loadW (t := 36) (ad := ⟨wr.heap.size, 0, none⟩) rfl rfl ?hw rfl rfl ((fun w0 hS => (H2.out.2.all w0 hS).pfx)) ?_
        case hw => go_simp
        refine wpO_step2 rfl rfl (below_drew1 _) (fun K hK => ?_)
        go_simp
        refine (check_any (rowAt t i).p.v (rowAt t i).p.l (rowAt t i).p.b _ (HL.out.below (below_step HBW.out (below_drew1 _))) HF.out).mono ?_
        rintro e w3 ⟨rfl, hbb3⟩
        have HB3 := Lib.hid (below_step (below_drew1 _) hbb3)
        clear hbb3
        refine hK _ _ ⟨HB3.out, ?_⟩
        clear hK K
        have hNO : ∀ P : Prop, (errT t = 190 ↔ tabB t = false) := fun _ => by unfold errT; cases tabB t <;> simp
        cases hR : rightP (rowAt t i).p.v (rowAt t i).p.l (rowAt t i).p.b with
        | false =>
          have HE := Lib.hid (show errT t = 190 by
            unfold errT
            rw [if_neg]
            intro h
            have h2 := ((okB_iff _).1 (((tabB_iff t).1 h).2.1 i (by rw [HT.out.len]; exact hlt))).1
            have h3 : (rowAt t i).p.right = false := hR
            rw [h3] at h2
            cases h2)
          have hE : errP (rowAt t i).p.v (rowAt t i).p.l (rowAt t i).p.b = 151 := by unfold errP; rw [hR]; rfl
          rw [hE]
          clear hE hR hNO
          repeat first | (refine wpO_step0 rfl rfl (fun K hK => ?_); go_simp; refine hK _ _ ?_; clear hK K) | (refine wpO_step2 rfl rfl (HB3.out) (fun K hK => ?_); go_simp; refine hK _ _ ⟨HB3.out, ?_⟩; clear hK K)
          refine wpO_nil ?_
          go_wp2
          go_ret
          rw [HE.out]
          exact ⟨rfl, below_step HBE.out (below_step HBW.out HB3.out)⟩
        | true =>
          have HR := Lib.hid (show (rowAt t i).p.right = true from hR)
          have hE : errP (rowAt t i).p.v (rowAt t i).p.l (rowAt t i).p.b = 0 := by unfold errP; rw [hR]; rfl
          rw [hE]
          clear hE hR hNO
          iterate 4 (refine wpO_step0 rfl rfl (fun K hK => ?_); go_simp; refine hK _ _ ?_; clear hK K)
          refine wpO_loadW (t := 3) (ad := ⟨wr.heap.size, 18, none⟩) rfl rfl ?hw rfl rfl ((fun w0 hS => (H2.out.2.all w0 hS).hop)) ?_
          case hw => go_simp
          refine wpO_quiet rfl rfl ?hw Tryd.func63 (by kernel_rfl) (by kernel_rfl) rfl rfl (fun w0 hS => hop_any (rowAt t i).h w0) ?_
          case hw => go_simp
          cases hH : hopB (rowAt t i).h with
          | false =>
            have HE := Lib.hid (show errT t = 190 by
              unfold errT
              rw [if_neg]
              intro h
              have h2 := ((okB_iff _).1 (((tabB_iff t).1 h).2.1 i (by rw [HT.out.len]; exact hlt))).2
              have h3 : hopB (rowAt t i).h = true := by unfold hopB; simp [h2]
              rw [hH] at h3
              cases h3)
            clear hH
            repeat first | (refine wpO_step0 rfl rfl (fun K hK => ?_); go_simp; refine hK _ _ ?_; clear hK K) | (refine wpO_step2 rfl rfl (HB3.out) (fun K hK => ?_); go_simp; refine hK _ _ ⟨HB3.out, ?_⟩; clear hK K)
            refine wpO_nil ?_
            go_wp2
            go_ret
            rw [HE.out]
            exact ⟨rfl, below_step HBE.out (below_step HBW.out HB3.out)⟩
          | true =>
            have HOK := Lib.hid (show (rowAt t i).okB = true by
              unfold hopB at hH
              simp only [Bool.and_eq_true, decide_eq_true_eq] at hH
              exact (okB_iff _).2 ⟨HR.out, hH⟩)
            clear hH
            by_cases h0 : i = 0
            · have h0' : decide (0 < i) = false := decide_eq_false (by omega)
              have HI0 := Lib.hid h0
              clear h0
              repeat first | (refine wpO_step0 rfl rfl (fun K hK => ?_); go_simp; refine hK _ _ ?_; clear hK K) | (refine wpO_step2 rfl rfl (HB3.out) (fun K hK => ?_); go_simp; refine hK _ _ ⟨HB3.out, ?_⟩; clear hK K)
              refine wpO_nil ?_
              go_wp2_with fail
              go_roundw
              case measure => simp [intOf]; omega
              case rel =>
                have hi0 := HI0.out
                have := HI.out
                refine ⟨i + 1, by go_num, by omega, by omega, fun k hk => ?_, fun k hk => by omega, below_step HBW.out HB3.out⟩
                rw [show k = i by omega]
                exact HOK.out
            · have h0' : 0 < i := by omega
              obtain ⟨k, hk⟩ : ∃ k : Nat, (i : Int) - 1 = k := ⟨i - 1, by omega⟩
              have hik : i = k + 1 := by omega
              have HK := Lib.hid hik
              have hwk : IntKind.i64.wrap (k : Int) = k := by simp only [IntKind.wrap, IntKind.bits, IntKind.signed]; simp; omega
              have hkn : k < n := by omega
              have hkn' : (k : Int) < n := by omega
              have HFK := Lib.hid (HT.out.fits_at hkn)
              have HCK := Lib.hid (HC.out k hkn)
              have HPOS := Lib.hid h0
              clear hik h0
              iterate 7 (refine wpO_step0 rfl rfl (fun K hK => ?_); go_simp; refine hK _ _ ?_; clear hK K)
              refine wpO_loadW (t := 26) (ad := ⟨w.heap.size, 0, none⟩) rfl rfl ?hw rfl rfl ((fun w0 hS => (HP1.out.all w0 (below_step HBW.out hS)).2)) ?_
              case hw => go_simp
              iterate 3 (refine wpO_step0 rfl rfl (fun K hK => ?_); go_simp; refine hK _ _ ?_; clear hK K)
              refine wpO_loadW (t := 38) (ad := ⟨b, (o+k*19), none⟩) rfl rfl ?hw rfl rfl ((fun w0 hS => (rowLd_of HFK.out (HCK.out.below (below_step HBE.out (below_step HBW.out hS)))).row)) ?_
              case hw => go_simp
              iterate 1 (refine wpO_step0 rfl rfl (fun K hK => ?_); go_simp; refine hK _ _ ?_; clear hK K)
              refine wpO_loadW (t := 36) (ad := ⟨wr.heap.size, 0, none⟩) rfl rfl ?hw rfl rfl ((fun w0 hS => (H2.out.2.all w0 hS).pfx)) ?_
              case hw => go_simp
              refine wpO_step2 rfl rfl (HB3.out) (fun K hK => ?_)
              go_simp
              refine (against_any (rowAt t k) (rowAt t i).p _ HFK.out HF.out).mono ?_
              rintro e w4 ⟨rfl, hbb4⟩
              have HB4 := Lib.hid (below_step HB3.out hbb4)
              clear hbb4
              refine hK _ _ ⟨HB4.out, ?_⟩
              clear hK K
              cases hcm : decide (0 ≤ (rowAt t k).p.cmp (rowAt t i).p) with
              | true =>
                have HE := Lib.hid (show errT t = 190 by
                  unfold errT
                  rw [if_neg]
                  intro h
                  have h2 := ((tabB_iff t).1 h).2.2 k (by rw [HT.out.len]; have := HK.out; omega)
                  rw [← HK.out] at h2
                  have h3 := of_decide_eq_true hcm
                  omega)
                iterate 3 (refine wpO_step0 rfl rfl (fun K hK => ?_); go_simp; refine hK _ _ ?_; clear hK K)
                refine wpO_nil ?_
                go_wp2
                go_ret
                rw [HE.out]
                exact ⟨rfl, below_step HBE.out (below_step HBW.out HB4.out)⟩
              | false =>
                have HQ := Lib.hid (of_decide_eq_false hcm)
                iterate 3 (refine wpO_step0 rfl rfl (fun K hK => ?_); go_simp; refine hK _ _ ?_; clear hK K)
                refine wpO_nil ?_
                go_wp2_with fail
                go_roundw
                case measure => simp [intOf]; omega
                case rel =>
                  have hkk := HK.out
                  have := HI.out
                  have h40n := HH.out.2.1
                  refine ⟨i + 1, by go_num, by omega, by omega, fun q hq => ?_, fun q hq => ?_, below_step HBW.out HB4.out⟩
                  · by_cases hqi : q < i
                    · exact HH.out.2.2.1 q hqi
                    · rw [show q = i by omega]; exact HOK.out
                  · by_cases hqi : q + 1 < i
                    · exact HH.out.2.2.2.1 q hqi
                    · have e1 : q = k := by omega
                      have e2 : q + 1 = i := by omega
                      rw [e2, e1]
                      have := HQ.out
                      omega
    · have hlt' : decide (i < n) = false := decide_eq_false hlt
      have HE := Lib.hid (show errT t = 0 by
        unfold errT
        rw [if_pos ((tabB_iff t).2 ⟨by rw [HT.out.len]; have := HH.out.1; have := HH.out.2.1; omega, fun k hk => HH.out.2.2.1 k (by rw [HT.out.len] at hk; omega), fun k hk => HH.out.2.2.2.1 k (by rw [HT.out.len] at hk; omega)⟩)])
      have HB := Lib.hid HH.out.2.2.2.2
      clear hlt
      go_wp2_with fail
      go_ret
      rw [HE.out]
      exact ⟨rfl, below_step HBE.out HB.out⟩
end Go.Proofs.YtihfaknflfmohaaDoor

/- The library's functions over slices, at rows. -/
namespace Go.Proofs.YtihfaknflfmohaaDoor
open Go.RowKit
set_option linter.unusedVariables false
set_option linter.unusedSimpArgs false
set_option maxRecDepth 4000
theorem wf_le {x : Int} (h : (Lit.int .i64 x).wf = true) : x ≤ 9223372036854775807 := by
  simp [Lit.wf] at h
  omega
end Go.Proofs.YtihfaknflfmohaaDoor

/- Two rows of the call's own, appended to by turns. -/
namespace Go.Proofs.YtihfaknflfmohaaDoor
open Go.RowKit
set_option linter.unusedVariables false
set_option linter.unusedSimpArgs false
set_option maxRecDepth 4000
def Apart (A1 A2 : Option Addr) : Prop := ∀ a b, A1 = some a → A2 = some b → a.block ≠ b.block
theorem Apart.symm {A1 A2 : Option Addr} (h : Apart A1 A2) : Apart A2 A1 := fun a b ha hb e => h b a hb ha e.symm
theorem own_of {A : Option Addr} {n c k : Nat} (h : (Value.slice A n c).ownBlock = some k) : ∃ ad, A = some ad ∧ ad.block = k := by
  cases A with
  | none => cases h
  | some ad =>
    injection h with h
    exact ⟨ad, rfl, h⟩
theorem two_app {W wr w3 : World} {B : Nat} {o : Obj} {e1 e2 : TypeId} {s1 s2 : Nat} {A1 A2 A3 : Option Addr} {n m c1 c2 : Nat} {xs ys : List Value} (hB : W.heap.size ≤ B) (h1 : OV wr B e1 s1 A1 n c1 xs) (h2 : OV wr B e2 s2 A2 m c2 ys)
    (hd : Apart A1 A2) (hb : Below W.heap.size W wr) (k2 : (wr.alloc o).grownBy w3 ((Value.slice A1 n c1).ownBlock)) (k3 : A3 = A1 ∨ ∀ ad, A3 = some ad → (wr.alloc o).heap.size ≤ ad.block) :
    OV w3 B e2 s2 A2 m c2 ys ∧ Apart A3 A2 ∧ Below W.heap.size W w3 := by
  refine ⟨(h2.below (below_alloc (Below.refl _ _) o)).grown k2 (fun ad ha hk => ?_), ?_, (hb.alloc hb.size o).grown k2 (by have := hb.size; simp; omega) (fun k hk => ?_)⟩
  · obtain ⟨a1, e1, e2⟩ := own_of hk.symm
    exact hd a1 ad e1 ha e2
  · rcases k3 with rfl | k3
    · exact hd
    · intro a b ha hb' e
      have h4 := k3 a ha
      have h5 := h2.lt b hb'
      simp at h4
      omega
  · obtain ⟨a1, e1, e2⟩ := own_of hk
    have := h1.base_ a1 e1
    omega
end Go.Proofs.YtihfaknflfmohaaDoor

/- The document's answer for layer 5: Compare. -/
namespace Go.Proofs.YtihfaknflfmohaaDoor
open Go.RowKit
set_option linter.unusedVariables false
set_option linter.unusedSimpArgs false
set_option maxRecDepth 4000

theorem row_cons (p : Pfx) (hp : B16 p.l) (k : Nat) (hk : k < 16) : (p.row).take (k + 1 + 1) = (p.row).take (k + 1) ++ [rd p.l (k : Int)] := row_take p hp k hk
/-- The two rows that Compare makes. -/
structure CmpRows (W w : World) (B : Nat) (A1 A2 : Option Addr) (n1 c1 n2 c2 : Nat) (xs ys : List Int) : Prop where
  x : OI w B A1 n1 c1 xs
  y : OI w B A2 n2 c2 ys
  apart : Apart A1 A2
  below : Below W.heap.size W w
theorem CmpRows.appX {W w w3 : World} {B : Nat} {o : Obj} {A1 A2 A3 : Option Addr} {n1 c1 n2 c2 n3 c3 : Nat} {xs ys zs : List Int} (hB : W.heap.size ≤ B) (h : CmpRows W w B A1 A2 n1 c1 n2 c2 xs ys)
    (k1 : OI w3 B A3 n3 c3 zs) (k2 : (w.alloc o).grownBy w3 ((Value.slice A1 n1 c1).ownBlock)) (k3 : A3 = A1 ∨ ∀ ad, A3 = some ad → (w.alloc o).heap.size ≤ ad.block) : CmpRows W w3 B A3 A2 n3 c3 n2 c2 zs ys := by
  obtain ⟨h1, h2, h3⟩ := two_app hB h.x.ov h.y.ov h.apart h.below k2 k3
  exact ⟨k1, ⟨h1⟩, h2, h3⟩
theorem CmpRows.appY {W w w3 : World} {B : Nat} {o : Obj} {A1 A2 A3 : Option Addr} {n1 c1 n2 c2 n3 c3 : Nat} {xs ys zs : List Int} (hB : W.heap.size ≤ B) (h : CmpRows W w B A1 A2 n1 c1 n2 c2 xs ys)
    (k1 : OI w3 B A3 n3 c3 zs) (k2 : (w.alloc o).grownBy w3 ((Value.slice A2 n2 c2).ownBlock)) (k3 : A3 = A2 ∨ ∀ ad, A3 = some ad → (w.alloc o).heap.size ≤ ad.block) : CmpRows W w3 B A1 A3 n1 c1 n3 c3 xs zs := by
  obtain ⟨h1, h2, h3⟩ := two_app hB h.y.ov h.x.ov h.apart.symm h.below k2 k3
  exact ⟨⟨h1⟩, k1, h2.symm, h3⟩

set_option maxHeartbeats 4000000 in
theorem refcompare_any (p q : Pfx) (w : World) (hp : B16 p.l) (hq : B16 q.l) : Calls Tryd.prog 66 #[.agg (pfxV p.v p.l p.b), .agg (pfxV q.v q.l q.b)] w fun e w' => e = .returned (.int .i64 (p.cmp q)) ∧ Below w.heap.size w w' := by
  have hblk1 := blk_new w (.cells (pfxV p.v p.l p.b) 36)
  have hbel1 : Below w.heap.size w (w.alloc (.cells (pfxV p.v p.l p.b) 36)) := below_alloc (Below.refl _ _) _
  have hblk2 := blk_new (w.alloc (.cells (pfxV p.v p.l p.b) 36)) (.cells (pfxV q.v q.l q.b) 36)
  have hbel2 : Below w.heap.size w ((w.alloc (.cells (pfxV p.v p.l p.b) 36)).alloc (.cells (pfxV q.v q.l q.b) 36)) := below_alloc (hbel1) _
  rw [show (w.alloc (.cells (pfxV p.v p.l p.b) 36)).heap.size = w.heap.size + 1 by simp] at hblk2
  replace hblk1 := blk_below hblk1 (below_alloc (Below.refl _ _) (.cells (pfxV q.v q.l q.b) 36))
  have HP1 := Lib.hid (pfx_at hp hblk1)
  have HBK1 := Lib.hid hblk1
  have HP2 := Lib.hid (pfx_at hq hblk2)
  have HBK2 := Lib.hid hblk2
  have HBE := Lib.hid hbel2
  obtain ⟨cs1, hcs1⟩ : ∃ cs, pfxV p.v p.l p.b = cs := ⟨_, rfl⟩
  obtain ⟨cs2, hcs2⟩ : ∃ cs, pfxV q.v q.l q.b = cs := ⟨_, rfl⟩
  simp only [hcs1, hcs2] at HBE HP1 HP2 HBK1 HBK2 ⊢
  have HC1 := Lib.hid hcs1
  have HC2 := Lib.hid hcs2
  clear hcs1 hblk1 hbel1 hcs2 hblk2 hbel2
  have hv := (HP1.out.all _ (Below.refl _ _)).2.2.1
  have hz := (HP2.out.all _ (below_alloc (Below.refl _ _) (.cells #[.int .i64 p.v] 3))).2.2.1
  obtain ⟨W, hW⟩ : ∃ W, (w.alloc (.cells cs1 36)).alloc (.cells cs2 36) = W := ⟨_, rfl⟩
  have hWs : W.heap.size = w.heap.size + 1 + 1 := by rw [← hW]; simp
  have hst : CmpRows W ((W.alloc (.cells #[.int .i64 p.v] 3)).alloc (.cells #[.int .i64 q.v] 3)) (w.heap.size + 1 + 1) (some ⟨w.heap.size + 1 + 1, 0, none⟩) (some ⟨w.heap.size + 1 + 1 + 1, 0, none⟩) 1 1 1 1 (p.row.take 1) (q.row.take 1) := by
    have h1 := (OI.new W W.heap.size [p.v] (Nat.le_refl _) (by simp)).below (below_alloc (Below.refl _ _) (.cells #[.int .i64 q.v] 3))
    have h2 := OI.new (W.alloc (.cells #[.int .i64 p.v] 3)) W.heap.size [q.v] (by simp) (by simp)
    rw [show (W.alloc (.cells #[.int .i64 p.v] 3)).heap.size = w.heap.size + 1 + 1 + 1 by simp [hWs]] at h2
    rw [hWs] at h1 h2
    refine ⟨h1, h2, fun a b ha hb => ?_, below_alloc (below_alloc (Below.refl _ _) _) _⟩
    injection ha with ha
    injection hb with hb
    rw [← ha, ← hb]
    simp
  rw [← hW] at hst
  have HST := Lib.hid hst
  have HBW : Hid (W.heap.size ≤ w.heap.size + 1 + 1) := by rw [hWs]; exact Nat.le_refl _
  rw [← hW] at HBW
  clear hst hWs hW W
  go_enter Tryd.func66, Tryd.ntmps66
  go_wp2_with (first | ((with_reducible show wpList _ _ _ (Oper.mk _ (Op.load _ _) _ _ _ _ :: _) _ _); refine wpList_load_g hv _ rfl rfl (by go_simp) ?_) | ((with_reducible show wpList _ _ _ (Oper.mk _ (Op.load _ _) _ _ _ _ :: _) _ _); refine wpList_load_g hz _ rfl rfl (by go_simp) ?_))
  clear hv hz
  go_loopw [5, 6, 7] (fun x y i wr => ∃ (k : Nat) (A1 A2 : Option Addr) (c1 c2 : Nat), i = .int .i64 k ∧ x = .slice A1 (k + 1) c1 ∧ y = .slice A2 (k + 1) c2 ∧ Hid (k ≤ 16 ∧ CmpRows ((w.alloc (.cells cs1 36)).alloc (.cells cs2 36)) wr (w.heap.size + 1 + 1) A1 A2 (k + 1) c1 (k + 1) c2 (p.row.take (k + 1)) (q.row.take (k + 1)))) (fun _ _ i _ => 16 - (intOf i).toNat)
  case atStart => exact ⟨0, _, _, 1, 1, rfl, rfl, rfl, Nat.zero_le _, HST.out⟩
  case round =>
    obtain ⟨k, A1, A2, c1, c2, rfl, rfl, rfl, HH⟩ := hrel
    clear HST
    have hk := HH.out.1
    have hsz := HH.out.2.below.size
    simp at hsz
    by_cases hlt : k < 16
    · have hlt' : (k : Int) < 16 := by omega
      have hb1 := blk_below HBK1.out HH.out.2.below
      rw [← HC1.out] at hb1
      have hc1 := pfx_byte hp hb1 k hlt
      have hr1 := hp.rd (k : Int)
      have hr2 := hq.rd (k : Int)
      clear hb1
      go_wp2_with (first | (at_builtin; refine wpList_append_ints rfl (.tmp 21) (.tmp 28) rfl rfl rfl (HH.out.2.x.below (below_alloc (Below.refl _ _) _)) (RI.one _ _) (by simp; omega) (by omega) ?_; intro A3 c3 w3 h1 h2 h3; have H3 := Lib.hid (HH.out.2.appX HBW.out h1 h2 h3); have hb2 := blk_below HBK2.out H3.out.below; rw [← HC2.out] at hb2; have hc2 := pfx_byte hq hb2 k hlt; have hsz3 := H3.out.below.size; simp at hsz3; clear h1 h2 h3 hb2) | (at_builtin; refine wpList_append_ints rfl (.tmp 30) (.tmp 37) rfl rfl rfl (H3.out.y.below (below_alloc (Below.refl _ _) _)) (RI.one _ _) (by simp; omega) (by omega) ?_; intro A4 c4 w4 h1 h2 h3; have H4 := Lib.hid (H3.out.appY HBW.out h1 h2 h3); clear h1 h2 h3))
      go_roundw
      case measure => simp [intOf]; omega
      case rel =>
        refine ⟨k + 1, A3, A4, c3, c4, by go_num, rfl, rfl, by omega, ?_⟩
        rw [row_cons p hp k hlt, row_cons q hq k hlt]
        exact H4.out
    · obtain rfl : k = 16 := by omega
      have hpb := (HP1.out.all wr HH.out.2.below).2.1
      have hm1 : decide (((16 : Nat) : Int) < 16) = false := rfl
      clear hlt hk
      go_wp2_with (first | ((with_reducible show wpList _ _ _ (Oper.mk _ (Op.load _ _) _ _ _ _ :: _) _ _); refine wpList_load_g hpb _ rfl rfl (by go_simp) ?_) | (at_builtin; refine wpList_append_ints rfl (.tmp 39) (.tmp 42) rfl rfl rfl (HH.out.2.x.below (below_alloc (Below.refl _ _) _)) (RI.one _ _) (by simp; omega) (by omega) ?_; intro A3 c3 w3 h1 h2 h3; have H3 := Lib.hid (HH.out.2.appX HBW.out h1 h2 h3); have hqb := (HP2.out.all w3 H3.out.below).2.1; have hsz3 := H3.out.below.size; simp at hsz3; clear h1 h2 h3) | ((with_reducible show wpList _ _ _ (Oper.mk _ (Op.load _ _) _ _ _ _ :: _) _ _); refine wpList_load_g hqb _ rfl rfl (by go_simp) ?_) | (at_builtin; refine wpList_append_ints rfl (.tmp 44) (.tmp 47) rfl rfl rfl (H3.out.y.below (below_alloc (Below.refl _ _) _)) (RI.one _ _) (by simp; omega) (by omega) ?_; intro A4 c4 w4 h1 h2 h3; have H4 := Lib.hid (H3.out.appY HBW.out h1 h2 h3); clear h1 h2 h3))
      have hx := H4.out.x.reads
      have hy := H4.out.y.reads
      rw [row_17 p hp] at hx
      rw [row_17 q hq] at hy
      have HX := Lib.hid hx
      have HY := Lib.hid hy
      clear hx hy hpb hqb hm1
      go_loopw [8] (fun i wr2 => ∃ m : Nat, i = .int .i64 m ∧ Hid (m ≤ 18 ∧ (∀ j : Nat, j < m → rd p.row (j : Int) = rd q.row (j : Int)) ∧ Below w4.heap.size w4 wr2)) (fun i _ => 18 - (intOf i).toNat)
      case atStart => exact ⟨0, rfl, Nat.zero_le _, fun j h => by omega, Below.refl _ _⟩
      case round =>
        obtain ⟨m, rfl, HM⟩ := hrel
        have hm := HM.out.1
        by_cases hlt : m < 18
        · have hlt' : (m : Int) < 18 := by omega
          have hm0 : (0 : Int) ≤ m := by omega
          obtain ⟨ad1, rfl, hc1⟩ := (HX.out.below HM.out.2.2).at_ m (by omega) (by omega)
          obtain ⟨ad2, rfl, hc2⟩ := (HY.out.below HM.out.2.2).at_ m (by omega) (by omega)
          have hd1 : wr.cell? (ad1.add m) = some (.int .i64 (rd p.row m)) := hc1
          have hd2 : wr.cell? (ad2.add m) = some (.int .i64 (rd q.row m)) := hc2
          clear hc1 hc2
          have hi0 : (m : Int) < (16 + 1 + 1 : Nat) := by omega
          have HLT := Lib.hid hlt
          clear hlt
          obtain ⟨x, hx⟩ : ∃ x, rd p.row (m : Int) = x := ⟨_, rfl⟩
          obtain ⟨y, hy⟩ : ∃ y, rd q.row (m : Int) = y := ⟨_, rfl⟩
          have HXY := Lib.hid (And.intro hx hy)
          rw [hx] at hd1
          rw [hy] at hd2
          clear hx hy
          by_cases h1 : x < y
          · have HE := Lib.hid (show p.cmp q = -1 by
              have e := cmpI_at p.row q.row m (by rw [row_len p hp, row_len q hq]) (by rw [row_len p hp]; exact HLT.out) HM.out.2.1 (by rw [HXY.out.1, HXY.out.2]; omega)
              rw [HXY.out.1, HXY.out.2, if_pos h1] at e
              exact e)
            go_wp2
            go_quiet (fail)
            go_wp2
            go_ret
            rw [HE.out]
            exact ⟨rfl, below_step HBE.out (below_step H4.out.below (below_drewN HM.out.2.2 _))⟩
          · have hge : y ≤ x := by omega
            by_cases h2 : y < x
            · have HE := Lib.hid (show p.cmp q = 1 by
                have e := cmpI_at p.row q.row m (by rw [row_len p hp, row_len q hq]) (by rw [row_len p hp]; exact HLT.out) HM.out.2.1 (by rw [HXY.out.1, HXY.out.2]; omega)
                rw [HXY.out.1, HXY.out.2, if_neg h1] at e
                exact e)
              clear h1
              go_wp2
              go_quiet (fail)
              go_wp2
              go_quiet (fail)
              go_wp2
              go_ret
              rw [HE.out]
              exact ⟨rfl, below_step HBE.out (below_step H4.out.below (below_drewN (below_drewN HM.out.2.2 _) _))⟩
            · obtain rfl : x = y := by omega
              clear h1 h2 hge
              go_wp2
              go_quiet (fail)
              go_wp2
              go_quiet (fail)
              go_wp2
              go_roundw
              case measure => simp [intOf]; omega
              case rel =>
                refine ⟨m + 1, by go_num, by have := HLT.out; omega, fun j hj => ?_, below_drewN HM.out.2.2 _⟩
                by_cases hj' : j < m
                · exact HM.out.2.1 j hj'
                · rw [show j = m by omega, HXY.out.1, HXY.out.2]
        · obtain rfl : m = 18 := by omega
          have hm1 : decide (((18 : Nat) : Int) < 18) = false := rfl
          have HE := Lib.hid (show p.cmp q = 0 from cmpI_same _ _ (by rw [row_len p hp, row_len q hq]) (fun j hj => HM.out.2.1 j (by rw [row_len p hp] at hj; exact hj)))
          clear hlt
          go_wp2
          go_ret
          rw [HE.out]
          exact ⟨rfl, below_step HBE.out (below_step H4.out.below HM.out.2.2)⟩
end Go.Proofs.YtihfaknflfmohaaDoor

/- The document's answer for layer 5 (junctionboxref05): Right. -/
namespace Go.Proofs.YtihfaknflfmohaaDoor
open Go.RowKit
set_option linter.unusedVariables false
set_option linter.unusedSimpArgs false
set_option maxRecDepth 4000

set_option maxHeartbeats 2000000 in
theorem right_any (v : Int) (l : List Int) (b : Int) (w : World) (hl : B16 l) (hb1 : b ≤ 9223372036854775807) : Calls Tryd.prog 65 #[.agg (pfxV v l b)] w fun e w' => e = .returned (.bool (rightP v l b)) ∧ Below w.heap.size w w' := by
  have hpa := pfx_at hl (blk_new w (.cells (pfxV v l b) 36))
  have hbe : Below w.heap.size w (w.alloc (.cells (pfxV v l b) 36)) := below_alloc (Below.refl _ _) _
  have HBE := Lib.hid hbe
  obtain ⟨cs, hcs⟩ : ∃ cs, pfxV v l b = cs := ⟨_, rfl⟩
  rw [hcs] at hpa HBE ⊢
  have HP := Lib.hid hpa
  clear hcs hbe hpa
  go_enter Tryd.func65, Tryd.ntmps65
  go_wp2_with fail
  refine wp_region_mix (fun w0 => Below (w.alloc (.cells cs 36)).heap.size (w.alloc (.cells cs 36)) w0) [(0, 0), (1, 0), (2, 2), (3, 0), (4, 0), (5, 0), (6, 0), (7, 0), (8, 0), (9, 0), (10, 0), (11, 0), (12, 0), (13, 0), (14, 0), (15, 2), (16, 0), (17, 0)] (by kernel_rfl) (by kernel_rfl) (below_drew1 _) ?_
  simp only [List.map_cons, List.map_nil]
  iterate 1 (refine wpO_step0 rfl rfl (fun K hK => ?_); go_simp; refine hK _ _ ?_; clear hK K)
  refine wpO_loadW (t := 31) (ad := ⟨w.heap.size, 0, none⟩) rfl rfl ?hw rfl rfl (fun w0 hS => (HP.out.all w0 hS).1) ?_
  case hw => go_simp
  refine wpO_step2 rfl rfl (below_drew1 _) (fun K hK => ?_)
  go_simp
  refine (rightAddr_any v l _ hl).mono ?_
  rintro e w1 ⟨rfl, hbb1⟩
  have HS1 := Lib.hid (below_step (below_drew1 _) hbb1)
  clear hbb1
  refine hK _ _ ⟨HS1.out, ?_⟩
  clear hK K
  cases hA : rightA v l with
  | false =>
    have HE : Hid (rightP v l b = false) := by unfold rightP; rw [hA]; rfl
    clear hA
    repeat first | (refine wpO_step0 rfl rfl (fun K hK => ?_); go_simp; refine hK _ _ ?_; clear hK K) | (refine wpO_step2 rfl rfl HS1.out (fun K hK => ?_); go_simp; refine hK _ _ ⟨HS1.out, ?_⟩; clear hK K)
    refine wpO_nil ?_
    go_wp2
    go_ret
    rw [HE.out]
    exact ⟨rfl, below_step HBE.out HS1.out⟩
  | true =>
    iterate 3 (refine wpO_step0 rfl rfl (fun K hK => ?_); go_simp; refine hK _ _ ?_; clear hK K)
    refine wpO_loadW (t := 3) (ad := ⟨w.heap.size, 17, none⟩) rfl rfl ?hw rfl rfl (fun w0 hS => (HP.out.all w0 hS).2.1) ?_
    case hw => go_simp
    by_cases hb0 : b < 0
    · have HE : Hid (rightP v l b = false) := by
        unfold rightP
        rw [decide_eq_false (show ¬ 0 ≤ b by omega)]
        cases rightA v l <;> rfl
      clear hA
      repeat first | (refine wpO_step0 rfl rfl (fun K hK => ?_); go_simp; refine hK _ _ ?_; clear hK K) | (refine wpO_step2 rfl rfl HS1.out (fun K hK => ?_); go_simp; refine hK _ _ ⟨HS1.out, ?_⟩; clear hK K)
      refine wpO_nil ?_
      go_wp2
      go_ret
      rw [HE.out]
      exact ⟨rfl, below_step HBE.out HS1.out⟩
    · have hb0' : 0 ≤ b := by omega
      clear hb0
      iterate 4 (refine wpO_step0 rfl rfl (fun K hK => ?_); go_simp; refine hK _ _ ?_; clear hK K)
      refine wpO_loadW (t := 3) (ad := ⟨w.heap.size, 17, none⟩) rfl rfl ?hw rfl rfl (fun w0 hS => (HP.out.all w0 hS).2.1) ?_
      case hw => go_simp
      iterate 2 (refine wpO_step0 rfl rfl (fun K hK => ?_); go_simp; refine hK _ _ ?_; clear hK K)
      refine wpO_loadW (t := 3) (ad := ⟨w.heap.size, 0, none⟩) rfl rfl ?hw rfl rfl (fun w0 hS => (HP.out.all w0 hS).2.2.1) ?_
      case hw => go_simp
      refine wpO_step2 rfl rfl HS1.out (fun K hK => ?_)
      go_simp
      refine (refwidth_any v _).mono ?_
      rintro e w2 ⟨rfl, rfl⟩
      refine hK _ _ ⟨HS1.out, ?_⟩
      clear hK K
      have hwl := widthA_le v
      by_cases hbw : (widthA v : Int) < b
      · have HE : Hid (rightP v l b = false) := by
          unfold rightP
          rw [decide_eq_false (show ¬ b ≤ widthA v by omega)]
          cases rightA v l <;> cases decide (0 ≤ b) <;> rfl
        clear hA
        repeat first | (refine wpO_step0 rfl rfl (fun K hK => ?_); go_simp; refine hK _ _ ?_; clear hK K) | (refine wpO_step2 rfl rfl HS1.out (fun K hK => ?_); go_simp; refine hK _ _ ⟨HS1.out, ?_⟩; clear hK K)
        refine wpO_nil ?_
        go_wp2
        go_ret
        rw [HE.out]
        exact ⟨rfl, below_step HBE.out HS1.out⟩
      · have hbw' : b ≤ (widthA v : Int) := by omega
        clear hbw
        obtain ⟨k, rfl⟩ := Int.eq_ofNat_of_zero_le hb0'
        have hbn : k ≤ widthA v := by omega
        have hrp : rightP v l k = clearA l k := by
          unfold rightP
          rw [show (k : Int).toNat = k by omega, hA, decide_eq_true hb0', decide_eq_true hbw']
          rfl
        have HRP := Lib.hid hrp
        have hk128 : k ≤ 128 := by omega
        clear hrp hA
        repeat (refine wpO_step0 rfl rfl (fun K hK => ?_); go_simp; refine hK _ _ ?_; clear hK K)
        refine wpO_nil ?_
        have hldb := (HP.out.all w1 HS1.out).2.1
        go_wp2_with (refine wpList_load_g hldb _ rfl rfl (by go_simp) ?_)
        clear hbn hbw' hwl hb0'
        go_loopw [3] (fun i wr => ∃ m : Nat, i = .int .i64 m ∧ Hid (k ≤ m ∧ ∀ j, k ≤ j → j < m → j < 128 → bitA l j = 0) ∧ Hid (Below (w.alloc (.cells cs 36)).heap.size (w.alloc (.cells cs 36)) wr)) (fun i _ => 128 - (intOf i).toNat)
        case atStart => exact ⟨k, rfl, ⟨Nat.le_refl _, fun j h1 h2 => by omega⟩, HS1.out⟩
        case round =>
          obtain ⟨m, rfl, HH, HW⟩ := hrel
          by_cases hlt : m < 128
          · have hld := (HP.out.all wr HW.out).2.2.2.1
            have hlt' : (m : Int) < 128 := by omega
            have HLT := Lib.hid hlt
            clear hlt hldb
            go_wp2_with (refine wpList_load_g hld _ rfl rfl (by go_simp) ?_)
            refine (refat_any l m wr hl (by omega) (by omega)).mono ?_
            rintro e w2 ⟨rfl, hb2⟩
            rw [show (m : Int).toNat = m by omega]
            have HW2 := Lib.hid (below_step HW.out hb2)
            clear hb2 hld
            by_cases hbit : bitA l m = 1
            · have hbt : (bitA l m == 1) = true := by simpa using hbit
              have hr : clearA l k = false := by
                rw [Bool.eq_false_iff]
                intro h
                have := (clearA_iff l k).1 h m HH.out.1 HLT.out
                omega
              have HR := Lib.hid hr
              clear hbit hr
              go_wp2
              go_ret
              rw [HRP.out, HR.out]
              exact ⟨rfl, below_step HBE.out HW2.out⟩
            · have hbt : (bitA l m == 1) = false := by simpa using hbit
              have HZ : Hid (bitA l m = 0) := (bitA_range l m).resolve_right hbit
              clear hbit
              go_wp2_with fail
              go_roundw
              case measure => simp [intOf]; omega
              case rel =>
                refine ⟨m + 1, by go_num, ⟨by have := HH.out.1; omega, fun j h1 h2 h3 => ?_⟩, HW2.out⟩
                by_cases hj : j < m
                · exact HH.out.2 j h1 hj h3
                · rw [show j = m by omega]
                  exact HZ.out
          · have hm1 : decide ((m : Int) < 128) = false := decide_eq_false (by omega)
            have hr : clearA l k = true := (clearA_iff l k).2 (fun j h1 h2 => HH.out.2 j h1 (by omega) h2)
            have HR := Lib.hid hr
            clear hr hlt
            go_wp2_with fail
            go_ret
            rw [HRP.out, HR.out]
            exact ⟨rfl, below_step HBE.out HW.out⟩
end Go.Proofs.YtihfaknflfmohaaDoor

/- The document's answer for layer 9: Right. -/
namespace Go.Proofs.YtihfaknflfmohaaDoor
open Go.RowKit
set_option linter.unusedVariables false
set_option linter.unusedSimpArgs false
set_option maxRecDepth 4000

def Oks (t : List Row) : Prop := ∀ r ∈ t, r.ok
theorem Oks.at_ {t : List Row} (h : Oks t) {i : Nat} (hi : i < t.length) : (rowAt t i).ok := h _ (List.mem_of_getElem? (rowAt_get hi))
set_option maxHeartbeats 4000000 in
theorem refRight_any (A : Option Addr) (n c : Nat) (t : List Row) (w : World) (ht : RT w A n c t) (ho : Oks t) (hn : n ≤ 100000) : Calls Tryd.prog 26 #[.agg (tabV A n c)] w fun e w' => e = .returned (.bool (tabB t)) ∧ Below w.heap.size w w' := by
  have hblk1 := blk_new w (.cells (tabV A n c) 28)
  have hbel1 : Below w.heap.size w (w.alloc (.cells (tabV A n c) 28)) := below_alloc (Below.refl _ _) _
  have HP1 := Lib.hid (tab_at hblk1)
  have HBK1 := Lib.hid hblk1
  have HBE := Lib.hid hbel1
  obtain ⟨cs1, hcs1⟩ : ∃ cs, tabV A n c = cs := ⟨_, rfl⟩
  simp only [hcs1] at HBE HP1 HBK1 ⊢
  have HC1 := Lib.hid hcs1
  clear hcs1 hblk1 hbel1
  have HT := Lib.hid ht
  have HO := Lib.hid ho
  have hl1 := (HP1.out.all _ (Below.refl _ _)).2
  clear ht ho
  go_enter Tryd.func26, Tryd.ntmps26
  by_cases h41 : 40 < n
  · have HE := Lib.hid (show tabB t = false by
      rw [Bool.eq_false_iff]
      intro h
      have := ((tabB_iff t).1 h).1
      rw [HT.out.len] at this
      omega)
    have h41' : (40 : Int) < n := by omega
    go_wp2_with ((with_reducible show wpList _ _ _ (Oper.mk _ (Op.load _ _) _ _ _ _ :: _) _ _); refine wpList_load_g hl1 _ rfl rfl (by go_simp) ?_)
    go_ret
    rw [HE.out]
    exact ⟨rfl, below_step HBE.out (Below.refl _ _)⟩
  · have h41' : decide ((40 : Int) < n) = false := decide_eq_false (by omega)
    have HN := Lib.hid h41
    clear h41
    go_wp2_with ((with_reducible show wpList _ _ _ (Oper.mk _ (Op.load _ _) _ _ _ _ :: _) _ _); refine wpList_load_g hl1 _ rfl rfl (by go_simp) ?_)
    clear hl1
    go_loopw [3] (fun x wr => ∃ i : Nat, x = .int .i64 i ∧ Hid (i ≤ n ∧ (∀ k, k < i → (rowAt t k).okB = true) ∧ (∀ k, k + 1 < i → (rowAt t k).p.cmp (rowAt t (k + 1)).p < 0) ∧ Below (w.alloc (.cells cs1 28)).heap.size (w.alloc (.cells cs1 28)) wr)) (fun x _ => n - (intOf x).toNat)
    case atStart => exact ⟨0, rfl, Nat.zero_le _, fun k h => by omega, fun k h => by omega, Below.refl _ _⟩
    case round =>
      obtain ⟨i, rfl, HH⟩ := hrel
      have hlw := (HP1.out.all wr HH.out.2.2.2).2
      by_cases hlt : i < n
      · have hlt' : (i : Int) < n := by omega
        obtain ⟨b, o, rfl, hc⟩ := HT.out.at_ (by omega)
        have HC := Lib.hid hc
        have HF := Lib.hid (HT.out.fits_at hlt)
        have hrow := (rowLd_of HF.out ((hc i hlt).below (below_step HBE.out HH.out.2.2.2))).row
        clear hc
        go_wp2_with (first | ((with_reducible show wpList _ _ _ (Oper.mk _ (Op.load _ _) _ _ _ _ :: _) _ _); refine wpList_load_g hlw _ rfl rfl (by go_simp) ?_) | ((with_reducible show wpList _ _ _ (Oper.mk _ (Op.load _ _) _ _ _ _ :: _) _ _); refine wpList_load_g hrow _ rfl rfl (by go_simp) ?_) | (refine wpList_store_blk (blk_new wr _) 38 0 (rowV (rowAt t i)) (store_row_fit HF.out rfl) (info_row HF.out) (rowV_one _) _ _ rfl rfl rfl rfl ?_; intro w2 hg hs hb; rw [splice_row HF.out rfl] at hb; have H2 := Lib.hid (And.intro (below_grown (below_alloc (Below.refl wr.heap.size wr) _) hg (Nat.le_refl _)) (row_at HF.out hb)); clear hg hs hb))
        clear hrow hlw
        have HBW := Lib.hid (below_step HH.out.2.2.2 H2.out.1)
        have hbw := wf_le (HO.out.at_ (by rw [HT.out.len]; exact hlt)).p.b
        have hokf : (rowAt t i).okB = false → tabB t = false := fun h => by
          rw [Bool.eq_false_iff]
          intro k
          rw [((tabB_iff t).1 k).2.1 i (by rw [HT.out.len]; exact hlt)] at h
          cases h
        have HNO := Lib.hid hokf
        clear hokf
        refine wp_region_mix (fun w0 => Below (w2).heap.size (w2) w0) [(0, 0), (1, 0), (2, 2), (3, 0), (4, 0), (5, 0), (6, 0), (7, 0), (8, 0), (9, 0), (10, 0), (11, 0), (12, 0), (13, 0), (14, 0), (15, 0), (16, 0), (17, 0), (18, 0), (19, 0), (20, 0), (21, 0), (22, 0), (23, 0), (24, 0), (25, 0), (26, 0), (27, 2), (28, 0), (29, 0), (30, 0)] (by kernel_rfl) (by kernel_rfl) (below_drew1 _) ?_
        simp only [List.map_cons, List.map_nil]
        iterate 1 (refine wpO_step0 rfl rfl (fun K hK => ?_); go_simp; refine hK _ _ ?_; clear hK K)
        refine wpO_loadW (t := 36) (ad := ⟨wr.heap.size, 0, none⟩) rfl rfl ?hw rfl rfl ((fun w0 hS => (H2.out.2.all w0 hS).pfx)) ?_
        case hw => go_simp
        refine wpO_step2 rfl rfl (below_drew1 _) (fun K hK => ?_)
        go_simp
        refine (right_any (rowAt t i).p.v (rowAt t i).p.l (rowAt t i).p.b _ HF.out hbw).mono ?_
        rintro e w3 ⟨rfl, hbb3⟩
        have HB3 := Lib.hid (below_step (below_drew1 _) hbb3)
        clear hbb3
        refine hK _ _ ⟨HB3.out, ?_⟩
        clear hK K
        cases hR : rightP (rowAt t i).p.v (rowAt t i).p.l (rowAt t i).p.b with
        | false =>
          have HE := Lib.hid (HNO.out (by unfold Row.okB Pfx.right; rw [hR]; rfl))
          clear hR
          repeat first | (refine wpO_step0 rfl rfl (fun K hK => ?_); go_simp; refine hK _ _ ?_; clear hK K) | (refine wpO_step2 rfl rfl (HB3.out) (fun K hK => ?_); go_simp; refine hK _ _ ⟨HB3.out, ?_⟩; clear hK K)
          refine wpO_nil ?_
          go_wp2
          go_ret
          rw [HE.out]
          exact ⟨rfl, below_step HBE.out (below_step HBW.out HB3.out)⟩
        | true =>
          have HR := Lib.hid (show (rowAt t i).p.right = true from hR)
          clear hR
          iterate 3 (refine wpO_step0 rfl rfl (fun K hK => ?_); go_simp; refine hK _ _ ?_; clear hK K)
          refine wpO_loadW (t := 3) (ad := ⟨wr.heap.size, 18, none⟩) rfl rfl ?hw rfl rfl ((fun w0 hS => (H2.out.2.all w0 hS).hop)) ?_
          case hw => go_simp
          by_cases h1 : (rowAt t i).h < 1
          · have HE := Lib.hid (HNO.out (by
              rw [Bool.eq_false_iff]
              intro h
              have := ((okB_iff _).1 h).2
              omega))
            have h1' : decide ((rowAt t i).h < 1) = true := decide_eq_true h1
            clear h1
            repeat first | (refine wpO_step0 rfl rfl (fun K hK => ?_); go_simp; refine hK _ _ ?_; clear hK K) | (refine wpO_step2 rfl rfl (HB3.out) (fun K hK => ?_); go_simp; refine hK _ _ ⟨HB3.out, ?_⟩; clear hK K)
            refine wpO_nil ?_
            go_wp2
            go_ret
            rw [HE.out]
            exact ⟨rfl, below_step HBE.out (below_step HBW.out HB3.out)⟩
          · have h1' : decide ((rowAt t i).h < 1) = false := decide_eq_false h1
            have H1 := Lib.hid h1
            clear h1
            iterate 4 (refine wpO_step0 rfl rfl (fun K hK => ?_); go_simp; refine hK _ _ ?_; clear hK K)
            refine wpO_loadW (t := 3) (ad := ⟨wr.heap.size, 18, none⟩) rfl rfl ?hw rfl rfl ((fun w0 hS => (H2.out.2.all w0 hS).hop)) ?_
            case hw => go_simp
            by_cases h2 : 255 < (rowAt t i).h
            · have HE := Lib.hid (HNO.out (by
                rw [Bool.eq_false_iff]
                intro h
                have := ((okB_iff _).1 h).2
                omega))
              have h2' : decide (255 < (rowAt t i).h) = true := decide_eq_true h2
              clear h2
              repeat first | (refine wpO_step0 rfl rfl (fun K hK => ?_); go_simp; refine hK _ _ ?_; clear hK K) | (refine wpO_step2 rfl rfl (HB3.out) (fun K hK => ?_); go_simp; refine hK _ _ ⟨HB3.out, ?_⟩; clear hK K)
              refine wpO_nil ?_
              go_wp2
              go_ret
              rw [HE.out]
              exact ⟨rfl, below_step HBE.out (below_step HBW.out HB3.out)⟩
            · have h2' : decide (255 < (rowAt t i).h) = false := decide_eq_false h2
              have HOK := Lib.hid (show (rowAt t i).okB = true from (okB_iff _).2 ⟨HR.out, by have := H1.out; omega⟩)
              clear h2
              by_cases h0 : i = 0
              · have h0' : decide (0 < i) = false := decide_eq_false (by omega)
                have HI0 := Lib.hid h0
                clear h0
                repeat first | (refine wpO_step0 rfl rfl (fun K hK => ?_); go_simp; refine hK _ _ ?_; clear hK K) | (refine wpO_step2 rfl rfl (HB3.out) (fun K hK => ?_); go_simp; refine hK _ _ ⟨HB3.out, ?_⟩; clear hK K)
                refine wpO_nil ?_
                go_wp2_with fail
                go_roundw
                case measure => simp [intOf]; omega
                case rel =>
                  have hi0 := HI0.out
                  refine ⟨i + 1, by go_num, by omega, fun k hk => ?_, fun k hk => by omega, below_step HBW.out HB3.out⟩
                  rw [show k = i by omega]
                  exact HOK.out
              · have h0' : 0 < i := by omega
                obtain ⟨k, hk⟩ : ∃ k : Nat, (i : Int) - 1 = k := ⟨i - 1, by omega⟩
                have hik : i = k + 1 := by omega
                have HK := Lib.hid hik
                have hwk : IntKind.i64.wrap (k : Int) = k := by simp only [IntKind.wrap, IntKind.bits, IntKind.signed]; simp; omega
                have hkn : k < n := by omega
                have hkn' : (k : Int) < n := by omega
                have HFK := Lib.hid (HT.out.fits_at hkn)
                have HCK := Lib.hid (HC.out k hkn)
                have HPOS := Lib.hid h0
                clear hik h0
                iterate 7 (refine wpO_step0 rfl rfl (fun K hK => ?_); go_simp; refine hK _ _ ?_; clear hK K)
                refine wpO_loadW (t := 26) (ad := ⟨w.heap.size, 0, none⟩) rfl rfl ?hw rfl rfl ((fun w0 hS => (HP1.out.all w0 (below_step HBW.out hS)).2)) ?_
                case hw => go_simp
                iterate 4 (refine wpO_step0 rfl rfl (fun K hK => ?_); go_simp; refine hK _ _ ?_; clear hK K)
                refine wpO_loadW (t := 36) (ad := ⟨b, (o+k*19), none⟩) rfl rfl ?hw rfl rfl ((fun w0 hS => (rowLd_of HFK.out (HCK.out.below (below_step HBE.out (below_step HBW.out hS)))).pfx)) ?_
                case hw => go_simp
                iterate 1 (refine wpO_step0 rfl rfl (fun K hK => ?_); go_simp; refine hK _ _ ?_; clear hK K)
                refine wpO_loadW (t := 36) (ad := ⟨wr.heap.size, 0, none⟩) rfl rfl ?hw rfl rfl ((fun w0 hS => (H2.out.2.all w0 hS).pfx)) ?_
                case hw => go_simp
                refine wpO_step2 rfl rfl (HB3.out) (fun K hK => ?_)
                go_simp
                refine (refcompare_any (rowAt t k).p (rowAt t i).p _ HFK.out HF.out).mono ?_
                rintro e w4 ⟨rfl, hbb4⟩
                have HB4 := Lib.hid (below_step HB3.out hbb4)
                clear hbb4
                refine hK _ _ ⟨HB4.out, ?_⟩
                clear hK K
                cases hcm : decide (0 ≤ (rowAt t k).p.cmp (rowAt t i).p) with
                | true =>
                  have HE := Lib.hid (show tabB t = false by
                    rw [Bool.eq_false_iff]
                    intro h
                    have h2 := ((tabB_iff t).1 h).2.2 k (by rw [HT.out.len]; have := HK.out; omega)
                    rw [← HK.out] at h2
                    have h3 := of_decide_eq_true hcm
                    omega)
                  iterate 3 (refine wpO_step0 rfl rfl (fun K hK => ?_); go_simp; refine hK _ _ ?_; clear hK K)
                  refine wpO_nil ?_
                  go_wp2
                  go_ret
                  rw [HE.out]
                  exact ⟨rfl, below_step HBE.out (below_step HBW.out HB4.out)⟩
                | false =>
                  have HQ := Lib.hid (of_decide_eq_false hcm)
                  iterate 3 (refine wpO_step0 rfl rfl (fun K hK => ?_); go_simp; refine hK _ _ ?_; clear hK K)
                  refine wpO_nil ?_
                  go_wp2_with fail
                  go_roundw
                  case measure => simp [intOf]; omega
                  case rel =>
                    have hkk := HK.out
                    refine ⟨i + 1, by go_num, by omega, fun q hq => ?_, fun q hq => ?_, below_step HBW.out HB4.out⟩
                    · by_cases hqi : q < i
                      · exact HH.out.2.1 q hqi
                      · rw [show q = i by omega]; exact HOK.out
                    · by_cases hqi : q + 1 < i
                      · exact HH.out.2.2.1 q hqi
                      · have e1 : q = k := by omega
                        have e2 : q + 1 = i := by omega
                        rw [e2, e1]
                        have := HQ.out
                        omega
      · have hlt' : decide (i < n) = false := decide_eq_false hlt
        have HE := Lib.hid (show tabB t = true from (tabB_iff t).2 ⟨by rw [HT.out.len]; have := HN.out; omega, fun k hk => HH.out.2.1 k (by rw [HT.out.len] at hk; omega), fun k hk => HH.out.2.2.1 k (by rw [HT.out.len] at hk; omega)⟩)
        have HB := Lib.hid HH.out.2.2.2
        clear hlt
        go_wp2_with ((with_reducible show wpList _ _ _ (Oper.mk _ (Op.load _ _) _ _ _ _ :: _) _ _); refine wpList_load_g hlw _ rfl rfl (by go_simp) ?_)
        go_ret
        rw [HE.out]
        exact ⟨rfl, below_step HBE.out HB.out⟩
end Go.Proofs.YtihfaknflfmohaaDoor

/- Arguments that are rows and tables, opened. -/
namespace Go.Proofs.YtihfaknflfmohaaDoor
open Go.ChangeShapes Go.WideShapes Go.ChangeAt Go.RowKit
set_option linter.unusedVariables false
set_option linter.unusedSimpArgs false
set_option maxRecDepth 4000
section
variable {H : Type} {enc : TypeId × Value → H} {W : World} {base : Nat} {spare : Nat → Bool} {held : Bool}
theorem open_row_cells {fuel : Nat} {cs : List Value} {x : DataW H × List MemPlace} (h : DataW.trod enc Tryd.prog W base spare held fuel 38 cs = some x) : ∃ r : Row, cs = rowC r ∧ r.ok := by
  obtain ⟨xs, m, -, -, hlen, hxl, hg⟩ := DataW.trod_struct Tryd.underlying38 h
  have c1 : Tryd.prog.cellsOf 3 = 1 := by kernel_rfl
  have c2 : Tryd.prog.cellsOf 36 = 18 := by kernel_rfl
  have c3 : Tryd.prog.cellsOf 38 = 19 := by kernel_rfl
  have h0 : DataW.trod enc Tryd.prog W base spare held m 36 ((cs.drop 0).take (Tryd.prog.cellsOf 36)) = xs[0]? := hg 0 _ rfl
  have h1 : DataW.trod enc Tryd.prog W base spare held m 3 ((cs.drop 18).take (Tryd.prog.cellsOf 3)) = xs[1]? := hg 1 _ rfl
  rw [c3] at hlen
  rw [c2, List.drop_zero] at h0
  rw [c1] at h1
  have hx2 : xs.length = 2 := hxl
  match xs, hx2 with
  | [x0, x1], _ =>
    obtain ⟨v, l, b, hvl, hb, hw, hwb⟩ := open_pfx_cells (show DataW.trod enc Tryd.prog W base spare held m 36 (cs.take 18) = some x0 from h0)
    obtain ⟨hh, hv, -, hwh⟩ := DataW.trod_int Tryd.underlying3 (show DataW.trod enc Tryd.prog W base spare held m 3 ((cs.drop 18).take 1) = some x1 from h1)
    rw [List.take_of_length_le (by rw [List.length_drop]; omega)] at hv
    refine ⟨⟨⟨v, l, b⟩, hh⟩, ?_, ⟨hb, hw, hwb⟩, hwh⟩
    rw [← List.take_append_drop 18 cs, hvl, hv]
    simp [rowC]
theorem open_tab_cells {fuel : Nat} {cs : List Value} {x : DataW H × List MemPlace} (h : DataW.trod enc Tryd.prog W base spare held fuel 28 cs = some x) (hl : Light Tryd.prog 28 x.1) : ∃ A n c t, cs = [.slice A n c] ∧ RT W A n c t ∧ Oks t ∧ n * 40 ≤ 140737488351232 := by
  obtain ⟨xs, m, -, hx, hlen, hxl, hg⟩ := DataW.trod_struct Tryd.underlying28 h
  have c1 : Tryd.prog.cellsOf 26 = 1 := by kernel_rfl
  have c3 : Tryd.prog.cellsOf 28 = 1 := by kernel_rfl
  have h0 : DataW.trod enc Tryd.prog W base spare held m 26 ((cs.drop 0).take (Tryd.prog.cellsOf 26)) = xs[0]? := hg 0 _ rfl
  rw [c3] at hlen
  rw [c1, List.drop_zero, List.take_of_length_le (by omega)] at h0
  have hx1 : xs.length = 1 := hxl
  subst hx
  match xs, hx1 with
  | [x0], _ =>
    have hl0 : Light Tryd.prog 26 x0.1 := light_field Tryd.underlying28 hl (i := 0) (f := _) rfl rfl
    obtain ⟨A, n, c, t, e1, e2, e3, e4⟩ := open_shp rowK Row.ok (by show Tryd.prog.cellsOf 38 = 19; kernel_rfl) (by show 0 < Tryd.prog.bytesOf 38; exact of_decide_eq_true (by kernel_rfl)) (fun fuel cs y hy _ => by
      obtain ⟨r, e, hr⟩ := open_row_cells hy
      exact ⟨r, e, hr.fits, hr⟩) (show DataW.trod enc Tryd.prog W base spare held m 26 cs = some x0 from h0) hl0
    refine ⟨A, n, c, t, e1, e2, e3, ?_⟩
    have hb : Tryd.prog.bytesOf rowK.t = 40 := by show Tryd.prog.bytesOf 38 = 40; kernel_rfl
    rw [hb] at e4
    exact e4
end
theorem open_tab {H : Type} {enc : TypeId × Value → H} {W : World} {base b0 : Nat} {spare : Nat → Bool} {held : Bool} {v : Value} {d : DataW H} {p : List MemPlace} (hv : Value.okWide Tryd.prog W .any b0 28 v)
    (h : DataW.Trod enc Tryd.prog W base spare held 28 v d p) (hl : Light Tryd.prog 28 d) : ∃ A n c t, v = .agg (tabV A n c) ∧ RT W A n c t ∧ Oks t ∧ n * 40 ≤ 140737488351232 := by
  obtain ⟨cs, rfl, -⟩ := okWide_struct Tryd.underlying28 hv
  obtain ⟨fuel, hf⟩ := h
  obtain ⟨A, n, c, t, hc, h1, h2, h3⟩ := open_tab_cells hf hl
  refine ⟨A, n, c, t, ?_, h1, h2, h3⟩
  have : cs = tabV A n c := by
    apply Array.toList_inj.1
    exact hc
  rw [this]
end Go.Proofs.YtihfaknflfmohaaDoor

/- Layer 27 (cache): entries in memory (37 cells), and caches (5 cells: room, version, entries, hits, misses). -/
namespace Go.Proofs.YtihfaknflfmohaaDoor
open Go.RowKit
set_option linter.unusedVariables false
set_option linter.unusedSimpArgs false
set_option maxRecDepth 4000
structure Ent where
  v : Int
  l : List Int
  r : Row
  f : Bool
structure Ent.fits (e : Ent) : Prop where
  l : B16 e.l
  r : e.r.fits
def entC (e : Ent) : List Value := (.int .i64 e.v :: nums .u8 e.l) ++ (rowC e.r ++ [.bool e.f])
def entV (e : Ent) : Array Value := (entC e).toArray
theorem entC_len {e : Ent} (h : e.fits) : (entC e).length = 37 := by
  have h1 : (nums .u8 e.l).length = 16 := by rw [nums_length]; exact h.l.len
  have h2 := rowC_len h.r
  simp [entC, h1, h2]
theorem entV_size {e : Ent} (h : e.fits) : (entV e).size = 37 := by simp [entV, entC_len h]
theorem entC_one (e : Ent) : ∀ u ∈ entC e, u.oneCell' = true := by
  intro u hu
  simp only [entC, List.mem_cons, List.mem_append, List.not_mem_nil, or_false] at hu
  rcases hu with (rfl | hu) | (hu | rfl)
  · rfl
  · exact nums_one _ _ u hu
  · exact rowC_one _ u hu
  · rfl
def entZ : Ent := ⟨0, zero16, rowZ, false⟩
theorem entZ_fits : entZ.fits := ⟨zero16_B, zero16_B⟩
theorem zero_ent : (Tryd.prog.info? 43).map (fun i => (i.zero, i.size, i.bytes)) = some (some (.agg (entV entZ)), 37, 72) := by kernel_rfl
theorem info_ent {e : Ent} (h : e.fits) : (Tryd.prog.info? 43).map (·.size) = some (entV e).size := by rw [entV_size h]; kernel_rfl
def entK : Shape Ent where
  t := 43
  ts := 23
  sz := 37
  bytes := 72
  z := entZ
  ok := Ent.fits
  enc := entC
  val := fun e => .agg (entV e)
  len := fun _ h => entC_len h
  one := entC_one
  okz := entZ_fits
  pos := by omega
  bpos := by omega
  blt := by omega
  und := Tryd.underlying23
  info := zero_ent
  venc := fun _ => rfl
  ld := fun _ _ _ e he h => load_cells (cs := entV e) h Tryd.underlying43 rfl (info_ent he)
/-- What loads of an entry tell. -/
structure EntLd (w : World) (g o : Nat) (e : Ent) : Prop where
  ent : (Instr.loadAt 43 (.pointer (some ⟨g, o, none⟩))).run Tryd.prog w = .ok (.agg (entV e)) w
  adr : (Instr.loadAt 31 (.pointer (some ⟨g, o, none⟩))).run Tryd.prog w = .ok (.agg (adrV e.v e.l)) w
  row : RowLd w g (o + 17) e.r
theorem entLd_of {w : World} {g o : Nat} {e : Ent} (hf : e.fits) (h : CellsAt w g o (entC e)) : EntLd w g o e := by
  have hn : (nums .u8 e.l).length = 16 := by rw [nums_length]; exact hf.l.len
  have h1 : CellsAt w g o (adrV e.v e.l).toList := CellsAt.left (ys := rowC e.r ++ [.bool e.f]) h
  have h2 : CellsAt w g (o + 17) (rowC e.r) := by
    have := CellsAt.mid (.int .i64 e.v :: nums .u8 e.l) (ys := rowC e.r) (zs := [.bool e.f]) (w := w) (b := g) (o := o) h
    rw [List.length_cons, hn] at this
    exact this
  exact ⟨load_cells (cs := entV e) h Tryd.underlying43 rfl (info_ent hf), load_cells h1 Tryd.underlying31 rfl (info_adr hf.l.len), rowLd_of hf.r h2⟩
theorem load_bool {w : World} {ad : Addr} {v : Value} (h : w.cell? ad = some v) : (Instr.loadAt 4 (.pointer (some ad))).run Tryd.prog w = .ok v w := by
  go_simp
theorem entLd_f {w : World} {g o : Nat} {e : Ent} (hf : e.fits) (h : CellsAt w g o (entC e)) : (Instr.loadAt 4 (.pointer (some ⟨g, o + 36, none⟩))).run Tryd.prog w = .ok (.bool e.f) w := by
  refine load_bool (h 36 _ ?_)
  have hn : (nums .u8 e.l).length = 16 := by rw [nums_length]; exact hf.l.len
  have h2 := rowC_len hf.r
  unfold entC
  rw [List.getElem?_append_right (by rw [List.length_cons, hn]; omega), List.getElem?_append_right (by rw [List.length_cons, hn, h2]; omega), List.length_cons, hn, h2]
  rfl
structure EntAt (w : World) (g : Nat) (e : Ent) : Prop where
  all : ∀ w0, Below w.heap.size w w0 → EntLd w0 g 0 e
  found : ∀ w0, Below w.heap.size w w0 → (Instr.loadAt 4 (.pointer (some ⟨g, 36, none⟩))).run Tryd.prog w0 = .ok (.bool e.f) w0
theorem ent_at {w : World} {g : Nat} {t : TypeId} {e : Ent} (he : e.fits) (h : w.heap[g]? = some (.cells (entV e) t (0, 0))) : EntAt w g e :=
  ⟨fun w0 hb => entLd_of he (cells_blk (blk_below h hb)), fun w0 hb => by have := entLd_f he (cells_blk (blk_below h hb)); rwa [Nat.zero_add] at this⟩
/-- A cache by value. -/
def cacV (room ver : Int) (A : Option Addr) (n c : Nat) (hits misses : Int) : Array Value := #[.int .i64 room, .int .u64 ver, .slice A n c, .int .u64 hits, .int .u64 misses]
end Go.Proofs.YtihfaknflfmohaaDoor

/- Layer 5 (prefix): a whole prefix out of a block. -/
namespace Go.Proofs.YtihfaknflfmohaaDoor
open Go.RowKit
set_option linter.unusedVariables false
set_option linter.unusedSimpArgs false
set_option maxRecDepth 4000

end Go.Proofs.YtihfaknflfmohaaDoor

/- Layer 5 (prefix): Has. -/
namespace Go.Proofs.YtihfaknflfmohaaDoor
open Go.RowKit
set_option linter.unusedVariables false
set_option linter.unusedSimpArgs false
set_option maxRecDepth 4000

set_option maxHeartbeats 2000000 in
theorem has_any (p : Pfx) (v : Int) (l : List Int) (w : World) (hL : Laid w) (hp : B16 p.l) (hl : B16 l) : Calls Tryd.prog 29 #[.agg (pfxV p.v p.l p.b), .agg (adrV v l)] w fun e w' => e = .returned (.bool (p.has v l)) ∧ Below w.heap.size w w' := by
  have hb1 := blk_new w (.cells (pfxV p.v p.l p.b) 36)
  have hbe1 : Below w.heap.size w (w.alloc (.cells (pfxV p.v p.l p.b) 36)) := below_alloc (Below.refl _ _) _
  have hsz : (w.alloc (.cells (pfxV p.v p.l p.b) 36)).heap.size = w.heap.size + 1 := by simp
  have hb2 := blk_new (w.alloc (.cells (pfxV p.v p.l p.b) 36)) (.cells (adrV v l) 31)
  rw [hsz] at hb2
  have hb1' := blk_below hb1 (below_alloc (Below.refl _ _) (.cells (adrV v l) 31))
  have HPA := Lib.hid (pfx_at hp hb1')
  have HAA := Lib.hid (adr_at hl hb2)
  have HLP := Lib.hid (load_pfx hp hb1')
  have HBE := Lib.hid (below_alloc hbe1 (.cells (adrV v l) 31))
  have HL := Lib.hid (hL.below HBE.out)
  obtain ⟨cs, hcs⟩ : ∃ cs, pfxV p.v p.l p.b = cs := ⟨_, rfl⟩
  obtain ⟨ds, hds⟩ : ∃ ds, adrV v l = ds := ⟨_, rfl⟩
  have hlp := HLP.out
  rw [hcs, hds] at HPA HAA HBE HL
  rw [hcs, hds]
  have hlp : (Instr.loadAt 36 (.pointer (some ⟨w.heap.size, 0, none⟩))).run Tryd.prog ((w.alloc (.cells cs 36)).alloc (.cells ds 31)) = .ok (.agg cs) ((w.alloc (.cells cs 36)).alloc (.cells ds 31)) := by
    have := HLP.out
    rw [hcs, hds] at this
    exact this
  have HCS := Lib.hid (And.intro hcs hds)
  clear hcs hds hb1 hb2 hb1' hbe1 hsz hL HLP
  go_enter Tryd.func29, Tryd.ntmps29
  go_wp2_with (refine wpList_load_g hlp _ rfl rfl (by go_simp) ?_)
  rw [← HCS.out.1]
  refine (check_any p.v p.l p.b _ (by rw [HCS.out.1]; exact HL.out) hp).mono ?_
  rintro e w1 ⟨rfl, hbb1⟩
  rw [HCS.out.1] at hbb1 ⊢
  have HB1 := Lib.hid hbb1
  clear hbb1 hlp
  cases hR : rightP p.v p.l p.b with
  | false =>
    have HE : Hid (p.has v l = false) := by unfold Pfx.has Pfx.right; rw [hR]; rfl
    have hE : errP p.v p.l p.b = 151 := by unfold errP; rw [hR]; rfl
    rw [hE]
    clear hR hE
    go_wp2
    go_ret
    rw [HE.out]
    exact ⟨rfl, below_step HBE.out HB1.out⟩
  | true =>
    have hE : errP p.v p.l p.b = 0 := by unfold errP; rw [hR]; rfl
    rw [hE]
    clear hE
    have hla := (HAA.out.all w1 HB1.out).1
    go_wp2_with (refine wpList_load_g hla _ rfl rfl (by go_simp) ?_)
    refine (checkAddr_any v l w1 (HL.out.below HB1.out) hl).mono ?_
    rintro e w2 ⟨rfl, hbb2⟩
    have HB2 := Lib.hid (below_step HB1.out hbb2)
    clear hbb2 hla
    cases hA : rightA v l with
    | false =>
      have HE : Hid (p.has v l = false) := by unfold Pfx.has; rw [hA]; cases p.right <;> rfl
      have hE : errA v l = 150 := by unfold errA; rw [hA]; rfl
      rw [hE]
      clear hR hA hE
      go_wp2
      go_ret
      rw [HE.out]
      exact ⟨rfl, below_step HBE.out HB2.out⟩
    | true =>
      have hE : errA v l = 0 := by unfold errA; rw [hA]; rfl
      rw [hE]
      clear hE
      have hlv := (HPA.out.all w2 HB2.out).2.2.1
      have hlw := (HAA.out.all w2 HB2.out).2.1
      by_cases hv : p.v = v
      · have hne : (p.v != v) = false := by simp [hv]
        have HE : Hid (p.has v l = decide (cutA l p.b = p.l)) := by unfold Pfx.has Pfx.right; rw [hR, hA, decide_eq_true hv]; rfl
        have hpb := ((p.right_iff).1 hR)
        have hwl := widthA_le p.v
        have hb128 : p.b ≤ 128 := by omega
        have hb0 := hpb.2.1
        clear hR hA hv hpb hwl
        go_wp2_with (first | (refine wpList_load_g hlv _ rfl rfl (by go_simp) ?_) | (refine wpList_load_g hlw _ rfl rfl (by go_simp) ?_))
        refine wp_region_mix (fun w0 => Below w2.heap.size w2 w0) [(0, 0), (1, 0), (2, 0), (3, 0), (5, 0), (6, 0), (7, 0), (4, 2), (8, 0), (9, 0)] (by kernel_rfl) (by kernel_rfl) (below_drew1 _) ?_
        simp only [List.map_cons, List.map_nil]
        iterate 1 (refine wpO_step0 rfl rfl (fun K hK => ?_); go_simp; refine hK _ _ ?_; clear hK K)
        refine wpO_loadW (t := 29) (ad := ⟨w.heap.size + 1, 1, none⟩) rfl rfl ?hw rfl rfl (fun w0 hS => (HAA.out.all w0 (below_step HB2.out hS)).2.2) ?_
        case hw => go_simp
        iterate 1 (refine wpO_step0 rfl rfl (fun K hK => ?_); go_simp; refine hK _ _ ?_; clear hK K)
        refine wpO_loadW (t := 3) (ad := ⟨w.heap.size, 17, none⟩) rfl rfl ?hw rfl rfl (fun w0 hS => (HPA.out.all w0 (below_step HB2.out hS)).2.1) ?_
        case hw => go_simp
        iterate 2 (refine wpO_step0 rfl rfl (fun K hK => ?_); go_simp; refine hK _ _ ?_; clear hK K)
        refine wpO_loadW (t := 29) (ad := ⟨w.heap.size, 1, none⟩) rfl rfl ?hw rfl rfl (fun w0 hS => (HPA.out.all w0 (below_step HB2.out hS)).2.2.2.1) ?_
        case hw => go_simp
        refine wpO_step2 rfl rfl (below_drew1 _) (fun K hK => ?_)
        go_simp
        refine (cut_any l p.b _ hl hb0 hb128).mono ?_
        rintro e w3 ⟨rfl, hbb3⟩
        have HB3 := Lib.hid (below_step (below_drew1 _) hbb3)
        clear hbb3
        refine hK _ _ ⟨HB3.out, ?_⟩
        clear hK K
        refine wpO_step0 rfl rfl (fun K hK => ?_)
        rw [if_pos (show Region.wanted _ _ = true from rfl)]
        refine ⟨_, fun w0 => arr_eql_exec rfl (cutA l p.b) p.l rfl rfl (cutA_16 hl _) hp w0, hK _ _ ?_⟩
        clear hK K
        iterate 1 (refine wpO_step0 rfl rfl (fun K hK => ?_); go_simp; refine hK _ _ ?_; clear hK K)
        refine wpO_nil ?_
        go_wp2
        go_ret
        rw [HE.out]
        exact ⟨rfl, below_step HBE.out (below_step HB2.out HB3.out)⟩
      · have hne : (p.v != v) = true := by simpa using hv
        have HE : Hid (p.has v l = false) := by
          unfold Pfx.has
          rw [decide_eq_false hv]
          cases p.right <;> cases rightA v l <;> rfl
        clear hR hA hv
        go_wp2_with (first | (refine wpList_load_g hlv _ rfl rfl (by go_simp) ?_) | (refine wpList_load_g hlw _ rfl rfl (by go_simp) ?_))
        go_ret
        rw [HE.out]
        exact ⟨rfl, below_step HBE.out HB2.out⟩
end Go.Proofs.YtihfaknflfmohaaDoor

/- The document's answer for layer 5: Has, Holds. -/
namespace Go.Proofs.YtihfaknflfmohaaDoor
open Go.RowKit
set_option linter.unusedVariables false
set_option linter.unusedSimpArgs false
set_option maxRecDepth 4000

set_option maxHeartbeats 2000000 in
theorem refhas_any (p : Pfx) (v : Int) (l : List Int) (w : World) (hp : B16 p.l) (hl : B16 l) (hb1 : p.b ≤ 9223372036854775807) : Calls Tryd.prog 69 #[.agg (pfxV p.v p.l p.b), .agg (adrV v l)] w fun e w' => e = .returned (.bool (p.has v l)) ∧ Below w.heap.size w w' := by
  have hblk1 := blk_new w (.cells (pfxV p.v p.l p.b) 36)
  have hbel1 : Below w.heap.size w (w.alloc (.cells (pfxV p.v p.l p.b) 36)) := below_alloc (Below.refl _ _) _
  have hblk2 := blk_new (w.alloc (.cells (pfxV p.v p.l p.b) 36)) (.cells (adrV v l) 31)
  have hbel2 : Below w.heap.size w ((w.alloc (.cells (pfxV p.v p.l p.b) 36)).alloc (.cells (adrV v l) 31)) := below_alloc (hbel1) _
  rw [show (w.alloc (.cells (pfxV p.v p.l p.b) 36)).heap.size = w.heap.size + 1 by simp] at hblk2
  replace hblk1 := blk_below hblk1 (below_alloc (Below.refl _ _) (.cells (adrV v l) 31))
  have HP1 := Lib.hid (pfx_at hp hblk1)
  have HBK1 := Lib.hid hblk1
  have HP2 := Lib.hid (adr_at hl hblk2)
  have HBK2 := Lib.hid hblk2
  have HBE := Lib.hid hbel2
  obtain ⟨cs1, hcs1⟩ : ∃ cs, pfxV p.v p.l p.b = cs := ⟨_, rfl⟩
  obtain ⟨cs2, hcs2⟩ : ∃ cs, adrV v l = cs := ⟨_, rfl⟩
  simp only [hcs1, hcs2] at HBE HP1 HP2 HBK1 HBK2 ⊢
  have HC1 := Lib.hid hcs1
  have HC2 := Lib.hid hcs2
  clear hcs1 hblk1 hbel1 hcs2 hblk2 hbel2
  have hl1 := (HP1.out.all _ (Below.refl _ _)).2.2.2.2
  go_enter Tryd.func69, Tryd.ntmps69
  go_wp2_with ((with_reducible show wpList _ _ _ (Oper.mk _ (Op.load _ _) _ _ _ _ :: _) _ _); refine wpList_load_g hl1 _ rfl rfl (by go_simp) ?_)
  refine (right_any p.v p.l p.b _ hp hb1).mono ?_
  rintro e w1 ⟨rfl, hbb1⟩
  have HB1 := Lib.hid hbb1
  clear hbb1 hl1
  cases hR : rightP p.v p.l p.b with
  | false =>
    have HE := Lib.hid (show p.has v l = false by unfold Pfx.has Pfx.right; rw [hR]; rfl)
    clear hR
    go_wp2
    go_ret
    rw [HE.out]
    exact ⟨rfl, below_step HBE.out HB1.out⟩
  | true =>
    have hla := (HP2.out.all w1 HB1.out).1
    go_wp2_with ((with_reducible show wpList _ _ _ (Oper.mk _ (Op.load _ _) _ _ _ _ :: _) _ _); refine wpList_load_g hla _ rfl rfl (by go_simp) ?_)
    refine (rightAddr_any v l w1 hl).mono ?_
    rintro e w2 ⟨rfl, hbb2⟩
    have HB2 := Lib.hid (below_step HB1.out hbb2)
    clear hbb2 hla
    cases hA : rightA v l with
    | false =>
      have HE := Lib.hid (show p.has v l = false by unfold Pfx.has; rw [hA]; cases p.right <;> rfl)
      clear hR hA
      go_wp2
      go_ret
      rw [HE.out]
      exact ⟨rfl, below_step HBE.out HB2.out⟩
    | true =>
      have hlv := (HP1.out.all w2 HB2.out).2.2.1
      have hlw := (HP2.out.all w2 HB2.out).2.1
      by_cases hv : p.v = v
      · have hne : (p.v != v) = false := by simp [hv]
        have HIF := Lib.hid (p.has_iff v l hp hl)
        have HRA := Lib.hid (And.intro (show p.right = true from hR) (And.intro hA hv))
        have hwl := widthA_le p.v
        have hb128 : p.b ≤ 128 := by have := (p.right_iff.1 hR).2.2.1; omega
        have hb0 := (p.right_iff.1 hR).2.1
        clear hR hA hv hwl hb1
        obtain ⟨k, hk⟩ := Int.eq_ofNat_of_zero_le hb0
        have HK := Lib.hid hk
        go_wp2_with (first | ((with_reducible show wpList _ _ _ (Oper.mk _ (Op.load _ _) _ _ _ _ :: _) _ _); refine wpList_load_g hlv _ rfl rfl (by go_simp) ?_) | ((with_reducible show wpList _ _ _ (Oper.mk _ (Op.load _ _) _ _ _ _ :: _) _ _); refine wpList_load_g hlw _ rfl rfl (by go_simp) ?_))
        clear hlv hlw hk
        go_loopw [5] (fun i wr => ∃ m : Nat, i = .int .i64 m ∧ Hid ((∀ j : Nat, j < m → bitA p.l j = bitA l j) ∧ Below ((w.alloc (.cells cs1 36)).alloc (.cells cs2 31)).heap.size ((w.alloc (.cells cs1 36)).alloc (.cells cs2 31)) wr)) (fun i _ => 128 - (intOf i).toNat)
        case atStart => exact ⟨0, rfl, fun j h => by omega, HB2.out⟩
        case round =>
          obtain ⟨m, rfl, HH⟩ := hrel
          have hlb := (HP1.out.all wr HH.out.2).2.1
          by_cases hlt : (m : Int) < p.b
          · have hm0 : (0 : Int) ≤ m := by omega
            have hm1 : (m : Int) < 128 := by omega
            go_wp2_with ((with_reducible show wpList _ _ _ (Oper.mk _ (Op.load _ _) _ _ _ _ :: _) _ _); refine wpList_load_g hlb _ rfl rfl (by go_simp) ?_)
            refine wp_region_mix (fun w0 => Below (wr).heap.size (wr) w0) [(0, 0), (1, 0), (2, 0), (3, 0), (5, 0), (6, 0), (7, 0), (4, 2), (8, 2), (9, 0)] (by kernel_rfl) (by kernel_rfl) (below_drew1 _) ?_
            simp only [List.map_cons, List.map_nil]
            iterate 2 (refine wpO_step0 rfl rfl (fun K hK => ?_); go_simp; refine hK _ _ ?_; clear hK K)
            refine wpO_loadW (t := 29) (ad := ⟨w.heap.size, 1, none⟩) rfl rfl ?hw rfl rfl ((fun w0 hS => (HP1.out.all w0 (below_step HH.out.2 hS)).2.2.2.1)) ?_
            case hw => go_simp
            iterate 2 (refine wpO_step0 rfl rfl (fun K hK => ?_); go_simp; refine hK _ _ ?_; clear hK K)
            refine wpO_loadW (t := 29) (ad := ⟨(w.heap.size + 1), 1, none⟩) rfl rfl ?hw rfl rfl ((fun w0 hS => (HP2.out.all w0 (below_step HH.out.2 hS)).2.2)) ?_
            case hw => go_simp
            iterate 1 (refine wpO_step0 rfl rfl (fun K hK => ?_); go_simp; refine hK _ _ ?_; clear hK K)
            refine wpO_step2 rfl rfl (below_drew1 _) (fun K hK => ?_)
            go_simp
            refine (refat_any p.l m _ hp hm0 hm1).mono ?_
            rintro e w3 ⟨rfl, hbb3⟩
            rw [show (m : Int).toNat = m by omega]
            have HB3 := Lib.hid (below_step (below_drew1 _) hbb3)
            clear hbb3
            refine hK _ _ ⟨HB3.out, ?_⟩
            clear hK K
            refine wpO_step2 rfl rfl (HB3.out) (fun K hK => ?_)
            go_simp
            refine (refat_any l m _ hl hm0 hm1).mono ?_
            rintro e w4 ⟨rfl, hbb4⟩
            rw [show (m : Int).toNat = m by omega]
            have HB4 := Lib.hid (below_step HB3.out hbb4)
            clear hbb4
            refine hK _ _ ⟨HB4.out, ?_⟩
            clear hK K
            by_cases hq : bitA p.l m = bitA l m
            · have hqb : (bitA p.l m != bitA l m) = false := by simp [hq]
              have HQ := Lib.hid hq
              clear hq hlb
              iterate 1 (refine wpO_step0 rfl rfl (fun K hK => ?_); go_simp; refine hK _ _ ?_; clear hK K)
              refine wpO_nil ?_
              go_wp2
              go_roundw
              case measure => simp [intOf]; omega
              case rel =>
                refine ⟨m + 1, by go_num, fun j hj => ?_, below_step HH.out.2 HB4.out⟩
                by_cases hj' : j < m
                · exact HH.out.1 j hj'
                · rw [show j = m by omega]
                  exact HQ.out
            · have hqb : (bitA p.l m != bitA l m) = true := by simpa using hq
              have HE := Lib.hid (show p.has v l = false by
                rw [Bool.eq_false_iff]
                intro h
                exact hq ((HIF.out.1 h).2.2.2 m (by omega) hlt))
              clear hq hlb
              iterate 1 (refine wpO_step0 rfl rfl (fun K hK => ?_); go_simp; refine hK _ _ ?_; clear hK K)
              refine wpO_nil ?_
              go_wp2
              go_ret
              rw [HE.out]
              exact ⟨rfl, below_step HBE.out (below_step HH.out.2 HB4.out)⟩
          · have hm1 : decide ((m : Int) < p.b) = false := decide_eq_false hlt
            have HE := Lib.hid (show p.has v l = true from HIF.out.2 ⟨HRA.out.1, HRA.out.2.1, HRA.out.2.2, fun j _ hj => HH.out.1 j (by omega)⟩)
            clear hlt
            go_wp2_with ((with_reducible show wpList _ _ _ (Oper.mk _ (Op.load _ _) _ _ _ _ :: _) _ _); refine wpList_load_g hlb _ rfl rfl (by go_simp) ?_)
            go_ret
            rw [HE.out]
            exact ⟨rfl, below_step HBE.out HH.out.2⟩
      · have hne : (p.v != v) = true := by simpa using hv
        have HE := Lib.hid (show p.has v l = false by unfold Pfx.has; rw [decide_eq_false hv]; cases p.right <;> cases rightA v l <;> rfl)
        clear hR hA hv
        go_wp2_with (first | ((with_reducible show wpList _ _ _ (Oper.mk _ (Op.load _ _) _ _ _ _ :: _) _ _); refine wpList_load_g hlv _ rfl rfl (by go_simp) ?_) | ((with_reducible show wpList _ _ _ (Oper.mk _ (Op.load _ _) _ _ _ _ :: _) _ _); refine wpList_load_g hlw _ rfl rfl (by go_simp) ?_))
        go_ret
        rw [HE.out]
        exact ⟨rfl, below_step HBE.out HB2.out⟩

end Go.Proofs.YtihfaknflfmohaaDoor

/- Layer 9 (table): Get, Drop. -/
namespace Go.Proofs.YtihfaknflfmohaaDoor
open Go.RowKit
set_option linter.unusedVariables false
set_option linter.unusedSimpArgs false
set_option maxRecDepth 4000
theorem load_tab {w : World} {g : Nat} {A : Option Addr} {n c : Nat} (h : w.heap[g]? = some (.cells (tabV A n c) 28 (0, 0))) : (Instr.loadAt 28 (.pointer (some ⟨g, 0, none⟩))).run Tryd.prog w = .ok (.agg (tabV A n c)) w := ((tab_at h).all w (Below.refl _ _)).1
theorem run_build_tab_nil (w : World) : (Instr.build 28 #[]).run Tryd.prog w = .ok (.agg (tabV none 0 0)) w := run_build w _ _ _ (by kernel_rfl)
theorem info_tab (A : Option Addr) (n c : Nat) : (Tryd.prog.info? 28).map (·.size) = some (tabV A n c).size := by show _ = some 1; kernel_rfl
theorem errT_true {t : List Row} (h : tabB t = true) : errT t = 0 := by unfold errT; rw [h]; rfl
theorem errT_false {t : List Row} (h : tabB t = false) : errT t = 190 := by unfold errT; rw [h]; rfl
end Go.Proofs.YtihfaknflfmohaaDoor

/- Layer 27 (cache): which entries may be. -/
namespace Go.Proofs.YtihfaknflfmohaaDoor
open Go.RowKit
set_option linter.unusedVariables false
set_option linter.unusedSimpArgs false
set_option maxRecDepth 4000
structure Ent.ok (e : Ent) : Prop where
  l : B16 e.l
  v : (Lit.int .i64 e.v).wf = true
  r : e.r.ok
theorem Ent.ok.fits {e : Ent} (h : e.ok) : e.fits := ⟨h.l, h.r.fits⟩
def entB (e : Ent) : Bool := rightA e.v e.l && (if e.f then e.r.p.has e.v e.l && decide (1 ≤ e.r.h) && decide (e.r.h ≤ 255) else e.r.eqB rowZ)
theorem rowZ_okk : rowZ.ok := ⟨⟨zero16_B, by decide, by decide⟩, by decide⟩
set_option maxHeartbeats 2000000 in
theorem eright_any (e : Ent) (w : World) (hL : Laid w) (heo : e.ok) : Calls Tryd.prog 75 #[.agg (entV e)] w fun x w' => x = .returned (.bool (entB e)) ∧ Below w.heap.size w w' := by
  have he := heo.fits
  have hblk1 := blk_new w (.cells (entV e) 43)
  have hbel1 : Below w.heap.size w (w.alloc (.cells (entV e) 43)) := below_alloc (Below.refl _ _) _
  have HP1 := Lib.hid (ent_at he hblk1)
  have HBK1 := Lib.hid hblk1
  have HBE := Lib.hid hbel1
  have HL := Lib.hid (hL.below HBE.out)
  obtain ⟨cs1, hcs1⟩ : ∃ cs, entV e = cs := ⟨_, rfl⟩
  simp only [hcs1] at HBE HL HP1 HBK1 ⊢
  have HC1 := Lib.hid hcs1
  clear hL hcs1 hblk1 hbel1
  have hl1 := (HP1.out.all _ (Below.refl _ _)).adr
  go_enter Tryd.func75, Tryd.ntmps75
  go_wp2_with (first | ((with_reducible show wpList _ _ _ (Oper.mk _ (Op.load _ _) _ _ _ _ :: _) _ _); refine wpList_load_g hl1 _ rfl rfl (by go_simp) ?_))
  refine (checkAddr_any e.v e.l _ HL.out heo.l).mono ?_
  rintro x w1 ⟨rfl, hb1⟩
  have HB1 := Lib.hid hb1
  clear hb1 hl1
  cases hA : rightA e.v e.l with
  | false =>
    have HE := Lib.hid (show entB e = false by unfold entB; rw [hA]; rfl)
    rw [errA_false hA]
    clear hA
    go_wp2
    go_ret
    rw [HE.out]
    exact ⟨rfl, below_step HBE.out HB1.out⟩
  | true =>
    rw [errA_true hA]
    have HA := Lib.hid hA
    have hlf := HP1.out.found w1 HB1.out
    clear hA
    cases hF : e.f with
    | false =>
      have HE := Lib.hid (show entB e = e.r.eqB rowZ by unfold entB; rw [HA.out, hF]; rfl)
      rw [hF] at hlf
      have hlr := (HP1.out.all w1 HB1.out).row.row
      have hbn := run_build_row_nil
      clear hF
      go_wp2_with (first | ((with_reducible show wpList _ _ _ (Oper.mk _ (Op.load _ _) _ _ _ _ :: _) _ _); refine wpList_load_g hlf _ rfl rfl (by go_simp) ?_) | ((with_reducible show wpList _ _ _ (Oper.mk _ (Op.load _ _) _ _ _ _ :: _) _ _); refine wpList_load_g hlr _ rfl rfl (by go_simp) ?_) | ((with_reducible show wpList _ _ _ (Oper.mk _ (Op.build _ _) _ _ _ _ :: _) _ _); refine wpList_exw rfl (exec_build 38 #[] rfl #[] rfl (hbn _)) ?_) | ((with_reducible show wpList _ _ _ (Oper.mk _ (Op.binOp _ _ _ _ _) _ _ _ _ :: _) _ _); refine wpList_exw rfl (row_eql_exec rfl e.r rowZ rfl rfl heo.r rowZ_okk _) ?_))
      go_ret
      rw [HE.out]
      exact ⟨rfl, below_step HBE.out HB1.out⟩
    | true =>
      have HE := Lib.hid (show entB e = (e.r.p.has e.v e.l && decide (1 ≤ e.r.h) && decide (e.r.h ≤ 255)) by unfold entB; rw [HA.out, hF]; rfl)
      rw [hF] at hlf
      have hlp := (HP1.out.all w1 HB1.out).row.pfx
      have hla := (HP1.out.all w1 HB1.out).adr
      clear hF
      go_wp2_with (first | ((with_reducible show wpList _ _ _ (Oper.mk _ (Op.load _ _) _ _ _ _ :: _) _ _); refine wpList_load_g hlf _ rfl rfl (by go_simp) ?_) | ((with_reducible show wpList _ _ _ (Oper.mk _ (Op.load _ _) _ _ _ _ :: _) _ _); refine wpList_load_g hlp _ rfl rfl (by go_simp) ?_) | ((with_reducible show wpList _ _ _ (Oper.mk _ (Op.load _ _) _ _ _ _ :: _) _ _); refine wpList_load_g hla _ rfl rfl (by go_simp) ?_))
      refine (has_any e.r.p e.v e.l w1 (HL.out.below HB1.out) heo.r.p.l heo.l).mono ?_
      rintro x w2 ⟨rfl, hb2⟩
      have HB2 := Lib.hid (below_step HB1.out hb2)
      have hlh := (HP1.out.all w2 HB2.out).row.hop
      clear hb2 hlp hla hlf
      cases hH : e.r.p.has e.v e.l with
      | false =>
        have HE2 := Lib.hid (show entB e = false by rw [HE.out, hH]; rfl)
        clear hH
        go_wp2
        go_ret
        rw [HE2.out]
        exact ⟨rfl, below_step HBE.out HB2.out⟩
      | true =>
        by_cases h1 : 1 ≤ e.r.h
        · have h1d : decide (1 ≤ e.r.h) = true := decide_eq_true h1
          have HE2 := Lib.hid (show entB e = decide (e.r.h ≤ 255) by rw [HE.out, hH, h1d]; rfl)
          clear hH
          go_wp2_with (first | ((with_reducible show wpList _ _ _ (Oper.mk _ (Op.load _ _) _ _ _ _ :: _) _ _); refine wpList_load_g hlh _ rfl rfl (by go_simp) ?_))
          go_ret
          rw [HE2.out]
          exact ⟨rfl, below_step HBE.out HB2.out⟩
        · have h1d : decide (1 ≤ e.r.h) = false := decide_eq_false h1
          have HE2 := Lib.hid (show entB e = false by rw [HE.out, hH, h1d]; rfl)
          clear hH
          go_wp2_with (first | ((with_reducible show wpList _ _ _ (Oper.mk _ (Op.load _ _) _ _ _ _ :: _) _ _); refine wpList_load_g hlh _ rfl rfl (by go_simp) ?_))
          go_ret
          rw [HE2.out]
          exact ⟨rfl, below_step HBE.out HB2.out⟩
set_option maxHeartbeats 2000000 in
theorem referight_any (e : Ent) (w : World) (heo : e.ok) : Calls Tryd.prog 74 #[.agg (entV e)] w fun x w' => x = .returned (.bool (entB e)) ∧ Below w.heap.size w w' := by
  have he := heo.fits
  have hblk1 := blk_new w (.cells (entV e) 43)
  have hbel1 : Below w.heap.size w (w.alloc (.cells (entV e) 43)) := below_alloc (Below.refl _ _) _
  have HP1 := Lib.hid (ent_at he hblk1)
  have HBK1 := Lib.hid hblk1
  have HBE := Lib.hid hbel1
  obtain ⟨cs1, hcs1⟩ : ∃ cs, entV e = cs := ⟨_, rfl⟩
  simp only [hcs1] at HBE HP1 HBK1 ⊢
  have HC1 := Lib.hid hcs1
  clear hcs1 hblk1 hbel1
  have hl1 := (HP1.out.all _ (Below.refl _ _)).adr
  go_enter Tryd.func74, Tryd.ntmps74
  go_wp2_with (first | ((with_reducible show wpList _ _ _ (Oper.mk _ (Op.load _ _) _ _ _ _ :: _) _ _); refine wpList_load_g hl1 _ rfl rfl (by go_simp) ?_))
  refine (rightAddr_any e.v e.l _ heo.l).mono ?_
  rintro x w1 ⟨rfl, hb1⟩
  have HB1 := Lib.hid hb1
  clear hb1 hl1
  cases hA : rightA e.v e.l with
  | false =>
    have HE := Lib.hid (show entB e = false by unfold entB; rw [hA]; rfl)
    clear hA
    go_wp2
    go_ret
    rw [HE.out]
    exact ⟨rfl, below_step HBE.out HB1.out⟩
  | true =>
    have HA := Lib.hid hA
    have hlf := HP1.out.found w1 HB1.out
    clear hA
    cases hF : e.f with
    | false =>
      have HE := Lib.hid (show entB e = e.r.eqB rowZ by unfold entB; rw [HA.out, hF]; rfl)
      rw [hF] at hlf
      have hlr := (HP1.out.all w1 HB1.out).row.row
      have hbn := run_build_row_nil
      clear hF
      go_wp2_with (first | ((with_reducible show wpList _ _ _ (Oper.mk _ (Op.load _ _) _ _ _ _ :: _) _ _); refine wpList_load_g hlf _ rfl rfl (by go_simp) ?_) | ((with_reducible show wpList _ _ _ (Oper.mk _ (Op.load _ _) _ _ _ _ :: _) _ _); refine wpList_load_g hlr _ rfl rfl (by go_simp) ?_) | ((with_reducible show wpList _ _ _ (Oper.mk _ (Op.build _ _) _ _ _ _ :: _) _ _); refine wpList_exw rfl (exec_build 38 #[] rfl #[] rfl (hbn _)) ?_) | ((with_reducible show wpList _ _ _ (Oper.mk _ (Op.binOp _ _ _ _ _) _ _ _ _ :: _) _ _); refine wpList_exw rfl (row_eql_exec rfl e.r rowZ rfl rfl heo.r rowZ_okk _) ?_))
      go_ret
      rw [HE.out]
      exact ⟨rfl, below_step HBE.out HB1.out⟩
    | true =>
      have HE := Lib.hid (show entB e = (e.r.p.has e.v e.l && decide (1 ≤ e.r.h) && decide (e.r.h ≤ 255)) by unfold entB; rw [HA.out, hF]; rfl)
      rw [hF] at hlf
      have hlp := (HP1.out.all w1 HB1.out).row.pfx
      have hla := (HP1.out.all w1 HB1.out).adr
      clear hF
      go_wp2_with (first | ((with_reducible show wpList _ _ _ (Oper.mk _ (Op.load _ _) _ _ _ _ :: _) _ _); refine wpList_load_g hlf _ rfl rfl (by go_simp) ?_) | ((with_reducible show wpList _ _ _ (Oper.mk _ (Op.load _ _) _ _ _ _ :: _) _ _); refine wpList_load_g hlp _ rfl rfl (by go_simp) ?_) | ((with_reducible show wpList _ _ _ (Oper.mk _ (Op.load _ _) _ _ _ _ :: _) _ _); refine wpList_load_g hla _ rfl rfl (by go_simp) ?_))
      refine (refhas_any e.r.p e.v e.l w1 heo.r.p.l heo.l (wf_i64 heo.r.p.b).2).mono ?_
      rintro x w2 ⟨rfl, hb2⟩
      have HB2 := Lib.hid (below_step HB1.out hb2)
      have hlh := (HP1.out.all w2 HB2.out).row.hop
      clear hb2 hlp hla hlf
      cases hH : e.r.p.has e.v e.l with
      | false =>
        have HE2 := Lib.hid (show entB e = false by rw [HE.out, hH]; rfl)
        clear hH
        go_wp2
        go_ret
        rw [HE2.out]
        exact ⟨rfl, below_step HBE.out HB2.out⟩
      | true =>
        by_cases h1 : 1 ≤ e.r.h
        · have h1d : decide (1 ≤ e.r.h) = true := decide_eq_true h1
          have HE2 := Lib.hid (show entB e = decide (e.r.h ≤ 255) by rw [HE.out, hH, h1d]; rfl)
          clear hH
          go_wp2_with (first | ((with_reducible show wpList _ _ _ (Oper.mk _ (Op.load _ _) _ _ _ _ :: _) _ _); refine wpList_load_g hlh _ rfl rfl (by go_simp) ?_))
          go_ret
          rw [HE2.out]
          exact ⟨rfl, below_step HBE.out HB2.out⟩
        · have h1d : decide (1 ≤ e.r.h) = false := decide_eq_false h1
          have HE2 := Lib.hid (show entB e = false by rw [HE.out, hH, h1d]; rfl)
          clear hH
          go_wp2_with (first | ((with_reducible show wpList _ _ _ (Oper.mk _ (Op.load _ _) _ _ _ _ :: _) _ _); refine wpList_load_g hlh _ rfl rfl (by go_simp) ?_))
          go_ret
          rw [HE2.out]
          exact ⟨rfl, below_step HBE.out HB2.out⟩
end Go.Proofs.YtihfaknflfmohaaDoor

/- Layer 27 (cache): a cache in a block. -/
namespace Go.Proofs.YtihfaknflfmohaaDoor
open Go.RowKit
set_option linter.unusedVariables false
set_option linter.unusedSimpArgs false
set_option maxRecDepth 4000
structure Cac where
  room : Int
  ver : Int
  A : Option Addr
  n : Nat
  c : Nat
  hits : Int
  misses : Int
def Cac.vv (x : Cac) : Array Value := cacV x.room x.ver x.A x.n x.c x.hits x.misses
theorem load_u64c {w : World} {ad : Addr} {v : Value} (h : w.cell? ad = some v) : (Instr.loadAt 22 (.pointer (some ad))).run Tryd.prog w = .ok v w := by
  go_simp
theorem load_ents {w : World} {ad : Addr} {v : Value} (h : w.cell? ad = some v) : (Instr.loadAt 23 (.pointer (some ad))).run Tryd.prog w = .ok v w := by
  go_simp
theorem info_cac (x : Cac) : (Tryd.prog.info? 25).map (·.size) = some x.vv.size := by show _ = some 5; kernel_rfl
structure CacLd (w : World) (g : Nat) (x : Cac) : Prop where
  cac : (Instr.loadAt 25 (.pointer (some ⟨g, 0, none⟩))).run Tryd.prog w = .ok (.agg x.vv) w
  room : (Instr.loadAt 3 (.pointer (some ⟨g, 0, none⟩))).run Tryd.prog w = .ok (.int .i64 x.room) w
  ver : (Instr.loadAt 22 (.pointer (some ⟨g, 1, none⟩))).run Tryd.prog w = .ok (.int .u64 x.ver) w
  ents : (Instr.loadAt 23 (.pointer (some ⟨g, 2, none⟩))).run Tryd.prog w = .ok (.slice x.A x.n x.c) w
  hits : (Instr.loadAt 22 (.pointer (some ⟨g, 3, none⟩))).run Tryd.prog w = .ok (.int .u64 x.hits) w
  misses : (Instr.loadAt 22 (.pointer (some ⟨g, 4, none⟩))).run Tryd.prog w = .ok (.int .u64 x.misses) w
structure CacAt (w : World) (g : Nat) (x : Cac) : Prop where
  all : ∀ w0, Below w.heap.size w w0 → CacLd w0 g x
theorem cac_at {w : World} {g : Nat} {x : Cac} (h : w.heap[g]? = some (.cells x.vv 25 (0, 0))) : CacAt w g x := by
  refine ⟨fun w0 hb => ?_⟩
  have h0 := cells_blk (blk_below h hb)
  exact ⟨load_cells h0 Tryd.underlying25 rfl (info_cac x), load_int (h0 0 _ rfl), load_u64c (h0 1 _ rfl), load_ents (h0 2 _ rfl), load_u64c (h0 3 _ rfl), load_u64c (h0 4 _ rfl)⟩
end Go.Proofs.YtihfaknflfmohaaDoor

/- Layer 27 (cache): the document's Right. -/
namespace Go.Proofs.YtihfaknflfmohaaDoor
open Go.RowKit
set_option linter.unusedVariables false
set_option linter.unusedSimpArgs false
set_option maxRecDepth 4000
abbrev entAt (es : List Ent) (i : Nat) : Ent := entK.at_ es i
abbrev RE (w : World) (A : Option Addr) (n c : Nat) (es : List Ent) : Prop := RS entK w A n c es
def Oke (es : List Ent) : Prop := ∀ e ∈ es, e.ok
theorem entAt_get {es : List Ent} {i : Nat} (hi : i < es.length) : es[i]? = some (entAt es i) := by
  unfold entAt Shape.at_
  simp [List.getElem?_eq_getElem hi]
theorem Oke.at_ {es : List Ent} (h : Oke es) {i : Nat} (hi : i < es.length) : (entAt es i).ok := h _ (List.mem_of_getElem? (entAt_get hi))
def sA (v : Int) (l : List Int) (v' : Int) (l' : List Int) : Bool := decide (v = v') && decide (l = l')
theorem sA_true {v v' : Int} {l l' : List Int} : sA v l v' l' = true ↔ v = v' ∧ l = l' := by simp [sA]
theorem sA_exec {r : Operand → Value} {o : Oper} {x y : Operand} {ty : TypeId} (ho : o.op = .binOp .eql 31 x y ty) (v : Int) (l : List Int) (v' : Int) (l' : List Int) (hx : r x = .agg (adrV v l)) (hy : r y = .agg (adrV v' l')) (hl : B16 l) (hl' : B16 l') (hv : (Lit.int .i64 v).wf = true) (hv' : (Lit.int .i64 v').wf = true) (w : World) : (execOp r o).run Tryd.prog w = .ok (.value (.bool (sA v l v' l'))) w := adr_eql_exec ho v l v' l' hx hy hl hl' hv hv' w
def sameA (x y : Ent) : Bool := sA x.v x.l y.v y.l
def entsB (es : List Ent) : Bool := decide (∀ j, j < es.length → entB (entAt es j) = true ∧ ∀ k, k < j → sameA (entAt es k) (entAt es j) = false)
def headB (x : Cac) : Bool := !(decide (x.room < 1) || decide (16 < x.room) || decide (4611686018427387904 < x.ver) || decide (x.room < x.n) || decide (4611686018427387904 < x.hits) || decide (4611686018427387904 < x.misses))
def cacB (x : Cac) (es : List Ent) : Bool := headB x && entsB es
theorem entsB_true {es : List Ent} (h : ∀ j, j < es.length → entB (entAt es j) = true ∧ ∀ k, k < j → sameA (entAt es k) (entAt es j) = false) : entsB es = true := decide_eq_true h
theorem entsB_bad {es : List Ent} {j : Nat} (hj : j < es.length) (h : entB (entAt es j) = false) : entsB es = false := decide_eq_false (fun hh => by rw [(hh j hj).1] at h; cases h)
theorem entsB_dup {es : List Ent} {j k : Nat} (hj : j < es.length) (hk : k < j) (h : sameA (entAt es k) (entAt es j) = true) : entsB es = false := decide_eq_false (fun hh => by rw [(hh j hj).2 k hk] at h; cases h)
set_option maxRecDepth 100000 in
set_option maxHeartbeats 4000000 in
theorem refcright_any (x : Cac) (es : List Ent) (w : World) (he : RE w x.A x.n x.c es) (oe : Oke es) (hn : x.n ≤ 100000) : Calls Tryd.prog 31 #[.agg x.vv] w fun r w' => r = .returned (.bool (cacB x es)) ∧ Below w.heap.size w w' := by
  have hblk1 := blk_new w (.cells (x.vv) 25)
  have hbel1 : Below w.heap.size w (w.alloc (.cells (x.vv) 25)) := below_alloc (Below.refl _ _) _
  have HP1 := Lib.hid (cac_at hblk1)
  have HBK1 := Lib.hid hblk1
  have HBE := Lib.hid hbel1
  obtain ⟨cs1, hcs1⟩ : ∃ cs, x.vv = cs := ⟨_, rfl⟩
  simp only [hcs1] at HBE HP1 HBK1 ⊢
  have HC1 := Lib.hid hcs1
  clear hcs1 hblk1 hbel1
  have HE := Lib.hid (he.below HBE.out)
  have OE := Lib.hid oe
  have hl := HP1.out.all _ (Below.refl _ _)
  have hl1 := hl.room
  have hl2 := hl.ver
  have hl3 := hl.ents
  have hl4 := hl.hits
  have hl5 := hl.misses
  clear he oe hl
  obtain ⟨room, ver, A, n, c, hits, misses⟩ := x
  simp only at *
  go_enter Tryd.func31, Tryd.ntmps31
  by_cases h1 : (room : Int) < 1
  · have h1b : decide ((room : Int) < 1) = true := decide_eq_true h1
    have HF := Lib.hid (show cacB ⟨room, ver, A, n, c, hits, misses⟩ es = false by unfold cacB headB; simp [h1])
    go_wp2_with (first | ((with_reducible show wpList _ _ _ (Oper.mk _ (Op.load _ _) _ _ _ _ :: _) _ _); refine wpList_load_g hl1 _ rfl rfl (by go_simp) ?_) | ((with_reducible show wpList _ _ _ (Oper.mk _ (Op.load _ _) _ _ _ _ :: _) _ _); refine wpList_load_g hl2 _ rfl rfl (by go_simp) ?_) | ((with_reducible show wpList _ _ _ (Oper.mk _ (Op.load _ _) _ _ _ _ :: _) _ _); refine wpList_load_g hl3 _ rfl rfl (by go_simp) ?_) | ((with_reducible show wpList _ _ _ (Oper.mk _ (Op.load _ _) _ _ _ _ :: _) _ _); refine wpList_load_g hl4 _ rfl rfl (by go_simp) ?_) | ((with_reducible show wpList _ _ _ (Oper.mk _ (Op.load _ _) _ _ _ _ :: _) _ _); refine wpList_load_g hl5 _ rfl rfl (by go_simp) ?_))
    go_ret
    rw [HF.out]
    exact ⟨rfl, HBE.out⟩
  · have h1b : decide ((room : Int) < 1) = false := decide_eq_false h1
    by_cases h2 : (16 : Int) < room
    · have h2b : decide ((16 : Int) < room) = true := decide_eq_true h2
      have HF := Lib.hid (show cacB ⟨room, ver, A, n, c, hits, misses⟩ es = false by unfold cacB headB; simp [h2])
      go_wp2_with (first | ((with_reducible show wpList _ _ _ (Oper.mk _ (Op.load _ _) _ _ _ _ :: _) _ _); refine wpList_load_g hl1 _ rfl rfl (by go_simp) ?_) | ((with_reducible show wpList _ _ _ (Oper.mk _ (Op.load _ _) _ _ _ _ :: _) _ _); refine wpList_load_g hl2 _ rfl rfl (by go_simp) ?_) | ((with_reducible show wpList _ _ _ (Oper.mk _ (Op.load _ _) _ _ _ _ :: _) _ _); refine wpList_load_g hl3 _ rfl rfl (by go_simp) ?_) | ((with_reducible show wpList _ _ _ (Oper.mk _ (Op.load _ _) _ _ _ _ :: _) _ _); refine wpList_load_g hl4 _ rfl rfl (by go_simp) ?_) | ((with_reducible show wpList _ _ _ (Oper.mk _ (Op.load _ _) _ _ _ _ :: _) _ _); refine wpList_load_g hl5 _ rfl rfl (by go_simp) ?_))
      go_ret
      rw [HF.out]
      exact ⟨rfl, HBE.out⟩
    · have h2b : decide ((16 : Int) < room) = false := decide_eq_false h2
      by_cases h3 : (4611686018427387904 : Int) < ver
      · have h3b : decide ((4611686018427387904 : Int) < ver) = true := decide_eq_true h3
        have HF := Lib.hid (show cacB ⟨room, ver, A, n, c, hits, misses⟩ es = false by unfold cacB headB; simp [h3])
        go_wp2_with (first | ((with_reducible show wpList _ _ _ (Oper.mk _ (Op.load _ _) _ _ _ _ :: _) _ _); refine wpList_load_g hl1 _ rfl rfl (by go_simp) ?_) | ((with_reducible show wpList _ _ _ (Oper.mk _ (Op.load _ _) _ _ _ _ :: _) _ _); refine wpList_load_g hl2 _ rfl rfl (by go_simp) ?_) | ((with_reducible show wpList _ _ _ (Oper.mk _ (Op.load _ _) _ _ _ _ :: _) _ _); refine wpList_load_g hl3 _ rfl rfl (by go_simp) ?_) | ((with_reducible show wpList _ _ _ (Oper.mk _ (Op.load _ _) _ _ _ _ :: _) _ _); refine wpList_load_g hl4 _ rfl rfl (by go_simp) ?_) | ((with_reducible show wpList _ _ _ (Oper.mk _ (Op.load _ _) _ _ _ _ :: _) _ _); refine wpList_load_g hl5 _ rfl rfl (by go_simp) ?_))
        go_ret
        rw [HF.out]
        exact ⟨rfl, HBE.out⟩
      · have h3b : decide ((4611686018427387904 : Int) < ver) = false := decide_eq_false h3
        by_cases h4 : room < (n : Int)
        · have h4b : decide (room < (n : Int)) = true := decide_eq_true h4
          have HF := Lib.hid (show cacB ⟨room, ver, A, n, c, hits, misses⟩ es = false by unfold cacB headB; simp [h4])
          go_wp2_with (first | ((with_reducible show wpList _ _ _ (Oper.mk _ (Op.load _ _) _ _ _ _ :: _) _ _); refine wpList_load_g hl1 _ rfl rfl (by go_simp) ?_) | ((with_reducible show wpList _ _ _ (Oper.mk _ (Op.load _ _) _ _ _ _ :: _) _ _); refine wpList_load_g hl2 _ rfl rfl (by go_simp) ?_) | ((with_reducible show wpList _ _ _ (Oper.mk _ (Op.load _ _) _ _ _ _ :: _) _ _); refine wpList_load_g hl3 _ rfl rfl (by go_simp) ?_) | ((with_reducible show wpList _ _ _ (Oper.mk _ (Op.load _ _) _ _ _ _ :: _) _ _); refine wpList_load_g hl4 _ rfl rfl (by go_simp) ?_) | ((with_reducible show wpList _ _ _ (Oper.mk _ (Op.load _ _) _ _ _ _ :: _) _ _); refine wpList_load_g hl5 _ rfl rfl (by go_simp) ?_))
          go_ret
          rw [HF.out]
          exact ⟨rfl, HBE.out⟩
        · have h4b : decide (room < (n : Int)) = false := decide_eq_false h4
          by_cases h5 : (4611686018427387904 : Int) < hits
          · have h5b : decide ((4611686018427387904 : Int) < hits) = true := decide_eq_true h5
            have HF := Lib.hid (show cacB ⟨room, ver, A, n, c, hits, misses⟩ es = false by unfold cacB headB; simp [h5])
            go_wp2_with (first | ((with_reducible show wpList _ _ _ (Oper.mk _ (Op.load _ _) _ _ _ _ :: _) _ _); refine wpList_load_g hl1 _ rfl rfl (by go_simp) ?_) | ((with_reducible show wpList _ _ _ (Oper.mk _ (Op.load _ _) _ _ _ _ :: _) _ _); refine wpList_load_g hl2 _ rfl rfl (by go_simp) ?_) | ((with_reducible show wpList _ _ _ (Oper.mk _ (Op.load _ _) _ _ _ _ :: _) _ _); refine wpList_load_g hl3 _ rfl rfl (by go_simp) ?_) | ((with_reducible show wpList _ _ _ (Oper.mk _ (Op.load _ _) _ _ _ _ :: _) _ _); refine wpList_load_g hl4 _ rfl rfl (by go_simp) ?_) | ((with_reducible show wpList _ _ _ (Oper.mk _ (Op.load _ _) _ _ _ _ :: _) _ _); refine wpList_load_g hl5 _ rfl rfl (by go_simp) ?_))
            go_ret
            rw [HF.out]
            exact ⟨rfl, HBE.out⟩
          · have h5b : decide ((4611686018427387904 : Int) < hits) = false := decide_eq_false h5
            by_cases h6 : (4611686018427387904 : Int) < misses
            · have h6b : decide ((4611686018427387904 : Int) < misses) = true := decide_eq_true h6
              have HF := Lib.hid (show cacB ⟨room, ver, A, n, c, hits, misses⟩ es = false by unfold cacB headB; simp [h6])
              go_wp2_with (first | ((with_reducible show wpList _ _ _ (Oper.mk _ (Op.load _ _) _ _ _ _ :: _) _ _); refine wpList_load_g hl1 _ rfl rfl (by go_simp) ?_) | ((with_reducible show wpList _ _ _ (Oper.mk _ (Op.load _ _) _ _ _ _ :: _) _ _); refine wpList_load_g hl2 _ rfl rfl (by go_simp) ?_) | ((with_reducible show wpList _ _ _ (Oper.mk _ (Op.load _ _) _ _ _ _ :: _) _ _); refine wpList_load_g hl3 _ rfl rfl (by go_simp) ?_) | ((with_reducible show wpList _ _ _ (Oper.mk _ (Op.load _ _) _ _ _ _ :: _) _ _); refine wpList_load_g hl4 _ rfl rfl (by go_simp) ?_) | ((with_reducible show wpList _ _ _ (Oper.mk _ (Op.load _ _) _ _ _ _ :: _) _ _); refine wpList_load_g hl5 _ rfl rfl (by go_simp) ?_))
              go_ret
              rw [HF.out]
              exact ⟨rfl, HBE.out⟩
            · have h6b : decide ((4611686018427387904 : Int) < misses) = false := decide_eq_false h6
              have HH : Hid (headB ⟨room, ver, A, n, c, hits, misses⟩ = true) := Lib.hid (by unfold headB; simp only [h1b, h2b, h3b, h4b, h5b, h6b]; rfl)
              go_wp2_with (first | ((with_reducible show wpList _ _ _ (Oper.mk _ (Op.load _ _) _ _ _ _ :: _) _ _); refine wpList_load_g hl1 _ rfl rfl (by go_simp) ?_) | ((with_reducible show wpList _ _ _ (Oper.mk _ (Op.load _ _) _ _ _ _ :: _) _ _); refine wpList_load_g hl2 _ rfl rfl (by go_simp) ?_) | ((with_reducible show wpList _ _ _ (Oper.mk _ (Op.load _ _) _ _ _ _ :: _) _ _); refine wpList_load_g hl3 _ rfl rfl (by go_simp) ?_) | ((with_reducible show wpList _ _ _ (Oper.mk _ (Op.load _ _) _ _ _ _ :: _) _ _); refine wpList_load_g hl4 _ rfl rfl (by go_simp) ?_) | ((with_reducible show wpList _ _ _ (Oper.mk _ (Op.load _ _) _ _ _ _ :: _) _ _); refine wpList_load_g hl5 _ rfl rfl (by go_simp) ?_))
              clear hl1 hl2 hl3 hl4 hl5 h1b h2b h3b h4b h5b h6b h1 h2 h3 h4 h5 h6
              go_loopw [3] (fun y wr => ∃ i : Nat, y = .int .i64 i ∧ Hid (i ≤ n ∧ (∀ j, j < i → entB (entAt es j) = true ∧ ∀ k, k < j → sameA (entAt es k) (entAt es j) = false) ∧ Below (w.alloc (.cells cs1 25)).heap.size (w.alloc (.cells cs1 25)) wr)) (fun y _ => n - (intOf y).toNat)
              case atStart => exact ⟨0, rfl, Nat.zero_le _, fun j h => by omega, Below.refl _ _⟩
              case round =>
                obtain ⟨i, rfl, HI⟩ := hrel
                have hlw := (HP1.out.all wr HI.out.2.2).ents
                by_cases hlt : i < n
                · have hlt' : (i : Int) < n := by omega
                  obtain ⟨b, o, rfl, hc⟩ := RS.at_ HE.out (by omega)
                  have HC := Lib.hid hc
                  have HF := Lib.hid (RS.fits_at HE.out hlt)
                  have hent := (entLd_of HF.out ((hc i hlt).below HI.out.2.2)).ent
                  have HIL := Lib.hid (show i < es.length by rw [HE.out.len]; exact hlt)
                  clear hc
                  go_wp2_with (first | ((with_reducible show wpList _ _ _ (Oper.mk _ (Op.load _ _) _ _ _ _ :: _) _ _); refine wpList_load_g hlw _ rfl rfl (by go_simp) ?_) | ((with_reducible show wpList _ _ _ (Oper.mk _ (Op.load _ _) _ _ _ _ :: _) _ _); refine wpList_load_g hent _ rfl rfl (by go_simp) ?_))
                  refine (referight_any (entAt es i) wr (OE.out.at_ HIL.out)).mono ?_
                  rintro e w1 ⟨rfl, hb1⟩
                  have HB1 := Lib.hid (below_step HI.out.2.2 hb1)
                  clear hb1 hlw hent
                  cases hR : entB (entAt es i) with
                  | false =>
                    have HFF := Lib.hid (show cacB ⟨room, ver, some ⟨b, o, none⟩, n, c, hits, misses⟩ es = false by unfold cacB; rw [entsB_bad HIL.out hR, Bool.and_false])
                    clear hR
                    go_wp2
                    go_ret
                    rw [HFF.out]
                    exact ⟨rfl, below_step HBE.out HB1.out⟩
                  | true =>
                    have HR := Lib.hid hR
                    clear hR
                    go_wp2_with fail
                    go_loopw [4] (fun y wk => ∃ k : Nat, y = .int .i64 k ∧ Hid (k ≤ i ∧ (∀ q, q < k → sameA (entAt es q) (entAt es i) = false) ∧ Below (w.alloc (.cells cs1 25)).heap.size (w.alloc (.cells cs1 25)) wk)) (fun y _ => i - (intOf y).toNat)
                    case atStart => exact ⟨0, rfl, Nat.zero_le _, fun q h => by omega, HB1.out⟩
                    case round =>
                      obtain ⟨k, rfl, HK⟩ := hrel
                      by_cases hki : k < i
                      · have hki' : (k : Int) < i := by omega
                        have hkn' : (k : Int) < n := by omega
                        have HKC := Lib.hid (HC.out k (by omega))
                        have HIC := Lib.hid (HC.out i (by omega))
                        have HFK := Lib.hid (RS.fits_at HE.out (show k < n by omega))
                        have HKL := Lib.hid (show k < es.length by rw [HE.out.len]; omega)
                        go_wp2_with fail
                        refine wp_region_mix (fun w0 => Below (wr).heap.size (wr) w0) [(0, 0), (1, 0), (2, 0), (3, 0), (4, 0), (5, 0), (6, 0), (7, 0), (8, 0), (9, 0), (10, 0), (11, 0), (12, 0)] (by kernel_rfl) (by kernel_rfl) (below_drew1 _) ?_
                        simp only [List.map_cons, List.map_nil]
                        iterate 1 (refine wpO_step0 rfl rfl (fun K hK => ?_); go_simp; refine hK _ _ ?_; clear hK K)
                        refine wpO_loadW (t := 23) (ad := ⟨w.heap.size, 2, none⟩) rfl rfl ?hw rfl rfl ((fun w0 hS => (HP1.out.all w0 (below_step HK.out.2.2 hS)).ents)) ?_
                        case hw => go_simp
                        iterate 3 (refine wpO_step0 rfl rfl (fun K hK => ?_); go_simp; refine hK _ _ ?_; clear hK K)
                        refine wpO_loadW (t := 31) (ad := ⟨b, (o+k*37), none⟩) rfl rfl ?hw rfl rfl ((fun w0 hS => (entLd_of HFK.out (HKC.out.below (below_step HK.out.2.2 hS))).adr)) ?_
                        case hw => go_simp
                        iterate 1 (refine wpO_step0 rfl rfl (fun K hK => ?_); go_simp; refine hK _ _ ?_; clear hK K)
                        refine wpO_loadW (t := 23) (ad := ⟨w.heap.size, 2, none⟩) rfl rfl ?hw rfl rfl ((fun w0 hS => (HP1.out.all w0 (below_step HK.out.2.2 hS)).ents)) ?_
                        case hw => go_simp
                        iterate 3 (refine wpO_step0 rfl rfl (fun K hK => ?_); go_simp; refine hK _ _ ?_; clear hK K)
                        refine wpO_loadW (t := 31) (ad := ⟨b, (o+i*37), none⟩) rfl rfl ?hw rfl rfl ((fun w0 hS => (entLd_of HF.out (HIC.out.below (below_step HK.out.2.2 hS))).adr)) ?_
                        case hw => go_simp
                        refine wpO_step0 rfl rfl (fun K hK => ?_)
                        rw [if_pos (show Region.wanted _ _ = true from rfl)]
                        refine ⟨_, fun w0 => sA_exec rfl (entAt es k).v (entAt es k).l (entAt es i).v (entAt es i).l rfl rfl HFK.out.l HF.out.l (OE.out.at_ HKL.out).v (OE.out.at_ HIL.out).v w0, hK _ _ ?_⟩
                        clear hK K
                        refine wpO_nil ?_
                        cases hs : sA (entAt es k).v (entAt es k).l (entAt es i).v (entAt es i).l with
                        | true =>
                          have HFF := Lib.hid (show cacB ⟨room, ver, some ⟨b, o, none⟩, n, c, hits, misses⟩ es = false by unfold cacB; rw [entsB_dup HIL.out (by omega) hs, Bool.and_false])
                          clear hs
                          go_wp2_with fail
                          go_ret
                          rw [HFF.out]
                          exact ⟨rfl, below_step HBE.out (below_step HK.out.2.2 (below_drew1 _))⟩
                        | false =>
                          have HS := Lib.hid (show sameA (entAt es k) (entAt es i) = false from hs)
                          clear hs
                          go_wp2_with fail
                          go_roundw
                          case measure => simp [intOf]; omega
                          case rel =>
                            refine ⟨k + 1, by go_num, by omega, fun q hq => ?_, below_step HK.out.2.2 (below_drew1 _)⟩
                            by_cases hqk : q < k
                            · exact HK.out.2.1 q hqk
                            · rw [show q = k by omega]; exact HS.out
                      · have hki' : decide ((k : Int) < i) = false := decide_eq_false (by omega)
                        go_wp2_with fail
                        go_roundw
                        case measure => simp [intOf]; omega
                        case rel =>
                          refine ⟨i + 1, by go_num, by omega, fun j hj => ?_, HK.out.2.2⟩
                          by_cases hji : j < i
                          · exact HI.out.2.1 j hji
                          · have hje : j = i := by omega
                            subst hje
                            exact ⟨HR.out, fun q hq => HK.out.2.1 q (by omega)⟩
                · have hlt' : decide (i < n) = false := decide_eq_false hlt
                  have HT := Lib.hid (show cacB ⟨room, ver, A, n, c, hits, misses⟩ es = true by unfold cacB; rw [HH.out, entsB_true (fun j hj => HI.out.2.1 j (by rw [HE.out.len] at hj; omega))]; rfl)
                  have HB := Lib.hid HI.out.2.2
                  clear hlt
                  go_wp2_with ((with_reducible show wpList _ _ _ (Oper.mk _ (Op.load _ _) _ _ _ _ :: _) _ _); refine wpList_load_g hlw _ rfl rfl (by go_simp) ?_)
                  go_ret
                  rw [HT.out]
                  exact ⟨rfl, below_step HBE.out HB.out⟩
end Go.Proofs.YtihfaknflfmohaaDoor

/- Layer 27 (cache): the map of the addresses met (keys of 17 cells). -/
namespace Go.Proofs.YtihfaknflfmohaaDoor
open Go.RowKit
set_option linter.unusedVariables false
set_option linter.unusedSimpArgs false
set_option maxRecDepth 4000
open Go.Maps
theorem mkeyl_u8 (n : Nat) (x : Int) (h0 : 0 ≤ x) (h1 : x < 256) : Tryd.prog.keyLits (n + 1) 5 [.int .u8 x] = some [Lit.int .u8 x] := by
  unfold Program.keyLits
  rw [Tryd.underlying5]
  simp [Lit.wf, IntKind.min, IntKind.max, IntKind.bits, IntKind.signed]
  omega
theorem mkeys_arr (n : Nat) (l : List Int) (hl : B16 l) : (List.range 16).mapM (fun i => Tryd.prog.keyLits (n + 1) 5 (((arrV l).toList.drop (i * Tryd.prog.cellsOf 5)).take (Tryd.prog.cellsOf 5))) = some ((List.range 16).map fun i => [Lit.int .u8 (rd l ((i : Nat) : Int))]) := by
  have hc : Tryd.prog.cellsOf 5 = 1 := by kernel_rfl
  rw [hc]
  refine mapM_all _ _ _ (fun i hi => ?_)
  have hi' : i < l.length := by rw [hl.len]; exact List.mem_range.1 hi
  have hr := hl.rd (i : Int)
  have e : ((arrV l).toList.drop (i * 1)).take 1 = [.int .u8 (rd l (i : Int))] := by
    apply List.ext_getElem?
    intro j
    cases j with
    | zero =>
      rw [List.getElem?_take]
      simp only [Nat.mul_one, List.getElem?_drop, arrV, Nat.add_zero, if_pos (show 0 < 1 by omega), List.getElem?_cons_zero]
      exact nums_get .u8 l i hi'
    | succ j => simp; omega
  rw [e, mkeyl_u8 n _ hr.1 hr.2]
theorem mkeyl_arr (n : Nat) (l : List Int) (hl : B16 l) : Tryd.prog.keyLits (n + 2) 29 (nums .u8 l) = some (lits .u8 l) := by
  have hk := mkeys_arr n l hl
  have he : (arrV l).toList = nums .u8 l := by simp [arrV]
  rw [he] at hk
  unfold Program.keyLits
  rw [Tryd.underlying29]
  simp only
  rw [if_pos (by rw [show (nums .u8 l).length = 16 by simp [nums, hl.len]]; kernel_rfl), hk]
  simp only [Option.map_some, flat1]
  refine congrArg some ?_
  unfold lits
  apply List.ext_getElem
  · simp [hl.len]
  · intro i h1 h2
    simp only [List.length_map, List.length_range] at h1
    simp [rd, List.getD_eq_getElem?_getD, hl.len, h1]
theorem mkeyl_adr (n : Nat) (v : Int) (l : List Int) (hl : B16 l) (hv : (Lit.int .i64 v).wf = true) : Tryd.prog.keyLits (n + 3) 31 (adrV v l).toList = some (.int .i64 v :: lits .u8 l) := by
  unfold Program.keyLits
  rw [Tryd.underlying31]
  simp only
  have h1 : (adrV v l).toList = .int .i64 v :: nums .u8 l := by simp [adrV]
  rw [h1, if_pos ⟨by rw [show (Value.int IntKind.i64 v :: nums .u8 l).length = 17 by simp [nums, hl.len]]; kernel_rfl, by kernel_rfl⟩]
  have c1 : Tryd.prog.cellsOf 3 = 1 := by kernel_rfl
  have c2 : Tryd.prog.cellsOf 29 = 16 := by kernel_rfl
  simp only [List.mapM_cons, List.mapM_nil, c1, c2, List.drop_zero, List.take_succ_cons, List.take_zero, List.drop_succ_cons]
  rw [keyl_int (n + 1) v hv, List.take_of_length_le (by simp [nums, hl.len]), mkeyl_arr n l hl]
  simp
def adrL (v : Int) (l : List Int) : Lit := .string (keyBytes (.int .i64 v :: lits .u8 l))
theorem keyOf_adr (v : Int) (l : List Int) (hl : B16 l) (hv : (Lit.int .i64 v).wf = true) : keyOf Tryd.prog 31 (.agg (adrV v l)) = some (adrL v l) := by
  unfold keyOf
  have hf := adr_formed v l hl
  have hk : Tryd.prog.keyType 31 = true := by kernel_rfl
  have hn : Tryd.prog.types.size + 1 = (Tryd.prog.types.size - 2) + 3 := by
    have : 2 ≤ Tryd.prog.types.size := of_decide_eq_true (by kernel_rfl)
    omega
  rw [Tryd.underlying31]
  simp only [hf, hk, Bool.and_true, if_true]
  rw [hn]
  have := mkeyl_adr (Tryd.prog.types.size - 2) v l hl hv
  simp only [Value.cells]
  rw [this]
  rfl
theorem adr_law : Keyed Tryd.prog 31 := Keyed.of_law (deep_law (m := 3) (by omega) (by kernel_rfl) (by kernel_rfl) (by kernel_rfl))
theorem nums_inj {k : IntKind} : ∀ {l m : List Int}, nums k l = nums k m → l = m
  | [], [], _ => rfl
  | [], _ :: _, h => by simp [nums] at h
  | _ :: _, [], h => by simp [nums] at h
  | a :: l, b :: m, h => by
    simp only [nums, List.map_cons, List.cons.injEq] at h
    obtain ⟨h1, h2⟩ := h
    injection h1 with _ h3
    rw [h3, nums_inj (k := k) (l := l) (m := m) h2]
theorem adrV_inj {v v' : Int} {l l' : List Int} (h : adrV v l = adrV v' l') : v = v' ∧ l = l' := by
  have h1 := congrArg Array.toList h
  simp only [adrV] at h1
  have h2 : (Value.int .i64 v :: nums .u8 l) = Value.int .i64 v' :: nums .u8 l' := by simpa using h1
  rw [List.cons.injEq] at h2
  refine ⟨by have := h2.1; injection this, ?_⟩
  exact nums_inj h2.2
theorem adrL_ne {v v' : Int} {l l' : List Int} (hl : B16 l) (hl' : B16 l') (hv : (Lit.int .i64 v).wf = true) (hv' : (Lit.int .i64 v').wf = true) (h : ¬ (v = v' ∧ l = l')) : adrL v l ≠ adrL v' l' := by
  intro e
  have h1 := keyOf_adr v l hl hv
  rw [e] at h1
  have := adr_law.inj h1 (keyOf_adr v' l' hl' hv')
  injection this with h2
  exact h (adrV_inj h2)
def metB (es : List Ent) (j : Nat) (v : Int) (l : List Int) : Bool := (List.range j).any fun k => decide ((entAt es k).v = v) && decide ((entAt es k).l = l)
abbrev MapT : TypeId := 122
/-- Block b is a map of the first j entries' addresses to true. -/
def Met (w : World) (b : Nat) (es : List Ent) (j : Nat) : Prop := ∃ D : DataW Unit, w.ownsMap Tryd.prog 31 (plainElem Tryd.prog 4) b j D ∧
  ∀ v l, B16 l → (Lit.int .i64 v).wf = true → D.atKey (adrL v l) (.lit (.bool false)) = .lit (.bool (metB es j v l))
theorem und_map : Tryd.prog.underlying MapT = some (.map 31 4) := Tryd.underlying122
theorem zero_bool (w : World) : (zeroValue 4).run Tryd.prog w = .ok (.bool false) w := by kernel_rfl
theorem met_zero (w : World) (es : List Ent) : Met (w.alloc (.map #[] 0)) w.heap.size es 0 := ⟨_, World.ownsMap_made _ _ _ _, fun v l _ _ => by
  unfold metB
  rfl⟩
theorem Met.kept {w w' : World} {b j : Nat} {es : List Ent} {row : Option Nat} (h : Met w b es j) (hg : w.grownBy w' row) (hne : some b ≠ row) : Met w' b es j := by
  obtain ⟨D, h1, h2⟩ := h
  exact ⟨D, h1.kept hg hne, h2⟩
theorem met_look {w : World} {b j : Nat} {es : List Ent} (h : Met w b es j) (v : Int) (l : List Int) (hl : B16 l) (hv : (Lit.int .i64 v).wf = true) :
    (Instr.lookup MapT (.map (some b)) (.agg (adrV v l)) false).run Tryd.prog w = .ok (.bool (metB es j v l)) w := by
  obtain ⟨D, h1, h2⟩ := h
  obtain ⟨x, ps, hrun, hx⟩ := h1.lookup adr_law und_map (zero_bool w) (plainElem_bool Tryd.underlying4 false) (keyOf_adr v l hl hv)
  rw [h2 v l hl hv] at hx
  have : x = .bool (metB es j v l) := by
    unfold plainElem at hx
    rw [Tryd.underlying4] at hx
    cases x <;> simp at hx
    rw [hx.1]
  rw [hrun, this]
theorem metB_succ (es : List Ent) (j : Nat) (v : Int) (l : List Int) : metB es (j + 1) v l = (metB es j v l || (decide ((entAt es j).v = v) && decide ((entAt es j).l = l))) := by
  unfold metB
  rw [List.range_succ, List.any_append]
  simp
theorem met_upd {w : World} {b j : Nat} {es : List Ent} (h : Met w b es j) (hj : j < maxLen) (he : (entAt es j).ok) :
    ∃ w', (Instr.mapUpdate MapT (.map (some b)) (.agg (adrV (entAt es j).v (entAt es j).l)) (.bool true)).run Tryd.prog w = .ok () w' ∧ Met w' b es (j + 1) ∧ w.grownBy w' (some b) := by
  obtain ⟨D, h1, h2⟩ := h
  obtain ⟨w', r1, r2, r3⟩ := h1.update adr_law und_map hj (keyOf_adr _ _ he.l he.v) (plainElem_bool (H := Unit) Tryd.underlying4 true)
  refine ⟨w', r1, ⟨_, r2, fun v l hl hv => ?_⟩, r3⟩
  rw [metB_succ]
  by_cases hh : v = (entAt es j).v ∧ l = (entAt es j).l
  · obtain ⟨rfl, rfl⟩ := hh
    have hm : IsMap D := by
      obtain ⟨_, _, _, _, _, hD⟩ := h1
      exact ⟨_, hD⟩
    rw [atKey_put_same hm (adr_law.key (keyOf_adr _ _ hl hv))]
    simp
  · rw [atKey_put_other (adrL_ne hl he.l hv he.v hh), h2 v l hl hv]
    have : (decide ((entAt es j).v = v) && decide ((entAt es j).l = l)) = false := by
      rw [Bool.and_eq_false_iff]
      simp only [decide_eq_false_iff_not]
      by_cases h3 : (entAt es j).v = v
      · right
        intro h4
        exact hh ⟨h3.symm, h4.symm⟩
      · exact Or.inl h3
    rw [this, Bool.or_false]
end Go.Proofs.YtihfaknflfmohaaDoor

/- Layer 27 (cache): entries held equal; the library's functions over slices of them; stores of them. -/
namespace Go.Proofs.YtihfaknflfmohaaDoor
open Go.RowKit
set_option linter.unusedVariables false
set_option linter.unusedSimpArgs false
set_option maxRecDepth 4000
def Ent.eqB (e g : Ent) : Bool := sA e.v e.l g.v g.l && e.r.eqB g.r && (e.f == g.f)
theorem Ent.eqB_iff (e g : Ent) : e.eqB g = true ↔ e = g := by
  obtain ⟨a, b, c, d⟩ := e
  obtain ⟨a', b', c', d'⟩ := g
  simp only [Ent.eqB, Bool.and_eq_true, sA_true, Row.eqB_iff, Ent.mk.injEq, beq_iff_eq]
  constructor
  · rintro ⟨⟨⟨h1, h2⟩, h3⟩, h4⟩
    exact ⟨h1, h2, h3, h4⟩
  · rintro ⟨h1, h2, h3, h4⟩
    exact ⟨⟨⟨h1, h2⟩, h3⟩, h4⟩
theorem keyl_bool (d : Nat) (f : Bool) : Tryd.prog.keyLits (d + 1) 4 [.bool f] = some [.bool f] := by
  unfold Program.keyLits
  rw [Tryd.underlying4]
theorem keyl_ent (e : Ent) (h : e.ok) : Tryd.prog.keyLits 6 43 (entV e).toList = some ((.int .i64 e.v :: lits .u8 e.l) ++ (((.int .i64 e.r.p.v :: lits .u8 e.r.p.l ++ [.int .i64 e.r.p.b]) ++ [.int .i64 e.r.h]) ++ [.bool e.f])) := by
  unfold Program.keyLits
  rw [Tryd.underlying43]
  simp only
  rw [if_pos ⟨by rw [show (entV e).toList.length = 37 by rw [Array.length_toList, entV_size h.fits]]; kernel_rfl, by kernel_rfl⟩]
  have c1 : Tryd.prog.cellsOf 31 = 17 := by kernel_rfl
  have c2 : Tryd.prog.cellsOf 38 = 19 := by kernel_rfl
  have c3 : Tryd.prog.cellsOf 4 = 1 := by kernel_rfl
  have e0 : (entV e).toList = (adrV e.v e.l).toList ++ ((rowV e.r).toList ++ [.bool e.f]) := by rw [adrV_list, rowV_list]; simp [entV, entC]
  have hl17 : (adrV e.v e.l).toList.length = 17 := by rw [Array.length_toList, adr_size h.l.len]
  have hl19 : (rowV e.r).toList.length = 19 := by rw [Array.length_toList, rowV_size h.fits.r]
  have e1 : (entV e).toList.take 17 = (adrV e.v e.l).toList := by rw [e0, List.take_left' hl17]
  have e2 : ((entV e).toList.drop 17).take 19 = (rowV e.r).toList := by rw [e0, List.drop_left' hl17, List.take_left' hl19]
  have e3 : (entV e).toList.drop 36 = [.bool e.f] := by
    rw [e0, ← List.append_assoc, List.drop_left']
    rw [List.length_append, hl17, hl19]
  simp only [List.mapM_cons, List.mapM_nil, c1, c2, c3, List.drop_zero]
  rw [e1, e2, e3, mkeyl_adr 2 _ _ h.l h.v, keyl_row _ h.r]
  simp only [List.take_succ_cons, List.take_zero]
  rw [keyl_bool 4 e.f]
  simp
theorem ent_formed (e : Ent) (h : e.fits) : (Value.agg (entV e)).formed Tryd.prog 43 = true := by
  simp only [Value.formed, Tryd.underlying43, entV_size h]
  kernel_rfl
theorem ent_equal (r s : Ent) (hr : r.ok) (hs : s.ok) (w : World) : (Op.equal 43 (.agg (entV r)) (.agg (entV s))).run Tryd.prog w = .ok (r.eqB s) w := by
  obtain ⟨b, hb, hiff⟩ := run_equalIn_deep (P := Tryd.prog) 9994 6 43 (by kernel_rfl) w 6 6 (.agg (entV r)) (.agg (entV s)) _ _ (ent_formed _ hr.fits) (ent_formed _ hs.fits) (keyl_ent r hr) (keyl_ent s hs)
  have h2 : (Op.equal 43 (.agg (entV r)) (.agg (entV s))).run Tryd.prog w = .ok b w := hb
  suffices hs2 : b = r.eqB s by rw [h2, hs2]
  rw [Bool.eq_iff_iff, hiff, Ent.eqB_iff]
  constructor
  · intro h
    obtain ⟨h1, h2⟩ := List.append_inj h (by simp [lits, hr.l.len, hs.l.len])
    simp only [List.cons.injEq, Lit.int.injEq, true_and] at h1
    obtain ⟨h1, h1'⟩ := h1
    obtain ⟨h2, h2'⟩ := List.append_inj h2 (by simp [lits, hr.r.p.l.len, hs.r.p.l.len])
    obtain ⟨h3, h4⟩ := List.append_inj h2 (by simp [lits, hr.r.p.l.len, hs.r.p.l.len])
    simp only [List.cons_append, List.cons.injEq, Lit.int.injEq, Lit.bool.injEq, true_and, and_true] at h2' h3 h4
    obtain ⟨h5, h6⟩ := h3
    obtain ⟨h7, h8⟩ := List.append_inj h6 (by simp [lits, hr.r.p.l.len, hs.r.p.l.len])
    simp only [List.cons.injEq, Lit.int.injEq, true_and, and_true] at h8
    obtain ⟨x, y, ⟨⟨a, b, c⟩, d⟩, f⟩ := r
    obtain ⟨x', y', ⟨⟨a', b', c'⟩, d'⟩, f'⟩ := s
    simp only at h1 h1' h2' h4 h5 h7 h8
    rw [h1, lits_inj h1', h2', h4, h5, lits_inj h7, h8]
  · rintro rfl
    rfl
section
variable {r : Operand → Value} {o : Oper} {x y : Operand} {ty : TypeId}
theorem ent_eql_exec (ho : o.op = .binOp .eql 43 x y ty) (p q : Ent) (hx : r x = .agg (entV p)) (hy : r y = .agg (entV q)) (hp : p.ok) (hq : q.ok) (w : World) : (execOp r o).run Tryd.prog w = .ok (.value (.bool (p.eqB q))) w :=
  exec_eql 43 (by kernel_rfl) ho _ _ hx hy w (ent_equal p q hp hq w)
theorem ent_neq_exec (ho : o.op = .binOp .neq 43 x y ty) (p q : Ent) (hx : r x = .agg (entV p)) (hy : r y = .agg (entV q)) (hp : p.ok) (hq : q.ok) (w : World) : (execOp r o).run Tryd.prog w = .ok (.value (.bool (!p.eqB q))) w :=
  exec_neq 43 (by kernel_rfl) ho _ _ hx hy w (ent_equal p q hp hq w)
end
def entE : ShapeEq entK where
  okE := Ent.ok
  eqB := Ent.eqB
  iff := Ent.eqB_iff
  eql := fun ho a b hx hy ha hb w => ent_eql_exec ho a b hx hy ha hb w
  neq := fun ho a b hx hy ha hb w => ent_neq_exec ho a b hx hy ha hb w
theorem cloneE_any (A : Option Addr) (n c : Nat) (t : List Ent) (w : World) (hr : RS entK w A n c t) (hn : n ≤ 1000000) :
    Calls Tryd.prog 109 #[.slice A n c] w fun e w' => ∃ A' c', e = .returned (.slice A' n c') ∧ OS entK w' w.heap.size A' n c' t ∧ Below w.heap.size w w' := by
  have hnil := fun (w : World) (A : Option Addr) (n c : Nat) => Lib.run_eql_slice_nil (P := Tryd.prog) w 23 43 A n c 0 0 Tryd.underlying23
  cases A with
  | none =>
    have h0 : n = 0 := by
      rcases Nat.eq_zero_or_pos n with h | h
      · exact h
      · obtain ⟨ad, e, _⟩ := hr.rv.cells h
        cases e
    subst h0
    obtain rfl : t = [] := List.eq_nil_of_length_eq_zero hr.len
    go_enter Tryd.func109, Tryd.ntmps109
    go_wp2
    go_ret
    exact ⟨_, _, rfl, OS.nil _ _ _, Below.refl _ _⟩
  | some ad =>
    go_enter Tryd.func109, Tryd.ntmps109
    go_wp2_with (at_builtin; refine wpList_append_shp entK rfl (.tmp 5) (.tmp 6) rfl rfl rfl (OS.empty entK w w.heap.size (Nat.le_refl _)) (hr.below (below_alloc (Below.refl _ _) _)) (by simp) (by omega) ?_; intro A' c' w' h1 h2 h3; rw [Nat.zero_add, List.nil_append] at h1; rw [Nat.zero_add])
    go_ret
    exact ⟨_, _, rfl, h1, below_own (below_alloc (Below.refl _ _) _) h2 (fun ad h => by injection h with h; subst h; exact Nat.le_refl _)⟩
set_option maxHeartbeats 1000000 in
theorem equalE_any (A : Option Addr) (n c : Nat) (t : List Ent) (A2 : Option Addr) (m c2 : Nat) (u : List Ent) (w : World) (h1 : RS entK w A n c t) (h2 : RS entK w A2 m c2 u) (o1 : entE.all t) (o2 : entE.all u) (hn : n ≤ 1000000) (hm : m ≤ 1000000) :
    Calls Tryd.prog 76 #[.slice A n c, .slice A2 m c2] w fun e w' => e = .returned (.bool (entE.eqL t u)) ∧ Below w.heap.size w w' := by
  have H1 := Lib.hid h1
  have H2 := Lib.hid h2
  have O1 := Lib.hid o1
  have O2 := Lib.hid o2
  clear h1 h2 o1 o2
  by_cases hnm : n = m
  · subst hnm
    have hlen : t.length = u.length := by rw [H1.out.len, H2.out.len]
    have HLEN := Lib.hid hlen
    clear hlen
    go_enter Tryd.func76, Tryd.ntmps76
    go_wp2_with fail
    go_loopw [13] (fun x wr => ∃ i : Nat, x = .int .i64 i ∧ Hid (i ≤ n ∧ (∀ k, k < i → entE.eqB (Shape.at_ entK t k) (Shape.at_ entK u k) = true) ∧ Below w.heap.size w wr)) (fun x _ => n - (intOf x).toNat)
    case atStart => exact ⟨0, rfl, Nat.zero_le _, fun k h => by omega, Below.refl _ _⟩
    case round =>
      obtain ⟨i, rfl, HH⟩ := hrel
      by_cases hlt : i < n
      · have hlt' : (i : Int) < n := by omega
        obtain ⟨b, o, rfl, hc⟩ := H1.out.at_ (by omega)
        obtain ⟨b2, o2, rfl, hc2⟩ := H2.out.at_ (by omega)
        have HC1 := Lib.hid (hc i hlt)
        have HC2 := Lib.hid (hc2 i hlt)
        clear hc hc2
        go_wp2_with fail
        refine wp_region_mix (fun w0 => Below (wr).heap.size (wr) w0) [(0, 0), (1, 0), (2, 0), (3, 0), (4, 0), (5, 0), (6, 0), (7, 0), (8, 0)] (by kernel_rfl) (by kernel_rfl) (below_drew1 _) ?_
        simp only [List.map_cons, List.map_nil]
        iterate 3 (refine wpO_step0 rfl rfl (fun K hK => ?_); go_simp; refine hK _ _ ?_; clear hK K)
        refine wpO_loadW (t := 43) (ad := ⟨b, (o+i*37), none⟩) rfl rfl ?hw rfl rfl ((fun w0 hS => Shape.ld entK w0 b _ _ (H1.out.fits_at hlt) (HC1.out.below (below_step HH.out.2.2 hS)))) ?_
        case hw => go_simp
        iterate 3 (refine wpO_step0 rfl rfl (fun K hK => ?_); go_simp; refine hK _ _ ?_; clear hK K)
        refine wpO_loadW (t := 43) (ad := ⟨b2, (o2+i*37), none⟩) rfl rfl ?hw rfl rfl ((fun w0 hS => Shape.ld entK w0 b2 _ _ (H2.out.fits_at hlt) (HC2.out.below (below_step HH.out.2.2 hS)))) ?_
        case hw => go_simp
        refine wpO_step0 rfl rfl (fun K hK => ?_)
        rw [if_pos (show Region.wanted _ _ = true from rfl)]
        refine ⟨_, fun w0 => ShapeEq.neq entE rfl (Shape.at_ entK t i) (Shape.at_ entK u i) rfl rfl (ShapeEq.all_at O1.out (by rw [H1.out.len]; exact hlt)) (ShapeEq.all_at O2.out (by rw [H2.out.len]; exact hlt)) w0, hK _ _ ?_⟩
        clear hK K
        refine wpO_nil ?_
        cases hq : entE.eqB (Shape.at_ entK t i) (Shape.at_ entK u i) with
        | true =>
          have HQ := Lib.hid hq
          clear hq
          go_wp2_with fail
          go_roundw
          case measure => simp [intOf]; omega
          case rel =>
            refine ⟨i + 1, by go_num, by omega, fun k hk => ?_, below_step HH.out.2.2 (below_drew1 _)⟩
            by_cases hki : k < i
            · exact HH.out.2.1 k hki
            · rw [show k = i by omega]; exact HQ.out
        | false =>
          have HE : Hid (entE.eqL t u = false) := Lib.hid (ShapeEq.eqL_no (by rw [H1.out.len]; exact hlt) (by rw [H2.out.len]; exact hlt) hq)
          clear hq
          go_wp2
          go_ret
          rw [HE.out]
          exact ⟨rfl, below_step HH.out.2.2 (below_drew1 _)⟩
      · have hlt' : decide (i < n) = false := decide_eq_false hlt
        have HE : Hid (entE.eqL t u = true) := Lib.hid (ShapeEq.eqL_yes HLEN.out (fun k hk => HH.out.2.1 k (by rw [H1.out.len] at hk; have := HH.out.1; omega)))
        clear hlt
        go_wp2
        go_ret
        rw [HE.out]
        exact ⟨rfl, HH.out.2.2⟩
  · have HE : Hid (entE.eqL t u = false) := Lib.hid (ShapeEq.eqL_len (by rw [H1.out.len, H2.out.len]; exact hnm))
    have hnm' : (n == m) = false := by simpa using hnm
    clear hnm
    go_enter Tryd.func76, Tryd.ntmps76
    go_wp2
    go_ret
    rw [HE.out]
    exact ⟨rfl, Below.refl _ _⟩
theorem entV_one (e : Ent) : (entV e).all (·.oneCell') = true := by
  rw [← Array.all_toList, List.all_eq_true]
  exact fun u hu => entC_one e u (by simpa [entV] using hu)
theorem store_ent_fit {cs : Array Value} {r : Ent} (hf : r.fits) (h : cs.size = 37) : 0 + (entV r).size ≤ cs.size := by rw [entV_size hf, h]; omega
theorem splice_ent {cs : Array Value} {r : Ent} (hf : r.fits) (h : cs.size = 37) : splice cs 0 (entV r).toList = entV r := splice_all _ _ (by rw [Array.length_toList, entV_size hf, h])
end Go.Proofs.YtihfaknflfmohaaDoor
