/- Plain laws of layer 5, fourth part: what bytes tell. -/
import Derived.IntWalk
import Derived.Test.YtnpeedmicjeleaaDoorRouteBestA
namespace Go.Proofs.YtnpeedmicjeleaaDoor
set_option linter.unusedVariables false
set_option linter.unusedSimpArgs false
set_option maxRecDepth 4000

def fullB (b : Int) : Nat := ((b + 7) / 8).toNat
/-- Bytes, noughts behind them: sixteen. -/
def pad (l : List Int) : List Int := l ++ List.replicate (16 - l.length) 0
/-- What the bytes of an address are, of which so many bits may be set. -/
def someE (xs : List Int) (bits : Nat) (wrong : Int) : Int := if xs.length < fullB bits then 7 else if clearA (pad (xs.take (fullB bits))) bits then 0 else wrong
end Go.Proofs.YtnpeedmicjeleaaDoor

/- Plain laws of layer 5, fifth part: the prefixes of an address. -/
namespace Go.Proofs.YtnpeedmicjeleaaDoor
set_option linter.unusedVariables false
set_option linter.unusedSimpArgs false
set_option maxRecDepth 4000

end Go.Proofs.YtnpeedmicjeleaaDoor

/- Plain laws of layer 5, sixth part: there and back. -/
namespace Go.Proofs.YtnpeedmicjeleaaDoor
set_option linter.unusedVariables false
set_option linter.unusedSimpArgs false
set_option maxRecDepth 4000

end Go.Proofs.YtnpeedmicjeleaaDoor

/- Plain laws of tables (layer 9): rows by rising prefixes; the longest match; set, drop and get. -/
namespace Go.Proofs.YtnpeedmicjeleaaDoor
set_option linter.unusedVariables false
set_option linter.unusedSimpArgs false
set_option maxRecDepth 4000

structure Row where
  p : Pfx
  h : Int
def Row.fits (r : Row) : Prop := B16 r.p.l
def Row.okB (r : Row) : Bool := r.p.right && decide (1 ≤ r.h) && decide (r.h ≤ 255)
def rowZ : Row := ⟨⟨0, List.replicate 16 0, 0⟩, 0⟩
def rising : List Row → Bool
  | [] => true
  | [_] => true
  | a :: b :: t => decide (a.p.cmp b.p < 0) && rising (b :: t)
/-- May it be a table? -/
def tabB (t : List Row) : Bool := decide (t.length ≤ 40) && t.all Row.okB && rising t
def rowAt (t : List Row) (i : Nat) : Row := t.getD i rowZ
theorem rowAt_get {t : List Row} {i : Nat} (h : i < t.length) : t[i]? = some (rowAt t i) := by
  simp [rowAt, List.getD_eq_getElem?_getD, h]
theorem rowAt_eq {t : List Row} {i : Nat} {r : Row} (h : t[i]? = some r) : rowAt t i = r := by
  simp [rowAt, List.getD_eq_getElem?_getD, h]

theorem cmp_irrefl (p : Pfx) : ¬ p.cmp p < 0 := by
  have : p.cmp p = 0 := cmpI_refl _
  omega
theorem rising_cons {a : Row} {t : List Row} (h : rising (a :: t) = true) : rising t = true := by
  cases t with
  | nil => rfl
  | cons b t => simp only [rising, Bool.and_eq_true] at h; exact h.2
theorem rising_head {a : Row} : ∀ {t : List Row}, rising (a :: t) = true → ∀ r ∈ t, a.p.cmp r.p < 0
  | [], _, r, hr => by cases hr
  | b :: t, h, r, hr => by
    have h2 := h
    simp only [rising, Bool.and_eq_true, decide_eq_true_eq] at h2
    rcases List.mem_cons.1 hr with rfl | hr
    · exact h2.1
    · exact a.p.cmp_trans b.p r.p h2.1 (rising_head (rising_cons h) r hr)
theorem rising_of_head {a : Row} {t : List Row} (h : ∀ r ∈ t, a.p.cmp r.p < 0) (ht : rising t = true) : rising (a :: t) = true := by
  cases t with
  | nil => rfl
  | cons b t => simp only [rising, Bool.and_eq_true, decide_eq_true_eq]; exact ⟨h b (by simp), ht⟩
/-- Up to a place, by the rows' neighbours. -/
theorem rising_iff (t : List Row) : rising t = true ↔ ∀ i, i + 1 < t.length → (rowAt t i).p.cmp (rowAt t (i + 1)).p < 0 := by
  induction t with
  | nil => simp [rising]
  | cons a t ih =>
    cases t with
    | nil => simp [rising]
    | cons b t =>
      simp only [rising, Bool.and_eq_true, decide_eq_true_eq, ih]
      constructor
      · rintro ⟨h1, h2⟩ i hi
        cases i with
        | zero => exact h1
        | succ i => exact h2 i (by simpa using hi)
      · intro h
        exact ⟨h 0 (by simp), fun i hi => h (i + 1) (by simpa using hi)⟩
theorem tabB_iff (t : List Row) : tabB t = true ↔ t.length ≤ 40 ∧ (∀ i, i < t.length → (rowAt t i).okB = true) ∧ ∀ i, i + 1 < t.length → (rowAt t i).p.cmp (rowAt t (i + 1)).p < 0 := by
  unfold tabB
  simp only [Bool.and_eq_true, decide_eq_true_eq, rising_iff, List.all_eq_true]
  constructor
  · rintro ⟨⟨h1, h2⟩, h3⟩
    exact ⟨h1, fun i hi => h2 _ (List.mem_of_getElem? (rowAt_get hi)), h3⟩
  · rintro ⟨h1, h2, h3⟩
    refine ⟨⟨h1, fun r hr => ?_⟩, h3⟩
    obtain ⟨i, hi, he⟩ := List.getElem_of_mem hr
    have := h2 i hi
    rwa [rowAt_eq (List.getElem?_eq_some_iff.2 ⟨hi, he⟩)] at this

/-! The longest match. -/
def bestStep (v : Int) (l : List Int) (b : Option Row) (r : Row) : Option Row := if r.p.has v l && (match b with | none => true | some x => decide (x.p.b < r.p.b)) then some r else b
def longest (t : List Row) (v : Int) (l : List Int) : Option Row := t.foldl (bestStep v l) none
/-- The row at place i matches; none that matches has more bits, and none ahead of it as many. -/
structure Best (t : List Row) (v : Int) (l : List Int) (i : Nat) (r : Row) : Prop where
  at_ : t[i]? = some r
  has : r.p.has v l = true
  top : ∀ j x, t[j]? = some x → x.p.has v l = true → x.p.b ≤ r.p.b ∧ (j < i → x.p.b < r.p.b)
end Go.Proofs.YtnpeedmicjeleaaDoor

/- Plain laws of tables (layer 9), second part: set, drop and get. -/
namespace Go.Proofs.YtnpeedmicjeleaaDoor
set_option linter.unusedVariables false
set_option linter.unusedSimpArgs false
set_option maxRecDepth 4000

/-- The place of a prefix, or the one that it would have. -/
def lowN (t : List Row) (p : Pfx) : Nat := (t.takeWhile fun r => decide (r.p.cmp p < 0)).length
def thereB (t : List Row) (p : Pfx) : Bool := match t[lowN t p]? with
  | some r => r.p.cmp p == 0
  | none => false
def setT (t : List Row) (p : Pfx) (h : Int) : List Row := t.take (lowN t p) ++ ⟨p, h⟩ :: t.drop (if thereB t p then lowN t p + 1 else lowN t p)
def getT (t : List Row) (p : Pfx) : Int := if thereB t p then (rowAt t (lowN t p)).h else 0
def Fits (t : List Row) : Prop := ∀ r ∈ t, B16 r.p.l
theorem Fits.tail {a : Row} {t : List Row} (h : Fits (a :: t)) : Fits t := fun r hr => h r (by simp [hr])
theorem lowN_cons (a : Row) (t : List Row) (p : Pfx) : lowN (a :: t) p = if a.p.cmp p < 0 then lowN t p + 1 else 0 := by
  unfold lowN
  rw [List.takeWhile_cons]
  by_cases h : a.p.cmp p < 0
  · simp [h]
  · simp [h]
theorem lowN_le (t : List Row) (p : Pfx) : lowN t p ≤ t.length := by
  induction t with
  | nil => simp [lowN]
  | cons a t ih =>
    rw [lowN_cons]
    split
    · simp; exact ih
    · simp
/-- Behind the place nothing is below the prefix. -/
theorem lowN_spec {t : List Row} (p : Pfx) (ht : rising t = true) (i : Nat) (hi : i < t.length) : (i < lowN t p → (rowAt t i).p.cmp p < 0) ∧ (lowN t p ≤ i → ¬ (rowAt t i).p.cmp p < 0) := by
  induction t generalizing i with
  | nil => simp at hi
  | cons a t ih =>
    rw [lowN_cons]
    by_cases h : a.p.cmp p < 0
    · rw [if_pos h]
      cases i with
      | zero => exact ⟨fun _ => h, fun h => by omega⟩
      | succ i =>
        have := ih (rising_cons ht) i (by simpa using hi)
        exact ⟨fun h => this.1 (by omega), fun h => this.2 (by omega)⟩
    · rw [if_neg h]
      refine ⟨fun h => by omega, fun _ => ?_⟩
      cases i with
      | zero => exact h
      | succ i =>
        intro hlt
        have hm : rowAt t i ∈ t := List.mem_of_getElem? (rowAt_get (by simpa using hi))
        have h1 := rising_head ht _ hm
        exact h (a.p.cmp_trans _ p h1 hlt)
theorem lowN_unique {t : List Row} {p : Pfx} {k : Nat} (ht : rising t = true) (hk : k ≤ t.length) (h1 : ∀ i, i < k → (rowAt t i).p.cmp p < 0) (h2 : k < t.length → ¬ (rowAt t k).p.cmp p < 0) : lowN t p = k := by
  have hl := lowN_le t p
  rcases Nat.lt_trichotomy (lowN t p) k with h | h | h
  · have := (lowN_spec p ht (lowN t p) (by omega)).2 (Nat.le_refl _)
    exact absurd (h1 _ h) this
  · exact h
  · exact absurd ((lowN_spec p ht k (by omega)).1 h) (h2 (by omega))
theorem thereB_iff {t : List Row} {p : Pfx} (hf : Fits t) (hp : B16 p.l) (ht : rising t = true) : thereB t p = true ↔ ∃ r ∈ t, r.p = p := by
  unfold thereB
  constructor
  · intro h
    split at h
    · rename_i r hr
      have hm := List.mem_of_getElem? hr
      refine ⟨r, hm, (r.p.cmp_zero p (hf r hm) hp).1 (by simpa using h)⟩
    · cases h
  · rintro ⟨r, hr, rfl⟩
    obtain ⟨i, hi, he⟩ := List.getElem_of_mem hr
    have hri : rowAt t i = r := rowAt_eq (List.getElem?_eq_some_iff.2 ⟨hi, he⟩)
    have hz : r.p.cmp r.p = 0 := cmpI_refl _
    have : lowN t r.p = i := by
      refine lowN_unique ht (by omega) (fun j hj => ?_) (fun _ => by rw [hri]; omega)
      have h2 : ∀ (t : List Row) (i j : Nat), rising t = true → j < i → i < t.length → (rowAt t j).p.cmp (rowAt t i).p < 0 := by
        intro t
        induction t with
        | nil => intro i j _ _ h; simp at h
        | cons a t ih =>
          intro i j ht hji hi
          cases i with
          | zero => omega
          | succ i =>
            cases j with
            | zero => exact rising_head ht _ (List.mem_of_getElem? (rowAt_get (t := t) (by simpa using hi)))
            | succ j => exact ih i j (rising_cons ht) (by omega) (by simpa using hi)
      have := h2 t i j ht hj hi
      rwa [hri] at this
    rw [this, rowAt_get hi, hri]
    simp [hz]
theorem thereB_cons {a : Row} {t : List Row} {p : Pfx} : thereB (a :: t) p = if a.p.cmp p < 0 then thereB t p else a.p.cmp p == 0 := by
  unfold thereB
  rw [lowN_cons]
  by_cases h : a.p.cmp p < 0
  · rw [if_pos h, if_pos h]
    rfl
  · rw [if_neg h, if_neg h]
    rfl
end Go.Proofs.YtnpeedmicjeleaaDoor

/- Plain laws of tables (layer 9), third part: tables by what is in them. -/
namespace Go.Proofs.YtnpeedmicjeleaaDoor
set_option linter.unusedVariables false
set_option linter.unusedSimpArgs false
set_option maxRecDepth 4000

theorem setT_cons (a : Row) (t : List Row) (p : Pfx) (h : Int) : setT (a :: t) p h = if a.p.cmp p < 0 then a :: setT t p h else if a.p.cmp p = 0 then ⟨p, h⟩ :: t else ⟨p, h⟩ :: a :: t := by
  unfold setT
  rw [lowN_cons, thereB_cons]
  by_cases h1 : a.p.cmp p < 0
  · rw [if_pos h1, if_pos h1, if_pos h1]
    split <;> rfl
  · rw [if_neg h1, if_neg h1, if_neg h1]
    by_cases h2 : a.p.cmp p = 0
    · rw [if_pos h2, h2]; rfl
    · rw [if_neg h2, if_neg (by simpa using h2)]; rfl
theorem getT_cons (a : Row) (t : List Row) (p : Pfx) : getT (a :: t) p = if a.p.cmp p < 0 then getT t p else if a.p.cmp p = 0 then a.h else 0 := by
  unfold getT
  rw [lowN_cons, thereB_cons]
  by_cases h1 : a.p.cmp p < 0
  · rw [if_pos h1, if_pos h1, if_pos h1]; rfl
  · rw [if_neg h1, if_neg h1, if_neg h1]
    by_cases h2 : a.p.cmp p = 0
    · rw [if_pos h2, h2]; rfl
    · rw [if_neg h2, if_neg (by simpa using h2)]
theorem ne_of_cmp {p q : Pfx} (h : p.cmp q ≠ 0) : p ≠ q := fun e => by rw [e] at h; exact h (cmpI_refl _)
theorem eq_of_cmp {p q : Pfx} (hp : B16 p.l) (hq : B16 q.l) (h : p.cmp q = 0) : p = q := (p.cmp_zero q hp hq).1 h
theorem ne_of_lt {p q : Pfx} (h : p.cmp q < 0) : p ≠ q := ne_of_cmp (by omega)

theorem there_iff {p : Pfx} (hp : B16 p.l) : ∀ {t : List Row}, Fits t → rising t = true → (thereB t p = true ↔ ∃ x ∈ t, x.p = p)
  | [], _, _ => by simp [thereB]
  | a :: t, hf, ht => by
    have ih := there_iff hp hf.tail (rising_cons ht)
    have hh := rising_head ht
    rw [thereB_cons]
    by_cases h1 : a.p.cmp p < 0
    · rw [if_pos h1, ih]
      constructor
      · rintro ⟨x, hm, he⟩
        exact ⟨x, List.mem_cons_of_mem _ hm, he⟩
      · rintro ⟨x, hm, he⟩
        rcases List.mem_cons.1 hm with rfl | hm
        · exact absurd he (ne_of_lt h1)
        · exact ⟨x, hm, he⟩
    · rw [if_neg h1]
      constructor
      · intro h
        exact ⟨a, by simp, eq_of_cmp (hf a (by simp)) hp (by simpa using h)⟩
      · rintro ⟨x, hm, he⟩
        rcases List.mem_cons.1 hm with rfl | hm
        · have hz : p.cmp p = 0 := cmpI_refl _
          rw [he, hz]; rfl
        · have := hh x hm
          rw [he] at this
          exact absurd this h1
theorem getT_mem {p : Pfx} (hp : B16 p.l) : ∀ {t : List Row}, Fits t → thereB t p = true → ⟨p, getT t p⟩ ∈ t
  | [], _, h => by cases h
  | a :: t, hf, h => by
    rw [thereB_cons] at h
    rw [getT_cons]
    by_cases h1 : a.p.cmp p < 0
    · rw [if_pos h1] at h ⊢
      exact List.mem_cons_of_mem _ (getT_mem hp hf.tail h)
    · rw [if_neg h1] at h ⊢
      have h2 : a.p.cmp p = 0 := by simpa using h
      rw [if_pos h2, ← eq_of_cmp (hf a (by simp)) hp h2]
      simp
theorem mem_unique {x y : Row} : ∀ {t : List Row}, rising t = true → x ∈ t → y ∈ t → x.p = y.p → x = y
  | [], _, h, _, _ => by cases h
  | a :: t, ht, hx, hy, he => by
    have hh := rising_head ht
    rcases List.mem_cons.1 hx with e1 | m1
    · rcases List.mem_cons.1 hy with e2 | m2
      · rw [e1, e2]
      · have := hh y m2
        rw [← he, e1] at this
        exact absurd this (cmp_irrefl _)
    · rcases List.mem_cons.1 hy with e2 | m2
      · have := hh x m1
        rw [he, e2] at this
        exact absurd this (cmp_irrefl _)
      · exact mem_unique (rising_cons ht) m1 m2 he
theorem getT_of {p : Pfx} {h : Int} (hp : B16 p.l) {t : List Row} (hf : Fits t) (ht : rising t = true) (hm : (⟨p, h⟩ : Row) ∈ t) : getT t p = h := by
  have hth := (there_iff hp hf ht).2 ⟨_, hm, rfl⟩
  have := mem_unique ht (getT_mem hp hf hth) hm rfl
  exact congrArg Row.h this
theorem getT_no {t : List Row} {p : Pfx} (h : thereB t p = false) : getT t p = 0 := by unfold getT; rw [h]; rfl
theorem tabB_of {t : List Row} (h1 : t.length ≤ 40) (h2 : ∀ r ∈ t, r.okB = true) (h3 : rising t = true) : tabB t = true := by
  unfold tabB
  simp only [Bool.and_eq_true, decide_eq_true_eq, List.all_eq_true]
  exact ⟨⟨h1, h2⟩, h3⟩
theorem tabB_to {t : List Row} (h : tabB t = true) : t.length ≤ 40 ∧ (∀ r ∈ t, r.okB = true) ∧ rising t = true := by
  unfold tabB at h
  simp only [Bool.and_eq_true, decide_eq_true_eq, List.all_eq_true] at h
  exact ⟨h.1.1, h.1.2, h.2⟩
theorem okB_iff (r : Row) : r.okB = true ↔ r.p.right = true ∧ 1 ≤ r.h ∧ r.h ≤ 255 := by
  unfold Row.okB
  simp only [Bool.and_eq_true, decide_eq_true_eq]
  exact ⟨fun h => ⟨h.1.1, h.1.2, h.2⟩, fun h => ⟨⟨h.1, h.2.1⟩, h.2.2⟩⟩
/-! The longest match, by what is in a table. -/
/-! Set, dropped, got. -/
end Go.Proofs.YtnpeedmicjeleaaDoor

/- Plain laws of tables (layer 9), fifth part: what two have not alike. -/
namespace Go.Proofs.YtnpeedmicjeleaaDoor
set_option linter.unusedVariables false
set_option linter.unusedSimpArgs false
set_option maxRecDepth 4000

/-- A table of hops that stand. -/
structure Tab (t : List Row) : Prop where
  fits : Fits t
  up : rising t = true
  hop : ∀ r ∈ t, 1 ≤ r.h
theorem Tab.tail {a : Row} {t : List Row} (h : Tab (a :: t)) : Tab t := ⟨h.fits.tail, rising_cons h.up, fun r hr => h.hop r (by simp [hr])⟩
theorem Tab.of {t : List Row} (hf : Fits t) (h : tabB t = true) : Tab t := ⟨hf, (tabB_to h).2.2, fun r hr => ((okB_iff r).1 ((tabB_to h).2.1 r hr)).2.1⟩
end Go.Proofs.YtnpeedmicjeleaaDoor

/- Rows of a table in memory: by value (19 cells), in a block, in a slice. -/
namespace Go.Proofs.YtnpeedmicjeleaaDoor
open Go.RowKit
set_option linter.unusedVariables false
set_option linter.unusedSimpArgs false
set_option maxRecDepth 4000

def rowC (r : Row) : List Value := .int .i64 r.p.v :: (nums .u8 r.p.l ++ [.int .i64 r.p.b, .int .i64 r.h])
def rowV (r : Row) : Array Value := (rowC r).toArray
theorem rowC_len {r : Row} (h : r.fits) : (rowC r).length = 19 := by simp [rowC, nums, h.len]
theorem rowV_size {r : Row} (h : r.fits) : (rowV r).size = 19 := by simp [rowV, rowC_len h]
theorem rowC_one (r : Row) : ∀ u ∈ rowC r, u.oneCell' = true := by
  intro u hu
  simp only [rowC, List.mem_cons, List.mem_append, List.not_mem_nil, or_false] at hu
  rcases hu with rfl | hu | rfl | rfl
  · rfl
  · exact nums_one _ _ u hu
  · rfl
  · rfl
theorem rowV_one (r : Row) : (rowV r).all (·.oneCell') = true := by simp [rowV, rowC, nums, Value.oneCell']
theorem pfxV_list (v : Int) (l : List Int) (b : Int) : (pfxV v l b).toList = .int .i64 v :: (nums .u8 l ++ [.int .i64 b]) := rfl
theorem adrV_list (v : Int) (l : List Int) : (adrV v l).toList = .int .i64 v :: nums .u8 l := rfl
theorem info_row {r : Row} (h : r.fits) : (Tryd.prog.info? 79).map (·.size) = some (rowV r).size := by rw [rowV_size h]; kernel_rfl
/-- What loads of a row tell. -/
structure RowLd (w : World) (g o : Nat) (r : Row) : Prop where
  row : (Instr.loadAt 79 (.pointer (some ⟨g, o, none⟩))).run Tryd.prog w = .ok (.agg (rowV r)) w
  pfx : (Instr.loadAt 49 (.pointer (some ⟨g, o, none⟩))).run Tryd.prog w = .ok (.agg (pfxV r.p.v r.p.l r.p.b)) w
  adr : (Instr.loadAt 47 (.pointer (some ⟨g, o, none⟩))).run Tryd.prog w = .ok (.agg (adrV r.p.v r.p.l)) w
  ver : (Instr.loadAt 3 (.pointer (some ⟨g, o, none⟩))).run Tryd.prog w = .ok (.int .i64 r.p.v) w
  bts : (Instr.loadAt 45 (.pointer (some ⟨g, o + 1, none⟩))).run Tryd.prog w = .ok (.agg (arrV r.p.l)) w
  bit : (Instr.loadAt 3 (.pointer (some ⟨g, o + 17, none⟩))).run Tryd.prog w = .ok (.int .i64 r.p.b) w
  hop : (Instr.loadAt 3 (.pointer (some ⟨g, o + 18, none⟩))).run Tryd.prog w = .ok (.int .i64 r.h) w
theorem rowLd_of {w : World} {g o : Nat} {r : Row} (hf : r.fits) (h : CellsAt w g o (rowC r)) : RowLd w g o r := by
  have hn : (nums .u8 r.p.l).length = 16 := by rw [nums_length]; exact hf.len
  have e : rowC r = (pfxV r.p.v r.p.l r.p.b).toList ++ [.int .i64 r.h] := by rw [pfxV_list]; simp [rowC]
  have e2 : (pfxV r.p.v r.p.l r.p.b).toList = (adrV r.p.v r.p.l).toList ++ [.int .i64 r.p.b] := by rw [pfxV_list, adrV_list]; rfl
  have h1 : CellsAt w g o (pfxV r.p.v r.p.l r.p.b).toList := by rw [e] at h; exact h.left
  have h2 : CellsAt w g o (adrV r.p.v r.p.l).toList := by rw [e2] at h1; exact h1.left
  have h3 : CellsAt w g (o + 1) (arrV r.p.l).toList := by
    have := CellsAt.mid [Value.int .i64 r.p.v] (ys := nums .u8 r.p.l) (zs := []) (w := w) (b := g) (o := o) (by rw [List.append_nil]; exact h2)
    exact this
  refine ⟨load_cells (cs := rowV r) h Tryd.underlying79 rfl (info_row hf), load_cells h1 Tryd.underlying49 rfl (info_pfx hf.len), load_cells h2 Tryd.underlying47 rfl (info_adr hf.len), ?_, load_cells h3 Tryd.underlying45 rfl (info_arr hf.len), ?_, ?_⟩
  · exact load_int (h 0 _ rfl)
  · refine load_int (h 17 _ ?_)
    unfold rowC
    rw [List.getElem?_cons_succ, List.getElem?_append_right (by omega), hn]
    rfl
  · refine load_int (h 18 _ ?_)
    unfold rowC
    rw [List.getElem?_cons_succ, List.getElem?_append_right (by omega), hn]
    rfl

/-- What lies in a block that holds a row, in every world that goes on from one. -/
structure RowAt (w : World) (g : Nat) (r : Row) : Prop where
  all : ∀ w0, Below w.heap.size w w0 → RowLd w0 g 0 r
theorem row_at {w : World} {g : Nat} {t : TypeId} {r : Row} (hr : r.fits) (h : w.heap[g]? = some (.cells (rowV r) t (0, 0))) : RowAt w g r :=
  ⟨fun w0 hb => rowLd_of hr (cells_blk (blk_below h hb))⟩
/-- A table by value: its rows. -/
def tabV (A : Option Addr) (n c : Nat) : Array Value := #[.slice A n c]
theorem load_rows {w : World} {ad : Addr} {v : Value} (h : w.cell? ad = some v) : (Instr.loadAt 37 (.pointer (some ad))).run Tryd.prog w = .ok v w := by
  go_simp
structure TabAt (w : World) (g : Nat) (A : Option Addr) (n c : Nat) : Prop where
  all : ∀ w0, Below w.heap.size w w0 → (Instr.loadAt 39 (.pointer (some ⟨g, 0, none⟩))).run Tryd.prog w0 = .ok (.agg (tabV A n c)) w0 ∧ (Instr.loadAt 37 (.pointer (some ⟨g, 0, none⟩))).run Tryd.prog w0 = .ok (.slice A n c) w0
theorem tab_at {w : World} {g : Nat} {A : Option Addr} {n c : Nat} (h : w.heap[g]? = some (.cells (tabV A n c) 39 (0, 0))) : TabAt w g A n c := by
  refine ⟨fun w0 hb => ?_⟩
  have h0 := cells_blk (blk_below h hb)
  exact ⟨load_cells h0 Tryd.underlying39 rfl (by kernel_rfl), load_rows (h0 0 _ rfl)⟩

/-! Rows of a slice. -/
theorem zero_row : (Tryd.prog.info? 79).map (fun i => (i.zero, i.size, i.bytes)) = some (some (.agg (rowV rowZ)), 19, 40) := by kernel_rfl
def rowK : Shape Row where
  t := 79
  ts := 37
  sz := 19
  bytes := 40
  z := rowZ
  ok := Row.fits
  enc := rowC
  val := fun r => .agg (rowV r)
  len := fun _ h => rowC_len h
  one := rowC_one
  okz := zero16_B
  pos := by omega
  bpos := by omega
  blt := by omega
  und := Tryd.underlying37
  info := zero_row
  venc := fun _ => rfl
  ld := fun _ _ _ r hr h => load_cells (cs := rowV r) h Tryd.underlying79 rfl (info_row hr)
/-- A slice of rows, read. -/
abbrev RT (w : World) (A : Option Addr) (n c : Nat) (t : List Row) : Prop := RS rowK w A n c t
/-- A slice of rows of the call's own. -/
abbrev OT (w : World) (base : Nat) (A : Option Addr) (n c : Nat) (t : List Row) : Prop := OS rowK w base A n c t
theorem Fits.take {t : List Row} (h : Fits t) (n : Nat) : Fits (t.take n) := fun r hr => h r (List.mem_of_mem_take hr)
theorem Fits.drop {t : List Row} (h : Fits t) (n : Nat) : Fits (t.drop n) := fun r hr => h r (List.mem_of_mem_drop hr)
theorem Fits.append {t u : List Row} (h : Fits t) (k : Fits u) : Fits (t ++ u) := fun r hr => (List.mem_append.1 hr).elim (h r) (k r)
theorem Fits.at_ {t : List Row} (h : Fits t) {i : Nat} (hi : i < t.length) : (rowAt t i).fits := h _ (List.mem_of_getElem? (rowAt_get hi))
theorem RT.at_ {w : World} {A : Option Addr} {n c : Nat} {t : List Row} (h : RT w A n c t) (hp : 0 < n) : ∃ b o, A = some ⟨b, o, none⟩ ∧ ∀ i, i < n → CellsAt w b (o + i * 19) (rowC (rowAt t i)) := RS.at_ h hp
theorem RT.fits_at {w : World} {A : Option Addr} {n c : Nat} {t : List Row} (h : RT w A n c t) {i : Nat} (hi : i < n) : (rowAt t i).fits := RS.fits_at h hi
theorem RT.fits {w : World} {A : Option Addr} {n c : Nat} {t : List Row} (h : RT w A n c t) : Fits t := RS.fits h

/-! Rows, built and held equal. -/
theorem built_row (p : Pfx) (h : Int) (hl : p.l.length = 16) : Tryd.prog.built 79 [(0, .agg (pfxV p.v p.l p.b)), (1, .int .i64 h)] = some (rowV ⟨p, h⟩) := by
  obtain ⟨a, b, c, d, e, f, g, h1, i, j, k, m, n, o, q, r, hh⟩ := len16 hl
  obtain ⟨v, l, x⟩ := p
  simp only at hh
  subst hh
  kernel_rfl
theorem run_build_row (w : World) (p : Pfx) (h : Int) (hl : p.l.length = 16) : (Instr.build 79 #[(0, .agg (pfxV p.v p.l p.b)), (1, .int .i64 h)]).run Tryd.prog w = .ok (.agg (rowV ⟨p, h⟩)) w := run_build w _ _ _ (built_row p h hl)
structure Row.ok (r : Row) : Prop where
  p : r.p.ok
  h : (Lit.int .i64 r.h).wf = true
theorem Row.ok.fits {r : Row} (h : r.ok) : r.fits := h.p.l
def Row.eqB (r s : Row) : Bool := r.p.eqB s.p && decide (r.h = s.h)
theorem Row.eqB_iff (r s : Row) : r.eqB s = true ↔ r = s := by
  unfold Row.eqB
  simp only [Bool.and_eq_true, decide_eq_true_eq, Pfx.eqB_iff]
  constructor
  · rintro ⟨h1, h2⟩
    cases r; cases s
    simp_all
  · rintro rfl
    exact ⟨rfl, rfl⟩
section
variable {r : Operand → Value} {o : Oper} {x y : Operand} {ty : TypeId}
end
end Go.Proofs.YtnpeedmicjeleaaDoor

/- Layer 5 (prefix): cut. -/
namespace Go.Proofs.YtnpeedmicjeleaaDoor
open Go.RowKit
set_option linter.unusedVariables false
set_option linter.unusedSimpArgs false
set_option maxRecDepth 4000

end Go.Proofs.YtnpeedmicjeleaaDoor

/- The document's answer for layer 5 (junctionboxref05): Width, at, RightAddr. -/
namespace Go.Proofs.YtnpeedmicjeleaaDoor
open Go.RowKit
set_option linter.unusedVariables false
set_option linter.unusedSimpArgs false
set_option maxRecDepth 4000

end Go.Proofs.YtnpeedmicjeleaaDoor

/- Layer 5 (prefix): Of. -/
namespace Go.Proofs.YtnpeedmicjeleaaDoor
open Go.RowKit
set_option linter.unusedVariables false
set_option linter.unusedSimpArgs false
set_option maxRecDepth 4000

/-- A store of a whole prefix; a load of one, as a result. -/
theorem store_pfx_fit {c : Array Value} {v x : Int} {l : List Int} (hl : l.length = 16) (hc : c.size = 18) : 0 + (pfxV v l x).size ≤ c.size := by rw [pfx_size hl, hc]; exact Nat.le_refl _
end Go.Proofs.YtnpeedmicjeleaaDoor

/- The document's answer for layer 5: Of. -/
namespace Go.Proofs.YtnpeedmicjeleaaDoor
open Go.RowKit
set_option linter.unusedVariables false
set_option linter.unusedSimpArgs false
set_option maxRecDepth 4000

theorem pfx_byte {w : World} {g : Nat} {t : TypeId} {v b : Int} {l : List Int} (hl : B16 l) (h : w.heap[g]? = some (.cells (pfxV v l b) t (0, 0))) (i : Nat) (hi : i < 16) : w.cell? ⟨g, 1 + i, none⟩ = some (.int .u8 (rd l (i : Int))) := by
  rw [blk_cell h, Nat.add_comm]
  unfold pfxV
  rw [List.getElem?_toArray, List.getElem?_cons_succ, List.getElem?_append_left (by simp [nums, hl.len]; exact hi)]
  exact nums_get .u8 l i (by rw [hl.len]; exact hi)
end Go.Proofs.YtnpeedmicjeleaaDoor

/- Slices of int of the call's own. -/
namespace Go.Proofs.YtnpeedmicjeleaaDoor
open Go.RowKit
set_option linter.unusedVariables false
set_option linter.unusedSimpArgs false
set_option maxRecDepth 4000

structure RI (w : World) (A : Option Addr) (n c : Nat) (xs : List Int) : Prop where
  rv : RV w 1 A n c (nums .i64 xs)
structure OI (w : World) (base : Nat) (A : Option Addr) (n c : Nat) (xs : List Int) : Prop where
  ov : OV w base 3 1 A n c (nums .i64 xs)
section
variable {w w1 : World} {base base' : Nat} {A : Option Addr} {n c : Nat} {xs : List Int}
theorem RI.len (h : RI w A n c xs) : xs.length = n := by have := h.rv.len; simpa [nums] using this
theorem RI.cap (h : RI w A n c xs) : n ≤ c := h.rv.cap
theorem RI.small (h : RI w A n c xs) : n ≤ 281474976710656 := h.rv.small
theorem RI.at_ (h : RI w A n c xs) (i : Int) (h0 : 0 ≤ i) (h1 : i < n) : ∃ ad, A = some ad ∧ w.cell? (ad.add i.toNat) = some (.int .i64 (rd xs i)) := by
  obtain ⟨ad, e, hc⟩ := h.rv.cells (by omega)
  exact ⟨ad, e, hc _ _ (nums_get _ _ _ (by have := h.len; omega))⟩
theorem RI.below (h : RI w A n c xs) (hb : Below w.heap.size w w1) : RI w1 A n c xs := ⟨h.rv.below hb⟩
theorem RI.grown (h : RI w A n c xs) {row : Option Nat} (hg : w.grownBy w1 row) (hne : ∀ ad, A = some ad → some ad.block ≠ row) : RI w1 A n c xs := ⟨h.rv.grown hg hne⟩
theorem OI.len (h : OI w base A n c xs) : xs.length = n := by have := h.ov.len; simpa [nums] using this
theorem OI.cap (h : OI w base A n c xs) : n ≤ c := h.ov.cap
theorem OI.small (h : OI w base A n c xs) : n ≤ 281474976710656 := h.ov.small
theorem OI.base_ (h : OI w base A n c xs) : ∀ ad, A = some ad → base ≤ ad.block := h.ov.base_
theorem OI.lt (h : OI w base A n c xs) : ∀ ad, A = some ad → ad.block < w.heap.size := h.ov.lt
theorem OI.reads (h : OI w base A n c xs) : RI w A n c xs := ⟨h.ov.reads⟩
theorem OI.lower (h : OI w base A n c xs) (hb : base' ≤ base) : OI w base' A n c xs := ⟨h.ov.lower hb⟩
theorem OI.grown (h : OI w base A n c xs) {row : Option Nat} (hg : w.grownBy w1 row) (hne : ∀ ad, A = some ad → some ad.block ≠ row) : OI w1 base A n c xs := ⟨h.ov.grown hg hne⟩
theorem OI.below (h : OI w base A n c xs) (hb : Below w.heap.size w w1) : OI w1 base A n c xs := ⟨h.ov.below hb⟩
end
theorem OI.new (W : World) (base : Nat) (xs : List Int) (hb : base ≤ W.heap.size) (hn : xs.length ≤ 281474976710656) :
    OI (W.alloc (.cells (nums .i64 xs).toArray 3)) base (some ⟨W.heap.size, 0, none⟩) xs.length xs.length xs :=
  ⟨by have := OV.new W base 3 1 (nums .i64 xs).toArray xs.length hb (by simp [nums]) hn; simpa using this⟩
theorem RI.one (W : World) (y : Int) : RI (W.alloc (.cells #[.int .i64 y] 3)) (some ⟨W.heap.size, 0, none⟩) 1 1 [y] := (OI.new W 0 [y] (by omega) (by simp)).reads
end Go.Proofs.YtnpeedmicjeleaaDoor

/- Layer 5 (prefix): Compare. -/
namespace Go.Proofs.YtnpeedmicjeleaaDoor
open Go.RowKit
set_option linter.unusedVariables false
set_option linter.unusedSimpArgs false
set_option maxRecDepth 4000

theorem cmpint_any (x y : Int) (w : World) : Calls Tryd.prog 82 #[.int .i64 x, .int .i64 y] w fun e w' => e = .returned (.int .i64 (cmpN x y)) ∧ w = w' := by
  unfold cmpN
  by_cases h1 : x < y
  · rw [if_pos h1]
    go_enter Tryd.func82, Tryd.ntmps82
    go_wp2
    go_ret
    exact ⟨rfl, rfl⟩
  · rw [if_neg h1]
    by_cases h2 : y < x
    · rw [if_pos h2]
      go_enter Tryd.func82, Tryd.ntmps82
      go_wp2
      go_ret
      exact ⟨rfl, rfl⟩
    · rw [if_neg h2]
      obtain rfl : x = y := by omega
      clear h1 h2
      go_enter Tryd.func82, Tryd.ntmps82
      go_wp2
      go_ret
      exact ⟨rfl, rfl⟩
def orI : List Int → Int
  | [] => 0
  | x :: xs => if x ≠ 0 then x else orI xs
theorem orI_skip : ∀ (xs : List Int) (k : Nat), (∀ j : Nat, j < k → rd xs (j : Int) = 0) → orI xs = orI (xs.drop k)
  | _, 0, _ => rfl
  | [], _ + 1, _ => by simp
  | x :: xs, k + 1, h => by
    have h0 := h 0 (by omega)
    simp [rd] at h0
    rw [List.drop_succ_cons, ← orI_skip xs k (fun j hj => by have := h (j + 1) (by omega); simpa [rd] using this)]
    simp [orI, h0]
theorem orI_at (xs : List Int) (k : Nat) (hk : k < xs.length) (h : ∀ j : Nat, j < k → rd xs (j : Int) = 0) (hn : rd xs (k : Int) ≠ 0) : orI xs = rd xs (k : Int) := by
  rw [orI_skip xs k h, List.drop_eq_getElem_cons hk]
  have e : rd xs (k : Int) = xs[k] := by simp [rd, List.getD_eq_getElem?_getD, hk]
  rw [e] at hn ⊢
  simp [orI, hn]
theorem or_any (A : Option Addr) (n c : Nat) (xs : List Int) (w : World) (hr : RI w A n c xs) : Calls Tryd.prog 80 #[.slice A n c] w fun e w' => e = .returned (.int .i64 (orI xs)) ∧ w = w' := by
  have hn := hr.small
  have HL := Lib.hid hr.len
  have HR := Lib.hid hr
  clear hr
  go_enter Tryd.func80, Tryd.ntmps80
  go_wp2
  go_loop [5, 8] (fun _ i => ∃ k : Nat, i = .int .i64 k ∧ k ≤ n ∧ Hid (∀ j : Nat, j < k → rd xs (j : Int) = 0)) (fun _ i => n - (intOf i).toNat)
  case atStart => exact ⟨0, rfl, Nat.zero_le _, fun j h => by omega⟩
  case round =>
    obtain ⟨k, rfl, hk, HH⟩ := hrel
    by_cases hlt : k < n
    · obtain ⟨ad, rfl, hc⟩ := HR.out.at_ k (by omega) (by omega)
      have hc' : w.cell? (ad.add k) = some (.int .i64 (rd xs k)) := hc
      clear hc
      by_cases h0 : rd xs k = 0
      · have hb : (rd xs k != 0) = false := by simp [h0]
        have H0 := Lib.hid h0
        clear h0
        go_wp2
        go_round
        case measure => simp [intOf]; omega
        case rel =>
          refine ⟨k + 1, by go_num, by omega, fun j hj => ?_⟩
          by_cases hj' : j < k
          · exact HH.out j hj'
          · rw [show j = k by omega]; exact H0.out
      · have hb : (rd xs k != 0) = true := by simpa using h0
        have HE := Lib.hid (orI_at xs k (by rw [HL.out]; exact hlt) HH.out h0)
        clear h0
        go_wp2
        go_ret
        rw [HE.out]
        exact ⟨rfl, rfl⟩
    · obtain rfl : k = n := by omega
      have HE := Lib.hid (show orI xs = 0 by rw [orI_skip xs k HH.out, List.drop_of_length_le (by rw [HL.out]; exact Nat.le_refl _)]; rfl)
      clear hlt
      go_wp2
      go_ret
      rw [HE.out]
      exact ⟨rfl, rfl⟩

theorem rb_pfx {w : World} {g : Nat} {t : TypeId} {v b : Int} {l : List Int} (hl : B16 l) (h : w.heap[g]? = some (.cells (pfxV v l b) t (0, 0))) : RB w (some ⟨g, 1, none⟩) 16 16 l :=
  ⟨⟨by simp [nums, hl.len], Nat.le_refl _, by omega, fun _ => ⟨_, rfl, fun j u hj => by
    have hlt := (List.getElem?_eq_some_iff.1 hj).1
    simp only [nums, List.length_map, hl.len] at hlt
    rw [nums_get _ _ _ (by rw [hl.len]; exact hlt)] at hj
    rw [add_spot _ rfl, ← hj]
    exact pfx_byte hl h j hlt⟩⟩, hl.rng⟩
theorem cmp_or (p q : Pfx) (hp : B16 p.l) (hq : B16 q.l) : p.cmp q = orI [cmpN p.v q.v, cmpI p.l q.l, cmpN p.b q.b] := by
  rw [p.cmp_eq q hp hq]
  simp only [orI]
  split
  · rfl
  · split
    · rfl
    · split
      · rfl
      · omega

set_option maxHeartbeats 2000000 in
theorem compare_any (p q : Pfx) (w : World) (hp : B16 p.l) (hq : B16 q.l) : Calls Tryd.prog 81 #[.agg (pfxV p.v p.l p.b), .agg (pfxV q.v q.l q.b)] w fun e w' => e = .returned (.int .i64 (p.cmp q)) ∧ Below w.heap.size w w' := by
  have hblk1 := blk_new w (.cells (pfxV p.v p.l p.b) 49)
  have hbel1 : Below w.heap.size w (w.alloc (.cells (pfxV p.v p.l p.b) 49)) := below_alloc (Below.refl _ _) _
  have hblk2 := blk_new (w.alloc (.cells (pfxV p.v p.l p.b) 49)) (.cells (pfxV q.v q.l q.b) 49)
  have hbel2 : Below w.heap.size w ((w.alloc (.cells (pfxV p.v p.l p.b) 49)).alloc (.cells (pfxV q.v q.l q.b) 49)) := below_alloc (hbel1) _
  rw [show (w.alloc (.cells (pfxV p.v p.l p.b) 49)).heap.size = w.heap.size + 1 by simp] at hblk2
  replace hblk1 := blk_below hblk1 (below_alloc (Below.refl _ _) (.cells (pfxV q.v q.l q.b) 49))
  have HP1 := Lib.hid (pfx_at hp hblk1)
  have HBK1 := Lib.hid hblk1
  have HP2 := Lib.hid (pfx_at hq hblk2)
  have HBK2 := Lib.hid hblk2
  have HBE := Lib.hid hbel2
  obtain ⟨cs1, hcs1⟩ : ∃ cs, pfxV p.v p.l p.b = cs := ⟨_, rfl⟩
  obtain ⟨cs2, hcs2⟩ : ∃ cs, pfxV q.v q.l q.b = cs := ⟨_, rfl⟩
  simp only [hcs1, hcs2] at HBE HP1 HP2 HBK1 HBK2 ⊢
  have HC1 := Lib.hid hcs1
  have HC2 := Lib.hid hcs2
  clear hcs1 hblk1 hbel1 hcs2 hblk2 hbel2
  have HE := Lib.hid (cmp_or p q hp hq)
  go_enter Tryd.func81, Tryd.ntmps81
  go_wp2_with fail
  refine wp_region_mix (fun w0 => Below ((w.alloc (.cells cs1 49)).alloc (.cells cs2 49)).heap.size ((w.alloc (.cells cs1 49)).alloc (.cells cs2 49)) w0) [(0, 0), (1, 0), (2, 0), (3, 0), (4, 0), (5, 0), (7, 0), (8, 0), (9, 0), (10, 0), (11, 0), (12, 0), (14, 0), (15, 0), (16, 0), (17, 0), (6, 2), (13, 2), (18, 2), (19, 2), (20, 2), (21, 0)] (by kernel_rfl) (by kernel_rfl) (below_drew1 _) ?_
  simp only [List.map_cons, List.map_nil]
  iterate 2 (refine wpO_step0 rfl rfl (fun K hK => ?_); go_simp; refine hK _ _ ?_; clear hK K)
  refine wpO_loadW (t := 3) (ad := ⟨w.heap.size, 0, none⟩) rfl rfl ?hw rfl rfl ((fun w0 hS => (HP1.out.all w0 hS).2.2.1)) ?_
  case hw => go_simp
  iterate 2 (refine wpO_step0 rfl rfl (fun K hK => ?_); go_simp; refine hK _ _ ?_; clear hK K)
  refine wpO_loadW (t := 3) (ad := ⟨(w.heap.size+1), 0, none⟩) rfl rfl ?hw rfl rfl ((fun w0 hS => (HP2.out.all w0 hS).2.2.1)) ?_
  case hw => go_simp
  iterate 7 (refine wpO_step0 rfl rfl (fun K hK => ?_); go_simp; refine hK _ _ ?_; clear hK K)
  refine wpO_loadW (t := 3) (ad := ⟨w.heap.size, 17, none⟩) rfl rfl ?hw rfl rfl ((fun w0 hS => (HP1.out.all w0 hS).2.1)) ?_
  case hw => go_simp
  iterate 1 (refine wpO_step0 rfl rfl (fun K hK => ?_); go_simp; refine hK _ _ ?_; clear hK K)
  refine wpO_loadW (t := 3) (ad := ⟨(w.heap.size+1), 17, none⟩) rfl rfl ?hw rfl rfl ((fun w0 hS => (HP2.out.all w0 hS).2.1)) ?_
  case hw => go_simp
  refine wpO_step2 rfl rfl (below_drew1 _) (fun K hK => ?_)
  go_simp
  refine (cmpint_any p.v q.v _).mono ?_
  rintro e w1 ⟨rfl, rfl⟩
  refine hK _ _ ⟨below_drew1 _, ?_⟩
  clear hK K
  refine wpO_step2 rfl rfl (below_drew1 _) (fun K hK => ?_)
  go_simp
  refine (bcompare_any (some ⟨w.heap.size, 1, none⟩) 16 16 p.l (some ⟨w.heap.size + 1, 1, none⟩) 16 16 q.l _ (rb_pfx hp (by rw [HC1.out]; exact HBK1.out)) (rb_pfx hq (by rw [HC2.out]; exact HBK2.out))).mono ?_
  rintro e w1 ⟨rfl, rfl⟩
  refine hK _ _ ⟨below_drew1 _, ?_⟩
  clear hK K
  refine wpO_step2 rfl rfl (below_drew1 _) (fun K hK => ?_)
  go_simp
  refine (cmpint_any p.b q.b _).mono ?_
  rintro e w1 ⟨rfl, rfl⟩
  refine hK _ _ ⟨below_drew1 _, ?_⟩
  clear hK K
  obtain ⟨x0, h0⟩ : ∃ x, cmpN p.v q.v = x := ⟨_, rfl⟩
  obtain ⟨x1, h1⟩ : ∃ x, cmpI p.l q.l = x := ⟨_, rfl⟩
  obtain ⟨x2, h2⟩ : ∃ x, cmpN p.b q.b = x := ⟨_, rfl⟩
  rw [h0, h1, h2] at HE
  rw [h0, h1, h2]
  clear h0 h1 h2
  refine wpO_step2 rfl rfl (below_drew1 _) (fun K hK => ?_)
  go_simp
  have hri := (OI.new ((w.alloc (.cells cs1 49)).alloc (.cells cs2 49)) 0 [x0, x1, x2] (by omega) (by simp)).reads.below (below_drew1 _)
  rw [show ((w.alloc (.cells cs1 49)).alloc (.cells cs2 49)).heap.size = w.heap.size + 1 + 1 by simp] at hri
  have HRI := Lib.hid hri
  clear hri
  refine hK _ _ ⟨(below_alloc (Below.refl _ _) _).drew, ?_⟩
  clear hK K
  refine wpO_step2 rfl rfl ((below_alloc (Below.refl _ _) _).drew) (fun K hK => ?_)
  go_simp
  refine (or_any _ 3 3 [x0, x1, x2] _ HRI.out).mono ?_
  rintro e w1 ⟨rfl, rfl⟩
  refine hK _ _ ⟨(below_alloc (Below.refl _ _) _).drew, ?_⟩
  clear hK K
  iterate 1 (refine wpO_step0 rfl rfl (fun K hK => ?_); go_simp; refine hK _ _ ?_; clear hK K)
  refine wpO_nil ?_
  go_wp2
  go_ret
  rw [HE.out]
  exact ⟨rfl, below_step HBE.out (below_alloc (Below.refl _ _) _).drew⟩

end Go.Proofs.YtnpeedmicjeleaaDoor

/- Layer 9 (table): against, hop, and the closure of place. -/
namespace Go.Proofs.YtnpeedmicjeleaaDoor
open Go.RowKit
set_option linter.unusedVariables false
set_option linter.unusedSimpArgs false
set_option maxRecDepth 4000

theorem against_any (r : Row) (p : Pfx) (w : World) (hr : r.fits) (hp : B16 p.l) : Calls Tryd.prog 56 #[.agg (rowV r), .agg (pfxV p.v p.l p.b)] w fun e w' => e = .returned (.int .i64 (r.p.cmp p)) ∧ Below w.heap.size w w' := by
  have hblk1 := blk_new w (.cells (rowV r) 93)
  have hbel1 : Below w.heap.size w (w.alloc (.cells (rowV r) 93)) := below_alloc (Below.refl _ _) _
  have hblk2 := blk_new (w.alloc (.cells (rowV r) 93)) (.cells (pfxV p.v p.l p.b) 49)
  have hbel2 : Below w.heap.size w ((w.alloc (.cells (rowV r) 93)).alloc (.cells (pfxV p.v p.l p.b) 49)) := below_alloc (hbel1) _
  rw [show (w.alloc (.cells (rowV r) 93)).heap.size = w.heap.size + 1 by simp] at hblk2
  replace hblk1 := blk_below hblk1 (below_alloc (Below.refl _ _) (.cells (pfxV p.v p.l p.b) 49))
  have HP1 := Lib.hid (row_at hr hblk1)
  have HBK1 := Lib.hid hblk1
  have HP2 := Lib.hid (pfx_at hp hblk2)
  have HBK2 := Lib.hid hblk2
  have HBE := Lib.hid hbel2
  obtain ⟨cs1, hcs1⟩ : ∃ cs, rowV r = cs := ⟨_, rfl⟩
  obtain ⟨cs2, hcs2⟩ : ∃ cs, pfxV p.v p.l p.b = cs := ⟨_, rfl⟩
  simp only [hcs1, hcs2] at HBE HP1 HP2 HBK1 HBK2 ⊢
  have HC1 := Lib.hid hcs1
  have HC2 := Lib.hid hcs2
  clear hcs1 hblk1 hbel1 hcs2 hblk2 hbel2
  have hl1 := (HP1.out.all _ (Below.refl _ _)).pfx
  have hl2 := (HP2.out.all _ (Below.refl _ _)).2.2.2.2
  go_enter Tryd.func56, Tryd.ntmps56
  go_wp2_with (first | ((with_reducible show wpList _ _ _ (Oper.mk _ (Op.load _ _) _ _ _ _ :: _) _ _); refine wpList_load_g hl1 _ rfl rfl (by go_simp) ?_) | ((with_reducible show wpList _ _ _ (Oper.mk _ (Op.load _ _) _ _ _ _ :: _) _ _); refine wpList_load_g hl2 _ rfl rfl (by go_simp) ?_))
  refine (compare_any r.p p _ hr hp).mono ?_
  rintro e w1 ⟨rfl, hbb1⟩
  have HB1 := Lib.hid hbb1
  clear hbb1 hl1 hl2
  go_wp2
  go_ret
  exact ⟨rfl, below_step HBE.out HB1.out⟩
def hopB (n : Int) : Bool := decide (1 ≤ n) && decide (n ≤ 255)
theorem hop_any (n : Int) (w : World) : Calls Tryd.prog 55 #[.int .i64 n] w fun e w' => e = .returned (.bool (hopB n)) ∧ w = w' := by
  by_cases h1 : 1 ≤ n
  · by_cases h2 : n ≤ 255
    · have HE := Lib.hid (show hopB n = true by unfold hopB; simp [h1, h2])
      go_enter Tryd.func55, Tryd.ntmps55
      go_wp2
      go_ret
      rw [HE.out]
      exact ⟨rfl, rfl⟩
    · have HE := Lib.hid (show hopB n = false by unfold hopB; simp [h2])
      have h2' : decide (n ≤ 255) = false := decide_eq_false h2
      clear h2
      go_enter Tryd.func55, Tryd.ntmps55
      go_wp2
      go_ret
      rw [HE.out]
      exact ⟨rfl, rfl⟩
  · have HE := Lib.hid (show hopB n = false by unfold hopB; simp [h1])
    have h1' : decide (1 ≤ n) = false := decide_eq_false h1
    clear h1
    go_enter Tryd.func55, Tryd.ntmps55
    go_wp2
    go_ret
    rw [HE.out]
    exact ⟨rfl, rfl⟩
theorem place1_any (r : Row) (p : Pfx) (w : World) (hr : r.fits) (hp : B16 p.l) : Calls Tryd.prog 93 #[.agg (rowV r), .agg (pfxV p.v p.l p.b)] w fun e w' => e = .returned (.int .i64 (r.p.cmp p)) ∧ Below w.heap.size w w' := by
  have hblk1 := blk_new w (.cells (rowV r) 79)
  have hbel1 : Below w.heap.size w (w.alloc (.cells (rowV r) 79)) := below_alloc (Below.refl _ _) _
  have hblk2 := blk_new (w.alloc (.cells (rowV r) 79)) (.cells (pfxV p.v p.l p.b) 49)
  have hbel2 : Below w.heap.size w ((w.alloc (.cells (rowV r) 79)).alloc (.cells (pfxV p.v p.l p.b) 49)) := below_alloc (hbel1) _
  rw [show (w.alloc (.cells (rowV r) 79)).heap.size = w.heap.size + 1 by simp] at hblk2
  replace hblk1 := blk_below hblk1 (below_alloc (Below.refl _ _) (.cells (pfxV p.v p.l p.b) 49))
  have HP1 := Lib.hid (row_at hr hblk1)
  have HBK1 := Lib.hid hblk1
  have HP2 := Lib.hid (pfx_at hp hblk2)
  have HBK2 := Lib.hid hblk2
  have HBE := Lib.hid hbel2
  obtain ⟨cs1, hcs1⟩ : ∃ cs, rowV r = cs := ⟨_, rfl⟩
  obtain ⟨cs2, hcs2⟩ : ∃ cs, pfxV p.v p.l p.b = cs := ⟨_, rfl⟩
  simp only [hcs1, hcs2] at HBE HP1 HP2 HBK1 HBK2 ⊢
  have HC1 := Lib.hid hcs1
  have HC2 := Lib.hid hcs2
  clear hcs1 hblk1 hbel1 hcs2 hblk2 hbel2
  have hl1 := (HP1.out.all _ (Below.refl _ _)).row
  have hl2 := (HP2.out.all _ (Below.refl _ _)).2.2.2.2
  rw [HC1.out] at hl1
  rw [HC2.out] at hl2
  go_enter Tryd.func93, Tryd.ntmps93
  go_wp2_with (first | ((with_reducible show wpList _ _ _ (Oper.mk _ (Op.load _ _) _ _ _ _ :: _) _ _); refine wpList_load_g hl1 _ rfl rfl (by go_simp) ?_) | ((with_reducible show wpList _ _ _ (Oper.mk _ (Op.load _ _) _ _ _ _ :: _) _ _); refine wpList_load_g hl2 _ rfl rfl (by go_simp) ?_))
  rw [← HC1.out, ← HC2.out]
  refine (against_any r p _ hr hp).mono ?_
  rintro e w1 ⟨rfl, hbb1⟩
  rw [HC1.out, HC2.out] at hbb1
  have HB1 := Lib.hid hbb1
  clear hbb1 hl1 hl2
  go_wp2
  go_ret
  exact ⟨rfl, below_step HBE.out HB1.out⟩
end Go.Proofs.YtnpeedmicjeleaaDoor

/- Layer 9 (table): the place of a prefix. -/
namespace Go.Proofs.YtnpeedmicjeleaaDoor
open Go.RowKit
set_option linter.unusedVariables false
set_option linter.unusedSimpArgs false
set_option maxRecDepth 4000

set_option maxHeartbeats 2000000 in
theorem bsearch_any (A : Option Addr) (n c : Nat) (t : List Row) (p : Pfx) (w : World) (ht : RT w A n c t) (hu : rising t = true) (hp : B16 p.l) (hn : n ≤ 1000) :
    Calls Tryd.prog 92 #[.slice A n c, .agg (pfxV p.v p.l p.b), .func (Fn.func 93) #[] #[]] w fun e w' => e = .returned (.tuple #[.int .i64 (lowN t p), .bool (thereB t p)]) ∧ Below w.heap.size w w' := by
  have hblk1 := blk_new w (.cells (pfxV p.v p.l p.b) 49)
  have hbel1 : Below w.heap.size w (w.alloc (.cells (pfxV p.v p.l p.b) 49)) := below_alloc (Below.refl _ _) _
  have HP1 := Lib.hid (pfx_at hp hblk1)
  have HBK1 := Lib.hid hblk1
  have HBE := Lib.hid hbel1
  obtain ⟨cs1, hcs1⟩ : ∃ cs, pfxV p.v p.l p.b = cs := ⟨_, rfl⟩
  simp only [hcs1] at HBE HP1 HBK1 ⊢
  have HC1 := Lib.hid hcs1
  clear hcs1 hblk1 hbel1
  have HT := Lib.hid ht
  have HU := Lib.hid hu
  have HLE := Lib.hid (show lowN t p ≤ n by rw [← ht.len]; exact lowN_le t p)
  have hl2 := (HP1.out.all _ (Below.refl _ _)).2.2.2.2
  rw [HC1.out] at hl2
  clear ht hu
  go_enter Tryd.func92, Tryd.ntmps92
  go_wp2_with fail
  clear hl2
  go_loopw [9, 10] (fun x y wr => ∃ i j : Nat, x = .int .i64 i ∧ y = .int .i64 j ∧ Hid (i ≤ lowN t p ∧ lowN t p ≤ j ∧ j ≤ n ∧ Below (w.alloc (.cells cs1 49)).heap.size (w.alloc (.cells cs1 49)) wr)) (fun x y _ => (intOf y).toNat - (intOf x).toNat)
  case atStart => exact ⟨0, n, rfl, rfl, Nat.zero_le _, HLE.out, Nat.le_refl _, Below.refl _ _⟩
  case round =>
    obtain ⟨i, j, rfl, rfl, HH⟩ := hrel
    have hij := Nat.le_trans HH.out.1 HH.out.2.1
    have hjn := HH.out.2.2.1
    by_cases hlt : i < j
    · have hlt' : (i : Int) < j := by omega
      have hw1 : IntKind.i64.wrap ((i : Int) + j) = i + j := by simp only [IntKind.wrap, IntKind.bits, IntKind.signed]; simp; omega
      have hw2 : IntKind.u64.wrap ((i : Int) + j) = i + j := by simp only [IntKind.wrap, IntKind.bits, IntKind.signed]; simp; omega
      obtain ⟨h, hh⟩ : ∃ h : Nat, ((i : Int) + j) / 2 = h := ⟨(i + j) / 2, by omega⟩
      have hih : i ≤ h := by omega
      have hhj : h < j := by omega
      have HI := Lib.hid (And.intro hih hhj)
      obtain ⟨b, o, rfl, hc⟩ := HT.out.at_ (by omega)
      have hhn : h < n := by omega
      have hhn' : (h : Int) < n := by omega
      have HC := Lib.hid (hc h hhn)
      have HF := Lib.hid (HT.out.fits_at hhn)
      have HSP := Lib.hid (lowN_spec p HU.out h (by rw [HT.out.len]; exact hhn))
      clear hih hhj hc
      go_wp2_with fail
      refine wp_region_mix (fun w0 => Below (wr).heap.size (wr) w0) [(0, 0), (1, 0), (2, 0), (3, 0), (4, 0), (5, 0), (6, 2), (7, 0)] (by kernel_rfl) (by kernel_rfl) (below_drew1 _) ?_
      simp only [List.map_cons, List.map_nil]
      iterate 4 (refine wpO_step0 rfl rfl (fun K hK => ?_); go_simp; refine hK _ _ ?_; clear hK K)
      refine wpO_loadW (t := 79) (ad := ⟨b, (o+h*19), none⟩) rfl rfl ?hw rfl rfl ((fun w0 hS => (rowLd_of HF.out (HC.out.below (below_step HBE.out (below_step HH.out.2.2.2 hS)))).row)) ?_
      case hw => go_simp
      refine wpO_loadW (t := 49) (ad := ⟨w.heap.size, 0, none⟩) rfl rfl ?hw rfl rfl ((fun w0 hS => (HP1.out.all w0 (below_step HH.out.2.2.2 hS)).2.2.2.2)) ?_
      case hw => go_simp
      refine wpO_step2 rfl rfl (below_drew1 _) (fun K hK => ?_)
      go_simp
      refine (place1_any (rowAt t h) p _ HF.out hp).mono ?_
      rintro e w3 ⟨rfl, hbb3⟩
      have HB3 := Lib.hid (below_step (below_drew1 _) hbb3)
      clear hbb3
      refine hK _ _ ⟨HB3.out, ?_⟩
      clear hK K
      cases hcm : decide ((rowAt t h).p.cmp p < 0) with
      | true =>
        iterate 1 (refine wpO_step0 rfl rfl (fun K hK => ?_); go_simp; refine hK _ _ ?_; clear hK K)
        refine wpO_nil ?_
        have HQ := Lib.hid (of_decide_eq_true hcm)
        go_wp2_with fail
        go_roundw
        case measure => simp [intOf]; have := HI.out; omega
        case rel =>
          refine ⟨h + 1, j, by go_num, rfl, ?_, HH.out.2.1, hjn, below_step HH.out.2.2.2 HB3.out⟩
          rcases Nat.lt_or_ge h (lowN t p) with hl | hl
          · exact hl
          · have h1 := HSP.out.2 hl
            have h2 := HQ.out
            omega
      | false =>
        iterate 1 (refine wpO_step0 rfl rfl (fun K hK => ?_); go_simp; refine hK _ _ ?_; clear hK K)
        refine wpO_nil ?_
        have HQ := Lib.hid (of_decide_eq_false hcm)
        go_wp2_with fail
        go_roundw
        case measure => simp [intOf]; have := HI.out; omega
        case rel =>
          refine ⟨i, h, rfl, rfl, HH.out.1, ?_, by omega, below_step HH.out.2.2.2 HB3.out⟩
          rcases Nat.lt_or_ge h (lowN t p) with hl | hl
          · have h1 := HSP.out.1 hl
            have h2 := HQ.out
            omega
          · exact hl
    · have hlt' : decide (i < j) = false := decide_eq_false hlt
      have hlow : i = lowN t p := by have h1 := HH.out.1; have h2 := HH.out.2.1; omega
      have HLO := Lib.hid hlow
      clear hlow hlt
      by_cases hin : i < n
      · obtain ⟨b, o, rfl, hc⟩ := HT.out.at_ (by omega)
        have hin' : (i : Int) < n := by omega
        have HC := Lib.hid (hc i hin)
        have HF := Lib.hid (HT.out.fits_at hin)
        have HTH := Lib.hid (show thereB t p = ((rowAt t i).p.cmp p == 0) by unfold thereB; rw [← HLO.out, rowAt_get (by rw [HT.out.len]; exact hin)])
        clear hc
        go_wp2_with fail
        refine wp_region_mix (fun w0 => Below (wr).heap.size (wr) w0) [(0, 0), (1, 0), (2, 0), (3, 0), (4, 0), (5, 0), (6, 0), (7, 0), (8, 0), (9, 0), (10, 0), (11, 2), (12, 0), (13, 0), (14, 0), (15, 0)] (by kernel_rfl) (by kernel_rfl) (below_drew1 _) ?_
        simp only [List.map_cons, List.map_nil]
        iterate 9 (refine wpO_step0 rfl rfl (fun K hK => ?_); go_simp; refine hK _ _ ?_; clear hK K)
        refine wpO_loadW (t := 79) (ad := ⟨b, (o+i*19), none⟩) rfl rfl ?hw rfl rfl ((fun w0 hS => (rowLd_of HF.out (HC.out.below (below_step HBE.out (below_step HH.out.2.2.2 hS)))).row)) ?_
        case hw => go_simp
        refine wpO_loadW (t := 49) (ad := ⟨w.heap.size, 0, none⟩) rfl rfl ?hw rfl rfl ((fun w0 hS => (HP1.out.all w0 (below_step HH.out.2.2.2 hS)).2.2.2.2)) ?_
        case hw => go_simp
        refine wpO_step2 rfl rfl (below_drew1 _) (fun K hK => ?_)
        go_simp
        refine (place1_any (rowAt t i) p _ HF.out hp).mono ?_
        rintro e w3 ⟨rfl, hbb3⟩
        have HB3 := Lib.hid (below_step (below_drew1 _) hbb3)
        clear hbb3
        refine hK _ _ ⟨HB3.out, ?_⟩
        clear hK K
        iterate 4 (refine wpO_step0 rfl rfl (fun K hK => ?_); go_simp; refine hK _ _ ?_; clear hK K)
        refine wpO_nil ?_
        go_wp2
        refine bodyPost_ret (results_tmp2 rfl _ _ _) rfl ?_
        rw [← HLO.out, HTH.out]
        exact ⟨rfl, below_step HBE.out (below_step HH.out.2.2.2 HB3.out)⟩
      · have hin' : decide (i < n) = false := decide_eq_false hin
        have HTH := Lib.hid (show thereB t p = false by unfold thereB; rw [← HLO.out, List.getElem?_eq_none_iff.2 (by rw [HT.out.len]; omega)])
        clear hin
        go_wp2_with fail
        refine wp_region_mix (fun w0 => Below (wr).heap.size (wr) w0) [(0, 0), (1, 0), (2, 0), (3, 0), (4, 0), (5, 0), (6, 0), (7, 0), (8, 0), (9, 0), (10, 0), (11, 2), (12, 0), (13, 0), (14, 0), (15, 0)] (by kernel_rfl) (by kernel_rfl) (below_drew1 _) ?_
        simp only [List.map_cons, List.map_nil]
        repeat first | (refine wpO_step0 rfl rfl (fun K hK => ?_); go_simp; refine hK _ _ ?_; clear hK K) | (refine wpO_step2 rfl rfl (below_drew1 _) (fun K hK => ?_); go_simp; refine hK _ _ ⟨below_drew1 _, ?_⟩; clear hK K)
        refine wpO_nil ?_
        go_wp2
        refine bodyPost_ret (results_tmp2 rfl _ _ _) rfl ?_
        rw [← HLO.out, HTH.out]
        exact ⟨rfl, below_step HBE.out (below_step HH.out.2.2.2 (below_drew1 _))⟩
theorem place_any (A : Option Addr) (n c : Nat) (t : List Row) (p : Pfx) (w : World) (ht : RT w A n c t) (hu : rising t = true) (hp : B16 p.l) (hn : n ≤ 1000) : Calls Tryd.prog 57 #[.agg (tabV A n c), .agg (pfxV p.v p.l p.b)] w fun e w' => e = .returned (.tuple #[.int .i64 (lowN t p), .bool (thereB t p)]) ∧ Below w.heap.size w w' := by
  have hblk1 := blk_new w (.cells (tabV A n c) 39)
  have hbel1 : Below w.heap.size w (w.alloc (.cells (tabV A n c) 39)) := below_alloc (Below.refl _ _) _
  have hblk2 := blk_new (w.alloc (.cells (tabV A n c) 39)) (.cells (pfxV p.v p.l p.b) 49)
  have hbel2 : Below w.heap.size w ((w.alloc (.cells (tabV A n c) 39)).alloc (.cells (pfxV p.v p.l p.b) 49)) := below_alloc (hbel1) _
  rw [show (w.alloc (.cells (tabV A n c) 39)).heap.size = w.heap.size + 1 by simp] at hblk2
  replace hblk1 := blk_below hblk1 (below_alloc (Below.refl _ _) (.cells (pfxV p.v p.l p.b) 49))
  have HP1 := Lib.hid (tab_at hblk1)
  have HBK1 := Lib.hid hblk1
  have HP2 := Lib.hid (pfx_at hp hblk2)
  have HBK2 := Lib.hid hblk2
  have HBE := Lib.hid hbel2
  obtain ⟨cs1, hcs1⟩ : ∃ cs, tabV A n c = cs := ⟨_, rfl⟩
  obtain ⟨cs2, hcs2⟩ : ∃ cs, pfxV p.v p.l p.b = cs := ⟨_, rfl⟩
  simp only [hcs1, hcs2] at HBE HP1 HP2 HBK1 HBK2 ⊢
  have HC1 := Lib.hid hcs1
  have HC2 := Lib.hid hcs2
  clear hcs1 hblk1 hbel1 hcs2 hblk2 hbel2
  have HT := Lib.hid ht
  have HU := Lib.hid hu
  clear ht hu
  have hl1 := (HP1.out.all _ (Below.refl _ _)).2
  have hl2 := (HP2.out.all _ (Below.refl _ _)).2.2.2.2
  rw [HC2.out] at hl2
  go_enter Tryd.func57, Tryd.ntmps57
  go_wp2_with (first | ((with_reducible show wpList _ _ _ (Oper.mk _ (Op.load _ _) _ _ _ _ :: _) _ _); refine wpList_load_g hl1 _ rfl rfl (by go_simp) ?_) | ((with_reducible show wpList _ _ _ (Oper.mk _ (Op.load _ _) _ _ _ _ :: _) _ _); refine wpList_load_g hl2 _ rfl rfl (by go_simp) ?_))
  have hbs := bsearch_any A n c t p _ (HT.out.below HBE.out) HU.out hp hn
  rw [HC2.out] at hbs
  refine hbs.mono ?_
  clear hbs
  rintro e w1 ⟨rfl, hbb1⟩
  have HB1 := Lib.hid hbb1
  clear hbb1 hl1 hl2
  go_wp2
  refine bodyPost_ret (results_tmp2 rfl _ _ _) rfl ?_
  exact ⟨rfl, below_step HBE.out HB1.out⟩
end Go.Proofs.YtnpeedmicjeleaaDoor

/- Layer 9 (table): Check. -/
namespace Go.Proofs.YtnpeedmicjeleaaDoor
open Go.RowKit
set_option linter.unusedVariables false
set_option linter.unusedSimpArgs false
set_option maxRecDepth 4000

theorem store_row_fit {cs : Array Value} {r : Row} (hf : r.fits) (h : cs.size = 19) : 0 + (rowV r).size ≤ cs.size := by rw [rowV_size hf, h]; omega
theorem splice_row {cs : Array Value} {r : Row} (hf : r.fits) (h : cs.size = 19) : splice cs 0 (rowV r).toList = rowV r := splice_all _ _ (by rw [Array.length_toList, rowV_size hf, h])
def errT (t : List Row) : Int := if tabB t then 0 else 190
set_option maxHeartbeats 4000000 in
theorem tcheck_any (A : Option Addr) (n c : Nat) (t : List Row) (w : World) (hL : Laid w) (ht : RT w A n c t) (hn : n ≤ 100000) : Calls Tryd.prog 19 #[.agg (tabV A n c)] w fun e w' => e = .returned (.int .i64 (errT t)) ∧ Below w.heap.size w w' := by
  have hblk1 := blk_new w (.cells (tabV A n c) 39)
  have hbel1 : Below w.heap.size w (w.alloc (.cells (tabV A n c) 39)) := below_alloc (Below.refl _ _) _
  have HP1 := Lib.hid (tab_at hblk1)
  have HBK1 := Lib.hid hblk1
  have HBE := Lib.hid hbel1
  have HL := Lib.hid (hL.below HBE.out)
  obtain ⟨cs1, hcs1⟩ : ∃ cs, tabV A n c = cs := ⟨_, rfl⟩
  simp only [hcs1] at HBE HL HP1 HBK1 ⊢
  have HC1 := Lib.hid hcs1
  clear hL hcs1 hblk1 hbel1
  have HT := Lib.hid ht
  have hl1 := (HP1.out.all _ (Below.refl _ _)).2
  clear ht
  go_enter Tryd.func19, Tryd.ntmps19
  go_wp2_with ((with_reducible show wpList _ _ _ (Oper.mk _ (Op.load _ _) _ _ _ _ :: _) _ _); refine wpList_load_g hl1 _ rfl rfl (by go_simp) ?_)
  clear hl1
  go_loopw [8] (fun x wr => ∃ i : Nat, x = .int .i64 i ∧ Hid (i ≤ n ∧ i ≤ 40 ∧ (∀ k, k < i → (rowAt t k).okB = true) ∧ (∀ k, k + 1 < i → (rowAt t k).p.cmp (rowAt t (k + 1)).p < 0) ∧ Below (w.alloc (.cells cs1 39)).heap.size (w.alloc (.cells cs1 39)) wr)) (fun x _ => n - (intOf x).toNat)
  case atStart => exact ⟨0, rfl, Nat.zero_le _, by omega, fun k h => by omega, fun k h => by omega, Below.refl _ _⟩
  case round =>
    obtain ⟨i, rfl, HH⟩ := hrel
    by_cases hlt : i < n
    · have hlt' : (i : Int) < n := by omega
      obtain ⟨b, o, rfl, hc⟩ := HT.out.at_ (by omega)
      have HC := Lib.hid hc
      have HF := Lib.hid (HT.out.fits_at hlt)
      have hrow := (rowLd_of HF.out ((hc i hlt).below (below_step HBE.out HH.out.2.2.2.2))).row
      clear hc
      go_wp2_with (first | ((with_reducible show wpList _ _ _ (Oper.mk _ (Op.load _ _) _ _ _ _ :: _) _ _); refine wpList_load_g hrow _ rfl rfl (by go_simp) ?_) | (refine wpList_store_blk (blk_new wr _) 79 0 (rowV (rowAt t i)) (store_row_fit HF.out rfl) (info_row HF.out) (rowV_one _) _ _ rfl rfl rfl rfl ?_; intro w2 hg hs hb; rw [splice_row HF.out rfl] at hb; have H2 := Lib.hid (And.intro (below_grown (below_alloc (Below.refl wr.heap.size wr) _) hg (Nat.le_refl _)) (row_at HF.out hb)); clear hg hs hb))
      clear hrow
      have HBW := Lib.hid (below_step HH.out.2.2.2.2 H2.out.1)
      by_cases h40 : i = 40
      · have HE := Lib.hid (show errT t = 190 by
          unfold errT
          rw [if_neg]
          intro h
          have := ((tabB_iff t).1 h).1
          rw [HT.out.len] at this
          omega)
        have h40' : ((i : Int) == 40) = true := by simp; omega
        clear h40
        refine wp_region_mix (fun w0 => Below (w2).heap.size (w2) w0) [(0, 0), (1, 0), (2, 0), (3, 0), (4, 0), (5, 2), (6, 0), (7, 0), (8, 0), (9, 0), (10, 0), (11, 0), (12, 0), (13, 0), (14, 0), (15, 0), (16, 0), (17, 0), (18, 0), (19, 0), (20, 0), (21, 0), (22, 0), (23, 0), (24, 0), (25, 0), (26, 2), (27, 0), (28, 0), (29, 0)] (by kernel_rfl) (by kernel_rfl) (below_drew1 _) ?_
        simp only [List.map_cons, List.map_nil]
        repeat first | (refine wpO_step0 rfl rfl (fun K hK => ?_); go_simp; refine hK _ _ ?_; clear hK K) | (refine wpO_step2 rfl rfl (below_drew1 _) (fun K hK => ?_); go_simp; refine hK _ _ ⟨below_drew1 _, ?_⟩; clear hK K)
        refine wpO_nil ?_
        go_wp2
        go_ret
        rw [HE.out]
        exact ⟨rfl, below_step HBE.out (below_step HBW.out (below_drew1 _))⟩
      · have h40' : ((i : Int) == 40) = false := by simp; omega
        have HI := Lib.hid h40
        clear h40
        refine wp_region_mix (fun w0 => Below (w2).heap.size (w2) w0) [(0, 0), (1, 0), (2, 0), (3, 0), (4, 0), (5, 2), (6, 0), (7, 0), (8, 0), (9, 0), (10, 0), (11, 0), (12, 0), (13, 0), (14, 0), (15, 0), (16, 0), (17, 0), (18, 0), (19, 0), (20, 0), (21, 0), (22, 0), (23, 0), (24, 0), (25, 0), (26, 2), (27, 0), (28, 0), (29, 0)] (by kernel_rfl) (by kernel_rfl) (below_drew1 _) ?_
        simp only [List.map_cons, List.map_nil]
        iterate 4 (refine wpO_step0 rfl rfl (fun K hK => ?_); go_simp; refine hK _ _ ?_; clear hK K)
        refine wpO_loadW (t := 49) (ad := ⟨wr.heap.size, 0, none⟩) rfl rfl ?hw rfl rfl ((fun w0 hS => (H2.out.2.all w0 hS).pfx)) ?_
        case hw => go_simp
        refine wpO_step2 rfl rfl (below_drew1 _) (fun K hK => ?_)
        go_simp
        refine (check_any (rowAt t i).p.v (rowAt t i).p.l (rowAt t i).p.b _ (HL.out.below (below_step HBW.out (below_drew1 _))) HF.out).mono ?_
        rintro e w3 ⟨rfl, hbb3⟩
        have HB3 := Lib.hid (below_step (below_drew1 _) hbb3)
        clear hbb3
        refine hK _ _ ⟨HB3.out, ?_⟩
        clear hK K
        have hNO : ∀ P : Prop, (errT t = 190 ↔ tabB t = false) := fun _ => by unfold errT; cases tabB t <;> simp
        cases hR : rightP (rowAt t i).p.v (rowAt t i).p.l (rowAt t i).p.b with
        | false =>
          have HE := Lib.hid (show errT t = 190 by
            unfold errT
            rw [if_neg]
            intro h
            have h2 := ((okB_iff _).1 (((tabB_iff t).1 h).2.1 i (by rw [HT.out.len]; exact hlt))).1
            have h3 : (rowAt t i).p.right = false := hR
            rw [h3] at h2
            cases h2)
          have hE : errP (rowAt t i).p.v (rowAt t i).p.l (rowAt t i).p.b = 151 := by unfold errP; rw [hR]; rfl
          rw [hE]
          clear hE hR hNO
          repeat first | (refine wpO_step0 rfl rfl (fun K hK => ?_); go_simp; refine hK _ _ ?_; clear hK K) | (refine wpO_step2 rfl rfl (HB3.out) (fun K hK => ?_); go_simp; refine hK _ _ ⟨HB3.out, ?_⟩; clear hK K)
          refine wpO_nil ?_
          go_wp2
          go_ret
          rw [HE.out]
          exact ⟨rfl, below_step HBE.out (below_step HBW.out HB3.out)⟩
        | true =>
          have HR := Lib.hid (show (rowAt t i).p.right = true from hR)
          have hE : errP (rowAt t i).p.v (rowAt t i).p.l (rowAt t i).p.b = 0 := by unfold errP; rw [hR]; rfl
          rw [hE]
          clear hE hR hNO
          iterate 4 (refine wpO_step0 rfl rfl (fun K hK => ?_); go_simp; refine hK _ _ ?_; clear hK K)
          refine wpO_loadW (t := 3) (ad := ⟨wr.heap.size, 18, none⟩) rfl rfl ?hw rfl rfl ((fun w0 hS => (H2.out.2.all w0 hS).hop)) ?_
          case hw => go_simp
          refine wpO_quiet rfl rfl ?hw Tryd.func55 (by kernel_rfl) (by kernel_rfl) rfl rfl (fun w0 hS => hop_any (rowAt t i).h w0) ?_
          case hw => go_simp
          cases hH : hopB (rowAt t i).h with
          | false =>
            have HE := Lib.hid (show errT t = 190 by
              unfold errT
              rw [if_neg]
              intro h
              have h2 := ((okB_iff _).1 (((tabB_iff t).1 h).2.1 i (by rw [HT.out.len]; exact hlt))).2
              have h3 : hopB (rowAt t i).h = true := by unfold hopB; simp [h2]
              rw [hH] at h3
              cases h3)
            clear hH
            repeat first | (refine wpO_step0 rfl rfl (fun K hK => ?_); go_simp; refine hK _ _ ?_; clear hK K) | (refine wpO_step2 rfl rfl (HB3.out) (fun K hK => ?_); go_simp; refine hK _ _ ⟨HB3.out, ?_⟩; clear hK K)
            refine wpO_nil ?_
            go_wp2
            go_ret
            rw [HE.out]
            exact ⟨rfl, below_step HBE.out (below_step HBW.out HB3.out)⟩
          | true =>
            have HOK := Lib.hid (show (rowAt t i).okB = true by
              unfold hopB at hH
              simp only [Bool.and_eq_true, decide_eq_true_eq] at hH
              exact (okB_iff _).2 ⟨HR.out, hH⟩)
            clear hH
            by_cases h0 : i = 0
            · have h0' : decide (0 < i) = false := decide_eq_false (by omega)
              have HI0 := Lib.hid h0
              clear h0
              repeat first | (refine wpO_step0 rfl rfl (fun K hK => ?_); go_simp; refine hK _ _ ?_; clear hK K) | (refine wpO_step2 rfl rfl (HB3.out) (fun K hK => ?_); go_simp; refine hK _ _ ⟨HB3.out, ?_⟩; clear hK K)
              refine wpO_nil ?_
              go_wp2_with fail
              go_roundw
              case measure => simp [intOf]; omega
              case rel =>
                have hi0 := HI0.out
                have := HI.out
                refine ⟨i + 1, by go_num, by omega, by omega, fun k hk => ?_, fun k hk => by omega, below_step HBW.out HB3.out⟩
                rw [show k = i by omega]
                exact HOK.out
            · have h0' : 0 < i := by omega
              obtain ⟨k, hk⟩ : ∃ k : Nat, (i : Int) - 1 = k := ⟨i - 1, by omega⟩
              have hik : i = k + 1 := by omega
              have HK := Lib.hid hik
              have hwk : IntKind.i64.wrap (k : Int) = k := by simp only [IntKind.wrap, IntKind.bits, IntKind.signed]; simp; omega
              have hkn : k < n := by omega
              have hkn' : (k : Int) < n := by omega
              have HFK := Lib.hid (HT.out.fits_at hkn)
              have HCK := Lib.hid (HC.out k hkn)
              have HPOS := Lib.hid h0
              clear hik h0
              iterate 7 (refine wpO_step0 rfl rfl (fun K hK => ?_); go_simp; refine hK _ _ ?_; clear hK K)
              refine wpO_loadW (t := 37) (ad := ⟨w.heap.size, 0, none⟩) rfl rfl ?hw rfl rfl ((fun w0 hS => (HP1.out.all w0 (below_step HBW.out hS)).2)) ?_
              case hw => go_simp
              iterate 3 (refine wpO_step0 rfl rfl (fun K hK => ?_); go_simp; refine hK _ _ ?_; clear hK K)
              refine wpO_loadW (t := 79) (ad := ⟨b, (o+k*19), none⟩) rfl rfl ?hw rfl rfl ((fun w0 hS => (rowLd_of HFK.out (HCK.out.below (below_step HBE.out (below_step HBW.out hS)))).row)) ?_
              case hw => go_simp
              iterate 1 (refine wpO_step0 rfl rfl (fun K hK => ?_); go_simp; refine hK _ _ ?_; clear hK K)
              refine wpO_loadW (t := 49) (ad := ⟨wr.heap.size, 0, none⟩) rfl rfl ?hw rfl rfl ((fun w0 hS => (H2.out.2.all w0 hS).pfx)) ?_
              case hw => go_simp
              refine wpO_step2 rfl rfl (HB3.out) (fun K hK => ?_)
              go_simp
              refine (against_any (rowAt t k) (rowAt t i).p _ HFK.out HF.out).mono ?_
              rintro e w4 ⟨rfl, hbb4⟩
              have HB4 := Lib.hid (below_step HB3.out hbb4)
              clear hbb4
              refine hK _ _ ⟨HB4.out, ?_⟩
              clear hK K
              cases hcm : decide (0 ≤ (rowAt t k).p.cmp (rowAt t i).p) with
              | true =>
                have HE := Lib.hid (show errT t = 190 by
                  unfold errT
                  rw [if_neg]
                  intro h
                  have h2 := ((tabB_iff t).1 h).2.2 k (by rw [HT.out.len]; have := HK.out; omega)
                  rw [← HK.out] at h2
                  have h3 := of_decide_eq_true hcm
                  omega)
                iterate 3 (refine wpO_step0 rfl rfl (fun K hK => ?_); go_simp; refine hK _ _ ?_; clear hK K)
                refine wpO_nil ?_
                go_wp2
                go_ret
                rw [HE.out]
                exact ⟨rfl, below_step HBE.out (below_step HBW.out HB4.out)⟩
              | false =>
                have HQ := Lib.hid (of_decide_eq_false hcm)
                iterate 3 (refine wpO_step0 rfl rfl (fun K hK => ?_); go_simp; refine hK _ _ ?_; clear hK K)
                refine wpO_nil ?_
                go_wp2_with fail
                go_roundw
                case measure => simp [intOf]; omega
                case rel =>
                  have hkk := HK.out
                  have := HI.out
                  have h40n := HH.out.2.1
                  refine ⟨i + 1, by go_num, by omega, by omega, fun q hq => ?_, fun q hq => ?_, below_step HBW.out HB4.out⟩
                  · by_cases hqi : q < i
                    · exact HH.out.2.2.1 q hqi
                    · rw [show q = i by omega]; exact HOK.out
                  · by_cases hqi : q + 1 < i
                    · exact HH.out.2.2.2.1 q hqi
                    · have e1 : q = k := by omega
                      have e2 : q + 1 = i := by omega
                      rw [e2, e1]
                      have := HQ.out
                      omega
    · have hlt' : decide (i < n) = false := decide_eq_false hlt
      have HE := Lib.hid (show errT t = 0 by
        unfold errT
        rw [if_pos ((tabB_iff t).2 ⟨by rw [HT.out.len]; have := HH.out.1; have := HH.out.2.1; omega, fun k hk => HH.out.2.2.1 k (by rw [HT.out.len] at hk; omega), fun k hk => HH.out.2.2.2.1 k (by rw [HT.out.len] at hk; omega)⟩)])
      have HB := Lib.hid HH.out.2.2.2.2
      clear hlt
      go_wp2_with fail
      go_ret
      rw [HE.out]
      exact ⟨rfl, below_step HBE.out HB.out⟩
end Go.Proofs.YtnpeedmicjeleaaDoor

/- The library's functions over slices, at rows. -/
namespace Go.Proofs.YtnpeedmicjeleaaDoor
open Go.RowKit
set_option linter.unusedVariables false
set_option linter.unusedSimpArgs false
set_option maxRecDepth 4000
theorem cloneR_any (A : Option Addr) (n c : Nat) (t : List Row) (w : World) (hr : RS rowK w A n c t) (hn : n ≤ 1000000) :
    Calls Tryd.prog 87 #[.slice A n c] w fun e w' => ∃ A' c', e = .returned (.slice A' n c') ∧ OS rowK w' w.heap.size A' n c' t ∧ Below w.heap.size w w' := by
  have hnil := fun (w : World) (A : Option Addr) (n c : Nat) => Lib.run_eql_slice_nil (P := Tryd.prog) w 37 79 A n c 0 0 Tryd.underlying37
  cases A with
  | none =>
    have h0 : n = 0 := by
      rcases Nat.eq_zero_or_pos n with h | h
      · exact h
      · obtain ⟨ad, e, _⟩ := hr.rv.cells h
        cases e
    subst h0
    obtain rfl : t = [] := List.eq_nil_of_length_eq_zero hr.len
    go_enter Tryd.func87, Tryd.ntmps87
    go_wp2
    go_ret
    exact ⟨_, _, rfl, OS.nil _ _ _, Below.refl _ _⟩
  | some ad =>
    go_enter Tryd.func87, Tryd.ntmps87
    go_wp2_with (at_builtin; refine wpList_append_shp rowK rfl (.tmp 5) (.tmp 6) rfl rfl rfl (OS.empty rowK w w.heap.size (Nat.le_refl _)) (hr.below (below_alloc (Below.refl _ _) _)) (by simp) (by omega) ?_; intro A' c' w' h1 h2 h3; rw [Nat.zero_add, List.nil_append] at h1; rw [Nat.zero_add])
    go_ret
    exact ⟨_, _, rfl, h1, below_own (below_alloc (Below.refl _ _) _) h2 (fun ad h => by injection h with h; subst h; exact Nat.le_refl _)⟩
set_option maxHeartbeats 4000000 in
set_option maxRecDepth 100000 in
theorem insertR_any (base : Nat) (A : Option Addr) (n c j vb : Nat) (t : List Row) (r : Row) (w : World) (ho : OS rowK w base A n c t) (hj : j ≤ n) (hn : n ≤ 100000) (hb : base ≤ w.heap.size)
    (hv : w.heap[vb]? = some (.cells (Shape.enc rowK r).toArray 79 (0, 0))) (hrk : Shape.ok rowK r) (hne : ∀ ad, A = some ad → ad.block ≠ vb) :
    Calls Tryd.prog 88 #[.slice A n c, .int .i64 j, .slice (some ⟨vb, 0, none⟩) 1 1] w fun e w' => ∃ A' c', e = .returned (.slice A' (n + 1) c') ∧ OS rowK w' base A' (n + 1) c' (t.take j ++ r :: t.drop j) ∧ w.grownBy w' ((Value.slice A n c).ownBlock) ∧ (A' = A ∨ ∀ ad, A' = some ad → w.heap.size ≤ ad.block) := by
  have hcap := ho.cap
  have hcmax : c ≤ 9223372036854775807 := ho.ov.capmax
  have hRV : RS rowK w (some ⟨vb, 0, none⟩) 1 1 [r] := ⟨⟨by rw [Shape.cells_one, rowK.len r hrk]; simp, by omega, by omega, fun _ => ⟨_, rfl, fun q u hq => by
    rw [Shape.cells_one] at hq
    rw [add_plain, blk_cell hv]
    simpa using hq⟩⟩, Shape.all_one hrk⟩
  have HRV := Lib.hid hRV
  have HN := Lib.hid hne
  have hjn' : (j : Int) ≤ n := by omega
  have hj1 : (j : Int) + 1 = ((j + 1 : Nat) : Int) := by omega
  have hn1 : (n : Int) + 1 = ((n + 1 : Nat) : Int) := by omega
  obtain ⟨A0, hA0⟩ : ∃ A0, (if c = j then A else A.map (·.add (j * 19))) = A0 := ⟨_, rfl⟩
  have hv0 : ∀ W : World, (Instr.slice 37 (.slice A n c) (some (.int .i64 (j : Int))) none none).run Tryd.prog W = .ok (.slice A0 (n - j) (c - j)) W := fun W => by
    rw [← hA0]
    exact cutL rowK A n c _ j rfl hj W
  have HA0 := Lib.hid hA0
  clear hA0
  by_cases hjn : j = n
  · subst hjn
    have htk : t.take j = t := List.take_of_length_le (by rw [ho.len]; exact Nat.le_refl _)
    have htd : t.drop j = [] := List.drop_eq_nil_of_le (by rw [ho.len]; exact Nat.le_refl _)
    rw [htk, htd]
    have HO := Lib.hid ho
    clear ho htk htd hRV hj1 hn1
    go_enter Tryd.func88, Tryd.ntmps88
    go_wp2_with (at_builtin; refine wpList_append_shp rowK rfl (.tmp 23) (.tmp 24) rfl rfl rfl HO.out HRV.out hb (by omega) ?_; intro A' c' w' h1 h2 h3)
    go_ret
    exact ⟨_, _, rfl, h1, h2, h3⟩
  · have hlt : j < n := by omega
    have hjnb : (j == n) = false := by simpa using hjn
    obtain ⟨ad, rfl⟩ : ∃ ad, A = some ad := by
      cases A with
      | none => have := ho.ov.bare rfl; omega
      | some ad => exact ⟨ad, rfl⟩
    have hadlt := ho.lt ad rfl
    have hsub : n + 1 - (j + 1) = n - j := by omega
    have HT := Lib.hid ho.len
    have HO := Lib.hid ho
    have HAL := Lib.hid hadlt
    clear hjn ho hRV hadlt
    by_cases hroom : n + 1 ≤ c
    · have hr1 : decide (c < n + 1) = false := decide_eq_false (by omega)
      have hr2 : decide ((c : Int) < n + 1) = false := decide_eq_false (by omega)
      have hw1 : IntKind.i64.wrap ((n : Int) + 1) = n + 1 := IntWalk.i64_in _ (by omega)
      have hw2 : IntKind.i64.wrap ((j : Int) + 1) = j + 1 := IntWalk.i64_in _ (by omega)
      have hv1 : ∀ W : World, (Instr.slice 37 (.slice (some ad) n c) none (some (.int .i64 ((n : Int) + 1))) none).run Tryd.prog W = .ok (.slice (some ad) (n + 1) c) W := fun W => cutH rowK (some ad) n c _ (n + 1) hn1 hroom W
      obtain ⟨A6, hA6⟩ : ∃ A6, (if c = j + 1 then some ad else some (ad.add ((j + 1) * 19))) = A6 := ⟨_, rfl⟩
      have hv6 : ∀ W : World, (Instr.slice 37 (.slice (some ad) (n + 1) c) (some (.int .i64 ((j : Int) + 1))) none none).run Tryd.prog W = .ok (.slice A6 (n - j) (c - (j + 1))) W := fun W => by
        rw [← hA6, ← hsub]
        exact cutL rowK (some ad) (n + 1) c _ (j + 1) hj1 (by omega) W
      have hv7 : ∀ W : World, (Instr.slice 37 (.slice (some ad) (n + 1) c) (some (.int .i64 (j : Int))) none none).run Tryd.prog W = .ok (.slice A0 (n + 1 - j) (c - j)) W := fun W => by
        rw [← HA0.out]
        exact cutL rowK (some ad) (n + 1) c _ j rfl (by omega) W
      obtain ⟨q1, q2, cur, q3, q4, q5⟩ := HO.out.ov.form _ rfl
      have hcur : cur.size ≠ 0 := by
        have h2 : 1 * 19 ≤ c * 19 := Nat.mul_le_mul_right _ (by omega)
        have h3 : ad.off + c * 19 ≤ cur.size := q4
        omega
      have hvne : vb ≠ ad.block := fun h => HN.out ad rfl h.symm
      obtain ⟨ad6, hA6b⟩ : ∃ ad6, A6 = some ad6 ∧ ad6.block = ad.block := by
        rw [← hA6]
        split
        · exact ⟨_, rfl, rfl⟩
        · exact ⟨_, rfl, add_block _ _⟩
      have hov : ∀ lb cb W, W = w → (callFunc 109 #[.slice (some ⟨vb, 0, none⟩) 1 1, .slice A6 lb cb]).run Tryd.prog W = .ok (.value (.bool false)) W := fun lb cb W hW => by
        subst hW
        obtain ⟨e6, e7⟩ := hA6b
        rw [e6, run_callFunc_extern Tryd.func109 (by kernel_rfl) (by kernel_rfl) (by kernel_rfl) (e := Extern.SlicesOverlaps.overlaps #[37, 37] #[4]) (by kernel_rfl),
          Lib.run_overlaps_apart W 37 4 79 (Shape.und rowK) 19 (Shape.run_size rowK) ⟨vb, 0, none⟩ ad6 1 1 lb cb (by rw [e7]; exact hvne) 79 79 _ cur.size (by simp only [World.shape?, hv]; rfl) (by rw [e7]; simp only [World.shape?, q3]; rfl) hcur (blk_frozen hv 0) (blk_frozen hv _)]
        rfl
      have hov1 := hov (n - j) (c - (j + 1)) w rfl
      clear hov hA6b hcur q1 q2 q3 q4 q5 hvne
      obtain ⟨more, hE⟩ := HO.out.ov.extendTo (n + 1) (by omega) hroom (by omega)
      have hml := hE.len
      have hcl := HO.out.ov.len
      have hEd := hE.below (below_drew1 w)
      have hRd := hEd.reads.drop j (by omega)
      rw [show (if c = j then some ad else Option.map (fun x => x.add (j * rowK.sz)) (some ad)) = A0 from HA0.out] at hRd
      have hdt : ∀ x : List Value, (x.drop (j * rowK.sz)).take ((n - j) * rowK.sz) = (x.drop (j * rowK.sz)).take ((n - j) * rowK.sz) := fun _ => rfl
      have hmin : min (n + 1 - j) (n + 1 - (j + 1)) = n - j := by omega
      have hone1 : ∀ u ∈ ((rowK.cells t ++ more).drop (j * rowK.sz)).take (min (n + 1 - j) (n + 1 - (j + 1)) * rowK.sz), u.oneCell' = true := by
        rw [hmin]
        intro u hu
        have hjs : j * rowK.sz ≤ n * rowK.sz := Nat.mul_le_mul_right _ (by omega)
        rw [List.drop_append_of_le_length (by rw [hcl]; exact hjs), List.take_append_of_le_length (by rw [List.length_drop, hcl, ← Nat.sub_mul]; exact Nat.le_refl _)] at hu
        exact Shape.cells_cell t u (List.mem_of_mem_drop (List.mem_of_mem_take hu))
      obtain ⟨w1, hc1, hO1, hg1⟩ := run_copy_rows (P := Tryd.prog) w.drew 37 3 79 rowK.sz (Shape.und rowK) (Shape.size rowK) ad (n + 1) c (j + 1) _ A0 (n + 1 - j) (c - j) _ hEd hRd (by omega) hone1 (d := A6) hA6.symm (c - (j + 1))
      rw [hmin] at hO1 hc1
      rw [hsub] at hc1
      have hRV1 := ((HRV.out.below (below_drew1 w)).grown hg1 (fun ad' e => by injection e with e; subst e; intro h; injection h with h; exact HN.out ad rfl h.symm)).rv
      rw [Shape.cells_one] at hRV1
      have hmin2 : min 1 (n + 1 - j) = 1 := by omega
      obtain ⟨w2, hc2, hO2, hg2⟩ := run_copy_rows (P := Tryd.prog) w1 37 3 79 rowK.sz (Shape.und rowK) (Shape.size rowK) ad (n + 1) c j _ (some ⟨vb, 0, none⟩) 1 1 _ hO1 hRV1 (by omega) (by rw [hmin2]; intro u hu; exact rowK.one r u (List.mem_of_mem_take hu)) (d := A0) HA0.out.symm (c - j)
      rw [hmin2] at hO2 hc2
      rw [shift_list (rowK.cells t) more (rowK.enc r) rowK.sz j n hcl hml (rowK.len r hrk) (by omega), Shape.cells_take HO.out.fits j (by rw [HT.out]; omega), Shape.cells_drop HO.out.fits j (by rw [HT.out]; omega)] at hO2
      have hO3 : OS rowK w2 base (some ad) (n + 1) c (t.take j ++ r :: t.drop j) := ⟨by
        have : rowK.cells (t.take j ++ r :: t.drop j) = rowK.cells (t.take j) ++ rowK.enc r ++ rowK.cells (t.drop j) := by rw [Shape.cells_append, Shape.cells_cons, List.append_assoc]
        rw [this]
        exact hO2, (HO.out.fits.take j).append (fun x hx => by
        rcases List.mem_cons.1 hx with rfl | hx
        · exact hrk
        · exact HO.out.fits.drop j x hx)⟩
      have H3 := Lib.hid (And.intro hO3 (grown_trans (grown_trans (grown_drewN w 1 _) hg1) hg2))
      clear hO3 hO2 hO1 hg1 hg2 hE hEd hRd hone1 hmin hmin2 hRV1 hdt hml hcl hn1 hj1 hA6 hsub
      go_enter Tryd.func88, Tryd.ntmps88
      go_wp2_with fail
      refine wp_region_mix ((fun _ => True)) [(0, 0), (1, 0), (2, 0), (3, 0), (4, 0), (5, 0), (6, 0), (7, 0), (8, 2)] (by kernel_rfl) (by kernel_rfl) (trivial) ?_
      simp only [List.map_cons, List.map_nil]
      iterate 8 (refine wpO_step0 rfl rfl (fun K hK => ?_); go_simp; refine hK _ _ ?_; clear hK K)
      refine wpO_step2 rfl rfl (trivial) (fun K hK => ?_)
      rw [if_pos (show Region.wanted _ _ = true from rfl)]
      refine oper_exec (exec_copy (.tmp 73) (.tmp 76) _ rfl rfl rfl hc1) ?_
      refine hK _ _ ⟨trivial, ?_⟩
      clear hK K
      refine wpO_nil ?_
      go_wp2_with (refine wpList_exec rfl (exec_copy (.tmp 80) (.tmp 81) _ rfl rfl rfl hc2) ?_)
      go_ret
      exact ⟨_, _, rfl, H3.out.1, H3.out.2, .inl rfl⟩
    · have hr1 : c < n + 1 := by omega
      have hr2 : (c : Int) < n + 1 := by omega
      have hw1 : IntKind.i64.wrap ((n : Int) + 1) = n + 1 := IntWalk.i64_in _ (by omega)
      have hw2 : IntKind.i64.wrap ((j : Int) + 1) = j + 1 := IntWalk.i64_in _ (by omega)
      have hw3 : IntKind.i64.wrap ((n : Int) + 1 - j) = n + 1 - j := IntWalk.i64_in _ (by omega)
      have hv1 : ∀ W : World, (Instr.slice 37 (.slice (some ad) n c) none (some (.int .i64 (j : Int))) none).run Tryd.prog W = .ok (.slice (some ad) j c) W := fun W => cutH rowK (some ad) n c _ j rfl (by omega) W
      have hk : (n : Int) + 1 - j = ((n + 1 - j : Nat) : Int) := by omega
      obtain ⟨ad1, c1, w1, hc1, hO1, hb1, hblk⟩ := run_growz_shp (base := w.heap.size) rowK w 3 37 .i64 .i64 Tryd.underlying3 (some ad) j c (n + 1 - j) _ (HO.out.reads.take j (by omega)) (by omega) (by omega) (by omega) (Nat.le_refl _)
      rw [← hk] at hc1
      rw [show j + (n + 1 - j) = n + 1 by omega] at hc1 hO1
      have hcap1 := hO1.cap
      have hc1max : c1 ≤ 9223372036854775807 := hO1.ov.capmax
      obtain ⟨A4, hA4⟩ : ∃ A4, (if c1 = j then some ad1 else some (ad1.add (j * 19))) = A4 := ⟨_, rfl⟩
      have hv4 : ∀ W : World, (Instr.slice 37 (.slice (some ad1) (n + 1) c1) (some (.int .i64 (j : Int))) none none).run Tryd.prog W = .ok (.slice A4 (n + 1 - j) (c1 - j)) W := fun W => by
        rw [← hA4]
        exact cutL rowK (some ad1) (n + 1) c1 _ j rfl (by omega) W
      obtain ⟨A5, hA5⟩ : ∃ A5, (if c1 = j + 1 then some ad1 else some (ad1.add ((j + 1) * 19))) = A5 := ⟨_, rfl⟩
      have hv5 : ∀ W : World, (Instr.slice 37 (.slice (some ad1) (n + 1) c1) (some (.int .i64 ((j : Int) + 1))) none none).run Tryd.prog W = .ok (.slice A5 (n - j) (c1 - (j + 1))) W := fun W => by
        rw [← hA5, ← hsub]
        exact cutL rowK (some ad1) (n + 1) c1 _ (j + 1) hj1 (by omega) W
      have hvlt := blk_lt hv
      obtain ⟨w2, hc2, hO2, hg2⟩ := run_copy_shp rowK w1 3 ad1 (n + 1) c1 j _ (some ⟨vb, 0, none⟩) 1 1 [r] hO1 (HRV.out.below hb1) (by omega) (d := A4) hA4.symm (c1 - j)
      have hRD := ((((HO.out.reads.drop j (by omega)).below hb1).grown hg2 (fun ad' e => by
        intro h
        injection h with h
        have hb : ad'.block = ad.block := by
          split at e
          · injection e with e; rw [← e]
          · simp only [Option.map_some, Option.some.injEq] at e; rw [← e, add_block]
        have := HAL.out
        omega)).below (below_drew1 w2))
      rw [show (if c = j then some ad else Option.map (fun x => x.add (j * rowK.sz)) (some ad)) = A0 from HA0.out] at hRD
      obtain ⟨w3, hc3, hO3, hg3⟩ := run_copy_shp rowK w2.drew 3 ad1 (n + 1) c1 (j + 1) _ A0 (n - j) (c - j) (t.drop j) (hO2.below (below_drew1 w2)) hRD (by omega) (d := A5) hA5.symm (c1 - (j + 1))
      rw [grow_list t r _ j n HT.out (by omega)] at hO3
      rw [hsub] at hc3
      have hbz : Below w.heap.size w w3 := below_grown (below_step (below_grown hb1 hg2 (by omega)) (below_drew1 w2)) hg3 (by omega)
      have H3 := Lib.hid (And.intro (hO3.lower hb) (And.intro (grown_of_below hbz ((Value.slice (some ad) n c).ownBlock)) (show ∀ ad', some ad1 = some ad' → w.heap.size ≤ ad'.block from fun ad' e => by injection e with e; rw [← e]; omega)))
      clear hO3 hO2 hO1 hg2 hg3 hRD hbz hA4 hA5 hk hblk hn1 hj1 hvlt hb1 hsub
      go_enter Tryd.func88, Tryd.ntmps88
      go_wp2_with (first | (refine wpList_exec rfl (exec_append (.tmp 34) (.tmp 39) _ rfl rfl rfl hc1) ?_) | (refine wpList_exec rfl (exec_copy (.tmp 43) (.tmp 44) _ rfl rfl rfl hc2) ?_))
      refine wp_region_mix ((fun _ => True)) [(0, 0), (1, 0), (2, 0), (3, 0), (4, 0), (5, 0), (6, 0), (7, 0), (8, 2)] (by kernel_rfl) (by kernel_rfl) (trivial) ?_
      simp only [List.map_cons, List.map_nil]
      iterate 8 (refine wpO_step0 rfl rfl (fun K hK => ?_); go_simp; refine hK _ _ ?_; clear hK K)
      refine wpO_step2 rfl rfl (trivial) (fun K hK => ?_)
      rw [if_pos (show Region.wanted _ _ = true from rfl)]
      refine oper_exec (exec_copy (.tmp 50) (.tmp 53) _ rfl rfl rfl hc3) ?_
      refine hK _ _ ⟨trivial, ?_⟩
      clear hK K
      refine wpO_nil ?_
      go_wp2
      go_ret
      exact ⟨_, _, rfl, H3.out.1, H3.out.2.1, .inr H3.out.2.2⟩
end Go.Proofs.YtnpeedmicjeleaaDoor

/- Two rows of the call's own, appended to by turns. -/
namespace Go.Proofs.YtnpeedmicjeleaaDoor
open Go.RowKit
set_option linter.unusedVariables false
set_option linter.unusedSimpArgs false
set_option maxRecDepth 4000
def Apart (A1 A2 : Option Addr) : Prop := ∀ a b, A1 = some a → A2 = some b → a.block ≠ b.block
theorem Apart.symm {A1 A2 : Option Addr} (h : Apart A1 A2) : Apart A2 A1 := fun a b ha hb e => h b a hb ha e.symm
theorem own_of {A : Option Addr} {n c k : Nat} (h : (Value.slice A n c).ownBlock = some k) : ∃ ad, A = some ad ∧ ad.block = k := by
  cases A with
  | none => cases h
  | some ad =>
    injection h with h
    exact ⟨ad, rfl, h⟩
end Go.Proofs.YtnpeedmicjeleaaDoor

/- The document's answer for layer 5: Compare. -/
namespace Go.Proofs.YtnpeedmicjeleaaDoor
open Go.RowKit
set_option linter.unusedVariables false
set_option linter.unusedSimpArgs false
set_option maxRecDepth 4000

end Go.Proofs.YtnpeedmicjeleaaDoor

/- The document's answer for layer 5 (junctionboxref05): Right. -/
namespace Go.Proofs.YtnpeedmicjeleaaDoor
open Go.RowKit
set_option linter.unusedVariables false
set_option linter.unusedSimpArgs false
set_option maxRecDepth 4000

end Go.Proofs.YtnpeedmicjeleaaDoor

/- The document's answer for layer 9: Right. -/
namespace Go.Proofs.YtnpeedmicjeleaaDoor
open Go.RowKit
set_option linter.unusedVariables false
set_option linter.unusedSimpArgs false
set_option maxRecDepth 4000

def Oks (t : List Row) : Prop := ∀ r ∈ t, r.ok
theorem Oks.at_ {t : List Row} (h : Oks t) {i : Nat} (hi : i < t.length) : (rowAt t i).ok := h _ (List.mem_of_getElem? (rowAt_get hi))
end Go.Proofs.YtnpeedmicjeleaaDoor

/- Arguments that are rows and tables, opened. -/
namespace Go.Proofs.YtnpeedmicjeleaaDoor
open Go.ChangeShapes Go.WideShapes Go.ChangeAt Go.RowKit
set_option linter.unusedVariables false
set_option linter.unusedSimpArgs false
set_option maxRecDepth 4000
section
variable {H : Type} {enc : TypeId × Value → H} {W : World} {base : Nat} {spare : Nat → Bool} {held : Bool}
end
end Go.Proofs.YtnpeedmicjeleaaDoor

/- Layer 11 (route): candidates (Rte, 21 cells) and updates (Upd, 22 cells) in memory, built, held equal. -/
namespace Go.Proofs.YtnpeedmicjeleaaDoor
open Go.RowKit
set_option linter.unusedVariables false
set_option linter.unusedSimpArgs false
set_option maxRecDepth 4000
theorem loadr_bool {w : World} {ad : Addr} {v : Value} (h : w.cell? ad = some v) : (Instr.loadAt 4 (.pointer (some ad))).run Tryd.prog w = .ok v w := by
  go_simp
structure Rte where
  p : Pfx
  s : Int
  f : Int
  h : Int
structure Upd where
  p : Pfx
  s : Int
  g : Bool
  f : Int
  h : Int
def Rte.fits (r : Rte) : Prop := B16 r.p.l
def Upd.fits (r : Upd) : Prop := B16 r.p.l

def rteC (r : Rte) : List Value := (pfxV r.p.v r.p.l r.p.b).toList ++ [.int .i64 r.s, .int .i64 r.f, .int .i64 r.h]
def rteV (r : Rte) : Array Value := (rteC r).toArray
theorem rteP_len {r : Rte} (h : r.fits) : (pfxV r.p.v r.p.l r.p.b).toList.length = 18 := by rw [Array.length_toList]; exact pfx_size h.len
theorem rteC_len {r : Rte} (h : r.fits) : (rteC r).length = 21 := by
  unfold rteC
  rw [List.length_append, rteP_len h]
  rfl
theorem rteV_size {r : Rte} (h : r.fits) : (rteV r).size = 21 := by simp [rteV, rteC_len h]
theorem rteC_one (r : Rte) : ∀ u ∈ rteC r, u.oneCell' = true := by
  intro u hu
  rcases List.mem_append.1 hu with hu | hu
  · have := pfx_one r.p.v r.p.b r.p.l
    rw [← Array.all_toList, List.all_eq_true] at this
    exact this u hu
  · simp only [List.mem_cons, List.not_mem_nil, or_false] at hu
    rcases hu with rfl | rfl | rfl <;> rfl
def rteZ : Rte := ⟨⟨0, zero16, 0⟩, 0, 0, 0⟩
theorem rteZ_fits : rteZ.fits := zero16_B
theorem zero_rte : (Tryd.prog.info? 51).map (fun i => (i.zero, i.size, i.bytes)) = some (some (.agg (rteV rteZ)), 21, 56) := by kernel_rfl
theorem info_rte {r : Rte} (h : r.fits) : (Tryd.prog.info? 51).map (·.size) = some (rteV r).size := by rw [rteV_size h]; kernel_rfl
def rteK : Shape Rte where
  t := 51
  ts := 22
  sz := 21
  bytes := 56
  z := rteZ
  ok := Rte.fits
  enc := rteC
  val := fun r => .agg (rteV r)
  len := fun _ h => rteC_len h
  one := rteC_one
  okz := rteZ_fits
  pos := by omega
  bpos := by omega
  blt := by omega
  und := Tryd.underlying22
  info := zero_rte
  venc := fun _ => rfl
  ld := fun _ _ _ r hr h => load_cells (cs := rteV r) h Tryd.underlying51 rfl (info_rte hr)
theorem rteV_one (r : Rte) : (rteV r).all (·.oneCell') = true := by
  rw [← Array.all_toList, List.all_eq_true]
  exact fun u hu => rteC_one r u (by simpa [rteV] using hu)
/-- What loads of it tell. -/
structure RteLd (w : World) (g o : Nat) (r : Rte) : Prop where
  all : (Instr.loadAt 51 (.pointer (some ⟨g, o, none⟩))).run Tryd.prog w = .ok (.agg (rteV r)) w
  pfx : (Instr.loadAt 49 (.pointer (some ⟨g, o, none⟩))).run Tryd.prog w = .ok (.agg (pfxV r.p.v r.p.l r.p.b)) w
  src : (Instr.loadAt 3 (.pointer (some ⟨g, o + 18, none⟩))).run Tryd.prog w = .ok (.int .i64 r.s) w
  prf : (Instr.loadAt 3 (.pointer (some ⟨g, o + 19, none⟩))).run Tryd.prog w = .ok (.int .i64 r.f) w
  hop : (Instr.loadAt 3 (.pointer (some ⟨g, o + 20, none⟩))).run Tryd.prog w = .ok (.int .i64 r.h) w
theorem rteLd_of {w : World} {g o : Nat} {r : Rte} (hf : r.fits) (h : CellsAt w g o (rteC r)) : RteLd w g o r := by
  have h1 : CellsAt w g o (pfxV r.p.v r.p.l r.p.b).toList := h.left
  have h2 : CellsAt w g (o + 18) [.int .i64 r.s, .int .i64 r.f, .int .i64 r.h] := by
    have := h.right
    rw [rteP_len hf] at this
    exact this
  exact ⟨load_cells (cs := rteV r) h Tryd.underlying51 rfl (info_rte hf), load_cells h1 Tryd.underlying49 rfl (info_pfx hf.len), load_int (h2 0 _ rfl), load_int (h2 1 _ rfl), load_int (h2 2 _ rfl)⟩
structure RteAt (w : World) (g : Nat) (r : Rte) : Prop where
  all : ∀ w0, Below w.heap.size w w0 → RteLd w0 g 0 r
theorem rte_at {w : World} {g : Nat} {t : TypeId} {r : Rte} (hr : r.fits) (h : w.heap[g]? = some (.cells (rteV r) t (0, 0))) : RteAt w g r :=
  ⟨fun w0 hb => rteLd_of hr (cells_blk (blk_below h hb))⟩
structure Rte.ok (r : Rte) : Prop where
  p : r.p.ok
  s : (Lit.int .i64 r.s).wf = true
  f : (Lit.int .i64 r.f).wf = true
  h : (Lit.int .i64 r.h).wf = true
theorem Rte.ok.fits {r : Rte} (h : r.ok) : r.fits := h.p.l
def Rte.eqB (r s : Rte) : Bool := r.p.eqB s.p && decide (r.s = s.s) && decide (r.f = s.f) && decide (r.h = s.h)
theorem Rte.eqB_iff (r s : Rte) : r.eqB s = true ↔ r = s := by
  unfold Rte.eqB
  simp only [Bool.and_eq_true, decide_eq_true_eq, Pfx.eqB_iff, beq_iff_eq]
  constructor
  · rintro h
    cases r; cases s
    simp_all
  · rintro rfl
    simp
section
variable {r : Operand → Value} {o : Oper} {x y : Operand} {ty : TypeId}
end
theorem store_rte_fit {cs : Array Value} {r : Rte} (hf : r.fits) (h : cs.size = 21) : 0 + (rteV r).size ≤ cs.size := by rw [rteV_size hf, h]; omega
theorem splice_rte {cs : Array Value} {r : Rte} (hf : r.fits) (h : cs.size = 21) : splice cs 0 (rteV r).toList = rteV r := splice_all _ _ (by rw [Array.length_toList, rteV_size hf, h])

def updC (r : Upd) : List Value := (pfxV r.p.v r.p.l r.p.b).toList ++ [.int .i64 r.s, .bool r.g, .int .i64 r.f, .int .i64 r.h]
def updV (r : Upd) : Array Value := (updC r).toArray
theorem updP_len {r : Upd} (h : r.fits) : (pfxV r.p.v r.p.l r.p.b).toList.length = 18 := by rw [Array.length_toList]; exact pfx_size h.len
theorem updC_len {r : Upd} (h : r.fits) : (updC r).length = 22 := by
  unfold updC
  rw [List.length_append, updP_len h]
  rfl
theorem updV_size {r : Upd} (h : r.fits) : (updV r).size = 22 := by simp [updV, updC_len h]
theorem updC_one (r : Upd) : ∀ u ∈ updC r, u.oneCell' = true := by
  intro u hu
  rcases List.mem_append.1 hu with hu | hu
  · have := pfx_one r.p.v r.p.b r.p.l
    rw [← Array.all_toList, List.all_eq_true] at this
    exact this u hu
  · simp only [List.mem_cons, List.not_mem_nil, or_false] at hu
    rcases hu with rfl | rfl | rfl | rfl <;> rfl
def updZ : Upd := ⟨⟨0, zero16, 0⟩, 0, false, 0, 0⟩
theorem updZ_fits : updZ.fits := zero16_B
theorem zero_upd : (Tryd.prog.info? 75).map (fun i => (i.zero, i.size, i.bytes)) = some (some (.agg (updV updZ)), 22, 64) := by kernel_rfl
theorem info_upd {r : Upd} (h : r.fits) : (Tryd.prog.info? 75).map (·.size) = some (updV r).size := by rw [updV_size h]; kernel_rfl
def updK : Shape Upd where
  t := 75
  ts := 25
  sz := 22
  bytes := 64
  z := updZ
  ok := Upd.fits
  enc := updC
  val := fun r => .agg (updV r)
  len := fun _ h => updC_len h
  one := updC_one
  okz := updZ_fits
  pos := by omega
  bpos := by omega
  blt := by omega
  und := Tryd.underlying25
  info := zero_upd
  venc := fun _ => rfl
  ld := fun _ _ _ r hr h => load_cells (cs := updV r) h Tryd.underlying75 rfl (info_upd hr)
theorem updV_one (r : Upd) : (updV r).all (·.oneCell') = true := by
  rw [← Array.all_toList, List.all_eq_true]
  exact fun u hu => updC_one r u (by simpa [updV] using hu)
/-- What loads of it tell. -/
structure UpdLd (w : World) (g o : Nat) (r : Upd) : Prop where
  all : (Instr.loadAt 75 (.pointer (some ⟨g, o, none⟩))).run Tryd.prog w = .ok (.agg (updV r)) w
  pfx : (Instr.loadAt 49 (.pointer (some ⟨g, o, none⟩))).run Tryd.prog w = .ok (.agg (pfxV r.p.v r.p.l r.p.b)) w
  src : (Instr.loadAt 3 (.pointer (some ⟨g, o + 18, none⟩))).run Tryd.prog w = .ok (.int .i64 r.s) w
  gon : (Instr.loadAt 4 (.pointer (some ⟨g, o + 19, none⟩))).run Tryd.prog w = .ok (.bool r.g) w
  prf : (Instr.loadAt 3 (.pointer (some ⟨g, o + 20, none⟩))).run Tryd.prog w = .ok (.int .i64 r.f) w
  hop : (Instr.loadAt 3 (.pointer (some ⟨g, o + 21, none⟩))).run Tryd.prog w = .ok (.int .i64 r.h) w
theorem updLd_of {w : World} {g o : Nat} {r : Upd} (hf : r.fits) (h : CellsAt w g o (updC r)) : UpdLd w g o r := by
  have h1 : CellsAt w g o (pfxV r.p.v r.p.l r.p.b).toList := h.left
  have h2 : CellsAt w g (o + 18) [.int .i64 r.s, .bool r.g, .int .i64 r.f, .int .i64 r.h] := by
    have := h.right
    rw [updP_len hf] at this
    exact this
  exact ⟨load_cells (cs := updV r) h Tryd.underlying75 rfl (info_upd hf), load_cells h1 Tryd.underlying49 rfl (info_pfx hf.len), load_int (h2 0 _ rfl), loadr_bool (h2 1 _ rfl), load_int (h2 2 _ rfl), load_int (h2 3 _ rfl)⟩
structure UpdAt (w : World) (g : Nat) (r : Upd) : Prop where
  all : ∀ w0, Below w.heap.size w w0 → UpdLd w0 g 0 r
theorem upd_at {w : World} {g : Nat} {t : TypeId} {r : Upd} (hr : r.fits) (h : w.heap[g]? = some (.cells (updV r) t (0, 0))) : UpdAt w g r :=
  ⟨fun w0 hb => updLd_of hr (cells_blk (blk_below h hb))⟩
structure Upd.ok (r : Upd) : Prop where
  p : r.p.ok
  s : (Lit.int .i64 r.s).wf = true
  f : (Lit.int .i64 r.f).wf = true
  h : (Lit.int .i64 r.h).wf = true
theorem Upd.ok.fits {r : Upd} (h : r.ok) : r.fits := h.p.l
def Upd.eqB (r s : Upd) : Bool := r.p.eqB s.p && decide (r.s = s.s) && (r.g == s.g) && decide (r.f = s.f) && decide (r.h = s.h)
theorem Upd.eqB_iff (r s : Upd) : r.eqB s = true ↔ r = s := by
  unfold Upd.eqB
  simp only [Bool.and_eq_true, decide_eq_true_eq, Pfx.eqB_iff, beq_iff_eq]
  constructor
  · rintro h
    cases r; cases s
    simp_all
  · rintro rfl
    simp
section
variable {r : Operand → Value} {o : Oper} {x y : Operand} {ty : TypeId}
end
theorem store_upd_fit {cs : Array Value} {r : Upd} (hf : r.fits) (h : cs.size = 22) : 0 + (updV r).size ≤ cs.size := by rw [updV_size hf, h]; omega
theorem splice_upd {cs : Array Value} {r : Upd} (hf : r.fits) (h : cs.size = 22) : splice cs 0 (updV r).toList = updV r := splice_all _ _ (by rw [Array.length_toList, updV_size hf, h])
end Go.Proofs.YtnpeedmicjeleaaDoor

/- Plain laws of lists in order by a key (rows of numbers): the place, put, take away; the document's way of putting. -/
namespace Go.Proofs.YtnpeedmicjeleaaDoor
set_option linter.unusedVariables false
set_option linter.unusedSimpArgs false
set_option maxRecDepth 4000
section
variable {α : Type} (K : α → List Int)
def cK (a b : α) : Int := cmpI (K a) (K b)
def risK : List α → Bool
  | [] => true
  | [_] => true
  | a :: b :: t => decide (cK K a b < 0) && risK (b :: t)
def lowK (t : List α) (p : α) : Nat := (t.takeWhile fun r => decide (cK K r p < 0)).length
def thereK (t : List α) (p : α) : Bool := match t[lowK K t p]? with
  | some r => cK K r p == 0
  | none => false
def setK (t : List α) (p : α) : List α := t.take (lowK K t p) ++ p :: t.drop (if thereK K t p then lowK K t p + 1 else lowK K t p)
def dropK (t : List α) (p : α) : List α := t.take (lowK K t p) ++ t.drop (lowK K t p + 1)
variable {K}
theorem cK_refl (a : α) : cK K a a = 0 := cmpI_refl _
theorem cK_neg (a b : α) : cK K a b = - cK K b a := cmpI_neg _ _
theorem cK_trans {a b d : α} (h : cK K a b < 0) (k : cK K b d < 0) : cK K a d < 0 := cmpI_trans _ _ _ h k
theorem cK_congL {a b d : α} (h : K a = K b) : cK K a d = cK K b d := by unfold cK; rw [h]
theorem cK_congR {a b d : α} (h : K a = K b) : cK K d a = cK K d b := by unfold cK; rw [h]
theorem cK_irrefl (a : α) : ¬ cK K a a < 0 := by rw [cK_refl]; omega
theorem cK_pos {a b : α} (h : ¬ cK K a b < 0) (h0 : cK K a b ≠ 0) : cK K b a < 0 := by have := cK_neg (K := K) a b; omega
theorem cK_ne {a b : α} (h : cK K a b ≠ 0) : K a ≠ K b := fun e => h (by unfold cK; rw [e]; exact cmpI_refl _)
theorem risK_cons {a : α} {t : List α} (h : risK K (a :: t) = true) : risK K t = true := by
  cases t with
  | nil => rfl
  | cons b t => simp only [risK, Bool.and_eq_true] at h; exact h.2
theorem risK_head {a : α} : ∀ {t : List α}, risK K (a :: t) = true → ∀ r ∈ t, cK K a r < 0
  | [], _, r, hr => by cases hr
  | b :: t, h, r, hr => by
    have h2 := h
    simp only [risK, Bool.and_eq_true, decide_eq_true_eq] at h2
    rcases List.mem_cons.1 hr with rfl | hr
    · exact h2.1
    · exact cK_trans h2.1 (risK_head (risK_cons h) r hr)
theorem risK_of {a : α} {t : List α} (h : ∀ r ∈ t, cK K a r < 0) (ht : risK K t = true) : risK K (a :: t) = true := by
  cases t with
  | nil => rfl
  | cons b t => simp only [risK, Bool.and_eq_true, decide_eq_true_eq]; exact ⟨h b (by simp), ht⟩
theorem risK_iff (z : α) (t : List α) : risK K t = true ↔ ∀ i, i + 1 < t.length → cK K (t.getD i z) (t.getD (i + 1) z) < 0 := by
  induction t with
  | nil => simp [risK]
  | cons a t ih =>
    cases t with
    | nil => simp [risK]
    | cons b t =>
      simp only [risK, Bool.and_eq_true, decide_eq_true_eq, ih]
      constructor
      · rintro ⟨h1, h2⟩ i hi
        cases i with
        | zero => exact h1
        | succ i => exact h2 i (by simpa using hi)
      · intro h
        exact ⟨h 0 (by simp), fun i hi => h (i + 1) (by simpa using hi)⟩
theorem lowK_cons (a : α) (t : List α) (p : α) : lowK K (a :: t) p = if cK K a p < 0 then lowK K t p + 1 else 0 := by
  unfold lowK
  rw [List.takeWhile_cons]
  by_cases h : cK K a p < 0
  · simp [h]
  · simp [h]
theorem lowK_le (t : List α) (p : α) : lowK K t p ≤ t.length := by
  induction t with
  | nil => simp [lowK]
  | cons a t ih =>
    rw [lowK_cons]
    split
    · simp; exact ih
    · simp
theorem lowK_spec (z : α) {t : List α} (p : α) (ht : risK K t = true) (i : Nat) (hi : i < t.length) : (i < lowK K t p → cK K (t.getD i z) p < 0) ∧ (lowK K t p ≤ i → ¬ cK K (t.getD i z) p < 0) := by
  induction t generalizing i with
  | nil => simp at hi
  | cons a t ih =>
    rw [lowK_cons]
    by_cases h : cK K a p < 0
    · rw [if_pos h]
      cases i with
      | zero => exact ⟨fun _ => h, fun h => by omega⟩
      | succ i =>
        have := ih (risK_cons ht) i (by simpa using hi)
        exact ⟨fun h => this.1 (by omega), fun h => this.2 (by omega)⟩
    · rw [if_neg h]
      refine ⟨fun h => by omega, fun _ => ?_⟩
      cases i with
      | zero => exact h
      | succ i =>
        intro hlt
        have hi' : i < t.length := by simpa using hi
        have hm : t.getD i z ∈ t := by
          rw [List.getD_eq_getElem?_getD, List.getElem?_eq_getElem hi']
          exact List.getElem_mem hi'
        have h1 := risK_head ht _ hm
        exact h (cK_trans h1 hlt)
theorem thereK_cons {a : α} {t : List α} {p : α} : thereK K (a :: t) p = if cK K a p < 0 then thereK K t p else cK K a p == 0 := by
  unfold thereK
  rw [lowK_cons]
  by_cases h : cK K a p < 0
  · rw [if_pos h, if_pos h]
    rfl
  · rw [if_neg h, if_neg h]
    rfl
theorem thereK_lt {t : List α} {p : α} (h : thereK K t p = true) : lowK K t p < t.length := by
  unfold thereK at h
  split at h
  · rename_i r hr
    exact (List.getElem?_eq_some_iff.1 hr).1
  · cases h
theorem setK_cons (a : α) (t : List α) (p : α) : setK K (a :: t) p = if cK K a p < 0 then a :: setK K t p else if cK K a p = 0 then p :: t else p :: a :: t := by
  unfold setK
  rw [lowK_cons, thereK_cons]
  by_cases h1 : cK K a p < 0
  · rw [if_pos h1, if_pos h1, if_pos h1]
    split <;> rfl
  · rw [if_neg h1, if_neg h1, if_neg h1]
    by_cases h2 : cK K a p = 0
    · rw [if_pos h2, h2]; rfl
    · rw [if_neg h2, if_neg (by simpa using h2)]; rfl
theorem dropK_cons (a : α) (t : List α) (p : α) : dropK K (a :: t) p = if cK K a p < 0 then a :: dropK K t p else t := by
  unfold dropK
  rw [lowK_cons]
  by_cases h1 : cK K a p < 0
  · rw [if_pos h1, if_pos h1]; rfl
  · rw [if_neg h1, if_neg h1]; rfl
/-- Where keys that compare as 0 are the same. -/
def KeyZ (K : α → List Int) (t : List α) (p : α) : Prop := ∀ r ∈ t, cK K r p = 0 → K r = K p
theorem KeyZ.tail {a p : α} {t : List α} (h : KeyZ K (a :: t) p) : KeyZ K t p := fun r hr => h r (by simp [hr])
theorem ne_of_cK {a b : α} (h : cK K a b < 0) : K a ≠ K b := cK_ne (by omega)
theorem mem_setK {x p : α} : ∀ {t : List α}, KeyZ K t p → risK K t = true → (x ∈ setK K t p ↔ x = p ∨ (x ∈ t ∧ K x ≠ K p))
  | [], _, _ => by simp [setK]
  | a :: t, hf, ht => by
    have ih := mem_setK (x := x) hf.tail (risK_cons ht)
    have hh := risK_head ht
    rw [setK_cons]
    by_cases h1 : cK K a p < 0
    · rw [if_pos h1, List.mem_cons, List.mem_cons, ih]
      constructor
      · rintro (rfl | rfl | h)
        · exact .inr ⟨.inl rfl, ne_of_cK h1⟩
        · exact .inl rfl
        · exact .inr ⟨.inr h.1, h.2⟩
      · rintro (rfl | ⟨rfl | h, hn⟩)
        · exact .inr (.inl rfl)
        · exact .inl rfl
        · exact .inr (.inr ⟨h, hn⟩)
    · rw [if_neg h1]
      by_cases h2 : cK K a p = 0
      · have he := hf a (by simp) h2
        rw [if_pos h2, List.mem_cons, List.mem_cons]
        constructor
        · rintro (rfl | hm)
          · exact .inl rfl
          · refine .inr ⟨.inr hm, fun e => ?_⟩
            have := hh x hm
            rw [cK_congL he, cK_congR e] at this
            exact cK_irrefl p this
        · rintro (rfl | ⟨rfl | hm, hn⟩)
          · exact .inl rfl
          · exact absurd he hn
          · exact .inr hm
      · have hgt := cK_pos h1 h2
        rw [if_neg h2, List.mem_cons, List.mem_cons]
        constructor
        · rintro (rfl | rfl | hm)
          · exact .inl rfl
          · exact .inr ⟨.inl rfl, cK_ne h2⟩
          · refine .inr ⟨.inr hm, fun e => ?_⟩
            have := cK_trans hgt (hh x hm)
            rw [cK_congR e] at this
            exact cK_irrefl p this
        · rintro (rfl | ⟨hm, _⟩)
          · exact .inl rfl
          · exact .inr hm
theorem risK_set {p : α} : ∀ {t : List α}, KeyZ K t p → risK K t = true → risK K (setK K t p) = true
  | [], _, _ => rfl
  | a :: t, hf, ht => by
    have ih := risK_set hf.tail (risK_cons ht)
    have hh := risK_head ht
    rw [setK_cons]
    by_cases h1 : cK K a p < 0
    · rw [if_pos h1]
      refine risK_of (fun r hr => ?_) ih
      rcases (mem_setK hf.tail (risK_cons ht)).1 hr with rfl | ⟨hm, _⟩
      · exact h1
      · exact hh r hm
    · rw [if_neg h1]
      by_cases h2 : cK K a p = 0
      · have he := hf a (by simp) h2
        rw [if_pos h2]
        refine risK_of (fun r hr => ?_) (risK_cons ht)
        rw [← cK_congL he]
        exact hh r hr
      · have hgt := cK_pos h1 h2
        rw [if_neg h2]
        refine risK_of (fun r hr => ?_) ht
        rcases List.mem_cons.1 hr with rfl | hr
        · exact hgt
        · exact cK_trans hgt (hh r hr)
theorem mem_dropK_of {x p : α} : ∀ {t : List α}, x ∈ dropK K t p → x ∈ t
  | [], h => h
  | a :: t, h => by
    rw [dropK_cons] at h
    split at h
    · rcases List.mem_cons.1 h with rfl | h
      · simp
      · exact List.mem_cons_of_mem _ (mem_dropK_of h)
    · exact List.mem_cons_of_mem _ h
theorem risK_drop {p : α} : ∀ {t : List α}, risK K t = true → risK K (dropK K t p) = true
  | [], _ => rfl
  | a :: t, ht => by
    rw [dropK_cons]
    split
    · exact risK_of (fun r hr => risK_head ht r (mem_dropK_of hr)) (risK_drop (risK_cons ht))
    · exact risK_cons ht
theorem len_setK {p : α} : ∀ t : List α, (setK K t p).length = if thereK K t p then t.length else t.length + 1
  | [] => rfl
  | a :: t => by
    have ih := len_setK (p := p) t
    rw [setK_cons, thereK_cons]
    by_cases h1 : cK K a p < 0
    · rw [if_pos h1, if_pos h1, List.length_cons, ih]
      split <;> rfl
    · rw [if_neg h1, if_neg h1]
      by_cases h2 : cK K a p = 0
      · rw [if_pos h2, h2]; rfl
      · rw [if_neg h2, if_neg (by simpa using h2)]; rfl
theorem len_dropK {p : α} : ∀ t : List α, (dropK K t p).length ≤ t.length
  | [] => Nat.le_refl _
  | a :: t => by
    have ih := len_dropK (p := p) t
    rw [dropK_cons]
    split
    · simp; exact ih
    · simp
end
end Go.Proofs.YtnpeedmicjeleaaDoor

/- Plain laws of layer 11 (route): batches, RIBs, and what comes of a RIB behind a batch. -/
namespace Go.Proofs.YtnpeedmicjeleaaDoor
set_option linter.unusedVariables false
set_option linter.unusedSimpArgs false
set_option maxRecDepth 4000
set_option maxRecDepth 4000

theorem keyZ {α : Type} (K : α → List Int) (t : List α) (p : α) : KeyZ K t p := fun r _ h => cmpI_zero _ _ h
abbrev rteAt (l : List Rte) (i : Nat) : Rte := l.getD i rteZ
abbrev updAt (l : List Upd) (i : Nat) : Upd := l.getD i updZ
theorem getD_get {α : Type} {l : List α} {i : Nat} {z : α} (h : i < l.length) : l[i]? = some (l.getD i z) := by
  rw [List.getD_eq_getElem?_getD, List.getElem?_eq_getElem h]
  rfl
theorem getD_mem {α : Type} {l : List α} {i : Nat} {z : α} (h : i < l.length) : l.getD i z ∈ l := List.mem_of_getElem? (getD_get h)
theorem mem_getD {α : Type} {l : List α} {a z : α} (h : a ∈ l) : ∃ i, i < l.length ∧ l.getD i z = a := by
  obtain ⟨i, hi, he⟩ := List.getElem_of_mem h
  refine ⟨i, hi, ?_⟩
  rw [List.getD_eq_getElem?_getD, List.getElem?_eq_getElem hi]
  exact he
theorem take_getD {α : Type} {l : List α} {i : Nat} (z : α) (h : i < l.length) : l.take (i + 1) = l.take i ++ [l.getD i z] := by
  rw [List.take_add_one, getD_get (z := z) h]
  rfl
def Rte.key (r : Rte) : List Int := r.p.row ++ [r.s]
def Upd.rte (u : Upd) : Rte := ⟨u.p, u.s, u.f, u.h⟩
def Okr (l : List Rte) : Prop := ∀ r ∈ l, r.ok
def Oku (l : List Upd) : Prop := ∀ u ∈ l, u.ok
theorem Okr.at_ {l : List Rte} (h : Okr l) {i : Nat} (hi : i < l.length) : (rteAt l i).ok := h _ (getD_mem hi)
theorem Oku.at_ {l : List Upd} (h : Oku l) {i : Nat} (hi : i < l.length) : (updAt l i).ok := h _ (getD_mem hi)
theorem Upd.ok.rte {u : Upd} (h : u.ok) : u.rte.ok := ⟨h.p, h.s, h.f, h.h⟩
def fitB (p : Pfx) (s f h : Int) : Bool := p.right && decide (1 ≤ s) && decide (s ≤ 4) && decide (0 ≤ f) && decide (f ≤ 255) && decide (1 ≤ h) && decide (h ≤ 255)
def Rte.fit (r : Rte) : Bool := fitB r.p r.s r.f r.h
def updB (u : Upd) : Bool := if u.g then decide (u.f = 0) && decide (u.h = 0) && fitB u.p u.s 0 1 else fitB u.p u.s u.f u.h
def twin (a b : Upd) : Bool := a.p.eqB b.p && decide (a.s = b.s)
def batsB (l : List Upd) : Bool := decide (∀ j, j < l.length → updB (updAt l j) = true ∧ ∀ k, k < j → twin (updAt l k) (updAt l j) = false)
def batB (l : List Upd) : Bool := decide (1 ≤ l.length) && decide (l.length ≤ 8) && batsB l
/-! How many prefixes. -/
def newP (l : List Rte) (i : Nat) : Bool := decide (i = 0) || !(rteAt l (i - 1)).p.eqB (rteAt l i).p
def cntP (l : List Rte) (k : Nat) : Nat := ((List.range k).filter (newP l)).length
theorem cntP_succ (l : List Rte) (k : Nat) : cntP l (k + 1) = cntP l k + if newP l k then 1 else 0 := by
  unfold cntP
  rw [List.range_succ, List.filter_append, List.length_append]
  cases h : newP l k <;> simp [h]
theorem cntP_le (l : List Rte) (k : Nat) : cntP l k ≤ k := by
  unfold cntP
  have := List.length_filter_le (newP l) (List.range k)
  rwa [List.length_range] at this
def pfxsN (l : List Rte) : Nat := cntP l l.length
/-- The order of candidates. -/
def cR (a b : Rte) : Int := cK Rte.key a b
theorem cmpI_app {a b c d : List Int} (h : a.length = b.length) : cmpI (a ++ c) (b ++ d) = if cmpI a b ≠ 0 then cmpI a b else cmpI c d := by
  rw [cmpI_append _ _ _ _ h]
theorem rtrow_len {p : Pfx} (h : B16 p.l) : p.row.length = 18 := by unfold Pfx.row; simp [h.len]
theorem cR_eq (a b : Rte) (ha : a.fits) (hb : b.fits) : cR a b = if a.p.cmp b.p ≠ 0 then a.p.cmp b.p else cmpN a.s b.s := by
  unfold cR cK Rte.key
  rw [cmpI_app (by rw [rtrow_len ha, rtrow_len hb]), cmpI_one]
  rfl
theorem cR_or (a b : Rte) (ha : a.fits) (hb : b.fits) : cR a b = orI [a.p.cmp b.p, cmpN a.s b.s] := by
  rw [cR_eq a b ha hb]
  unfold orI orI orI
  by_cases h : a.p.cmp b.p ≠ 0
  · rw [if_pos h, if_pos h]
  · rw [if_neg h, if_neg h]
    by_cases h2 : cmpN a.s b.s ≠ 0
    · rw [if_pos h2]
    · rw [if_neg h2]
      omega
/-- In order, a prefix is new where it is not the one ahead. -/
theorem cmp_of_cR {a b : Rte} (ha : a.fits) (hb : b.fits) (h : cR a b < 0) : a.p.cmp b.p ≤ 0 := by
  rw [cR_eq a b ha hb] at h
  split at h <;> omega
theorem risK_lt {l : List Rte} (h : risK Rte.key l = true) : ∀ {i j : Nat}, i < j → j < l.length → cR (rteAt l i) (rteAt l j) < 0 := by
  induction l with
  | nil => intro i j _ hj; simp at hj
  | cons a t ih =>
    intro i j hij hj
    cases j with
    | zero => omega
    | succ j =>
      have hj' : j < t.length := by simpa using hj
      cases i with
      | zero => exact risK_head h _ (getD_mem hj')
      | succ i => exact ih (risK_cons h) (by omega) hj'
/-- May it be a RIB? -/
def ribsB (l : List Rte) : Bool := decide (l.length ≤ 160) && l.all Rte.fit && risK Rte.key l
def ribB (l : List Rte) : Bool := ribsB l && decide (pfxsN l ≤ 40)
theorem ribsB_iff (l : List Rte) : ribsB l = true ↔ l.length ≤ 160 ∧ (∀ i, i < l.length → (rteAt l i).fit = true) ∧ ∀ i, i + 1 < l.length → cR (rteAt l i) (rteAt l (i + 1)) < 0 := by
  unfold ribsB
  rw [Bool.and_eq_true, Bool.and_eq_true, decide_eq_true_eq, risK_iff rteZ, List.all_eq_true]
  constructor
  · rintro ⟨⟨h1, h2⟩, h3⟩
    exact ⟨h1, fun i hi => h2 _ (getD_mem hi), h3⟩
  · rintro ⟨h1, h2, h3⟩
    refine ⟨⟨h1, fun r hr => ?_⟩, h3⟩
    obtain ⟨i, hi, he⟩ := mem_getD (z := rteZ) hr
    rw [← he]
    exact h2 i hi
theorem ribs_ris {l : List Rte} (h : ribsB l = true) : risK Rte.key l = true := by
  unfold ribsB at h
  rw [Bool.and_eq_true] at h
  exact h.2
/-- One update. -/
def appS (l : List Rte) (u : Upd) : Option (List Rte) := if u.g then (if thereK Rte.key l u.rte then some (dropK Rte.key l u.rte) else none) else some (setK Rte.key l u.rte)
def appL : List Rte → List Upd → Option (List Rte)
  | l, [] => some l
  | l, u :: b => match appS l u with
    | some m => appL m b
    | none => none
theorem appL_snoc : ∀ (b : List Upd) (l : List Rte) (u : Upd), appL l (b ++ [u]) = (appL l b).bind fun m => appS m u
  | [], l, u => by
    show (match appS l u with | some m => some m | none => none) = appS l u
    cases appS l u <;> rfl
  | v :: b, l, u => by
    simp only [List.cons_append, appL]
    cases h : appS l v with
    | none => rfl
    | some m => exact appL_snoc b m u
theorem appL_none {b : List Upd} {l : List Rte} {k : Nat} (h : appL l (b.take k) = none) : appL l b = none := by
  induction b generalizing l k with
  | nil => simpa using h
  | cons u b ih =>
    cases k with
    | zero => simp [appL] at h
    | succ k =>
      rw [List.take_succ_cons] at h
      simp only [appL] at h ⊢
      cases hs : appS l u with
      | none => rfl
      | some m =>
        rw [hs] at h
        exact ih h
def appN (l : List Rte) (b : List Upd) : Int := if ribB l then (if batB b then (match appL l b with | some m => if pfxsN m ≤ 40 then 0 else 6 | none => 4) else 210) else 211
def appR (l : List Rte) (b : List Upd) : List Rte := if appN l b = 0 then (appL l b).getD [] else []
/-- What stays of a list in order. -/
structure Rok (l : List Rte) : Prop where
  ok : Okr l
  ris : risK Rte.key l = true
theorem appS_rok {l m : List Rte} {u : Upd} (h : Rok l) (hu : u.ok) (hs : appS l u = some m) : Rok m := by
  unfold appS at hs
  split at hs
  · split at hs
    · injection hs with hs
      subst hs
      exact ⟨fun r hr => h.ok r (mem_dropK_of hr), risK_drop h.ris⟩
    · cases hs
  · injection hs with hs
    subst hs
    refine ⟨fun r hr => ?_, risK_set (keyZ _ _ _) h.ris⟩
    rcases (mem_setK (keyZ _ _ _) h.ris).1 hr with rfl | ⟨hm, _⟩
    · exact hu.rte
    · exact h.ok r hm
theorem appS_len {l m : List Rte} {u : Upd} (hs : appS l u = some m) : m.length ≤ l.length + 1 := by
  unfold appS at hs
  split at hs
  · split at hs
    · injection hs with hs
      subst hs
      exact Nat.le_succ_of_le (len_dropK l)
    · cases hs
  · injection hs with hs
    subst hs
    rw [len_setK]
    split <;> omega
theorem appL_rok : ∀ {b : List Upd} {l m : List Rte}, Rok l → Oku b → appL l b = some m → Rok m ∧ m.length ≤ l.length + b.length
  | [], l, m, h, _, hs => by
    injection hs with hs
    subst hs
    exact ⟨h, Nat.le_refl _⟩
  | u :: b, l, m, h, hb, hs => by
    simp only [appL] at hs
    cases hk : appS l u with
    | none => rw [hk] at hs; cases hs
    | some k =>
      rw [hk] at hs
      obtain ⟨h1, h2⟩ := appL_rok (appS_rok h (hb u (by simp)) hk) (fun v hv => hb v (by simp [hv])) hs
      have := appS_len hk
      exact ⟨h1, by simp; omega⟩
end Go.Proofs.YtnpeedmicjeleaaDoor

/- Layer 11 (route): fits, update, the closures of CheckBatch and Best, order, better; the document's fits and ahead. -/
namespace Go.Proofs.YtnpeedmicjeleaaDoor
open Go.RowKit
set_option linter.unusedVariables false
set_option linter.unusedSimpArgs false
set_option maxRecDepth 4000
structure RibAt (w : World) (g : Nat) (A : Option Addr) (n c : Nat) : Prop where
  all : ∀ w0, Below w.heap.size w w0 → (Instr.loadAt 24 (.pointer (some ⟨g, 0, none⟩))).run Tryd.prog w0 = .ok (.agg (tabV A n c)) w0 ∧ (Instr.loadAt 22 (.pointer (some ⟨g, 0, none⟩))).run Tryd.prog w0 = .ok (.slice A n c) w0
theorem load_rtes {w : World} {ad : Addr} {v : Value} (h : w.cell? ad = some v) : (Instr.loadAt 22 (.pointer (some ad))).run Tryd.prog w = .ok v w := by
  go_simp
theorem load_upds {w : World} {ad : Addr} {v : Value} (h : w.cell? ad = some v) : (Instr.loadAt 25 (.pointer (some ad))).run Tryd.prog w = .ok v w := by
  go_simp
theorem rib_at {w : World} {g : Nat} {A : Option Addr} {n c : Nat} (h : w.heap[g]? = some (.cells (tabV A n c) 24 (0, 0))) : RibAt w g A n c := by
  refine ⟨fun w0 hb => ?_⟩
  have h0 := cells_blk (blk_below h hb)
  exact ⟨load_cells h0 Tryd.underlying24 rfl (by kernel_rfl), load_rtes (h0 0 _ rfl)⟩
structure BatAt (w : World) (g : Nat) (A : Option Addr) (n c : Nat) : Prop where
  all : ∀ w0, Below w.heap.size w w0 → (Instr.loadAt 27 (.pointer (some ⟨g, 0, none⟩))).run Tryd.prog w0 = .ok (.agg (tabV A n c)) w0 ∧ (Instr.loadAt 25 (.pointer (some ⟨g, 0, none⟩))).run Tryd.prog w0 = .ok (.slice A n c) w0
theorem bat_at {w : World} {g : Nat} {A : Option Addr} {n c : Nat} (h : w.heap[g]? = some (.cells (tabV A n c) 27 (0, 0))) : BatAt w g A n c := by
  refine ⟨fun w0 hb => ?_⟩
  have h0 := cells_blk (blk_below h hb)
  exact ⟨load_cells h0 Tryd.underlying27 rfl (by kernel_rfl), load_upds (h0 0 _ rfl)⟩
theorem built_rte (p : Pfx) (s f h : Int) (hl : p.l.length = 16) : Tryd.prog.built 51 [(0, .agg (pfxV p.v p.l p.b)), (1, .int .i64 s), (2, .int .i64 f), (3, .int .i64 h)] = some (rteV ⟨p, s, f, h⟩) := by
  obtain ⟨a, b, c, d, e, f, g, h1, i, j, k, m, n, o, q, r, hh⟩ := len16 hl
  obtain ⟨v, l, x⟩ := p
  simp only at hh
  subst hh
  kernel_rfl
theorem run_build_rte (w : World) (p : Pfx) (s f h : Int) (hl : p.l.length = 16) : (Instr.build 51 #[(0, .agg (pfxV p.v p.l p.b)), (1, .int .i64 s), (2, .int .i64 f), (3, .int .i64 h)]).run Tryd.prog w = .ok (.agg (rteV ⟨p, s, f, h⟩)) w := run_build w _ _ _ (built_rte p s f h hl)
/-! Two prefixes held equal: what the comparison yields. -/
theorem pfx_eq_hex {p q : Pfx} {b : Bool} (hp : p.ok) (hq : q.ok) (h : p.eqB q = b) (r : Operand → Value) (o : Oper) (x y : Operand) (ty : TypeId) (ho : o.op = .binOp .eql 49 x y ty) (hx : r x = .agg (pfxV p.v p.l p.b)) (hy : r y = .agg (pfxV q.v q.l q.b)) (w : World) : (execOp r o).run Tryd.prog w = .ok (.value (.bool b)) w := by
  rw [← h]
  exact pfx_eql_exec ho p q hx hy hp hq w
theorem pfx_ne_hex {p q : Pfx} {b : Bool} (hp : p.ok) (hq : q.ok) (h : (!p.eqB q) = b) (r : Operand → Value) (o : Oper) (x y : Operand) (ty : TypeId) (ho : o.op = .binOp .neq 49 x y ty) (hx : r x = .agg (pfxV p.v p.l p.b)) (hy : r y = .agg (pfxV q.v q.l q.b)) (w : World) : (execOp r o).run Tryd.prog w = .ok (.value (.bool b)) w := by
  rw [← h]
  exact pfx_neq_exec ho p q hx hy hp hq w
set_option maxHeartbeats 2000000 in
theorem rfits_any (p : Pfx) (s f h : Int) (w : World) (hL : Laid w) (hp : B16 p.l) : Calls Tryd.prog 53 #[.agg (pfxV p.v p.l p.b), .int .i64 s, .int .i64 f, .int .i64 h] w fun e w' => e = .returned (.bool (fitB p s f h)) ∧ Below w.heap.size w w' := by
  have hblk1 := blk_new w (.cells (pfxV p.v p.l p.b) 49)
  have hbel1 : Below w.heap.size w (w.alloc (.cells (pfxV p.v p.l p.b) 49)) := below_alloc (Below.refl _ _) _
  have HP1 := Lib.hid (pfx_at hp hblk1)
  have HBK1 := Lib.hid hblk1
  have HBE := Lib.hid hbel1
  have HL := Lib.hid (hL.below HBE.out)
  obtain ⟨cs1, hcs1⟩ : ∃ cs, pfxV p.v p.l p.b = cs := ⟨_, rfl⟩
  simp only [hcs1] at HBE HL HP1 HBK1 ⊢
  have HC1 := Lib.hid hcs1
  clear hL hcs1 hblk1 hbel1
  have hl0 := (HP1.out.all _ (Below.refl _ _)).2.2.2.2
  rw [HC1.out] at hl0
  go_enter Tryd.func53, Tryd.ntmps53
  go_wp2_with (first | ((with_reducible show wpList _ _ _ (Oper.mk _ (Op.load _ _) _ _ _ _ :: _) _ _); refine wpList_load_g hl0 _ rfl rfl (by go_simp) ?_))
  have hck := check_any p.v p.l p.b _ HL.out hp
  rw [HC1.out] at hck
  refine hck.mono ?_
  clear hck hl0
  rintro e w1 ⟨rfl, hb1⟩
  have HB1 := Lib.hid (below_step HBE.out hb1)
  clear hb1
  cases h0 : p.right with
  | false =>
    (rw [show errP p.v p.l p.b = 151 by unfold errP; rw [show rightP p.v p.l p.b = false from h0]; rfl])
    have HV : Hid (fitB p s f h = false) := Lib.hid (by unfold fitB; simp [*])
    go_wp2_with fail
    go_ret
    rw [HV.out]
    exact ⟨rfl, HB1.out⟩
  | true =>
    (rw [show errP p.v p.l p.b = 0 by unfold errP; rw [show rightP p.v p.l p.b = true from h0]; rfl])
    by_cases g1 : 1 ≤ s
    case neg =>
      have h1 : decide (1 ≤ s) = false := decide_eq_false g1
      clear g1
      have HV : Hid (fitB p s f h = false) := Lib.hid (by unfold fitB; simp [*])
      go_wp2_with fail
      go_ret
      rw [HV.out]
      exact ⟨rfl, HB1.out⟩
    case pos =>
      have h1 : decide (1 ≤ s) = true := decide_eq_true g1
      by_cases g2 : s ≤ 4
      case neg =>
        have h2 : decide (s ≤ 4) = false := decide_eq_false g2
        clear g1 g2
        have HV : Hid (fitB p s f h = false) := Lib.hid (by unfold fitB; simp [*])
        go_wp2_with fail
        go_ret
        rw [HV.out]
        exact ⟨rfl, HB1.out⟩
      case pos =>
        have h2 : decide (s ≤ 4) = true := decide_eq_true g2
        clear g1 g2
        by_cases g3 : 0 ≤ f
        case neg =>
          have h3 : decide (0 ≤ f) = false := decide_eq_false g3
          clear g3
          have HV : Hid (fitB p s f h = false) := Lib.hid (by unfold fitB; simp [*])
          go_wp2_with fail
          go_ret
          rw [HV.out]
          exact ⟨rfl, HB1.out⟩
        case pos =>
          have h3 : decide (0 ≤ f) = true := decide_eq_true g3
          by_cases g4 : f ≤ 255
          case neg =>
            have h4 : decide (f ≤ 255) = false := decide_eq_false g4
            clear g3 g4
            have HV : Hid (fitB p s f h = false) := Lib.hid (by unfold fitB; simp [*])
            go_wp2_with fail
            go_ret
            rw [HV.out]
            exact ⟨rfl, HB1.out⟩
          case pos =>
            have h4 : decide (f ≤ 255) = true := decide_eq_true g4
            clear g3 g4
            by_cases g5 : 1 ≤ h
            case neg =>
              have h5 : decide (1 ≤ h) = false := decide_eq_false g5
              clear g5
              have HV : Hid (fitB p s f h = false) := Lib.hid (by unfold fitB; simp [*])
              go_wp2_with fail
              go_ret
              rw [HV.out]
              exact ⟨rfl, HB1.out⟩
            case pos =>
              have h5 : decide (1 ≤ h) = true := decide_eq_true g5
              cases h6 : decide (h ≤ 255) with
              | false =>
                clear g5
                have HV : Hid (fitB p s f h = false) := Lib.hid (by unfold fitB; simp [*])
                go_wp2_with fail
                go_ret
                rw [HV.out]
                exact ⟨rfl, HB1.out⟩
              | true =>
                clear g5
                have HV : Hid (fitB p s f h = true) := Lib.hid (by unfold fitB; rw [h0, h1, h2, h3, h4, h5, h6]; rfl)
                go_wp2_with fail
                go_ret
                rw [HV.out]
                exact ⟨rfl, HB1.out⟩
set_option maxHeartbeats 2000000 in
theorem update_any (u : Upd) (w : World) (hL : Laid w) (hu : u.fits) : Calls Tryd.prog 63 #[.agg (updV u)] w fun e w' => e = .returned (.bool (updB u)) ∧ Below w.heap.size w w' := by
  have hblk1 := blk_new w (.cells (updV u) 75)
  have hbel1 : Below w.heap.size w (w.alloc (.cells (updV u) 75)) := below_alloc (Below.refl _ _) _
  have HP1 := Lib.hid (upd_at hu hblk1)
  have HBK1 := Lib.hid hblk1
  have HBE := Lib.hid hbel1
  have HL := Lib.hid (hL.below HBE.out)
  obtain ⟨cs1, hcs1⟩ : ∃ cs, updV u = cs := ⟨_, rfl⟩
  simp only [hcs1] at HBE HL HP1 HBK1 ⊢
  have HC1 := Lib.hid hcs1
  clear hL hcs1 hblk1 hbel1
  obtain ⟨p, s, g, f, h⟩ := u
  have hr := (HP1.out.all _ (Below.refl _ _))
  have HLD := Lib.hid hr
  clear hr
  go_enter Tryd.func63, Tryd.ntmps63
  cases g with
  | true =>
    by_cases g1 : f = 0
    case neg =>
      have h1 : (f == 0) = false := by simpa using g1
      have HV : Hid (updB ⟨p, s, true, f, h⟩ = false) := Lib.hid (by simp [updB, g1])
      clear g1
      go_wp2_with (first | ((with_reducible show wpList _ _ _ (Oper.mk _ (Op.load _ _) _ _ _ _ :: _) _ _); refine wpList_load_g (HLD.out.gon) _ rfl rfl (by go_simp) ?_) | ((with_reducible show wpList _ _ _ (Oper.mk _ (Op.load _ _) _ _ _ _ :: _) _ _); refine wpList_load_g (HLD.out.prf) _ rfl rfl (by go_simp) ?_) | ((with_reducible show wpList _ _ _ (Oper.mk _ (Op.load _ _) _ _ _ _ :: _) _ _); refine wpList_load_g (HLD.out.hop) _ rfl rfl (by go_simp) ?_) | ((with_reducible show wpList _ _ _ (Oper.mk _ (Op.load _ _) _ _ _ _ :: _) _ _); refine wpList_load_g (HLD.out.src) _ rfl rfl (by go_simp) ?_) | ((with_reducible show wpList _ _ _ (Oper.mk _ (Op.load _ _) _ _ _ _ :: _) _ _); refine wpList_load_g (HLD.out.pfx) _ rfl rfl (by go_simp) ?_))
      go_ret
      rw [HV.out]
      exact ⟨rfl, HBE.out⟩
    case pos =>
      subst g1
      by_cases g2 : h = 0
      case neg =>
        have h2 : (h == 0) = false := by simpa using g2
        have HV : Hid (updB ⟨p, s, true, 0, h⟩ = false) := Lib.hid (by simp [updB, g2])
        clear g2
        go_wp2_with (first | ((with_reducible show wpList _ _ _ (Oper.mk _ (Op.load _ _) _ _ _ _ :: _) _ _); refine wpList_load_g (HLD.out.gon) _ rfl rfl (by go_simp) ?_) | ((with_reducible show wpList _ _ _ (Oper.mk _ (Op.load _ _) _ _ _ _ :: _) _ _); refine wpList_load_g (HLD.out.prf) _ rfl rfl (by go_simp) ?_) | ((with_reducible show wpList _ _ _ (Oper.mk _ (Op.load _ _) _ _ _ _ :: _) _ _); refine wpList_load_g (HLD.out.hop) _ rfl rfl (by go_simp) ?_) | ((with_reducible show wpList _ _ _ (Oper.mk _ (Op.load _ _) _ _ _ _ :: _) _ _); refine wpList_load_g (HLD.out.src) _ rfl rfl (by go_simp) ?_) | ((with_reducible show wpList _ _ _ (Oper.mk _ (Op.load _ _) _ _ _ _ :: _) _ _); refine wpList_load_g (HLD.out.pfx) _ rfl rfl (by go_simp) ?_))
        go_ret
        rw [HV.out]
        exact ⟨rfl, HBE.out⟩
      case pos =>
        subst g2
        have HV : Hid (updB ⟨p, s, true, 0, 0⟩ = fitB p s 0 1) := Lib.hid (by simp [updB])
        go_wp2_with (first | ((with_reducible show wpList _ _ _ (Oper.mk _ (Op.load _ _) _ _ _ _ :: _) _ _); refine wpList_load_g (HLD.out.gon) _ rfl rfl (by go_simp) ?_) | ((with_reducible show wpList _ _ _ (Oper.mk _ (Op.load _ _) _ _ _ _ :: _) _ _); refine wpList_load_g (HLD.out.prf) _ rfl rfl (by go_simp) ?_) | ((with_reducible show wpList _ _ _ (Oper.mk _ (Op.load _ _) _ _ _ _ :: _) _ _); refine wpList_load_g (HLD.out.hop) _ rfl rfl (by go_simp) ?_) | ((with_reducible show wpList _ _ _ (Oper.mk _ (Op.load _ _) _ _ _ _ :: _) _ _); refine wpList_load_g (HLD.out.src) _ rfl rfl (by go_simp) ?_) | ((with_reducible show wpList _ _ _ (Oper.mk _ (Op.load _ _) _ _ _ _ :: _) _ _); refine wpList_load_g (HLD.out.pfx) _ rfl rfl (by go_simp) ?_))
        refine (rfits_any p s 0 1 _ HL.out hu).mono ?_
        rintro e w1 ⟨rfl, hb1⟩
        have HB1 := Lib.hid (below_step HBE.out hb1)
        clear hb1
        rw [← HV.out]
        go_wp2
        go_ret
        exact ⟨rfl, HB1.out⟩
  | false =>
    have HV : Hid (updB ⟨p, s, false, f, h⟩ = fitB p s f h) := Lib.hid (by simp [updB])
    go_wp2_with (first | ((with_reducible show wpList _ _ _ (Oper.mk _ (Op.load _ _) _ _ _ _ :: _) _ _); refine wpList_load_g (HLD.out.gon) _ rfl rfl (by go_simp) ?_) | ((with_reducible show wpList _ _ _ (Oper.mk _ (Op.load _ _) _ _ _ _ :: _) _ _); refine wpList_load_g (HLD.out.prf) _ rfl rfl (by go_simp) ?_) | ((with_reducible show wpList _ _ _ (Oper.mk _ (Op.load _ _) _ _ _ _ :: _) _ _); refine wpList_load_g (HLD.out.hop) _ rfl rfl (by go_simp) ?_) | ((with_reducible show wpList _ _ _ (Oper.mk _ (Op.load _ _) _ _ _ _ :: _) _ _); refine wpList_load_g (HLD.out.src) _ rfl rfl (by go_simp) ?_) | ((with_reducible show wpList _ _ _ (Oper.mk _ (Op.load _ _) _ _ _ _ :: _) _ _); refine wpList_load_g (HLD.out.pfx) _ rfl rfl (by go_simp) ?_))
    refine (rfits_any p s f h _ HL.out hu).mono ?_
    rintro e w1 ⟨rfl, hb1⟩
    have HB1 := Lib.hid (below_step HBE.out hb1)
    clear hb1
    rw [← HV.out]
    go_wp2
    go_ret
    exact ⟨rfl, HB1.out⟩
set_option maxHeartbeats 2000000 in
theorem twin1_any (x u : Upd) (g : Nat) (w : World) (hxo : x.ok) (huo : u.ok) (hg : UpdAt w g u) : Calls Tryd.prog 62 #[.agg (updV x), .pointer (some ⟨g, 0, none⟩)] w fun e w' => e = .returned (.bool (twin x u)) ∧ Below w.heap.size w w' := by
  have hx := hxo.fits
  have hblk1 := blk_new w (.cells (updV x) 75)
  have hbel1 : Below w.heap.size w (w.alloc (.cells (updV x) 75)) := below_alloc (Below.refl _ _) _
  have HP1 := Lib.hid (upd_at hx hblk1)
  have HBK1 := Lib.hid hblk1
  have HBE := Lib.hid hbel1
  obtain ⟨cs1, hcs1⟩ : ∃ cs, updV x = cs := ⟨_, rfl⟩
  simp only [hcs1] at HBE HP1 HBK1 ⊢
  have HC1 := Lib.hid hcs1
  clear hcs1 hblk1 hbel1
  have HG := Lib.hid (hg.all _ HBE.out)
  have HLD := Lib.hid (HP1.out.all _ (Below.refl _ _))
  clear hg
  go_enter Tryd.func62, Tryd.ntmps62
  cases h0 : x.p.eqB u.p with
  | false =>
    have HV : Hid (twin x u = false) := Lib.hid (by unfold twin; rw [h0]; rfl)
    have HEX := Lib.hid (pfx_eq_hex hxo.p huo.p h0)
    clear h0
    go_wp2_with (first | ((with_reducible show wpList _ _ _ (Oper.mk _ (Op.load _ _) _ _ _ _ :: _) _ _); refine wpList_load_g (HLD.out.pfx) _ rfl rfl (by go_simp) ?_) | ((with_reducible show wpList _ _ _ (Oper.mk _ (Op.load _ _) _ _ _ _ :: _) _ _); refine wpList_load_g (HG.out.pfx) _ rfl rfl (by go_simp) ?_) | ((with_reducible show wpList _ _ _ (Oper.mk _ (Op.binOp _ _ _ _ _) _ _ _ _ :: _) _ _); refine wpList_exw rfl (HEX.out _ _ _ _ _ rfl rfl rfl _) ?_))
    go_ret
    rw [HV.out]
    exact ⟨rfl, HBE.out⟩
  | true =>
    have HV : Hid (twin x u = decide (x.s = u.s)) := Lib.hid (by unfold twin; rw [h0]; rfl)
    have HEX := Lib.hid (pfx_eq_hex hxo.p huo.p h0)
    clear h0
    go_wp2_with (first | ((with_reducible show wpList _ _ _ (Oper.mk _ (Op.load _ _) _ _ _ _ :: _) _ _); refine wpList_load_g (HLD.out.pfx) _ rfl rfl (by go_simp) ?_) | ((with_reducible show wpList _ _ _ (Oper.mk _ (Op.load _ _) _ _ _ _ :: _) _ _); refine wpList_load_g (HG.out.pfx) _ rfl rfl (by go_simp) ?_) | ((with_reducible show wpList _ _ _ (Oper.mk _ (Op.load _ _) _ _ _ _ :: _) _ _); refine wpList_load_g (HLD.out.src) _ rfl rfl (by go_simp) ?_) | ((with_reducible show wpList _ _ _ (Oper.mk _ (Op.load _ _) _ _ _ _ :: _) _ _); refine wpList_load_g (HG.out.src) _ rfl rfl (by go_simp) ?_) | ((with_reducible show wpList _ _ _ (Oper.mk _ (Op.binOp _ _ _ _ _) _ _ _ _ :: _) _ _); refine wpList_exw rfl (HEX.out _ _ _ _ _ rfl rfl rfl _) ?_))
    go_ret
    rw [HV.out]
    exact ⟨rfl, HBE.out⟩
set_option maxHeartbeats 2000000 in
theorem order_any (a b : Rte) (w : World) (ha : a.fits) (hb : b.fits) : Calls Tryd.prog 43 #[.agg (rteV a), .agg (rteV b)] w fun e w' => e = .returned (.int .i64 (cR a b)) ∧ Below w.heap.size w w' := by
  have hblk1 := blk_new w (.cells (rteV a) 51)
  have hbel1 : Below w.heap.size w (w.alloc (.cells (rteV a) 51)) := below_alloc (Below.refl _ _) _
  have hblk2 := blk_new (w.alloc (.cells (rteV a) 51)) (.cells (rteV b) 51)
  have hbel2 : Below w.heap.size w ((w.alloc (.cells (rteV a) 51)).alloc (.cells (rteV b) 51)) := below_alloc (hbel1) _
  rw [show (w.alloc (.cells (rteV a) 51)).heap.size = w.heap.size + 1 by simp] at hblk2
  replace hblk1 := blk_below hblk1 (below_alloc (Below.refl _ _) (.cells (rteV b) 51))
  have HP1 := Lib.hid (rte_at ha hblk1)
  have HBK1 := Lib.hid hblk1
  have HP2 := Lib.hid (rte_at hb hblk2)
  have HBK2 := Lib.hid hblk2
  have HBE := Lib.hid hbel2
  obtain ⟨cs1, hcs1⟩ : ∃ cs, rteV a = cs := ⟨_, rfl⟩
  obtain ⟨cs2, hcs2⟩ : ∃ cs, rteV b = cs := ⟨_, rfl⟩
  simp only [hcs1, hcs2] at HBE HP1 HP2 HBK1 HBK2 ⊢
  have HC1 := Lib.hid hcs1
  have HC2 := Lib.hid hcs2
  clear hcs1 hblk1 hbel1 hcs2 hblk2 hbel2
  have HE := Lib.hid (cR_or a b ha hb)
  go_enter Tryd.func43, Tryd.ntmps43
  go_wp2_with fail
  refine wp_region_mix (fun w0 => Below ((w.alloc (.cells cs1 51)).alloc (.cells cs2 51)).heap.size ((w.alloc (.cells cs1 51)).alloc (.cells cs2 51)) w0) [(0, 0), (1, 0), (2, 0), (3, 0), (5, 0), (6, 0), (7, 0), (8, 0), (4, 2), (9, 2), (10, 2), (11, 2), (12, 0)] (by kernel_rfl) (by kernel_rfl) (below_drew1 _) ?_
  simp only [List.map_cons, List.map_nil]
  iterate 1 (refine wpO_step0 rfl rfl (fun K hK => ?_); go_simp; refine hK _ _ ?_; clear hK K)
  refine wpO_loadW (t := 49) (ad := ⟨w.heap.size, 0, none⟩) rfl rfl ?hw rfl rfl ((fun w0 hS => (HP1.out.all w0 hS).pfx)) ?_
  case hw => go_simp
  iterate 1 (refine wpO_step0 rfl rfl (fun K hK => ?_); go_simp; refine hK _ _ ?_; clear hK K)
  refine wpO_loadW (t := 49) (ad := ⟨(w.heap.size+1), 0, none⟩) rfl rfl ?hw rfl rfl ((fun w0 hS => (HP2.out.all w0 hS).pfx)) ?_
  case hw => go_simp
  iterate 1 (refine wpO_step0 rfl rfl (fun K hK => ?_); go_simp; refine hK _ _ ?_; clear hK K)
  refine wpO_loadW (t := 3) (ad := ⟨w.heap.size, 18, none⟩) rfl rfl ?hw rfl rfl ((fun w0 hS => (HP1.out.all w0 hS).src)) ?_
  case hw => go_simp
  iterate 1 (refine wpO_step0 rfl rfl (fun K hK => ?_); go_simp; refine hK _ _ ?_; clear hK K)
  refine wpO_loadW (t := 3) (ad := ⟨(w.heap.size+1), 18, none⟩) rfl rfl ?hw rfl rfl ((fun w0 hS => (HP2.out.all w0 hS).src)) ?_
  case hw => go_simp
  refine wpO_step2 rfl rfl (below_drew1 _) (fun K hK => ?_)
  go_simp
  refine (compare_any a.p b.p _ ha hb).mono ?_
  rintro e w1 ⟨rfl, hb1⟩
  have HB1 := Lib.hid (below_step (below_drew1 _) hb1)
  clear hb1
  refine hK _ _ ⟨HB1.out, ?_⟩
  clear hK K
  refine wpO_step2 rfl rfl (HB1.out) (fun K hK => ?_)
  go_simp
  refine (cmpint_any a.s b.s _).mono ?_
  rintro e w2 ⟨rfl, rfl⟩
  refine hK _ _ ⟨HB1.out, ?_⟩
  clear hK K
  obtain ⟨x0, h0⟩ : ∃ x, a.p.cmp b.p = x := ⟨_, rfl⟩
  obtain ⟨x1, h1⟩ : ∃ x, cmpN a.s b.s = x := ⟨_, rfl⟩
  rw [h0, h1] at HE
  rw [h0, h1]
  clear h0 h1
  refine wpO_step2 rfl rfl (HB1.out) (fun K hK => ?_)
  go_simp
  have HRI := Lib.hid (OI.new w1 0 [x0, x1] (by omega) (by simp)).reads
  have HB2 := Lib.hid (below_step HB1.out (below_alloc (Below.refl w1.heap.size w1) (.cells #[.int .i64 x0, .int .i64 x1] 3)))
  refine hK _ _ ⟨HB2.out, ?_⟩
  clear hK K
  refine wpO_step2 rfl rfl (HB2.out) (fun K hK => ?_)
  go_simp
  refine (or_any _ 2 2 [x0, x1] _ HRI.out).mono ?_
  rintro e w3 ⟨rfl, rfl⟩
  refine hK _ _ ⟨HB2.out, ?_⟩
  clear hK K
  iterate 1 (refine wpO_step0 rfl rfl (fun K hK => ?_); go_simp; refine hK _ _ ?_; clear hK K)
  refine wpO_nil ?_
  go_wp2
  go_ret
  rw [HE.out]
  exact ⟨rfl, below_step HBE.out HB2.out⟩
def betB (a b : Rte) : Bool := decide (0 < orI [cmpN a.f b.f, cmpN b.s a.s])
set_option maxHeartbeats 2000000 in
theorem better_any (a b : Rte) (w : World) (ha : a.fits) (hb : b.fits) : Calls Tryd.prog 51 #[.agg (rteV a), .agg (rteV b)] w fun e w' => e = .returned (.bool (betB a b)) ∧ Below w.heap.size w w' := by
  have hblk1 := blk_new w (.cells (rteV a) 51)
  have hbel1 : Below w.heap.size w (w.alloc (.cells (rteV a) 51)) := below_alloc (Below.refl _ _) _
  have hblk2 := blk_new (w.alloc (.cells (rteV a) 51)) (.cells (rteV b) 51)
  have hbel2 : Below w.heap.size w ((w.alloc (.cells (rteV a) 51)).alloc (.cells (rteV b) 51)) := below_alloc (hbel1) _
  rw [show (w.alloc (.cells (rteV a) 51)).heap.size = w.heap.size + 1 by simp] at hblk2
  replace hblk1 := blk_below hblk1 (below_alloc (Below.refl _ _) (.cells (rteV b) 51))
  have HP1 := Lib.hid (rte_at ha hblk1)
  have HBK1 := Lib.hid hblk1
  have HP2 := Lib.hid (rte_at hb hblk2)
  have HBK2 := Lib.hid hblk2
  have HBE := Lib.hid hbel2
  obtain ⟨cs1, hcs1⟩ : ∃ cs, rteV a = cs := ⟨_, rfl⟩
  obtain ⟨cs2, hcs2⟩ : ∃ cs, rteV b = cs := ⟨_, rfl⟩
  simp only [hcs1, hcs2] at HBE HP1 HP2 HBK1 HBK2 ⊢
  have HC1 := Lib.hid hcs1
  have HC2 := Lib.hid hcs2
  clear hcs1 hblk1 hbel1 hcs2 hblk2 hbel2
  have HE := Lib.hid (show betB a b = decide (0 < orI [cmpN a.f b.f, cmpN b.s a.s]) from rfl)
  go_enter Tryd.func51, Tryd.ntmps51
  go_wp2_with fail
  refine wp_region_mix (fun w0 => Below ((w.alloc (.cells cs1 51)).alloc (.cells cs2 51)).heap.size ((w.alloc (.cells cs1 51)).alloc (.cells cs2 51)) w0) [(0, 0), (1, 0), (2, 0), (3, 0), (5, 0), (6, 0), (7, 0), (8, 0), (4, 2), (9, 2), (10, 2), (11, 2), (12, 0), (13, 0)] (by kernel_rfl) (by kernel_rfl) (below_drew1 _) ?_
  simp only [List.map_cons, List.map_nil]
  iterate 1 (refine wpO_step0 rfl rfl (fun K hK => ?_); go_simp; refine hK _ _ ?_; clear hK K)
  refine wpO_loadW (t := 3) (ad := ⟨w.heap.size, 19, none⟩) rfl rfl ?hw rfl rfl ((fun w0 hS => (HP1.out.all w0 hS).prf)) ?_
  case hw => go_simp
  iterate 1 (refine wpO_step0 rfl rfl (fun K hK => ?_); go_simp; refine hK _ _ ?_; clear hK K)
  refine wpO_loadW (t := 3) (ad := ⟨(w.heap.size+1), 19, none⟩) rfl rfl ?hw rfl rfl ((fun w0 hS => (HP2.out.all w0 hS).prf)) ?_
  case hw => go_simp
  iterate 1 (refine wpO_step0 rfl rfl (fun K hK => ?_); go_simp; refine hK _ _ ?_; clear hK K)
  refine wpO_loadW (t := 3) (ad := ⟨(w.heap.size+1), 18, none⟩) rfl rfl ?hw rfl rfl ((fun w0 hS => (HP2.out.all w0 hS).src)) ?_
  case hw => go_simp
  iterate 1 (refine wpO_step0 rfl rfl (fun K hK => ?_); go_simp; refine hK _ _ ?_; clear hK K)
  refine wpO_loadW (t := 3) (ad := ⟨w.heap.size, 18, none⟩) rfl rfl ?hw rfl rfl ((fun w0 hS => (HP1.out.all w0 hS).src)) ?_
  case hw => go_simp
  refine wpO_step2 rfl rfl (below_drew1 _) (fun K hK => ?_)
  go_simp
  refine (cmpint_any a.f b.f _).mono ?_
  rintro e w2 ⟨rfl, rfl⟩
  refine hK _ _ ⟨below_drew1 _, ?_⟩
  clear hK K
  refine wpO_step2 rfl rfl (below_drew1 _) (fun K hK => ?_)
  go_simp
  refine (cmpint_any b.s a.s _).mono ?_
  rintro e w2 ⟨rfl, rfl⟩
  refine hK _ _ ⟨below_drew1 _, ?_⟩
  clear hK K
  obtain ⟨x0, h0⟩ : ∃ x, cmpN a.f b.f = x := ⟨_, rfl⟩
  obtain ⟨x1, h1⟩ : ∃ x, cmpN b.s a.s = x := ⟨_, rfl⟩
  rw [h0, h1] at HE
  rw [h0, h1]
  clear h0 h1
  obtain ⟨W1, hW1⟩ : ∃ W1, ((w.alloc (.cells cs1 51)).alloc (.cells cs2 51)).drew = W1 := ⟨_, rfl⟩
  have HB1 : Hid (Below ((w.alloc (.cells cs1 51)).alloc (.cells cs2 51)).heap.size ((w.alloc (.cells cs1 51)).alloc (.cells cs2 51)) W1) := Lib.hid (hW1 ▸ below_drew1 _)
  rw [hW1]
  clear hW1
  refine wpO_step2 rfl rfl (HB1.out) (fun K hK => ?_)
  go_simp
  have HRI := Lib.hid (OI.new W1 0 [x0, x1] (by omega) (by simp)).reads
  have HB2 := Lib.hid (below_step HB1.out (below_alloc (Below.refl W1.heap.size W1) (.cells #[.int .i64 x0, .int .i64 x1] 3)))
  refine hK _ _ ⟨HB2.out, ?_⟩
  clear hK K
  refine wpO_step2 rfl rfl (HB2.out) (fun K hK => ?_)
  go_simp
  refine (or_any _ 2 2 [x0, x1] _ HRI.out).mono ?_
  rintro e w3 ⟨rfl, rfl⟩
  refine hK _ _ ⟨HB2.out, ?_⟩
  clear hK K
  iterate 1 (refine wpO_step0 rfl rfl (fun K hK => ?_); go_simp; refine hK _ _ ?_; clear hK K)
  iterate 1 (refine wpO_step0 rfl rfl (fun K hK => ?_); go_simp; refine hK _ _ ?_; clear hK K)
  refine wpO_nil ?_
  go_wp2
  go_ret
  rw [HE.out]
  exact ⟨rfl, below_step HBE.out HB2.out⟩
def beats (y x : Rte) : Bool := y.p.eqB x.p && betB y x
set_option maxHeartbeats 2000000 in
theorem best1_any (y x : Rte) (g : Nat) (w : World) (hyo : y.ok) (hxo : x.ok) (hg : RteAt w g x) : Calls Tryd.prog 50 #[.agg (rteV y), .pointer (some ⟨g, 0, none⟩)] w fun e w' => e = .returned (.bool (beats y x)) ∧ Below w.heap.size w w' := by
  have hy := hyo.fits
  have hblk1 := blk_new w (.cells (rteV y) 51)
  have hbel1 : Below w.heap.size w (w.alloc (.cells (rteV y) 51)) := below_alloc (Below.refl _ _) _
  have HP1 := Lib.hid (rte_at hy hblk1)
  have HBK1 := Lib.hid hblk1
  have HBE := Lib.hid hbel1
  obtain ⟨cs1, hcs1⟩ : ∃ cs, rteV y = cs := ⟨_, rfl⟩
  simp only [hcs1] at HBE HP1 HBK1 ⊢
  have HC1 := Lib.hid hcs1
  clear hcs1 hblk1 hbel1
  have HG := Lib.hid (hg.all _ HBE.out)
  have HLD := Lib.hid (HP1.out.all _ (Below.refl _ _))
  clear hg
  go_enter Tryd.func50, Tryd.ntmps50
  cases h0 : y.p.eqB x.p with
  | false =>
    have HV : Hid (beats y x = false) := Lib.hid (by unfold beats; rw [h0]; rfl)
    have HEX := Lib.hid (pfx_eq_hex hyo.p hxo.p h0)
    clear h0
    go_wp2_with (first | ((with_reducible show wpList _ _ _ (Oper.mk _ (Op.load _ _) _ _ _ _ :: _) _ _); refine wpList_load_g (HLD.out.pfx) _ rfl rfl (by go_simp) ?_) | ((with_reducible show wpList _ _ _ (Oper.mk _ (Op.load _ _) _ _ _ _ :: _) _ _); refine wpList_load_g (HG.out.pfx) _ rfl rfl (by go_simp) ?_) | ((with_reducible show wpList _ _ _ (Oper.mk _ (Op.binOp _ _ _ _ _) _ _ _ _ :: _) _ _); refine wpList_exw rfl (HEX.out _ _ _ _ _ rfl rfl rfl _) ?_))
    go_ret
    rw [HV.out]
    exact ⟨rfl, HBE.out⟩
  | true =>
    have HV : Hid (beats y x = betB y x) := Lib.hid (by unfold beats; rw [h0]; rfl)
    have HEX := Lib.hid (pfx_eq_hex hyo.p hxo.p h0)
    clear h0
    go_wp2_with (first | ((with_reducible show wpList _ _ _ (Oper.mk _ (Op.load _ _) _ _ _ _ :: _) _ _); refine wpList_load_g (HLD.out.pfx) _ rfl rfl (by go_simp) ?_) | ((with_reducible show wpList _ _ _ (Oper.mk _ (Op.load _ _) _ _ _ _ :: _) _ _); refine wpList_load_g (HG.out.pfx) _ rfl rfl (by go_simp) ?_) | ((with_reducible show wpList _ _ _ (Oper.mk _ (Op.load _ _) _ _ _ _ :: _) _ _); refine wpList_load_g (HLD.out.all) _ rfl rfl (by go_simp) ?_) | ((with_reducible show wpList _ _ _ (Oper.mk _ (Op.load _ _) _ _ _ _ :: _) _ _); refine wpList_load_g (HG.out.all) _ rfl rfl (by go_simp) ?_) | ((with_reducible show wpList _ _ _ (Oper.mk _ (Op.binOp _ _ _ _ _) _ _ _ _ :: _) _ _); refine wpList_exw rfl (HEX.out _ _ _ _ _ rfl rfl rfl _) ?_))
    refine (better_any y x _ hy hxo.fits).mono ?_
    rintro e w1 ⟨rfl, hb1⟩
    have HB1 := Lib.hid (below_step HBE.out hb1)
    clear hb1
    go_wp2
    go_ret
    rw [HV.out]
    exact ⟨rfl, HB1.out⟩
end Go.Proofs.YtnpeedmicjeleaaDoor

/- Arguments that are RIBs and batches, opened. -/
namespace Go.Proofs.YtnpeedmicjeleaaDoor
open Go.ChangeShapes Go.WideShapes Go.ChangeAt Go.RowKit
set_option linter.unusedVariables false
set_option linter.unusedSimpArgs false
set_option maxRecDepth 4000
theorem parts4 {α : Type} (l : List α) (a : Nat) : l = l.take a ++ ((l.drop a).take 1 ++ ((l.drop (a + 1)).take 1 ++ l.drop (a + 2))) := by
  have h1 : l.drop a = (l.drop a).take 1 ++ l.drop (a + 1) := by
    conv => lhs; rw [← List.take_append_drop 1 (l.drop a)]
    rw [List.drop_drop]
  have h2 : l.drop (a + 1) = (l.drop (a + 1)).take 1 ++ l.drop (a + 2) := by
    conv => lhs; rw [← List.take_append_drop 1 (l.drop (a + 1))]
    rw [List.drop_drop]
  rw [← h2, ← h1, List.take_append_drop]
section
variable {H : Type} {enc : TypeId × Value → H} {W : World} {base : Nat} {spare : Nat → Bool} {held : Bool}
theorem open_rte_cells {fuel : Nat} {cs : List Value} {x : DataW H × List MemPlace} (h : DataW.trod enc Tryd.prog W base spare held fuel 51 cs = some x) : ∃ r : Rte, cs = rteC r ∧ r.ok := by
  obtain ⟨xs, m, -, -, hlen, hxl, hg⟩ := DataW.trod_struct Tryd.underlying51 h
  have c1 : Tryd.prog.cellsOf 3 = 1 := by kernel_rfl
  have c2 : Tryd.prog.cellsOf 49 = 18 := by kernel_rfl
  have c3 : Tryd.prog.cellsOf 51 = 21 := by kernel_rfl
  have h0 : DataW.trod enc Tryd.prog W base spare held m 49 ((cs.drop 0).take (Tryd.prog.cellsOf 49)) = xs[0]? := hg 0 _ rfl
  have h1 : DataW.trod enc Tryd.prog W base spare held m 3 ((cs.drop 18).take (Tryd.prog.cellsOf 3)) = xs[1]? := hg 1 _ rfl
  have h2 : DataW.trod enc Tryd.prog W base spare held m 3 ((cs.drop 19).take (Tryd.prog.cellsOf 3)) = xs[2]? := hg 2 _ rfl
  have h3 : DataW.trod enc Tryd.prog W base spare held m 3 ((cs.drop 20).take (Tryd.prog.cellsOf 3)) = xs[3]? := hg 3 _ rfl
  rw [c3] at hlen
  rw [c2, List.drop_zero] at h0
  rw [c1] at h1 h2 h3
  have hx4 : xs.length = 4 := hxl
  match xs, hx4 with
  | [x0, x1, x2, x3], _ =>
    obtain ⟨v, l, b, hvl, hb, hw, hwb⟩ := open_pfx_cells (show DataW.trod enc Tryd.prog W base spare held m 49 (cs.take 18) = some x0 from h0)
    obtain ⟨s1, hv1, -, hw1⟩ := DataW.trod_int Tryd.underlying3 (show DataW.trod enc Tryd.prog W base spare held m 3 ((cs.drop 18).take 1) = some x1 from h1)
    obtain ⟨s2, hv2, -, hw2⟩ := DataW.trod_int Tryd.underlying3 (show DataW.trod enc Tryd.prog W base spare held m 3 ((cs.drop 19).take 1) = some x2 from h2)
    obtain ⟨s3, hv3, -, hw3⟩ := DataW.trod_int Tryd.underlying3 (show DataW.trod enc Tryd.prog W base spare held m 3 ((cs.drop 20).take 1) = some x3 from h3)
    rw [List.take_of_length_le (by rw [List.length_drop]; omega)] at hv3
    refine ⟨⟨⟨v, l, b⟩, s1, s2, s3⟩, ?_, ⟨hb, hw, hwb⟩, hw1, hw2, hw3⟩
    rw [parts4 cs 18, hvl, hv1, hv2, hv3]
    rw [show rteC ⟨⟨v, l, b⟩, s1, s2, s3⟩ = (pfxV v l b).toList ++ [.int .i64 s1, .int .i64 s2, .int .i64 s3] from rfl, pfxV_list]
    simp
theorem open_rib_cells {fuel : Nat} {cs : List Value} {x : DataW H × List MemPlace} (h : DataW.trod enc Tryd.prog W base spare held fuel 24 cs = some x) (hl : Light Tryd.prog 24 x.1) : ∃ A n c t, cs = [.slice A n c] ∧ RS rteK W A n c t ∧ (∀ a ∈ t, a.ok) ∧ n * 56 ≤ 140737488351232 := by
  obtain ⟨xs, m, -, hx, hlen, hxl, hg⟩ := DataW.trod_struct Tryd.underlying24 h
  have c1 : Tryd.prog.cellsOf 22 = 1 := by kernel_rfl
  have c3 : Tryd.prog.cellsOf 24 = 1 := by kernel_rfl
  have h0 : DataW.trod enc Tryd.prog W base spare held m 22 ((cs.drop 0).take (Tryd.prog.cellsOf 22)) = xs[0]? := hg 0 _ rfl
  rw [c3] at hlen
  rw [c1, List.drop_zero, List.take_of_length_le (by omega)] at h0
  have hx1 : xs.length = 1 := hxl
  subst hx
  match xs, hx1 with
  | [x0], _ =>
    have hl0 : Light Tryd.prog 22 x0.1 := light_field Tryd.underlying24 hl (i := 0) (f := _) rfl rfl
    obtain ⟨A, n, c, t, e1, e2, e3, e4⟩ := open_shp rteK Rte.ok (by show Tryd.prog.cellsOf 51 = 21; kernel_rfl) (by show 0 < Tryd.prog.bytesOf 51; exact of_decide_eq_true (by kernel_rfl)) (fun fuel cs y hy _ => by
      obtain ⟨r, e, hr⟩ := open_rte_cells hy
      exact ⟨r, e, hr.fits, hr⟩) (show DataW.trod enc Tryd.prog W base spare held m 22 cs = some x0 from h0) hl0
    refine ⟨A, n, c, t, e1, e2, e3, ?_⟩
    have hb : Tryd.prog.bytesOf (rteK).t = 56 := by show Tryd.prog.bytesOf 51 = 56; kernel_rfl
    rw [hb] at e4
    exact e4
end
theorem open_rib {H : Type} {enc : TypeId × Value → H} {W : World} {base b0 : Nat} {spare : Nat → Bool} {held : Bool} {v : Value} {d : DataW H} {p : List MemPlace} (hv : Value.okWide Tryd.prog W .any b0 24 v)
    (h : DataW.Trod enc Tryd.prog W base spare held 24 v d p) (hl : Light Tryd.prog 24 d) : ∃ A n c t, v = .agg (tabV A n c) ∧ RS rteK W A n c t ∧ (∀ a ∈ t, a.ok) ∧ n * 56 ≤ 140737488351232 := by
  obtain ⟨cs, rfl, -⟩ := okWide_struct Tryd.underlying24 hv
  obtain ⟨fuel, hf⟩ := h
  obtain ⟨A, n, c, t, hc, h1, h2, h3⟩ := open_rib_cells hf hl
  refine ⟨A, n, c, t, ?_, h1, h2, h3⟩
  have : cs = tabV A n c := by
    apply Array.toList_inj.1
    exact hc
  rw [this]
end Go.Proofs.YtnpeedmicjeleaaDoor

/- Layer 9 (table): Get, Drop. -/
namespace Go.Proofs.YtnpeedmicjeleaaDoor
open Go.RowKit
set_option linter.unusedVariables false
set_option linter.unusedSimpArgs false
set_option maxRecDepth 4000
theorem load_tab {w : World} {g : Nat} {A : Option Addr} {n c : Nat} (h : w.heap[g]? = some (.cells (tabV A n c) 39 (0, 0))) : (Instr.loadAt 39 (.pointer (some ⟨g, 0, none⟩))).run Tryd.prog w = .ok (.agg (tabV A n c)) w := ((tab_at h).all w (Below.refl _ _)).1
theorem run_build_tab_nil (w : World) : (Instr.build 39 #[]).run Tryd.prog w = .ok (.agg (tabV none 0 0)) w := run_build w _ _ _ (by kernel_rfl)
theorem run_build_tab (w : World) (A : Option Addr) (n c : Nat) : (Instr.build 39 #[(0, .slice A n c)]).run Tryd.prog w = .ok (.agg (tabV A n c)) w := run_build w _ _ _ (by kernel_rfl)
theorem info_tab (A : Option Addr) (n c : Nat) : (Tryd.prog.info? 39).map (·.size) = some (tabV A n c).size := by show _ = some 1; kernel_rfl
theorem errT_true {t : List Row} (h : tabB t = true) : errT t = 0 := by unfold errT; rw [h]; rfl
theorem errT_false {t : List Row} (h : tabB t = false) : errT t = 190 := by unfold errT; rw [h]; rfl
/-- What Get tells. -/
def tgetN (t : List Row) (p : Pfx) : Int := if tabB t then getT t p else 0
def tgetB (t : List Row) (p : Pfx) : Bool := tabB t && thereB t p
theorem lowN_lt {t : List Row} {p : Pfx} (h : thereB t p = true) : lowN t p < t.length := by
  unfold thereB at h
  cases hx : t[lowN t p]? with
  | none => rw [hx] at h; cases h
  | some x => exact (List.getElem?_eq_some_iff.1 hx).1
set_option maxHeartbeats 1000000 in
theorem tget_any (A : Option Addr) (n c : Nat) (t : List Row) (p : Pfx) (w : World) (hL : Laid w) (ht : RT w A n c t) (hp : B16 p.l) (hn : n ≤ 100000) : Calls Tryd.prog 20 #[.agg (tabV A n c), .agg (pfxV p.v p.l p.b)] w fun e w' => e = .returned (.tuple #[.int .i64 (tgetN t p), .bool (tgetB t p)]) ∧ Below w.heap.size w w' := by
  have hblk1 := blk_new w (.cells (tabV A n c) 39)
  have hbel1 : Below w.heap.size w (w.alloc (.cells (tabV A n c) 39)) := below_alloc (Below.refl _ _) _
  have hblk2 := blk_new (w.alloc (.cells (tabV A n c) 39)) (.cells (pfxV p.v p.l p.b) 49)
  have hbel2 : Below w.heap.size w ((w.alloc (.cells (tabV A n c) 39)).alloc (.cells (pfxV p.v p.l p.b) 49)) := below_alloc (hbel1) _
  rw [show (w.alloc (.cells (tabV A n c) 39)).heap.size = w.heap.size + 1 by simp] at hblk2
  replace hblk1 := blk_below hblk1 (below_alloc (Below.refl _ _) (.cells (pfxV p.v p.l p.b) 49))
  have HP1 := Lib.hid (tab_at hblk1)
  have HBK1 := Lib.hid hblk1
  have HP2 := Lib.hid (pfx_at hp hblk2)
  have HBK2 := Lib.hid hblk2
  have HBE := Lib.hid hbel2
  have HL := Lib.hid (hL.below HBE.out)
  obtain ⟨cs1, hcs1⟩ : ∃ cs, tabV A n c = cs := ⟨_, rfl⟩
  obtain ⟨cs2, hcs2⟩ : ∃ cs, pfxV p.v p.l p.b = cs := ⟨_, rfl⟩
  simp only [hcs1, hcs2] at HBE HL HP1 HP2 HBK1 HBK2 ⊢
  have HC1 := Lib.hid hcs1
  have HC2 := Lib.hid hcs2
  clear hL hcs1 hblk1 hbel1 hcs2 hblk2 hbel2
  have HT := Lib.hid (ht.below HBE.out)
  have hl1 := (HP1.out.all _ (Below.refl _ _)).1
  rw [HC1.out] at hl1
  clear ht
  go_enter Tryd.func20, Tryd.ntmps20
  go_wp2_with (first | ((with_reducible show wpList _ _ _ (Oper.mk _ (Op.load _ _) _ _ _ _ :: _) _ _); refine wpList_load_g hl1 _ rfl rfl (by go_simp) ?_))
  have hch := tcheck_any A n c t _ HL.out HT.out hn
  rw [HC1.out] at hch
  refine hch.mono ?_
  clear hch
  rintro e w1 ⟨rfl, hbb1⟩
  have HB1 := Lib.hid hbb1
  clear hbb1 hl1
  cases hR : tabB t with
  | false =>
    have HE := Lib.hid (show tgetN t p = 0 ∧ tgetB t p = false by unfold tgetN tgetB; rw [hR]; exact ⟨rfl, rfl⟩)
    rw [errT_false hR]
    clear hR
    go_wp2
    go_ret2
    rw [HE.out.1, HE.out.2]
    exact ⟨rfl, below_step HBE.out HB1.out⟩
  | true =>
    have HUP := Lib.hid (tabB_to hR)
    have HE := Lib.hid (show tgetN t p = getT t p ∧ tgetB t p = thereB t p by unfold tgetN tgetB; rw [hR]; exact ⟨rfl, by simp⟩)
    rw [errT_true hR]
    clear hR
    have hl1 := (HP1.out.all w1 HB1.out).1
    have hl2 := (HP2.out.all w1 HB1.out).2.2.2.2
    rw [HC1.out] at hl1
    rw [HC2.out] at hl2
    go_wp2_with (first | ((with_reducible show wpList _ _ _ (Oper.mk _ (Op.load _ _) _ _ _ _ :: _) _ _); refine wpList_load_g hl1 _ rfl rfl (by go_simp) ?_) | ((with_reducible show wpList _ _ _ (Oper.mk _ (Op.load _ _) _ _ _ _ :: _) _ _); refine wpList_load_g hl2 _ rfl rfl (by go_simp) ?_))
    have hpl := place_any A n c t p w1 (HT.out.below HB1.out) HUP.out.2.2 hp (by have := HUP.out.1; rw [HT.out.len] at this; omega)
    rw [HC1.out, HC2.out] at hpl
    refine hpl.mono ?_
    clear hpl
    rintro e w2 ⟨rfl, hbb2⟩
    have HB2 := Lib.hid (below_step HB1.out hbb2)
    clear hbb2 hl1 hl2
    cases hth : thereB t p with
    | false =>
      have HG := Lib.hid (And.intro (getT_no hth) hth)
      clear hth
      go_wp2
      go_ret2
      rw [HE.out.1, HE.out.2, HG.out.1, HG.out.2]
      exact ⟨rfl, below_step HBE.out HB2.out⟩
    | true =>
      have hlt := lowN_lt hth
      rw [HT.out.len] at hlt
      have HG := Lib.hid (And.intro (show getT t p = (rowAt t (lowN t p)).h by unfold getT; rw [hth]; rfl) hth)
      clear hth
      obtain ⟨i, hi⟩ : ∃ i, lowN t p = i := ⟨_, rfl⟩
      rw [hi] at hlt HG ⊢
      have hlt' : (i : Int) < n := by omega
      obtain ⟨b, o, rfl, hc⟩ := RT.at_ HT.out (by omega)
      have hl3 := (HP1.out.all w2 HB2.out).2
      have hl4 := (rowLd_of (HT.out.fits_at hlt) ((hc i hlt).below HB2.out)).hop
      clear hc hi
      go_wp2_with (first | ((with_reducible show wpList _ _ _ (Oper.mk _ (Op.load _ _) _ _ _ _ :: _) _ _); refine wpList_load_g hl3 _ rfl rfl (by go_simp) ?_) | ((with_reducible show wpList _ _ _ (Oper.mk _ (Op.load _ _) _ _ _ _ :: _) _ _); refine wpList_load_g hl4 _ rfl rfl (by go_simp) ?_))
      go_ret2
      rw [HE.out.1, HE.out.2, HG.out.1, HG.out.2]
      exact ⟨rfl, below_step HBE.out HB2.out⟩
end Go.Proofs.YtnpeedmicjeleaaDoor

/- Layer 9 (table): Drop, Same, Set. -/
namespace Go.Proofs.YtnpeedmicjeleaaDoor
open Go.RowKit
set_option linter.unusedVariables false
set_option linter.unusedSimpArgs false
set_option maxRecDepth 4000
theorem blk_own {w w1 : World} {g : Nat} {o : Obj} {A : Option Addr} {n c : Nat} (h : w.heap[g]? = some o) (hg : w.grownBy w1 ((Value.slice A n c).ownBlock)) (ha : ∀ ad, A = some ad → g < ad.block) : w1.heap[g]? = some o :=
  blk_grown h hg (fun e => by
    cases A with
    | none => cases e
    | some ad =>
      have := ha ad rfl
      injection e with e
      subst e
      exact Nat.lt_irrefl _ this)
theorem tab_one (A : Option Addr) (n c : Nat) : (tabV A n c).all (·.oneCell') = true := by simp [tabV, Value.oneCell']
theorem splice_tab (A A2 : Option Addr) (n c n2 c2 : Nat) : splice (tabV A n c) 0 (tabV A2 n2 c2).toList = tabV A2 n2 c2 := splice_all _ _ rfl
end Go.Proofs.YtnpeedmicjeleaaDoor

/- Layer 9 (table): Set. -/
namespace Go.Proofs.YtnpeedmicjeleaaDoor
open Go.RowKit
set_option linter.unusedVariables false
set_option linter.unusedSimpArgs false
set_option maxRecDepth 4000
def setE (t : List Row) (p : Pfx) (h : Int) : Int := if tabB t then (if p.right = true ∧ 1 ≤ h ∧ h ≤ 255 then (if thereB t p = false ∧ t.length = 40 then 6 else 0) else 2) else 190
def setL (t : List Row) (p : Pfx) (h : Int) : List Row := if setE t p h = 0 then setT t p h else []
theorem there_eq {t : List Row} {p : Pfx} (hf : Fits t) (hp : B16 p.l) (h : thereB t p = true) : (rowAt t (lowN t p)).p = p := by
  have hlt := lowN_lt h
  unfold thereB at h
  rw [rowAt_get hlt] at h
  exact (Pfx.cmp_zero _ _ (hf.at_ hlt) hp).1 (by simpa using h)
theorem setT_there {t : List Row} {p : Pfx} {h : Int} (hf : Fits t) (hp : B16 p.l) (hth : thereB t p = true) : setT t p h = t.take (lowN t p) ++ ⟨(rowAt t (lowN t p)).p, h⟩ :: t.drop (lowN t p + 1) := by
  rw [there_eq hf hp hth]
  unfold setT
  rw [hth]
  rfl
theorem setT_new {t : List Row} {p : Pfx} {h : Int} (hth : thereB t p = false) : setT t p h = t.take (lowN t p) ++ ⟨p, h⟩ :: t.drop (lowN t p) := by
  unfold setT
  rw [hth]
  rfl
theorem row_patch (r : Row) (hf : r.fits) (h : Int) : rowC ⟨r.p, h⟩ = (rowC r).take 18 ++ Value.int .i64 h :: (rowC r).drop 19 := by
  have h1 := rowC_len hf
  have e : rowC r = (.int .i64 r.p.v :: (nums .u8 r.p.l ++ [.int .i64 r.p.b])) ++ [.int .i64 r.h] := by simp [rowC]
  have e2 : (Value.int .i64 r.p.v :: (nums .u8 r.p.l ++ [.int .i64 r.p.b])).length = 18 := by simp [nums, hf.len]
  rw [List.drop_eq_nil_of_le (by omega), e, List.take_left' e2]
  simp [rowC]
theorem hopB_iff (h : Int) : hopB h = true ↔ 1 ≤ h ∧ h ≤ 255 := by simp [hopB]
set_option maxHeartbeats 4000000 in
theorem tset_any (A : Option Addr) (n c : Nat) (t : List Row) (p : Pfx) (hp9 : Int) (w : World) (hL : Laid w) (ht : RT w A n c t) (hp : B16 p.l) (hn : n ≤ 10000) : Calls Tryd.prog 52 #[.agg (tabV A n c), .agg (pfxV p.v p.l p.b), .int .i64 hp9] w fun e w' => ∃ A' n' c', e = .returned (.tuple #[.agg (tabV A' n' c'), .int .i64 (setE t p hp9)]) ∧ OT w' w.heap.size A' n' c' (setL t p hp9) ∧ Below w.heap.size w w' := by
  have hblk1 := blk_new w (.cells (tabV A n c) 39)
  have hbel1 : Below w.heap.size w (w.alloc (.cells (tabV A n c) 39)) := below_alloc (Below.refl _ _) _
  have hblk2 := blk_new (w.alloc (.cells (tabV A n c) 39)) (.cells (pfxV p.v p.l p.b) 49)
  have hbel2 : Below w.heap.size w ((w.alloc (.cells (tabV A n c) 39)).alloc (.cells (pfxV p.v p.l p.b) 49)) := below_alloc (hbel1) _
  rw [show (w.alloc (.cells (tabV A n c) 39)).heap.size = w.heap.size + 1 by simp] at hblk2
  replace hblk1 := blk_below hblk1 (below_alloc (Below.refl _ _) (.cells (pfxV p.v p.l p.b) 49))
  have HP1 := Lib.hid (tab_at hblk1)
  have HBK1 := Lib.hid hblk1
  have HP2 := Lib.hid (pfx_at hp hblk2)
  have HBK2 := Lib.hid hblk2
  have HBE := Lib.hid hbel2
  have HL := Lib.hid (hL.below HBE.out)
  obtain ⟨cs1, hcs1⟩ : ∃ cs, tabV A n c = cs := ⟨_, rfl⟩
  obtain ⟨cs2, hcs2⟩ : ∃ cs, pfxV p.v p.l p.b = cs := ⟨_, rfl⟩
  simp only [hcs1, hcs2] at HBE HL HP1 HP2 HBK1 HBK2 ⊢
  have HC1 := Lib.hid hcs1
  have HC2 := Lib.hid hcs2
  clear hL hcs1 hblk1 hbel1 hcs2 hblk2 hbel2
  have HT := Lib.hid (ht.below HBE.out)
  have hsz2 : ((w.alloc (.cells cs1 39)).alloc (.cells cs2 49)).heap.size = w.heap.size + 2 := by simp
  have hz := blk_new ((w.alloc (.cells cs1 39)).alloc (.cells cs2 49)) (.cells (tabV none 0 0) 39)
  rw [hsz2] at hz
  have HZ := Lib.hid hz
  have hl1 := (HP1.out.all _ (below_alloc (Below.refl _ _) (.cells (tabV none 0 0) 39))).1
  rw [HC1.out] at hl1
  have hbn := run_build_tab_nil
  clear ht hz hsz2
  go_enter Tryd.func52, Tryd.ntmps52
  go_wp2_with (first | ((with_reducible show wpList _ _ _ (Oper.mk _ (Op.load _ _) _ _ _ _ :: _) _ _); refine wpList_load_g hl1 _ rfl rfl (by go_simp) ?_))
  have hch := tcheck_any A n c t _ (HL.out.below (below_alloc (Below.refl _ _) (.cells (tabV none 0 0) 39))) (HT.out.below (below_alloc (Below.refl _ _) _)) (by omega)
  rw [HC1.out] at hch
  refine hch.mono ?_
  clear hch
  rintro e w1 ⟨rfl, hbb1⟩
  have HZ1 := Lib.hid (blk_below HZ.out hbb1)
  have HB1 := Lib.hid (below_step (below_alloc (Below.refl _ _) (.cells (tabV none 0 0) 39)) hbb1)
  clear hbb1 hl1 HZ
  cases hR : tabB t with
  | false =>
    have HE := Lib.hid (show setE t p hp9 = 190 ∧ setL t p hp9 = [] by unfold setL setE; rw [hR]; exact ⟨rfl, rfl⟩)
    rw [errT_false hR]
    clear hR
    go_wp2_with (first | ((with_reducible show wpList _ _ _ (Oper.mk _ (Op.store _ _ _) _ _ _ _ :: _) _ _); refine wpList_store_blk HZ1.out 39 0 (tabV none 0 0) (Nat.le_refl _) (info_tab _ _ _) (tab_one _ _ _) _ _ rfl rfl rfl rfl ?_; intro w2 hg9 hs9 hb9; rw [splice_tab] at hb9; have H2 := Lib.hid (And.intro hg9 hb9); clear hg9 hs9 hb9))
    have hld := load_tab H2.out.2
    refine bodyPost_ret (results_c2 rfl rfl hld) rfl ?_
    rw [HE.out.1, HE.out.2]
    exact ⟨_, _, _, rfl, OS.nil _ _ _, below_grown (below_step HBE.out HB1.out) H2.out.1 (by omega)⟩
  | true =>
    have HUP := Lib.hid (tabB_to hR)
    have HR := Lib.hid hR
    rw [errT_true hR]
    clear hR
    have hl2 := (HP2.out.all w1 HB1.out).2.2.2.2
    rw [HC2.out] at hl2
    go_wp2_with (first | ((with_reducible show wpList _ _ _ (Oper.mk _ (Op.load _ _) _ _ _ _ :: _) _ _); refine wpList_load_g hl2 _ rfl rfl (by go_simp) ?_))
    have hch := check_any p.v p.l p.b w1 (HL.out.below HB1.out) hp
    rw [HC2.out] at hch
    refine hch.mono ?_
    clear hch
    rintro e w2 ⟨rfl, hbb2⟩
    have HZ2 := Lib.hid (blk_below HZ1.out hbb2)
    have HB2 := Lib.hid (below_step HB1.out hbb2)
    clear hbb2 hl2 HZ1 HB1
    cases hpr : rightP p.v p.l p.b with
    | false =>
      have HE := Lib.hid (show setE t p hp9 = 2 ∧ setL t p hp9 = [] by
        have : p.right = false := hpr
        unfold setL setE
        rw [HR.out, this]
        exact ⟨rfl, rfl⟩)
      rw [errP_false hpr]
      clear hpr
      go_wp2_with (first | ((with_reducible show wpList _ _ _ (Oper.mk _ (Op.store _ _ _) _ _ _ _ :: _) _ _); refine wpList_store_blk HZ2.out 39 0 (tabV none 0 0) (Nat.le_refl _) (info_tab _ _ _) (tab_one _ _ _) _ _ rfl rfl rfl rfl ?_; intro w3 hg9 hs9 hb9; rw [splice_tab] at hb9; have H3 := Lib.hid (And.intro hg9 hb9); clear hg9 hs9 hb9))
      have hld := load_tab H3.out.2
      refine bodyPost_ret (results_c2 rfl rfl hld) rfl ?_
      rw [HE.out.1, HE.out.2]
      exact ⟨_, _, _, rfl, OS.nil _ _ _, below_grown (below_step HBE.out HB2.out) H3.out.1 (by omega)⟩
    | true =>
      have HPR := Lib.hid (show p.right = true from hpr)
      rw [errP_true hpr]
      clear hpr
      go_wp2_with fail
      refine (hop_any hp9 w2).mono ?_
      rintro e w2' ⟨rfl, rfl⟩
      cases hho : hopB hp9 with
      | false =>
        have HE := Lib.hid (show setE t p hp9 = 2 ∧ setL t p hp9 = [] by
          have h2 : ¬ (1 ≤ hp9 ∧ hp9 ≤ 255) := fun h => by rw [(hopB_iff hp9).2 h] at hho; cases hho
          have h3 : setE t p hp9 = 2 := by unfold setE; rw [HR.out, if_pos rfl, if_neg (fun h => h2 h.2)]
          unfold setL
          rw [h3]
          exact ⟨rfl, rfl⟩)
        clear hho
        go_wp2_with (first | ((with_reducible show wpList _ _ _ (Oper.mk _ (Op.store _ _ _) _ _ _ _ :: _) _ _); refine wpList_store_blk HZ2.out 39 0 (tabV none 0 0) (Nat.le_refl _) (info_tab _ _ _) (tab_one _ _ _) _ _ rfl rfl rfl rfl ?_; intro w3 hg9 hs9 hb9; rw [splice_tab] at hb9; have H3 := Lib.hid (And.intro hg9 hb9); clear hg9 hs9 hb9))
        have hld := load_tab H3.out.2
        refine bodyPost_ret (results_c2 rfl rfl hld) rfl ?_
        rw [HE.out.1, HE.out.2]
        exact ⟨_, _, _, rfl, OS.nil _ _ _, below_grown (below_step HBE.out HB2.out) H3.out.1 (by omega)⟩
      | true =>
        have HHO := Lib.hid ((hopB_iff hp9).1 hho)
        clear hho
        have hl1 := (HP1.out.all w2 HB2.out).1
        have hl2 := (HP2.out.all w2 HB2.out).2.2.2.2
        rw [HC1.out] at hl1
        rw [HC2.out] at hl2
        go_wp2_with (first | ((with_reducible show wpList _ _ _ (Oper.mk _ (Op.load _ _) _ _ _ _ :: _) _ _); refine wpList_load_g hl1 _ rfl rfl (by go_simp) ?_) | ((with_reducible show wpList _ _ _ (Oper.mk _ (Op.load _ _) _ _ _ _ :: _) _ _); refine wpList_load_g hl2 _ rfl rfl (by go_simp) ?_))
        have hpl := place_any A n c t p w2 (HT.out.below HB2.out) HUP.out.2.2 hp (by have := HUP.out.1; rw [HT.out.len] at this; omega)
        rw [HC1.out, HC2.out] at hpl
        refine hpl.mono ?_
        clear hpl
        rintro e w3 ⟨rfl, hbb3⟩
        have HZ3 := Lib.hid (blk_below HZ2.out hbb3)
        have HB3 := Lib.hid (below_step HB2.out hbb3)
        have hlow : lowN t p ≤ n := by rw [← HT.out.len]; exact lowN_le t p
        have HTH := Lib.hid (@setT_there t p hp9 HT.out.fits hp)
        have HNEW := Lib.hid (@setT_new t p hp9)
        have hst : setE t p hp9 = if thereB t p = false ∧ n = 40 then 6 else 0 := by
          unfold setE
          rw [HR.out, if_pos rfl, if_pos ⟨HPR.out, HHO.out⟩, HT.out.len]
        have HST := Lib.hid hst
        have HLT := Lib.hid (@lowN_lt t p)
        have hl3 := (HP1.out.all w3 HB3.out).2
        obtain ⟨i, hi⟩ : ∃ i, lowN t p = i := ⟨_, rfl⟩
        obtain ⟨th, hth⟩ : ∃ th, thereB t p = th := ⟨_, rfl⟩
        rw [hi] at hlow HTH HNEW HLT ⊢
        rw [hth] at HTH HNEW HST HLT ⊢
        clear hbb3 hl1 hl2 HZ2 HB2 hst hi hth
        go_wp2_with (first | ((with_reducible show wpList _ _ _ (Oper.mk _ (Op.load _ _) _ _ _ _ :: _) _ _); refine wpList_load_g hl3 _ rfl rfl (by go_simp) ?_))
        refine (cloneR_any A n c t w3 (HT.out.below HB3.out) (by omega)).mono ?_
        rintro e w4 ⟨A1, c1, rfl, hO4, hbb4⟩
        have HO4 := Lib.hid hO4
        have HZ4 := Lib.hid (blk_below HZ3.out hbb4)
        have HB4 := Lib.hid (below_step HB3.out hbb4)
        have hsz34 := hbb4.size
        have hzlt := blk_lt HZ3.out
        have hzn := blk_new w4 (.cells (tabV none 0 0) 39)
        have hbt := fun w => run_build_tab w A1 n c1
        clear hO4 hbb4 hl3 HZ3 HB3
        go_upto_if 45 with (first | ((with_reducible show wpList _ _ _ (Oper.mk _ (Op.store _ _ _) _ _ _ _ :: _) _ _); refine wpList_store_blk hzn 39 0 (tabV A1 n c1) (Nat.le_refl _) (info_tab _ _ _) (tab_one _ _ _) _ _ rfl rfl rfl rfl ?_; intro w5 hg9 hs9 hb9; rw [splice_tab] at hb9; have H5 := Lib.hid (And.intro hg9 hb9); clear hg9 hs9 hb9))
        have hsz5 := H5.out.1.size
        have hA1 := HO4.out.lt
        have hA1b := HO4.out.base_
        have hb4a : Below w4.heap.size w4 (w4.alloc (.cells (tabV none 0 0) 39)) := below_alloc (Below.refl _ _) _
        simp at hsz5
        have HO5 := Lib.hid ((HO4.out.below hb4a).grown H5.out.1 (fun ad e => by have := hA1 ad e; intro h; injection h with h; omega))
        have HZ5 := Lib.hid (blk_grown (blk_below HZ4.out hb4a) H5.out.1 (fun e => by injection e with e; omega))
        have HB5 := Lib.hid (below_grown (below_step HBE.out (below_step HB4.out hb4a)) H5.out.1 (by have := (below_step HBE.out HB4.out).size; omega))
        have hl5 := ((tab_at H5.out.2).all w5 (Below.refl _ _)).2
        clear hzn hbt
        cases th with
        | true =>
          have hlt := HLT.out rfl
          rw [HT.out.len] at hlt
          have hlt' : (i : Int) < n := by omega
          have HE := Lib.hid (show setE t p hp9 = 0 ∧ setL t p hp9 = t.take i ++ ⟨(rowAt t i).p, hp9⟩ :: t.drop (i + 1) by
            have h1 : setE t p hp9 = 0 := by rw [HST.out, if_neg (by simp)]
            unfold setL
            rw [h1, if_pos rfl]
            exact ⟨rfl, HTH.out rfl⟩)
          obtain ⟨ad1, rfl⟩ : ∃ ad, A1 = some ad := by
            cases A1 with
            | none => have := HO5.out.ov.bare rfl; have := HO5.out.cap; omega
            | some ad => exact ⟨ad, rfl⟩
          have hsp : ad1.spot = none := (HO5.out.ov.form _ rfl).2.1
          obtain ⟨b1, o1, s1⟩ := ad1
          simp only at hsp
          subst hsp
          obtain ⟨⟨u, hu⟩, hfz, hO6⟩ := HO5.out.patch hlt ⟨(rowAt t i).p, hp9⟩ (RS.fits_at HT.out hlt) 18 (.int .i64 hp9) (by show 18 < 19; omega) (row_patch _ (RS.fits_at HT.out hlt) hp9)
          have hbl := hA1 _ rfl
          have hbb := hA1b _ rfl
          simp only at hbl hbb
          have hof : o1 + (i * 19 + 18) = o1 + i * 19 + 18 := by omega
          have hu2 : w5.cell? ⟨b1, o1 + i * 19 + 18, none⟩ = some u := by rw [← hof]; exact hu
          have hfz2 : w5.frozen? ⟨b1, o1 + i * 19 + 18, none⟩ = false := by rw [← hof]; exact hfz
          replace hO6 : OS rowK (w5.setCell ⟨b1, o1 + i * 19 + 18, none⟩ (.int .i64 hp9)) w3.heap.size (some ⟨b1, o1, none⟩) n c1 (t.take i ++ ⟨(rowAt t i).p, hp9⟩ :: t.drop (i + 1)) := by rw [← hof]; exact hO6
          clear hu hfz hof
          have HU := Lib.hid hO6
          have hg6 := grown_setCell w5 ⟨b1, o1 + i * 19 + 18, none⟩ (.int .i64 hp9)
          have hl6 := load_tab (blk_grown H5.out.2 hg6 (fun e => by injection e with e; simp only at e; omega))
          have HZ6 := Lib.hid (blk_grown HZ5.out hg6 (fun e => by injection e with e; simp only at e; omega))
          have HB6 := Lib.hid (below_grown HB5.out hg6 (by simp only; have := (below_step HBE.out HB4.out).size; omega))
          clear hO6 hg6
          go_wp2_with (first | ((with_reducible show wpList _ _ _ (Oper.mk _ (Op.load _ _) _ _ _ _ :: _) _ _); refine wpList_load_g hl5 _ rfl rfl (by go_simp) ?_) | ((with_reducible show wpList _ _ _ (Oper.mk _ (Op.load _ _) _ _ _ _ :: _) _ _); refine wpList_load_g hl6 _ rfl rfl (by go_simp) ?_) | ((with_reducible show wpList _ _ _ (Oper.mk _ (Op.store _ _ _) _ _ _ _ :: _) _ _); refine wpList_store_blk HZ6.out 39 0 (tabV (some ⟨b1, o1, none⟩) n c1) (Nat.le_refl _) (info_tab _ _ _) (tab_one _ _ _) _ _ rfl rfl rfl rfl ?_; intro w7 hg9 hs9 hb9; rw [splice_tab] at hb9; have H7 := Lib.hid (And.intro hg9 hb9); clear hg9 hs9 hb9))
          have hld := load_tab H7.out.2
          refine bodyPost_ret (results_c2 rfl rfl hld) rfl ?_
          rw [HE.out.1, HE.out.2]
          refine ⟨_, _, _, rfl, (HU.out.grown H7.out.1 (fun ad e h => ?_)).lower (by omega), below_grown HB6.out H7.out.1 (by omega)⟩
          injection e with e
          subst e
          injection h with h
          simp only at h
          omega
        | false =>
          by_cases h40 : n = 40
          · have HE := Lib.hid (show setE t p hp9 = 6 ∧ setL t p hp9 = [] by
              have h1 : setE t p hp9 = 6 := by rw [HST.out, if_pos ⟨rfl, h40⟩]
              unfold setL
              rw [h1]
              exact ⟨rfl, rfl⟩)
            have h40' : ((n : Int) == 40) = true := by simp; omega
            have hl6 := (HP1.out.all w5 (below_grown (below_step HB4.out hb4a) H5.out.1 HB4.out.size)).2
            clear h40
            go_wp2_with (first | ((with_reducible show wpList _ _ _ (Oper.mk _ (Op.load _ _) _ _ _ _ :: _) _ _); refine wpList_load_g hl6 _ rfl rfl (by go_simp) ?_) | ((with_reducible show wpList _ _ _ (Oper.mk _ (Op.store _ _ _) _ _ _ _ :: _) _ _); refine wpList_store_blk HZ5.out 39 0 (tabV none 0 0) (Nat.le_refl _) (info_tab _ _ _) (tab_one _ _ _) _ _ rfl rfl rfl rfl ?_; intro w7 hg9 hs9 hb9; rw [splice_tab] at hb9; have H7 := Lib.hid (And.intro hg9 hb9); clear hg9 hs9 hb9))
            have hld := load_tab H7.out.2
            refine bodyPost_ret (results_c2 rfl rfl hld) rfl ?_
            rw [HE.out.1, HE.out.2]
            exact ⟨_, _, _, rfl, OS.nil _ _ _, below_grown HB5.out H7.out.1 (by omega)⟩
          · have HE := Lib.hid (show setE t p hp9 = 0 ∧ setL t p hp9 = t.take i ++ ⟨p, hp9⟩ :: t.drop i by
              have h1 : setE t p hp9 = 0 := by rw [HST.out, if_neg (fun h => h40 h.2)]
              unfold setL
              rw [h1, if_pos rfl]
              exact ⟨rfl, HNEW.out rfl⟩)
            have h40' : ((n : Int) == 40) = false := by simp; omega
            have hl6 := (HP1.out.all w5 (below_grown (below_step HB4.out hb4a) H5.out.1 HB4.out.size)).2
            have hl7 := (HP2.out.all w5 (below_grown (below_step HB4.out hb4a) H5.out.1 HB4.out.size)).2.2.2.2
            rw [HC2.out] at hl7
            have hbr := fun w => run_build_row w p hp9 hp.len
            rw [HC2.out] at hbr
            clear h40
            go_wp2_with (first | ((with_reducible show wpList _ _ _ (Oper.mk _ (Op.load _ _) _ _ _ _ :: _) _ _); refine wpList_load_g hl6 _ rfl rfl (by go_simp) ?_) | ((with_reducible show wpList _ _ _ (Oper.mk _ (Op.load _ _) _ _ _ _ :: _) _ _); refine wpList_load_g hl5 _ rfl rfl (by go_simp) ?_) | ((with_reducible show wpList _ _ _ (Oper.mk _ (Op.load _ _) _ _ _ _ :: _) _ _); refine wpList_load_g hl7 _ rfl rfl (by go_simp) ?_) | (refine wpList_exec rfl (exec_build2 (t := 79) (i0 := 0) (i1 := 1) (x0 := .tmp 39) (x1 := .tmp 40) (v0 := .agg cs2) (v1 := .int .i64 hp9) (v := .agg (rowV ⟨p, hp9⟩)) rfl rfl rfl (hbr _)) ?_) | (refine wpList_exec rfl (exec_lit1 rowK (x := .tmp 41) rfl ⟨p, hp9⟩ rfl hp (by show 19 ≤ _; omega) _) ?_))
            have hne1 : ∀ ad, A1 = some ad → ad.block ≠ w5.heap.size := fun ad e => by have := hA1 ad e; omega
            have hrow := blk_new w5 (.cells (rowV ⟨p, hp9⟩) 79)
            refine (insertR_any w3.heap.size A1 n c1 i w5.heap.size t ⟨p, hp9⟩ _ (HO5.out.below (below_alloc (Below.refl _ _) _)) hlow (by omega) (by simp; omega) hrow hp hne1).mono ?_
            rintro e w6 ⟨A2, c2, rfl, hO6, hg6, hA2⟩
            have hsz6 := hg6.size
            simp at hsz6
            have hb5a : Below w5.heap.size w5 (w5.alloc (.cells (rowV ⟨p, hp9⟩) 79)) := below_alloc (Below.refl _ _) _
            have HZ6 := Lib.hid (blk_own (blk_below HZ5.out hb5a) hg6 (fun ad e => by have := hA1b ad e; omega))
            have hz10 := blk_grown (blk_below H5.out.2 hb5a) hg6 (fun e => by
              obtain ⟨ad, e1, e2⟩ := own_of e.symm
              have := hA1 ad e1
              omega)
            have hsz0 := (below_step HBE.out HB4.out).size
            have HB6 := Lib.hid (below_own (below_step HB5.out hb5a) hg6 (fun ad e => by have := hA1b ad e; omega))
            have hc10 : w6.cell? ⟨w4.heap.size, 0, none⟩ = some (.slice A1 n c1) := by rw [blk_cell hz10]; rfl
            have hf10 : w6.frozen? ⟨w4.heap.size, 0, none⟩ = false := blk_frozen hz10 0
            have hz11 : (w6.setCell ⟨w4.heap.size, 0, none⟩ (.slice A2 (n + 1) c2)).heap[w4.heap.size]? = some (.cells (tabV A2 (n + 1) c2) 39 (0, 0)) := blk_set hz10 0 _
            have hl11 := load_tab hz11
            have hg7 := grown_setCell w6 ⟨w4.heap.size, 0, none⟩ (.slice A2 (n + 1) c2)
            have HZ7 := Lib.hid (blk_grown HZ6.out hg7 (fun e => by injection e with e; simp only at e; omega))
            have HB7 := Lib.hid (below_grown HB6.out hg7 (by simp only; omega))
            have hne2 : ∀ ad, A2 = some ad → ad.block ≠ w4.heap.size ∧ w3.heap.size ≤ ad.block := fun ad e => by
              refine ⟨?_, hO6.base_ ad e⟩
              rcases hA2 with h | h
              · have := hA1 ad (h ▸ e); omega
              · have := h ad e; simp at this; omega
            have HO7 := Lib.hid (hO6.grown hg7 (fun ad e h => by injection h with h; simp only at h; exact (hne2 ad e).1 h))
            clear hO6 hg6 hA2 hz10 hz11 hg7 hb5a hne1
            go_wp2_with (first | ((with_reducible show wpList _ _ _ (Oper.mk _ (Op.load _ _) _ _ _ _ :: _) _ _); refine wpList_load_g hl11 _ rfl rfl (by go_simp) ?_) | ((with_reducible show wpList _ _ _ (Oper.mk _ (Op.store _ _ _) _ _ _ _ :: _) _ _); refine wpList_store_blk HZ7.out 39 0 (tabV A2 (n + 1) c2) (Nat.le_refl _) (info_tab _ _ _) (tab_one _ _ _) _ _ rfl rfl rfl rfl ?_; intro w8 hg9 hs9 hb9; rw [splice_tab] at hb9; have H8 := Lib.hid (And.intro hg9 hb9); clear hg9 hs9 hb9))
            have hld := load_tab H8.out.2
            refine bodyPost_ret (results_c2 rfl rfl hld) rfl ?_
            rw [HE.out.1, HE.out.2]
            refine ⟨_, _, _, rfl, (HO7.out.grown H8.out.1 (fun ad e h => ?_)).lower (by omega), below_grown HB7.out H8.out.1 (by omega)⟩
            injection h with h
            have := (hne2 ad e).2
            omega
end Go.Proofs.YtnpeedmicjeleaaDoor

/- Plain laws of layer 11 (route): the best of each prefix. -/
namespace Go.Proofs.YtnpeedmicjeleaaDoor
set_option linter.unusedVariables false
set_option linter.unusedSimpArgs false
set_option maxRecDepth 4000
set_option maxRecDepth 4000
theorem betB_iff (a b : Rte) : betB a b = true ↔ b.f < a.f ∨ (a.f = b.f ∧ a.s < b.s) := by
  unfold betB orI orI orI cmpN
  rw [decide_eq_true_eq]
  rcases Int.lt_trichotomy a.f b.f with h | h | h
  · rw [if_pos h]; simp; omega
  · rw [if_neg (show ¬ a.f < b.f by omega), if_neg (show ¬ b.f < a.f by omega)]
    rcases Int.lt_trichotomy b.s a.s with k | k | k
    · rw [if_pos k]; simp; omega
    · rw [if_neg (show ¬ b.s < a.s by omega), if_neg (show ¬ a.s < b.s by omega)]; simp; omega
    · rw [if_neg (show ¬ b.s < a.s by omega), if_pos k]; simp; omega
  · rw [if_neg (show ¬ a.f < b.f by omega), if_pos h]; simp; omega
def unb (l : List Rte) (x : Rte) : Bool := !l.any (fun y => beats y x)
theorem unb_iff {l : List Rte} {x : Rte} : unb l x = true ↔ ∀ y ∈ l, y.p = x.p → betB y x = false := by
  unfold unb
  rw [Bool.not_eq_true', List.any_eq_false]
  constructor
  · intro h y hy he
    have := h y hy
    unfold beats at this
    rw [(Pfx.eqB_iff _ _).2 he, Bool.true_and] at this
    simpa using this
  · intro h y hy hb
    unfold beats at hb
    rw [Bool.and_eq_true, Pfx.eqB_iff] at hb
    rw [h y hy hb.1] at hb
    cases hb.2
def Rte.row (x : Rte) : Row := ⟨x.p, x.h⟩
/-- The table of the best, of the first k. -/
def bk (l : List Rte) (k : Nat) : List Row := ((l.take k).filter (unb l)).map Rte.row
def bestT (l : List Rte) : List Row := (l.filter (unb l)).map Rte.row
theorem bk_all (l : List Rte) : bk l l.length = bestT l := by unfold bk bestT; rw [List.take_length]
theorem bk_succ (l : List Rte) {k : Nat} (hk : k < l.length) : bk l (k + 1) = bk l k ++ if unb l (rteAt l k) then [(rteAt l k).row] else [] := by
  unfold bk
  have e : l.take (k + 1) = l.take k ++ [rteAt l k] := take_getD rteZ hk
  rw [e, List.filter_append, List.map_append]
  generalize rteAt l k = a
  congr 1
  cases h : unb l a <;> simp [h]
theorem best_lt0 {l : List Rte} (ho : ∀ r ∈ l, r.fits) {a b : Rte} (ha : a ∈ l) (hb : b ∈ l) (h : cR a b < 0) (hi : unb l a = true) (hu : unb l b = true) : a.p.cmp b.p < 0 := by
  have fi := ho _ ha
  have fj := ho _ hb
  have hle := cmp_of_cR fi fj h
  by_cases h0 : a.p.cmp b.p = 0
  · exfalso
    have hp := (a.p.cmp_zero _ fi fj).1 h0
    rw [cR_eq _ _ fi fj, if_neg (by omega)] at h
    have hs : a.s < b.s := by
      unfold cmpN at h
      split at h
      · assumption
      · split at h <;> omega
    have h1 := unb_iff.1 hi _ hb hp.symm
    have h2 := unb_iff.1 hu _ ha hp
    rw [Bool.eq_false_iff, ne_eq, betB_iff] at h1 h2
    omega
  · omega
theorem best_lt {l : List Rte} (ho : ∀ r ∈ l, r.fits) (hr : risK Rte.key l = true) {i j : Nat} (hij : i < j) (hj : j < l.length) (hi : unb l (rteAt l i) = true) (hu : unb l (rteAt l j) = true) : (rteAt l i).p.cmp (rteAt l j).p < 0 :=
  best_lt0 ho (getD_mem (by omega)) (getD_mem hj) (risK_lt hr hij hj) hi hu
theorem rising_pw : ∀ {t : List Row}, t.Pairwise (fun a b => a.p.cmp b.p < 0) → rising t = true
  | [], _ => rfl
  | a :: t, h => by
    rw [List.pairwise_cons] at h
    exact rising_of_head h.1 (rising_pw h.2)
theorem getElem_rteAt {l : List Rte} {i : Nat} (h : i < l.length) : l[i] = rteAt l i := by
  have := getD_get (z := rteZ) h
  rw [List.getElem?_eq_getElem h] at this
  exact Option.some.inj this
theorem best_pw {l : List Rte} (ho : ∀ r ∈ l, r.fits) (hr : risK Rte.key l = true) (k : Nat) : (bk l k).Pairwise (fun a b => a.p.cmp b.p < 0) := by
  unfold bk
  rw [List.pairwise_map]
  have h0 : l.Pairwise (fun a b => unb l a = true → unb l b = true → a.p.cmp b.p < 0) := by
    rw [List.pairwise_iff_getElem]
    intro i j hi hj hij
    rw [getElem_rteAt hi, getElem_rteAt hj]
    exact fun a b => best_lt ho hr hij hj a b
  have h1 := (h0.sublist (List.take_sublist k l)).filter (unb l)
  refine h1.imp_of_mem fun {a b} ha hb h => ?_
  exact h (List.mem_filter.1 ha).2 (List.mem_filter.1 hb).2
theorem bk_lt {l : List Rte} (ho : ∀ r ∈ l, r.fits) (hr : risK Rte.key l = true) {k : Nat} (hk : k < l.length) (hu : unb l (rteAt l k) = true) : ∀ r ∈ bk l k, r.p.cmp (rteAt l k).p < 0 := by
  intro r hm
  have h := best_pw ho hr (k + 1)
  rw [bk_succ l hk, if_pos hu, List.pairwise_append] at h
  exact h.2.2 r hm (rteAt l k).row (List.mem_singleton.2 rfl)
theorem setT_snoc {p : Pfx} {h : Int} : ∀ {t : List Row}, (∀ r ∈ t, r.p.cmp p < 0) → setT t p h = t ++ [⟨p, h⟩] ∧ thereB t p = false
  | [], _ => ⟨rfl, rfl⟩
  | a :: t, hh => by
    have ih := setT_snoc (h := h) (t := t) (fun r hr => hh r (by simp [hr]))
    rw [setT_cons, if_pos (hh a (by simp)), ih.1, thereB_cons, if_pos (hh a (by simp))]
    exact ⟨rfl, ih.2⟩
theorem new_of (l : List Rte) : ∀ i, i < l.length → ∃ j, j < l.length ∧ newP l j = true ∧ (rteAt l j).p = (rteAt l i).p
  | 0, h => ⟨0, h, by simp [newP], rfl⟩
  | i + 1, h => by
    cases hn : newP l (i + 1) with
    | true => exact ⟨i + 1, h, hn, rfl⟩
    | false =>
      obtain ⟨j, h1, h2, h3⟩ := new_of l i (by omega)
      refine ⟨j, h1, h2, h3.trans ?_⟩
      unfold newP at hn
      rw [Bool.or_eq_false_iff] at hn
      have := hn.2
      rw [show i + 1 - 1 = i from rfl, Bool.not_eq_false'] at this
      exact (Pfx.eqB_iff _ _).1 this
theorem len_sub {α : Type} : ∀ {s t : List α}, s.Nodup → (∀ a ∈ s, a ∈ t) → s.length ≤ t.length
  | [], t, _, _ => by simp
  | a :: s, t, hn, hs => by
    rw [List.nodup_cons] at hn
    obtain ⟨u, v, rfl⟩ := List.append_of_mem (hs a (by simp))
    have := len_sub (s := s) (t := u ++ v) hn.2 (fun b hb => by
      have h1 := hs b (by simp [hb])
      rw [List.mem_append, List.mem_cons] at h1
      rw [List.mem_append]
      rcases h1 with h1 | h1 | h1
      · exact .inl h1
      · exact absurd (h1 ▸ hb) hn.1
      · exact .inr h1)
    simp at this ⊢
    omega
theorem best_len {l : List Rte} (ho : ∀ r ∈ l, r.fits) (hr : risK Rte.key l = true) : (bestT l).length ≤ pfxsN l := by
  have h1 : ((bestT l).map (·.p)).Nodup := by
    rw [← bk_all, List.Nodup, List.pairwise_map]
    refine (best_pw ho hr l.length).imp fun {a b} h e => ?_
    rw [e] at h
    exact cmp_irrefl _ h
  have h2 := len_sub (t := ((List.range l.length).filter (newP l)).map fun j => (rteAt l j).p) h1 (fun p hp => by
    obtain ⟨r, hr2, rfl⟩ := List.mem_map.1 hp
    unfold bestT at hr2
    obtain ⟨x, hx, rfl⟩ := List.mem_map.1 hr2
    obtain ⟨i, hi, he⟩ := mem_getD (z := rteZ) (List.mem_filter.1 hx).1
    obtain ⟨j, h3, h4, h5⟩ := new_of l i hi
    rw [List.mem_map]
    refine ⟨j, List.mem_filter.2 ⟨List.mem_range.2 h3, h4⟩, ?_⟩
    rw [h5, show rteAt l i = x from he]
    rfl)
  rw [List.length_map, List.length_map] at h2
  exact h2
theorem bk_len (l : List Rte) (k : Nat) : (bk l k).length ≤ (bestT l).length := by
  unfold bk bestT
  rw [List.length_map, List.length_map]
  exact ((List.take_sublist k l).filter _).length_le
theorem fit_row {x : Rte} (h : x.fit = true) : x.row.okB = true := by
  unfold Rte.fit fitB at h
  simp only [Bool.and_eq_true, decide_eq_true_eq] at h
  rw [okB_iff]
  exact ⟨h.1.1.1.1.1.1, h.1.2, h.2⟩
theorem bk_mem {l : List Rte} {k : Nat} {r : Row} (h : r ∈ bk l k) : ∃ x ∈ l, x.row = r := by
  unfold bk at h
  obtain ⟨x, hx, rfl⟩ := List.mem_map.1 h
  exact ⟨x, List.mem_of_mem_take (List.mem_filter.1 hx).1, rfl⟩
theorem rib_fit {l : List Rte} (h : ribB l = true) {x : Rte} (hx : x ∈ l) : x.fit = true := by
  unfold ribB ribsB at h
  simp only [Bool.and_eq_true, List.all_eq_true] at h
  exact h.1.1.2 x hx
theorem rib_to {l : List Rte} (h : ribB l = true) : l.length ≤ 160 ∧ risK Rte.key l = true ∧ pfxsN l ≤ 40 := by
  unfold ribB ribsB at h
  simp only [Bool.and_eq_true, decide_eq_true_eq] at h
  exact ⟨h.1.1.1, h.1.2, h.2⟩
theorem tabB_bk {l : List Rte} (ho : ∀ r ∈ l, r.fits) (h : ribB l = true) (k : Nat) : tabB (bk l k) = true := by
  obtain ⟨_, h2, h3⟩ := rib_to h
  refine tabB_of (Nat.le_trans (bk_len l k) (Nat.le_trans (best_len ho h2) h3)) (fun r hr => ?_) (rising_pw (best_pw ho h2 k))
  obtain ⟨x, hx, rfl⟩ := bk_mem hr
  exact fit_row (rib_fit h hx)
/-- One candidate that is not beaten goes behind. -/
theorem set_bk {l : List Rte} (ho : ∀ r ∈ l, r.fits) (h : ribB l = true) {k : Nat} (hk : k < l.length) (hu : unb l (rteAt l k) = true) : setE (bk l k) (rteAt l k).p (rteAt l k).h = 0 ∧ setL (bk l k) (rteAt l k).p (rteAt l k).h = bk l (k + 1) := by
  obtain ⟨_, h2, h3⟩ := rib_to h
  have hs := setT_snoc (h := (rteAt l k).h) (bk_lt ho h2 hk hu)
  have hx : (rteAt l k).p.right = true ∧ 1 ≤ (rteAt l k).h ∧ (rteAt l k).h ≤ 255 := (okB_iff _).1 (fit_row (rib_fit h (getD_mem (z := rteZ) hk)))
  have hlen : (bk l k).length ≤ 39 := by
    have h4 := Nat.le_trans (bk_len l (k + 1)) (Nat.le_trans (best_len ho h2) h3)
    rw [bk_succ l hk, if_pos hu, List.length_append] at h4
    simp at h4
    omega
  have he : setE (bk l k) (rteAt l k).p (rteAt l k).h = 0 := by
    unfold setE
    rw [if_pos (tabB_bk ho h k), if_pos hx, if_neg (by omega)]
  refine ⟨he, ?_⟩
  unfold setL
  rw [if_pos he, hs.1, bk_succ l hk, if_pos hu]
  rfl
def bestR (l : List Rte) : List Row := if ribB l then bestT l else []
end Go.Proofs.YtnpeedmicjeleaaDoor

/- The first place where something holds. -/
namespace Go.Proofs.YtnpeedmicjeleaaDoor
open Go.RowKit
set_option linter.unusedVariables false
set_option linter.unusedSimpArgs false
set_option maxRecDepth 4000
def idxE {α : Type} (q : α → Bool) (t : List α) : Int := match t.findIdx? q with | some i => i | none => -1
theorem idxE_at {α : Type} {S : Shape α} {q : α → Bool} {t : List α} {i : Nat} (hi : i < t.length) (h : q (S.at_ t i) = true) (hl : ∀ k, k < i → q (S.at_ t k) = false) : idxE q t = (i : Int) := by
  have : t.findIdx? q = some i := by
    rw [List.findIdx?_eq_some_iff_getElem]
    have hg : ∀ k (hk : k < t.length), t[k] = S.at_ t k := fun k hk => by
      have := Shape.at_get (S := S) hk
      rw [List.getElem?_eq_getElem hk] at this
      exact Option.some.inj this
    refine ⟨hi, by rw [hg i hi]; exact h, fun k hk => ?_⟩
    rw [hg k (by omega), hl k hk]
    simp
  unfold idxE
  rw [this]
theorem idxE_none {α : Type} {S : Shape α} {q : α → Bool} {t : List α} (hl : ∀ k, k < t.length → q (S.at_ t k) = false) : idxE q t = -1 := by
  have : t.findIdx? q = none := by
    rw [List.findIdx?_eq_none_iff]
    intro x hx
    obtain ⟨k, hk, e⟩ := List.getElem_of_mem hx
    have := Shape.at_get (S := S) hk
    rw [List.getElem?_eq_getElem hk, e] at this
    rw [Option.some.inj this]
    exact hl k hk
  unfold idxE
  rw [this]
theorem idxE_any {α : Type} (q : α → Bool) (t : List α) : decide (0 ≤ idxE q t) = t.any q := by
  unfold idxE
  cases h : t.findIdx? q with
  | none =>
    rw [List.findIdx?_eq_none_iff] at h
    have : t.any q = false := by
      rw [List.any_eq_false]
      intro x hx
      rw [h x hx]
      decide
    rw [this]
    decide
  | some i =>
    rw [List.findIdx?_eq_some_iff_getElem] at h
    obtain ⟨hi, h1, _⟩ := h
    have : t.any q = true := by
      rw [List.any_eq_true]
      exact ⟨_, List.getElem_mem hi, h1⟩
    rw [this]
    exact decide_eq_true (Int.natCast_nonneg i)
end Go.Proofs.YtnpeedmicjeleaaDoor
