/- Plain laws of lists in order by a key (rows of numbers): the place, put, take away; the document's way of putting. -/
import Derived.IntWalk
import Derived.Recover
import Derived.Test.YtnpeedmicjeleaaDoorRouteBackA
import Derived.Test.YtnpeedmicjeleaaDoorRouteBackB
namespace Go.Proofs.YtnpeedmicjeleaaDoor
set_option linter.unusedVariables false
set_option linter.unusedSimpArgs false
set_option maxRecDepth 4000
section
variable {α : Type} (K : α → List Int)
def cK (a b : α) : Int := cmpI (K a) (K b)
def risK : List α → Bool
  | [] => true
  | [_] => true
  | a :: b :: t => decide (cK K a b < 0) && risK (b :: t)
def lowK (t : List α) (p : α) : Nat := (t.takeWhile fun r => decide (cK K r p < 0)).length
def thereK (t : List α) (p : α) : Bool := match t[lowK K t p]? with
  | some r => cK K r p == 0
  | none => false
def setK (t : List α) (p : α) : List α := t.take (lowK K t p) ++ p :: t.drop (if thereK K t p then lowK K t p + 1 else lowK K t p)
def dropK (t : List α) (p : α) : List α := t.take (lowK K t p) ++ t.drop (lowK K t p + 1)
variable {K}
theorem cK_refl (a : α) : cK K a a = 0 := cmpI_refl _
theorem cK_neg (a b : α) : cK K a b = - cK K b a := cmpI_neg _ _
theorem cK_trans {a b d : α} (h : cK K a b < 0) (k : cK K b d < 0) : cK K a d < 0 := cmpI_trans _ _ _ h k
theorem cK_congL {a b d : α} (h : K a = K b) : cK K a d = cK K b d := by unfold cK; rw [h]
theorem cK_congR {a b d : α} (h : K a = K b) : cK K d a = cK K d b := by unfold cK; rw [h]
theorem cK_irrefl (a : α) : ¬ cK K a a < 0 := by rw [cK_refl]; omega
theorem cK_pos {a b : α} (h : ¬ cK K a b < 0) (h0 : cK K a b ≠ 0) : cK K b a < 0 := by have := cK_neg (K := K) a b; omega
theorem cK_ne {a b : α} (h : cK K a b ≠ 0) : K a ≠ K b := fun e => h (by unfold cK; rw [e]; exact cmpI_refl _)
theorem risK_cons {a : α} {t : List α} (h : risK K (a :: t) = true) : risK K t = true := by
  cases t with
  | nil => rfl
  | cons b t => simp only [risK, Bool.and_eq_true] at h; exact h.2
theorem risK_head {a : α} : ∀ {t : List α}, risK K (a :: t) = true → ∀ r ∈ t, cK K a r < 0
  | [], _, r, hr => by cases hr
  | b :: t, h, r, hr => by
    have h2 := h
    simp only [risK, Bool.and_eq_true, decide_eq_true_eq] at h2
    rcases List.mem_cons.1 hr with rfl | hr
    · exact h2.1
    · exact cK_trans h2.1 (risK_head (risK_cons h) r hr)
theorem risK_of {a : α} {t : List α} (h : ∀ r ∈ t, cK K a r < 0) (ht : risK K t = true) : risK K (a :: t) = true := by
  cases t with
  | nil => rfl
  | cons b t => simp only [risK, Bool.and_eq_true, decide_eq_true_eq]; exact ⟨h b (by simp), ht⟩
theorem risK_iff (z : α) (t : List α) : risK K t = true ↔ ∀ i, i + 1 < t.length → cK K (t.getD i z) (t.getD (i + 1) z) < 0 := by
  induction t with
  | nil => simp [risK]
  | cons a t ih =>
    cases t with
    | nil => simp [risK]
    | cons b t =>
      simp only [risK, Bool.and_eq_true, decide_eq_true_eq, ih]
      constructor
      · rintro ⟨h1, h2⟩ i hi
        cases i with
        | zero => exact h1
        | succ i => exact h2 i (by simpa using hi)
      · intro h
        exact ⟨h 0 (by simp), fun i hi => h (i + 1) (by simpa using hi)⟩
theorem lowK_cons (a : α) (t : List α) (p : α) : lowK K (a :: t) p = if cK K a p < 0 then lowK K t p + 1 else 0 := by
  unfold lowK
  rw [List.takeWhile_cons]
  by_cases h : cK K a p < 0
  · simp [h]
  · simp [h]
theorem lowK_le (t : List α) (p : α) : lowK K t p ≤ t.length := by
  induction t with
  | nil => simp [lowK]
  | cons a t ih =>
    rw [lowK_cons]
    split
    · simp; exact ih
    · simp
theorem lowK_spec (z : α) {t : List α} (p : α) (ht : risK K t = true) (i : Nat) (hi : i < t.length) : (i < lowK K t p → cK K (t.getD i z) p < 0) ∧ (lowK K t p ≤ i → ¬ cK K (t.getD i z) p < 0) := by
  induction t generalizing i with
  | nil => simp at hi
  | cons a t ih =>
    rw [lowK_cons]
    by_cases h : cK K a p < 0
    · rw [if_pos h]
      cases i with
      | zero => exact ⟨fun _ => h, fun h => by omega⟩
      | succ i =>
        have := ih (risK_cons ht) i (by simpa using hi)
        exact ⟨fun h => this.1 (by omega), fun h => this.2 (by omega)⟩
    · rw [if_neg h]
      refine ⟨fun h => by omega, fun _ => ?_⟩
      cases i with
      | zero => exact h
      | succ i =>
        intro hlt
        have hi' : i < t.length := by simpa using hi
        have hm : t.getD i z ∈ t := by
          rw [List.getD_eq_getElem?_getD, List.getElem?_eq_getElem hi']
          exact List.getElem_mem hi'
        have h1 := risK_head ht _ hm
        exact h (cK_trans h1 hlt)
theorem thereK_cons {a : α} {t : List α} {p : α} : thereK K (a :: t) p = if cK K a p < 0 then thereK K t p else cK K a p == 0 := by
  unfold thereK
  rw [lowK_cons]
  by_cases h : cK K a p < 0
  · rw [if_pos h, if_pos h]
    rfl
  · rw [if_neg h, if_neg h]
    rfl
theorem thereK_lt {t : List α} {p : α} (h : thereK K t p = true) : lowK K t p < t.length := by
  unfold thereK at h
  split at h
  · rename_i r hr
    exact (List.getElem?_eq_some_iff.1 hr).1
  · cases h
theorem setK_cons (a : α) (t : List α) (p : α) : setK K (a :: t) p = if cK K a p < 0 then a :: setK K t p else if cK K a p = 0 then p :: t else p :: a :: t := by
  unfold setK
  rw [lowK_cons, thereK_cons]
  by_cases h1 : cK K a p < 0
  · rw [if_pos h1, if_pos h1, if_pos h1]
    split <;> rfl
  · rw [if_neg h1, if_neg h1, if_neg h1]
    by_cases h2 : cK K a p = 0
    · rw [if_pos h2, h2]; rfl
    · rw [if_neg h2, if_neg (by simpa using h2)]; rfl
theorem dropK_cons (a : α) (t : List α) (p : α) : dropK K (a :: t) p = if cK K a p < 0 then a :: dropK K t p else t := by
  unfold dropK
  rw [lowK_cons]
  by_cases h1 : cK K a p < 0
  · rw [if_pos h1, if_pos h1]; rfl
  · rw [if_neg h1, if_neg h1]; rfl
/-- Where keys that compare as 0 are the same. -/
def KeyZ (K : α → List Int) (t : List α) (p : α) : Prop := ∀ r ∈ t, cK K r p = 0 → K r = K p
theorem KeyZ.tail {a p : α} {t : List α} (h : KeyZ K (a :: t) p) : KeyZ K t p := fun r hr => h r (by simp [hr])
theorem ne_of_cK {a b : α} (h : cK K a b < 0) : K a ≠ K b := cK_ne (by omega)
theorem thereK_iff {p : α} : ∀ {t : List α}, KeyZ K t p → risK K t = true → (thereK K t p = true ↔ ∃ x ∈ t, K x = K p)
  | [], _, _ => by simp [thereK]
  | a :: t, hf, ht => by
    have ih := thereK_iff hf.tail (risK_cons ht)
    have hh := risK_head ht
    rw [thereK_cons]
    by_cases h1 : cK K a p < 0
    · rw [if_pos h1, ih]
      constructor
      · rintro ⟨x, hx, he⟩
        exact ⟨x, by simp [hx], he⟩
      · rintro ⟨x, hx, he⟩
        rcases List.mem_cons.1 hx with rfl | hx
        · exact absurd he (ne_of_cK h1)
        · exact ⟨x, hx, he⟩
    · rw [if_neg h1]
      constructor
      · intro h
        exact ⟨a, by simp, hf a (by simp) (by simpa using h)⟩
      · rintro ⟨x, hx, he⟩
        rcases List.mem_cons.1 hx with rfl | hx
        · rw [cK_congL he, cK_refl]; rfl
        · have h2 := hh x hx
          rw [cK_congR he] at h2
          exact absurd h2 h1
theorem mem_setK {x p : α} : ∀ {t : List α}, KeyZ K t p → risK K t = true → (x ∈ setK K t p ↔ x = p ∨ (x ∈ t ∧ K x ≠ K p))
  | [], _, _ => by simp [setK]
  | a :: t, hf, ht => by
    have ih := mem_setK (x := x) hf.tail (risK_cons ht)
    have hh := risK_head ht
    rw [setK_cons]
    by_cases h1 : cK K a p < 0
    · rw [if_pos h1, List.mem_cons, List.mem_cons, ih]
      constructor
      · rintro (rfl | rfl | h)
        · exact .inr ⟨.inl rfl, ne_of_cK h1⟩
        · exact .inl rfl
        · exact .inr ⟨.inr h.1, h.2⟩
      · rintro (rfl | ⟨rfl | h, hn⟩)
        · exact .inr (.inl rfl)
        · exact .inl rfl
        · exact .inr (.inr ⟨h, hn⟩)
    · rw [if_neg h1]
      by_cases h2 : cK K a p = 0
      · have he := hf a (by simp) h2
        rw [if_pos h2, List.mem_cons, List.mem_cons]
        constructor
        · rintro (rfl | hm)
          · exact .inl rfl
          · refine .inr ⟨.inr hm, fun e => ?_⟩
            have := hh x hm
            rw [cK_congL he, cK_congR e] at this
            exact cK_irrefl p this
        · rintro (rfl | ⟨rfl | hm, hn⟩)
          · exact .inl rfl
          · exact absurd he hn
          · exact .inr hm
      · have hgt := cK_pos h1 h2
        rw [if_neg h2, List.mem_cons, List.mem_cons]
        constructor
        · rintro (rfl | rfl | hm)
          · exact .inl rfl
          · exact .inr ⟨.inl rfl, cK_ne h2⟩
          · refine .inr ⟨.inr hm, fun e => ?_⟩
            have := cK_trans hgt (hh x hm)
            rw [cK_congR e] at this
            exact cK_irrefl p this
        · rintro (rfl | ⟨hm, _⟩)
          · exact .inl rfl
          · exact .inr hm
theorem risK_set {p : α} : ∀ {t : List α}, KeyZ K t p → risK K t = true → risK K (setK K t p) = true
  | [], _, _ => rfl
  | a :: t, hf, ht => by
    have ih := risK_set hf.tail (risK_cons ht)
    have hh := risK_head ht
    rw [setK_cons]
    by_cases h1 : cK K a p < 0
    · rw [if_pos h1]
      refine risK_of (fun r hr => ?_) ih
      rcases (mem_setK hf.tail (risK_cons ht)).1 hr with rfl | ⟨hm, _⟩
      · exact h1
      · exact hh r hm
    · rw [if_neg h1]
      by_cases h2 : cK K a p = 0
      · have he := hf a (by simp) h2
        rw [if_pos h2]
        refine risK_of (fun r hr => ?_) (risK_cons ht)
        rw [← cK_congL he]
        exact hh r hr
      · have hgt := cK_pos h1 h2
        rw [if_neg h2]
        refine risK_of (fun r hr => ?_) ht
        rcases List.mem_cons.1 hr with rfl | hr
        · exact hgt
        · exact cK_trans hgt (hh r hr)
theorem mem_dropK_of {x p : α} : ∀ {t : List α}, x ∈ dropK K t p → x ∈ t
  | [], h => h
  | a :: t, h => by
    rw [dropK_cons] at h
    split at h
    · rcases List.mem_cons.1 h with rfl | h
      · simp
      · exact List.mem_cons_of_mem _ (mem_dropK_of h)
    · exact List.mem_cons_of_mem _ h
theorem mem_dropK {x p : α} : ∀ {t : List α}, KeyZ K t p → risK K t = true → thereK K t p = true → (x ∈ dropK K t p ↔ x ∈ t ∧ K x ≠ K p)
  | [], _, _, hth => by cases hth
  | a :: t, hf, ht, hth => by
    have hh := risK_head ht
    rw [thereK_cons] at hth
    rw [dropK_cons]
    by_cases h1 : cK K a p < 0
    · rw [if_pos h1] at hth ⊢
      rw [List.mem_cons, List.mem_cons, mem_dropK hf.tail (risK_cons ht) hth]
      constructor
      · rintro (rfl | h)
        · exact ⟨.inl rfl, ne_of_cK h1⟩
        · exact ⟨.inr h.1, h.2⟩
      · rintro ⟨rfl | h, hn⟩
        · exact .inl rfl
        · exact .inr ⟨h, hn⟩
    · rw [if_neg h1] at hth ⊢
      have he := hf a (by simp) (by simpa using hth)
      rw [List.mem_cons]
      constructor
      · intro hm
        refine ⟨.inr hm, fun e => ?_⟩
        have := hh x hm
        rw [cK_congL he, cK_congR e] at this
        exact cK_irrefl p this
      · rintro ⟨rfl | hm, hn⟩
        · exact absurd he hn
        · exact hm
theorem risK_drop {p : α} : ∀ {t : List α}, risK K t = true → risK K (dropK K t p) = true
  | [], _ => rfl
  | a :: t, ht => by
    rw [dropK_cons]
    split
    · exact risK_of (fun r hr => risK_head ht r (mem_dropK_of hr)) (risK_drop (risK_cons ht))
    · exact risK_cons ht
theorem len_setK {p : α} : ∀ t : List α, (setK K t p).length = if thereK K t p then t.length else t.length + 1
  | [] => rfl
  | a :: t => by
    have ih := len_setK (p := p) t
    rw [setK_cons, thereK_cons]
    by_cases h1 : cK K a p < 0
    · rw [if_pos h1, if_pos h1, List.length_cons, ih]
      split <;> rfl
    · rw [if_neg h1, if_neg h1]
      by_cases h2 : cK K a p = 0
      · rw [if_pos h2, h2]; rfl
      · rw [if_neg h2, if_neg (by simpa using h2)]; rfl
theorem len_dropK {p : α} : ∀ t : List α, (dropK K t p).length ≤ t.length
  | [] => Nat.le_refl _
  | a :: t => by
    have ih := len_dropK (p := p) t
    rw [dropK_cons]
    split
    · simp; exact ih
    · simp
theorem risK_ext : ∀ {t u : List α}, risK K t = true → risK K u = true → (∀ x, x ∈ t ↔ x ∈ u) → t = u
  | [], [], _, _, _ => rfl
  | [], b :: u, _, _, h => by have := (h b).2 (by simp); cases this
  | a :: t, [], _, _, h => by have := (h a).1 (by simp); cases this
  | a :: t, b :: u, ht, hu, h => by
    have ha := risK_head ht
    have hb := risK_head hu
    have hab : a = b := by
      rcases List.mem_cons.1 ((h a).1 (by simp)) with e | e
      · exact e
      · rcases List.mem_cons.1 ((h b).2 (by simp)) with k | k
        · exact k.symm
        · exact absurd (cK_trans (ha b k) (hb a e)) (cK_irrefl _)
    subst hab
    rw [risK_ext (risK_cons ht) (risK_cons hu) (fun x => ?_)]
    constructor
    · intro hx
      rcases List.mem_cons.1 ((h x).1 (List.mem_cons_of_mem _ hx)) with rfl | hm
      · exact absurd (ha _ hx) (cK_irrefl _)
      · exact hm
    · intro hx
      rcases List.mem_cons.1 ((h x).2 (List.mem_cons_of_mem _ hx)) with rfl | hm
      · exact absurd (hb _ hx) (cK_irrefl _)
      · exact hm
end
end Go.Proofs.YtnpeedmicjeleaaDoor

/- Plain laws of layer 11 (route): batches, RIBs, and what comes of a RIB behind a batch. -/
namespace Go.Proofs.YtnpeedmicjeleaaDoor
set_option linter.unusedVariables false
set_option linter.unusedSimpArgs false
set_option maxRecDepth 4000
set_option maxRecDepth 4000

theorem keyZ {α : Type} (K : α → List Int) (t : List α) (p : α) : KeyZ K t p := fun r _ h => cmpI_zero _ _ h
abbrev rteAt (l : List Rte) (i : Nat) : Rte := l.getD i rteZ
abbrev updAt (l : List Upd) (i : Nat) : Upd := l.getD i updZ
theorem getD_get {α : Type} {l : List α} {i : Nat} {z : α} (h : i < l.length) : l[i]? = some (l.getD i z) := by
  rw [List.getD_eq_getElem?_getD, List.getElem?_eq_getElem h]
  rfl
theorem getD_mem {α : Type} {l : List α} {i : Nat} {z : α} (h : i < l.length) : l.getD i z ∈ l := List.mem_of_getElem? (getD_get h)
theorem mem_getD {α : Type} {l : List α} {a z : α} (h : a ∈ l) : ∃ i, i < l.length ∧ l.getD i z = a := by
  obtain ⟨i, hi, he⟩ := List.getElem_of_mem h
  refine ⟨i, hi, ?_⟩
  rw [List.getD_eq_getElem?_getD, List.getElem?_eq_getElem hi]
  exact he
theorem take_getD {α : Type} {l : List α} {i : Nat} (z : α) (h : i < l.length) : l.take (i + 1) = l.take i ++ [l.getD i z] := by
  rw [List.take_add_one, getD_get (z := z) h]
  rfl
def Rte.key (r : Rte) : List Int := r.p.row ++ [r.s]
def Upd.rte (u : Upd) : Rte := ⟨u.p, u.s, u.f, u.h⟩
def Okr (l : List Rte) : Prop := ∀ r ∈ l, r.ok
def Oku (l : List Upd) : Prop := ∀ u ∈ l, u.ok
theorem Okr.at_ {l : List Rte} (h : Okr l) {i : Nat} (hi : i < l.length) : (rteAt l i).ok := h _ (getD_mem hi)
theorem Oku.at_ {l : List Upd} (h : Oku l) {i : Nat} (hi : i < l.length) : (updAt l i).ok := h _ (getD_mem hi)
theorem Upd.ok.rte {u : Upd} (h : u.ok) : u.rte.ok := ⟨h.p, h.s, h.f, h.h⟩
def fitB (p : Pfx) (s f h : Int) : Bool := p.right && decide (1 ≤ s) && decide (s ≤ 4) && decide (0 ≤ f) && decide (f ≤ 255) && decide (1 ≤ h) && decide (h ≤ 255)
def Rte.fit (r : Rte) : Bool := fitB r.p r.s r.f r.h
def updB (u : Upd) : Bool := if u.g then decide (u.f = 0) && decide (u.h = 0) && fitB u.p u.s 0 1 else fitB u.p u.s u.f u.h
def twin (a b : Upd) : Bool := a.p.eqB b.p && decide (a.s = b.s)
def batsB (l : List Upd) : Bool := decide (∀ j, j < l.length → updB (updAt l j) = true ∧ ∀ k, k < j → twin (updAt l k) (updAt l j) = false)
def batB (l : List Upd) : Bool := decide (1 ≤ l.length) && decide (l.length ≤ 8) && batsB l
/-! How many prefixes. -/
def newP (l : List Rte) (i : Nat) : Bool := decide (i = 0) || !(rteAt l (i - 1)).p.eqB (rteAt l i).p
def cntP (l : List Rte) (k : Nat) : Nat := ((List.range k).filter (newP l)).length
theorem cntP_succ (l : List Rte) (k : Nat) : cntP l (k + 1) = cntP l k + if newP l k then 1 else 0 := by
  unfold cntP
  rw [List.range_succ, List.filter_append, List.length_append]
  cases h : newP l k <;> simp [h]
theorem cntP_le (l : List Rte) (k : Nat) : cntP l k ≤ k := by
  unfold cntP
  have := List.length_filter_le (newP l) (List.range k)
  rwa [List.length_range] at this
def pfxsN (l : List Rte) : Nat := cntP l l.length
/-- The order of candidates. -/
def cR (a b : Rte) : Int := cK Rte.key a b
theorem cmpI_app {a b c d : List Int} (h : a.length = b.length) : cmpI (a ++ c) (b ++ d) = if cmpI a b ≠ 0 then cmpI a b else cmpI c d := by
  rw [cmpI_append _ _ _ _ h]
theorem rtrow_len {p : Pfx} (h : B16 p.l) : p.row.length = 18 := by unfold Pfx.row; simp [h.len]
theorem cR_eq (a b : Rte) (ha : a.fits) (hb : b.fits) : cR a b = if a.p.cmp b.p ≠ 0 then a.p.cmp b.p else cmpN a.s b.s := by
  unfold cR cK Rte.key
  rw [cmpI_app (by rw [rtrow_len ha, rtrow_len hb]), cmpI_one]
  rfl
theorem cR_or (a b : Rte) (ha : a.fits) (hb : b.fits) : cR a b = orI [a.p.cmp b.p, cmpN a.s b.s] := by
  rw [cR_eq a b ha hb]
  unfold orI orI orI
  by_cases h : a.p.cmp b.p ≠ 0
  · rw [if_pos h, if_pos h]
  · rw [if_neg h, if_neg h]
    by_cases h2 : cmpN a.s b.s ≠ 0
    · rw [if_pos h2]
    · rw [if_neg h2]
      omega
theorem key_iff (a b : Rte) (ha : a.fits) (hb : b.fits) : a.key = b.key ↔ a.p = b.p ∧ a.s = b.s := by
  unfold Rte.key
  constructor
  · intro h
    obtain ⟨h1, h2⟩ := List.append_inj h (by rw [rtrow_len ha, rtrow_len hb])
    exact ⟨a.p.row_inj b.p ha hb h1, by simpa using h2⟩
  · rintro ⟨h1, h2⟩
    rw [h1, h2]
/-- In order, a prefix is new where it is not the one ahead. -/
theorem cmp_of_cR {a b : Rte} (ha : a.fits) (hb : b.fits) (h : cR a b < 0) : a.p.cmp b.p ≤ 0 := by
  rw [cR_eq a b ha hb] at h
  split at h <;> omega
theorem risK_lt {l : List Rte} (h : risK Rte.key l = true) : ∀ {i j : Nat}, i < j → j < l.length → cR (rteAt l i) (rteAt l j) < 0 := by
  induction l with
  | nil => intro i j _ hj; simp at hj
  | cons a t ih =>
    intro i j hij hj
    cases j with
    | zero => omega
    | succ j =>
      have hj' : j < t.length := by simpa using hj
      cases i with
      | zero => exact risK_head h _ (getD_mem hj')
      | succ i => exact ih (risK_cons h) (by omega) hj'
/-- May it be a RIB? -/
def ribsB (l : List Rte) : Bool := decide (l.length ≤ 160) && l.all Rte.fit && risK Rte.key l
def ribB (l : List Rte) : Bool := ribsB l && decide (pfxsN l ≤ 40)
theorem ribsB_iff (l : List Rte) : ribsB l = true ↔ l.length ≤ 160 ∧ (∀ i, i < l.length → (rteAt l i).fit = true) ∧ ∀ i, i + 1 < l.length → cR (rteAt l i) (rteAt l (i + 1)) < 0 := by
  unfold ribsB
  rw [Bool.and_eq_true, Bool.and_eq_true, decide_eq_true_eq, risK_iff rteZ, List.all_eq_true]
  constructor
  · rintro ⟨⟨h1, h2⟩, h3⟩
    exact ⟨h1, fun i hi => h2 _ (getD_mem hi), h3⟩
  · rintro ⟨h1, h2, h3⟩
    refine ⟨⟨h1, fun r hr => ?_⟩, h3⟩
    obtain ⟨i, hi, he⟩ := mem_getD (z := rteZ) hr
    rw [← he]
    exact h2 i hi
theorem ribs_ris {l : List Rte} (h : ribsB l = true) : risK Rte.key l = true := by
  unfold ribsB at h
  rw [Bool.and_eq_true] at h
  exact h.2
/-- One update. -/
def appS (l : List Rte) (u : Upd) : Option (List Rte) := if u.g then (if thereK Rte.key l u.rte then some (dropK Rte.key l u.rte) else none) else some (setK Rte.key l u.rte)
def appL : List Rte → List Upd → Option (List Rte)
  | l, [] => some l
  | l, u :: b => match appS l u with
    | some m => appL m b
    | none => none
theorem appL_snoc : ∀ (b : List Upd) (l : List Rte) (u : Upd), appL l (b ++ [u]) = (appL l b).bind fun m => appS m u
  | [], l, u => by
    show (match appS l u with | some m => some m | none => none) = appS l u
    cases appS l u <;> rfl
  | v :: b, l, u => by
    simp only [List.cons_append, appL]
    cases h : appS l v with
    | none => rfl
    | some m => exact appL_snoc b m u
theorem appL_none {b : List Upd} {l : List Rte} {k : Nat} (h : appL l (b.take k) = none) : appL l b = none := by
  induction b generalizing l k with
  | nil => simpa using h
  | cons u b ih =>
    cases k with
    | zero => simp [appL] at h
    | succ k =>
      rw [List.take_succ_cons] at h
      simp only [appL] at h ⊢
      cases hs : appS l u with
      | none => rfl
      | some m =>
        rw [hs] at h
        exact ih h
def appN (l : List Rte) (b : List Upd) : Int := if ribB l then (if batB b then (match appL l b with | some m => if pfxsN m ≤ 40 then 0 else 6 | none => 4) else 210) else 211
def appR (l : List Rte) (b : List Upd) : List Rte := if appN l b = 0 then (appL l b).getD [] else []
/-- What stays of a list in order. -/
structure Rok (l : List Rte) : Prop where
  ok : Okr l
  ris : risK Rte.key l = true
theorem appS_rok {l m : List Rte} {u : Upd} (h : Rok l) (hu : u.ok) (hs : appS l u = some m) : Rok m := by
  unfold appS at hs
  split at hs
  · split at hs
    · injection hs with hs
      subst hs
      exact ⟨fun r hr => h.ok r (mem_dropK_of hr), risK_drop h.ris⟩
    · cases hs
  · injection hs with hs
    subst hs
    refine ⟨fun r hr => ?_, risK_set (keyZ _ _ _) h.ris⟩
    rcases (mem_setK (keyZ _ _ _) h.ris).1 hr with rfl | ⟨hm, _⟩
    · exact hu.rte
    · exact h.ok r hm
theorem appS_len {l m : List Rte} {u : Upd} (hs : appS l u = some m) : m.length ≤ l.length + 1 := by
  unfold appS at hs
  split at hs
  · split at hs
    · injection hs with hs
      subst hs
      exact Nat.le_succ_of_le (len_dropK l)
    · cases hs
  · injection hs with hs
    subst hs
    rw [len_setK]
    split <;> omega
theorem appL_rok : ∀ {b : List Upd} {l m : List Rte}, Rok l → Oku b → appL l b = some m → Rok m ∧ m.length ≤ l.length + b.length
  | [], l, m, h, _, hs => by
    injection hs with hs
    subst hs
    exact ⟨h, Nat.le_refl _⟩
  | u :: b, l, m, h, hb, hs => by
    simp only [appL] at hs
    cases hk : appS l u with
    | none => rw [hk] at hs; cases hs
    | some k =>
      rw [hk] at hs
      obtain ⟨h1, h2⟩ := appL_rok (appS_rok h (hb u (by simp)) hk) (fun v hv => hb v (by simp [hv])) hs
      have := appS_len hk
      exact ⟨h1, by simp; omega⟩
end Go.Proofs.YtnpeedmicjeleaaDoor

/- Layer 11 (route): fits, update, the closures of CheckBatch and Best, order, better; the document's fits and ahead. -/
namespace Go.Proofs.YtnpeedmicjeleaaDoor
open Go.RowKit
set_option linter.unusedVariables false
set_option linter.unusedSimpArgs false
set_option maxRecDepth 4000
structure RibAt (w : World) (g : Nat) (A : Option Addr) (n c : Nat) : Prop where
  all : ∀ w0, Below w.heap.size w w0 → (Instr.loadAt 24 (.pointer (some ⟨g, 0, none⟩))).run Tryd.prog w0 = .ok (.agg (tabV A n c)) w0 ∧ (Instr.loadAt 22 (.pointer (some ⟨g, 0, none⟩))).run Tryd.prog w0 = .ok (.slice A n c) w0
theorem load_rtes {w : World} {ad : Addr} {v : Value} (h : w.cell? ad = some v) : (Instr.loadAt 22 (.pointer (some ad))).run Tryd.prog w = .ok v w := by
  go_simp
theorem load_upds {w : World} {ad : Addr} {v : Value} (h : w.cell? ad = some v) : (Instr.loadAt 25 (.pointer (some ad))).run Tryd.prog w = .ok v w := by
  go_simp
theorem rib_at {w : World} {g : Nat} {A : Option Addr} {n c : Nat} (h : w.heap[g]? = some (.cells (tabV A n c) 24 (0, 0))) : RibAt w g A n c := by
  refine ⟨fun w0 hb => ?_⟩
  have h0 := cells_blk (blk_below h hb)
  exact ⟨load_cells h0 Tryd.underlying24 rfl (by kernel_rfl), load_rtes (h0 0 _ rfl)⟩
structure BatAt (w : World) (g : Nat) (A : Option Addr) (n c : Nat) : Prop where
  all : ∀ w0, Below w.heap.size w w0 → (Instr.loadAt 27 (.pointer (some ⟨g, 0, none⟩))).run Tryd.prog w0 = .ok (.agg (tabV A n c)) w0 ∧ (Instr.loadAt 25 (.pointer (some ⟨g, 0, none⟩))).run Tryd.prog w0 = .ok (.slice A n c) w0
theorem bat_at {w : World} {g : Nat} {A : Option Addr} {n c : Nat} (h : w.heap[g]? = some (.cells (tabV A n c) 27 (0, 0))) : BatAt w g A n c := by
  refine ⟨fun w0 hb => ?_⟩
  have h0 := cells_blk (blk_below h hb)
  exact ⟨load_cells h0 Tryd.underlying27 rfl (by kernel_rfl), load_upds (h0 0 _ rfl)⟩
theorem built_rte (p : Pfx) (s f h : Int) (hl : p.l.length = 16) : Tryd.prog.built 51 [(0, .agg (pfxV p.v p.l p.b)), (1, .int .i64 s), (2, .int .i64 f), (3, .int .i64 h)] = some (rteV ⟨p, s, f, h⟩) := by
  obtain ⟨a, b, c, d, e, f, g, h1, i, j, k, m, n, o, q, r, hh⟩ := len16 hl
  obtain ⟨v, l, x⟩ := p
  simp only at hh
  subst hh
  kernel_rfl
theorem run_build_rte (w : World) (p : Pfx) (s f h : Int) (hl : p.l.length = 16) : (Instr.build 51 #[(0, .agg (pfxV p.v p.l p.b)), (1, .int .i64 s), (2, .int .i64 f), (3, .int .i64 h)]).run Tryd.prog w = .ok (.agg (rteV ⟨p, s, f, h⟩)) w := run_build w _ _ _ (built_rte p s f h hl)
/-! Two prefixes held equal: what the comparison yields. -/
theorem pfx_eq_hex {p q : Pfx} {b : Bool} (hp : p.ok) (hq : q.ok) (h : p.eqB q = b) (r : Operand → Value) (o : Oper) (x y : Operand) (ty : TypeId) (ho : o.op = .binOp .eql 49 x y ty) (hx : r x = .agg (pfxV p.v p.l p.b)) (hy : r y = .agg (pfxV q.v q.l q.b)) (w : World) : (execOp r o).run Tryd.prog w = .ok (.value (.bool b)) w := by
  rw [← h]
  exact pfx_eql_exec ho p q hx hy hp hq w
theorem pfx_ne_hex {p q : Pfx} {b : Bool} (hp : p.ok) (hq : q.ok) (h : (!p.eqB q) = b) (r : Operand → Value) (o : Oper) (x y : Operand) (ty : TypeId) (ho : o.op = .binOp .neq 49 x y ty) (hx : r x = .agg (pfxV p.v p.l p.b)) (hy : r y = .agg (pfxV q.v q.l q.b)) (w : World) : (execOp r o).run Tryd.prog w = .ok (.value (.bool b)) w := by
  rw [← h]
  exact pfx_neq_exec ho p q hx hy hp hq w
set_option maxHeartbeats 2000000 in
theorem rfits_any (p : Pfx) (s f h : Int) (w : World) (hL : Laid w) (hp : B16 p.l) : Calls Tryd.prog 53 #[.agg (pfxV p.v p.l p.b), .int .i64 s, .int .i64 f, .int .i64 h] w fun e w' => e = .returned (.bool (fitB p s f h)) ∧ Below w.heap.size w w' := by
  have hblk1 := blk_new w (.cells (pfxV p.v p.l p.b) 49)
  have hbel1 : Below w.heap.size w (w.alloc (.cells (pfxV p.v p.l p.b) 49)) := below_alloc (Below.refl _ _) _
  have HP1 := Lib.hid (pfx_at hp hblk1)
  have HBK1 := Lib.hid hblk1
  have HBE := Lib.hid hbel1
  have HL := Lib.hid (hL.below HBE.out)
  obtain ⟨cs1, hcs1⟩ : ∃ cs, pfxV p.v p.l p.b = cs := ⟨_, rfl⟩
  simp only [hcs1] at HBE HL HP1 HBK1 ⊢
  have HC1 := Lib.hid hcs1
  clear hL hcs1 hblk1 hbel1
  have hl0 := (HP1.out.all _ (Below.refl _ _)).2.2.2.2
  rw [HC1.out] at hl0
  go_enter Tryd.func53, Tryd.ntmps53
  go_wp2_with (first | ((with_reducible show wpList _ _ _ (Oper.mk _ (Op.load _ _) _ _ _ _ :: _) _ _); refine wpList_load_g hl0 _ rfl rfl (by go_simp) ?_))
  have hck := check_any p.v p.l p.b _ HL.out hp
  rw [HC1.out] at hck
  refine hck.mono ?_
  clear hck hl0
  rintro e w1 ⟨rfl, hb1⟩
  have HB1 := Lib.hid (below_step HBE.out hb1)
  clear hb1
  cases h0 : p.right with
  | false =>
    (rw [show errP p.v p.l p.b = 151 by unfold errP; rw [show rightP p.v p.l p.b = false from h0]; rfl])
    have HV : Hid (fitB p s f h = false) := Lib.hid (by unfold fitB; simp [*])
    go_wp2_with fail
    go_ret
    rw [HV.out]
    exact ⟨rfl, HB1.out⟩
  | true =>
    (rw [show errP p.v p.l p.b = 0 by unfold errP; rw [show rightP p.v p.l p.b = true from h0]; rfl])
    by_cases g1 : 1 ≤ s
    case neg =>
      have h1 : decide (1 ≤ s) = false := decide_eq_false g1
      clear g1
      have HV : Hid (fitB p s f h = false) := Lib.hid (by unfold fitB; simp [*])
      go_wp2_with fail
      go_ret
      rw [HV.out]
      exact ⟨rfl, HB1.out⟩
    case pos =>
      have h1 : decide (1 ≤ s) = true := decide_eq_true g1
      by_cases g2 : s ≤ 4
      case neg =>
        have h2 : decide (s ≤ 4) = false := decide_eq_false g2
        clear g1 g2
        have HV : Hid (fitB p s f h = false) := Lib.hid (by unfold fitB; simp [*])
        go_wp2_with fail
        go_ret
        rw [HV.out]
        exact ⟨rfl, HB1.out⟩
      case pos =>
        have h2 : decide (s ≤ 4) = true := decide_eq_true g2
        clear g1 g2
        by_cases g3 : 0 ≤ f
        case neg =>
          have h3 : decide (0 ≤ f) = false := decide_eq_false g3
          clear g3
          have HV : Hid (fitB p s f h = false) := Lib.hid (by unfold fitB; simp [*])
          go_wp2_with fail
          go_ret
          rw [HV.out]
          exact ⟨rfl, HB1.out⟩
        case pos =>
          have h3 : decide (0 ≤ f) = true := decide_eq_true g3
          by_cases g4 : f ≤ 255
          case neg =>
            have h4 : decide (f ≤ 255) = false := decide_eq_false g4
            clear g3 g4
            have HV : Hid (fitB p s f h = false) := Lib.hid (by unfold fitB; simp [*])
            go_wp2_with fail
            go_ret
            rw [HV.out]
            exact ⟨rfl, HB1.out⟩
          case pos =>
            have h4 : decide (f ≤ 255) = true := decide_eq_true g4
            clear g3 g4
            by_cases g5 : 1 ≤ h
            case neg =>
              have h5 : decide (1 ≤ h) = false := decide_eq_false g5
              clear g5
              have HV : Hid (fitB p s f h = false) := Lib.hid (by unfold fitB; simp [*])
              go_wp2_with fail
              go_ret
              rw [HV.out]
              exact ⟨rfl, HB1.out⟩
            case pos =>
              have h5 : decide (1 ≤ h) = true := decide_eq_true g5
              cases h6 : decide (h ≤ 255) with
              | false =>
                clear g5
                have HV : Hid (fitB p s f h = false) := Lib.hid (by unfold fitB; simp [*])
                go_wp2_with fail
                go_ret
                rw [HV.out]
                exact ⟨rfl, HB1.out⟩
              | true =>
                clear g5
                have HV : Hid (fitB p s f h = true) := Lib.hid (by unfold fitB; rw [h0, h1, h2, h3, h4, h5, h6]; rfl)
                go_wp2_with fail
                go_ret
                rw [HV.out]
                exact ⟨rfl, HB1.out⟩
set_option maxHeartbeats 2000000 in
theorem update_any (u : Upd) (w : World) (hL : Laid w) (hu : u.fits) : Calls Tryd.prog 63 #[.agg (updV u)] w fun e w' => e = .returned (.bool (updB u)) ∧ Below w.heap.size w w' := by
  have hblk1 := blk_new w (.cells (updV u) 75)
  have hbel1 : Below w.heap.size w (w.alloc (.cells (updV u) 75)) := below_alloc (Below.refl _ _) _
  have HP1 := Lib.hid (upd_at hu hblk1)
  have HBK1 := Lib.hid hblk1
  have HBE := Lib.hid hbel1
  have HL := Lib.hid (hL.below HBE.out)
  obtain ⟨cs1, hcs1⟩ : ∃ cs, updV u = cs := ⟨_, rfl⟩
  simp only [hcs1] at HBE HL HP1 HBK1 ⊢
  have HC1 := Lib.hid hcs1
  clear hL hcs1 hblk1 hbel1
  obtain ⟨p, s, g, f, h⟩ := u
  have hr := (HP1.out.all _ (Below.refl _ _))
  have HLD := Lib.hid hr
  clear hr
  go_enter Tryd.func63, Tryd.ntmps63
  cases g with
  | true =>
    by_cases g1 : f = 0
    case neg =>
      have h1 : (f == 0) = false := by simpa using g1
      have HV : Hid (updB ⟨p, s, true, f, h⟩ = false) := Lib.hid (by simp [updB, g1])
      clear g1
      go_wp2_with (first | ((with_reducible show wpList _ _ _ (Oper.mk _ (Op.load _ _) _ _ _ _ :: _) _ _); refine wpList_load_g (HLD.out.gon) _ rfl rfl (by go_simp) ?_) | ((with_reducible show wpList _ _ _ (Oper.mk _ (Op.load _ _) _ _ _ _ :: _) _ _); refine wpList_load_g (HLD.out.prf) _ rfl rfl (by go_simp) ?_) | ((with_reducible show wpList _ _ _ (Oper.mk _ (Op.load _ _) _ _ _ _ :: _) _ _); refine wpList_load_g (HLD.out.hop) _ rfl rfl (by go_simp) ?_) | ((with_reducible show wpList _ _ _ (Oper.mk _ (Op.load _ _) _ _ _ _ :: _) _ _); refine wpList_load_g (HLD.out.src) _ rfl rfl (by go_simp) ?_) | ((with_reducible show wpList _ _ _ (Oper.mk _ (Op.load _ _) _ _ _ _ :: _) _ _); refine wpList_load_g (HLD.out.pfx) _ rfl rfl (by go_simp) ?_))
      go_ret
      rw [HV.out]
      exact ⟨rfl, HBE.out⟩
    case pos =>
      subst g1
      by_cases g2 : h = 0
      case neg =>
        have h2 : (h == 0) = false := by simpa using g2
        have HV : Hid (updB ⟨p, s, true, 0, h⟩ = false) := Lib.hid (by simp [updB, g2])
        clear g2
        go_wp2_with (first | ((with_reducible show wpList _ _ _ (Oper.mk _ (Op.load _ _) _ _ _ _ :: _) _ _); refine wpList_load_g (HLD.out.gon) _ rfl rfl (by go_simp) ?_) | ((with_reducible show wpList _ _ _ (Oper.mk _ (Op.load _ _) _ _ _ _ :: _) _ _); refine wpList_load_g (HLD.out.prf) _ rfl rfl (by go_simp) ?_) | ((with_reducible show wpList _ _ _ (Oper.mk _ (Op.load _ _) _ _ _ _ :: _) _ _); refine wpList_load_g (HLD.out.hop) _ rfl rfl (by go_simp) ?_) | ((with_reducible show wpList _ _ _ (Oper.mk _ (Op.load _ _) _ _ _ _ :: _) _ _); refine wpList_load_g (HLD.out.src) _ rfl rfl (by go_simp) ?_) | ((with_reducible show wpList _ _ _ (Oper.mk _ (Op.load _ _) _ _ _ _ :: _) _ _); refine wpList_load_g (HLD.out.pfx) _ rfl rfl (by go_simp) ?_))
        go_ret
        rw [HV.out]
        exact ⟨rfl, HBE.out⟩
      case pos =>
        subst g2
        have HV : Hid (updB ⟨p, s, true, 0, 0⟩ = fitB p s 0 1) := Lib.hid (by simp [updB])
        go_wp2_with (first | ((with_reducible show wpList _ _ _ (Oper.mk _ (Op.load _ _) _ _ _ _ :: _) _ _); refine wpList_load_g (HLD.out.gon) _ rfl rfl (by go_simp) ?_) | ((with_reducible show wpList _ _ _ (Oper.mk _ (Op.load _ _) _ _ _ _ :: _) _ _); refine wpList_load_g (HLD.out.prf) _ rfl rfl (by go_simp) ?_) | ((with_reducible show wpList _ _ _ (Oper.mk _ (Op.load _ _) _ _ _ _ :: _) _ _); refine wpList_load_g (HLD.out.hop) _ rfl rfl (by go_simp) ?_) | ((with_reducible show wpList _ _ _ (Oper.mk _ (Op.load _ _) _ _ _ _ :: _) _ _); refine wpList_load_g (HLD.out.src) _ rfl rfl (by go_simp) ?_) | ((with_reducible show wpList _ _ _ (Oper.mk _ (Op.load _ _) _ _ _ _ :: _) _ _); refine wpList_load_g (HLD.out.pfx) _ rfl rfl (by go_simp) ?_))
        refine (rfits_any p s 0 1 _ HL.out hu).mono ?_
        rintro e w1 ⟨rfl, hb1⟩
        have HB1 := Lib.hid (below_step HBE.out hb1)
        clear hb1
        rw [← HV.out]
        go_wp2
        go_ret
        exact ⟨rfl, HB1.out⟩
  | false =>
    have HV : Hid (updB ⟨p, s, false, f, h⟩ = fitB p s f h) := Lib.hid (by simp [updB])
    go_wp2_with (first | ((with_reducible show wpList _ _ _ (Oper.mk _ (Op.load _ _) _ _ _ _ :: _) _ _); refine wpList_load_g (HLD.out.gon) _ rfl rfl (by go_simp) ?_) | ((with_reducible show wpList _ _ _ (Oper.mk _ (Op.load _ _) _ _ _ _ :: _) _ _); refine wpList_load_g (HLD.out.prf) _ rfl rfl (by go_simp) ?_) | ((with_reducible show wpList _ _ _ (Oper.mk _ (Op.load _ _) _ _ _ _ :: _) _ _); refine wpList_load_g (HLD.out.hop) _ rfl rfl (by go_simp) ?_) | ((with_reducible show wpList _ _ _ (Oper.mk _ (Op.load _ _) _ _ _ _ :: _) _ _); refine wpList_load_g (HLD.out.src) _ rfl rfl (by go_simp) ?_) | ((with_reducible show wpList _ _ _ (Oper.mk _ (Op.load _ _) _ _ _ _ :: _) _ _); refine wpList_load_g (HLD.out.pfx) _ rfl rfl (by go_simp) ?_))
    refine (rfits_any p s f h _ HL.out hu).mono ?_
    rintro e w1 ⟨rfl, hb1⟩
    have HB1 := Lib.hid (below_step HBE.out hb1)
    clear hb1
    rw [← HV.out]
    go_wp2
    go_ret
    exact ⟨rfl, HB1.out⟩
set_option maxHeartbeats 2000000 in
theorem twin1_any (x u : Upd) (g : Nat) (w : World) (hxo : x.ok) (huo : u.ok) (hg : UpdAt w g u) : Calls Tryd.prog 62 #[.agg (updV x), .pointer (some ⟨g, 0, none⟩)] w fun e w' => e = .returned (.bool (twin x u)) ∧ Below w.heap.size w w' := by
  have hx := hxo.fits
  have hblk1 := blk_new w (.cells (updV x) 75)
  have hbel1 : Below w.heap.size w (w.alloc (.cells (updV x) 75)) := below_alloc (Below.refl _ _) _
  have HP1 := Lib.hid (upd_at hx hblk1)
  have HBK1 := Lib.hid hblk1
  have HBE := Lib.hid hbel1
  obtain ⟨cs1, hcs1⟩ : ∃ cs, updV x = cs := ⟨_, rfl⟩
  simp only [hcs1] at HBE HP1 HBK1 ⊢
  have HC1 := Lib.hid hcs1
  clear hcs1 hblk1 hbel1
  have HG := Lib.hid (hg.all _ HBE.out)
  have HLD := Lib.hid (HP1.out.all _ (Below.refl _ _))
  clear hg
  go_enter Tryd.func62, Tryd.ntmps62
  cases h0 : x.p.eqB u.p with
  | false =>
    have HV : Hid (twin x u = false) := Lib.hid (by unfold twin; rw [h0]; rfl)
    have HEX := Lib.hid (pfx_eq_hex hxo.p huo.p h0)
    clear h0
    go_wp2_with (first | ((with_reducible show wpList _ _ _ (Oper.mk _ (Op.load _ _) _ _ _ _ :: _) _ _); refine wpList_load_g (HLD.out.pfx) _ rfl rfl (by go_simp) ?_) | ((with_reducible show wpList _ _ _ (Oper.mk _ (Op.load _ _) _ _ _ _ :: _) _ _); refine wpList_load_g (HG.out.pfx) _ rfl rfl (by go_simp) ?_) | ((with_reducible show wpList _ _ _ (Oper.mk _ (Op.binOp _ _ _ _ _) _ _ _ _ :: _) _ _); refine wpList_exw rfl (HEX.out _ _ _ _ _ rfl rfl rfl _) ?_))
    go_ret
    rw [HV.out]
    exact ⟨rfl, HBE.out⟩
  | true =>
    have HV : Hid (twin x u = decide (x.s = u.s)) := Lib.hid (by unfold twin; rw [h0]; rfl)
    have HEX := Lib.hid (pfx_eq_hex hxo.p huo.p h0)
    clear h0
    go_wp2_with (first | ((with_reducible show wpList _ _ _ (Oper.mk _ (Op.load _ _) _ _ _ _ :: _) _ _); refine wpList_load_g (HLD.out.pfx) _ rfl rfl (by go_simp) ?_) | ((with_reducible show wpList _ _ _ (Oper.mk _ (Op.load _ _) _ _ _ _ :: _) _ _); refine wpList_load_g (HG.out.pfx) _ rfl rfl (by go_simp) ?_) | ((with_reducible show wpList _ _ _ (Oper.mk _ (Op.load _ _) _ _ _ _ :: _) _ _); refine wpList_load_g (HLD.out.src) _ rfl rfl (by go_simp) ?_) | ((with_reducible show wpList _ _ _ (Oper.mk _ (Op.load _ _) _ _ _ _ :: _) _ _); refine wpList_load_g (HG.out.src) _ rfl rfl (by go_simp) ?_) | ((with_reducible show wpList _ _ _ (Oper.mk _ (Op.binOp _ _ _ _ _) _ _ _ _ :: _) _ _); refine wpList_exw rfl (HEX.out _ _ _ _ _ rfl rfl rfl _) ?_))
    go_ret
    rw [HV.out]
    exact ⟨rfl, HBE.out⟩
set_option maxHeartbeats 2000000 in
theorem order_any (a b : Rte) (w : World) (ha : a.fits) (hb : b.fits) : Calls Tryd.prog 43 #[.agg (rteV a), .agg (rteV b)] w fun e w' => e = .returned (.int .i64 (cR a b)) ∧ Below w.heap.size w w' := by
  have hblk1 := blk_new w (.cells (rteV a) 51)
  have hbel1 : Below w.heap.size w (w.alloc (.cells (rteV a) 51)) := below_alloc (Below.refl _ _) _
  have hblk2 := blk_new (w.alloc (.cells (rteV a) 51)) (.cells (rteV b) 51)
  have hbel2 : Below w.heap.size w ((w.alloc (.cells (rteV a) 51)).alloc (.cells (rteV b) 51)) := below_alloc (hbel1) _
  rw [show (w.alloc (.cells (rteV a) 51)).heap.size = w.heap.size + 1 by simp] at hblk2
  replace hblk1 := blk_below hblk1 (below_alloc (Below.refl _ _) (.cells (rteV b) 51))
  have HP1 := Lib.hid (rte_at ha hblk1)
  have HBK1 := Lib.hid hblk1
  have HP2 := Lib.hid (rte_at hb hblk2)
  have HBK2 := Lib.hid hblk2
  have HBE := Lib.hid hbel2
  obtain ⟨cs1, hcs1⟩ : ∃ cs, rteV a = cs := ⟨_, rfl⟩
  obtain ⟨cs2, hcs2⟩ : ∃ cs, rteV b = cs := ⟨_, rfl⟩
  simp only [hcs1, hcs2] at HBE HP1 HP2 HBK1 HBK2 ⊢
  have HC1 := Lib.hid hcs1
  have HC2 := Lib.hid hcs2
  clear hcs1 hblk1 hbel1 hcs2 hblk2 hbel2
  have HE := Lib.hid (cR_or a b ha hb)
  go_enter Tryd.func43, Tryd.ntmps43
  go_wp2_with fail
  refine wp_region_mix (fun w0 => Below ((w.alloc (.cells cs1 51)).alloc (.cells cs2 51)).heap.size ((w.alloc (.cells cs1 51)).alloc (.cells cs2 51)) w0) [(0, 0), (1, 0), (2, 0), (3, 0), (5, 0), (6, 0), (7, 0), (8, 0), (4, 2), (9, 2), (10, 2), (11, 2), (12, 0)] (by kernel_rfl) (by kernel_rfl) (below_drew1 _) ?_
  simp only [List.map_cons, List.map_nil]
  iterate 1 (refine wpO_step0 rfl rfl (fun K hK => ?_); go_simp; refine hK _ _ ?_; clear hK K)
  refine wpO_loadW (t := 49) (ad := ⟨w.heap.size, 0, none⟩) rfl rfl ?hw rfl rfl ((fun w0 hS => (HP1.out.all w0 hS).pfx)) ?_
  case hw => go_simp
  iterate 1 (refine wpO_step0 rfl rfl (fun K hK => ?_); go_simp; refine hK _ _ ?_; clear hK K)
  refine wpO_loadW (t := 49) (ad := ⟨(w.heap.size+1), 0, none⟩) rfl rfl ?hw rfl rfl ((fun w0 hS => (HP2.out.all w0 hS).pfx)) ?_
  case hw => go_simp
  iterate 1 (refine wpO_step0 rfl rfl (fun K hK => ?_); go_simp; refine hK _ _ ?_; clear hK K)
  refine wpO_loadW (t := 3) (ad := ⟨w.heap.size, 18, none⟩) rfl rfl ?hw rfl rfl ((fun w0 hS => (HP1.out.all w0 hS).src)) ?_
  case hw => go_simp
  iterate 1 (refine wpO_step0 rfl rfl (fun K hK => ?_); go_simp; refine hK _ _ ?_; clear hK K)
  refine wpO_loadW (t := 3) (ad := ⟨(w.heap.size+1), 18, none⟩) rfl rfl ?hw rfl rfl ((fun w0 hS => (HP2.out.all w0 hS).src)) ?_
  case hw => go_simp
  refine wpO_step2 rfl rfl (below_drew1 _) (fun K hK => ?_)
  go_simp
  refine (compare_any a.p b.p _ ha hb).mono ?_
  rintro e w1 ⟨rfl, hb1⟩
  have HB1 := Lib.hid (below_step (below_drew1 _) hb1)
  clear hb1
  refine hK _ _ ⟨HB1.out, ?_⟩
  clear hK K
  refine wpO_step2 rfl rfl (HB1.out) (fun K hK => ?_)
  go_simp
  refine (cmpint_any a.s b.s _).mono ?_
  rintro e w2 ⟨rfl, rfl⟩
  refine hK _ _ ⟨HB1.out, ?_⟩
  clear hK K
  obtain ⟨x0, h0⟩ : ∃ x, a.p.cmp b.p = x := ⟨_, rfl⟩
  obtain ⟨x1, h1⟩ : ∃ x, cmpN a.s b.s = x := ⟨_, rfl⟩
  rw [h0, h1] at HE
  rw [h0, h1]
  clear h0 h1
  refine wpO_step2 rfl rfl (HB1.out) (fun K hK => ?_)
  go_simp
  have HRI := Lib.hid (OI.new w1 0 [x0, x1] (by omega) (by simp)).reads
  have HB2 := Lib.hid (below_step HB1.out (below_alloc (Below.refl w1.heap.size w1) (.cells #[.int .i64 x0, .int .i64 x1] 3)))
  refine hK _ _ ⟨HB2.out, ?_⟩
  clear hK K
  refine wpO_step2 rfl rfl (HB2.out) (fun K hK => ?_)
  go_simp
  refine (or_any _ 2 2 [x0, x1] _ HRI.out).mono ?_
  rintro e w3 ⟨rfl, rfl⟩
  refine hK _ _ ⟨HB2.out, ?_⟩
  clear hK K
  iterate 1 (refine wpO_step0 rfl rfl (fun K hK => ?_); go_simp; refine hK _ _ ?_; clear hK K)
  refine wpO_nil ?_
  go_wp2
  go_ret
  rw [HE.out]
  exact ⟨rfl, below_step HBE.out HB2.out⟩
def betB (a b : Rte) : Bool := decide (0 < orI [cmpN a.f b.f, cmpN b.s a.s])
set_option maxHeartbeats 2000000 in
theorem better_any (a b : Rte) (w : World) (ha : a.fits) (hb : b.fits) : Calls Tryd.prog 51 #[.agg (rteV a), .agg (rteV b)] w fun e w' => e = .returned (.bool (betB a b)) ∧ Below w.heap.size w w' := by
  have hblk1 := blk_new w (.cells (rteV a) 51)
  have hbel1 : Below w.heap.size w (w.alloc (.cells (rteV a) 51)) := below_alloc (Below.refl _ _) _
  have hblk2 := blk_new (w.alloc (.cells (rteV a) 51)) (.cells (rteV b) 51)
  have hbel2 : Below w.heap.size w ((w.alloc (.cells (rteV a) 51)).alloc (.cells (rteV b) 51)) := below_alloc (hbel1) _
  rw [show (w.alloc (.cells (rteV a) 51)).heap.size = w.heap.size + 1 by simp] at hblk2
  replace hblk1 := blk_below hblk1 (below_alloc (Below.refl _ _) (.cells (rteV b) 51))
  have HP1 := Lib.hid (rte_at ha hblk1)
  have HBK1 := Lib.hid hblk1
  have HP2 := Lib.hid (rte_at hb hblk2)
  have HBK2 := Lib.hid hblk2
  have HBE := Lib.hid hbel2
  obtain ⟨cs1, hcs1⟩ : ∃ cs, rteV a = cs := ⟨_, rfl⟩
  obtain ⟨cs2, hcs2⟩ : ∃ cs, rteV b = cs := ⟨_, rfl⟩
  simp only [hcs1, hcs2] at HBE HP1 HP2 HBK1 HBK2 ⊢
  have HC1 := Lib.hid hcs1
  have HC2 := Lib.hid hcs2
  clear hcs1 hblk1 hbel1 hcs2 hblk2 hbel2
  have HE := Lib.hid (show betB a b = decide (0 < orI [cmpN a.f b.f, cmpN b.s a.s]) from rfl)
  go_enter Tryd.func51, Tryd.ntmps51
  go_wp2_with fail
  refine wp_region_mix (fun w0 => Below ((w.alloc (.cells cs1 51)).alloc (.cells cs2 51)).heap.size ((w.alloc (.cells cs1 51)).alloc (.cells cs2 51)) w0) [(0, 0), (1, 0), (2, 0), (3, 0), (5, 0), (6, 0), (7, 0), (8, 0), (4, 2), (9, 2), (10, 2), (11, 2), (12, 0), (13, 0)] (by kernel_rfl) (by kernel_rfl) (below_drew1 _) ?_
  simp only [List.map_cons, List.map_nil]
  iterate 1 (refine wpO_step0 rfl rfl (fun K hK => ?_); go_simp; refine hK _ _ ?_; clear hK K)
  refine wpO_loadW (t := 3) (ad := ⟨w.heap.size, 19, none⟩) rfl rfl ?hw rfl rfl ((fun w0 hS => (HP1.out.all w0 hS).prf)) ?_
  case hw => go_simp
  iterate 1 (refine wpO_step0 rfl rfl (fun K hK => ?_); go_simp; refine hK _ _ ?_; clear hK K)
  refine wpO_loadW (t := 3) (ad := ⟨(w.heap.size+1), 19, none⟩) rfl rfl ?hw rfl rfl ((fun w0 hS => (HP2.out.all w0 hS).prf)) ?_
  case hw => go_simp
  iterate 1 (refine wpO_step0 rfl rfl (fun K hK => ?_); go_simp; refine hK _ _ ?_; clear hK K)
  refine wpO_loadW (t := 3) (ad := ⟨(w.heap.size+1), 18, none⟩) rfl rfl ?hw rfl rfl ((fun w0 hS => (HP2.out.all w0 hS).src)) ?_
  case hw => go_simp
  iterate 1 (refine wpO_step0 rfl rfl (fun K hK => ?_); go_simp; refine hK _ _ ?_; clear hK K)
  refine wpO_loadW (t := 3) (ad := ⟨w.heap.size, 18, none⟩) rfl rfl ?hw rfl rfl ((fun w0 hS => (HP1.out.all w0 hS).src)) ?_
  case hw => go_simp
  refine wpO_step2 rfl rfl (below_drew1 _) (fun K hK => ?_)
  go_simp
  refine (cmpint_any a.f b.f _).mono ?_
  rintro e w2 ⟨rfl, rfl⟩
  refine hK _ _ ⟨below_drew1 _, ?_⟩
  clear hK K
  refine wpO_step2 rfl rfl (below_drew1 _) (fun K hK => ?_)
  go_simp
  refine (cmpint_any b.s a.s _).mono ?_
  rintro e w2 ⟨rfl, rfl⟩
  refine hK _ _ ⟨below_drew1 _, ?_⟩
  clear hK K
  obtain ⟨x0, h0⟩ : ∃ x, cmpN a.f b.f = x := ⟨_, rfl⟩
  obtain ⟨x1, h1⟩ : ∃ x, cmpN b.s a.s = x := ⟨_, rfl⟩
  rw [h0, h1] at HE
  rw [h0, h1]
  clear h0 h1
  obtain ⟨W1, hW1⟩ : ∃ W1, ((w.alloc (.cells cs1 51)).alloc (.cells cs2 51)).drew = W1 := ⟨_, rfl⟩
  have HB1 : Hid (Below ((w.alloc (.cells cs1 51)).alloc (.cells cs2 51)).heap.size ((w.alloc (.cells cs1 51)).alloc (.cells cs2 51)) W1) := Lib.hid (hW1 ▸ below_drew1 _)
  rw [hW1]
  clear hW1
  refine wpO_step2 rfl rfl (HB1.out) (fun K hK => ?_)
  go_simp
  have HRI := Lib.hid (OI.new W1 0 [x0, x1] (by omega) (by simp)).reads
  have HB2 := Lib.hid (below_step HB1.out (below_alloc (Below.refl W1.heap.size W1) (.cells #[.int .i64 x0, .int .i64 x1] 3)))
  refine hK _ _ ⟨HB2.out, ?_⟩
  clear hK K
  refine wpO_step2 rfl rfl (HB2.out) (fun K hK => ?_)
  go_simp
  refine (or_any _ 2 2 [x0, x1] _ HRI.out).mono ?_
  rintro e w3 ⟨rfl, rfl⟩
  refine hK _ _ ⟨HB2.out, ?_⟩
  clear hK K
  iterate 1 (refine wpO_step0 rfl rfl (fun K hK => ?_); go_simp; refine hK _ _ ?_; clear hK K)
  iterate 1 (refine wpO_step0 rfl rfl (fun K hK => ?_); go_simp; refine hK _ _ ?_; clear hK K)
  refine wpO_nil ?_
  go_wp2
  go_ret
  rw [HE.out]
  exact ⟨rfl, below_step HBE.out HB2.out⟩
def beats (y x : Rte) : Bool := y.p.eqB x.p && betB y x
set_option maxHeartbeats 2000000 in
theorem best1_any (y x : Rte) (g : Nat) (w : World) (hyo : y.ok) (hxo : x.ok) (hg : RteAt w g x) : Calls Tryd.prog 50 #[.agg (rteV y), .pointer (some ⟨g, 0, none⟩)] w fun e w' => e = .returned (.bool (beats y x)) ∧ Below w.heap.size w w' := by
  have hy := hyo.fits
  have hblk1 := blk_new w (.cells (rteV y) 51)
  have hbel1 : Below w.heap.size w (w.alloc (.cells (rteV y) 51)) := below_alloc (Below.refl _ _) _
  have HP1 := Lib.hid (rte_at hy hblk1)
  have HBK1 := Lib.hid hblk1
  have HBE := Lib.hid hbel1
  obtain ⟨cs1, hcs1⟩ : ∃ cs, rteV y = cs := ⟨_, rfl⟩
  simp only [hcs1] at HBE HP1 HBK1 ⊢
  have HC1 := Lib.hid hcs1
  clear hcs1 hblk1 hbel1
  have HG := Lib.hid (hg.all _ HBE.out)
  have HLD := Lib.hid (HP1.out.all _ (Below.refl _ _))
  clear hg
  go_enter Tryd.func50, Tryd.ntmps50
  cases h0 : y.p.eqB x.p with
  | false =>
    have HV : Hid (beats y x = false) := Lib.hid (by unfold beats; rw [h0]; rfl)
    have HEX := Lib.hid (pfx_eq_hex hyo.p hxo.p h0)
    clear h0
    go_wp2_with (first | ((with_reducible show wpList _ _ _ (Oper.mk _ (Op.load _ _) _ _ _ _ :: _) _ _); refine wpList_load_g (HLD.out.pfx) _ rfl rfl (by go_simp) ?_) | ((with_reducible show wpList _ _ _ (Oper.mk _ (Op.load _ _) _ _ _ _ :: _) _ _); refine wpList_load_g (HG.out.pfx) _ rfl rfl (by go_simp) ?_) | ((with_reducible show wpList _ _ _ (Oper.mk _ (Op.binOp _ _ _ _ _) _ _ _ _ :: _) _ _); refine wpList_exw rfl (HEX.out _ _ _ _ _ rfl rfl rfl _) ?_))
    go_ret
    rw [HV.out]
    exact ⟨rfl, HBE.out⟩
  | true =>
    have HV : Hid (beats y x = betB y x) := Lib.hid (by unfold beats; rw [h0]; rfl)
    have HEX := Lib.hid (pfx_eq_hex hyo.p hxo.p h0)
    clear h0
    go_wp2_with (first | ((with_reducible show wpList _ _ _ (Oper.mk _ (Op.load _ _) _ _ _ _ :: _) _ _); refine wpList_load_g (HLD.out.pfx) _ rfl rfl (by go_simp) ?_) | ((with_reducible show wpList _ _ _ (Oper.mk _ (Op.load _ _) _ _ _ _ :: _) _ _); refine wpList_load_g (HG.out.pfx) _ rfl rfl (by go_simp) ?_) | ((with_reducible show wpList _ _ _ (Oper.mk _ (Op.load _ _) _ _ _ _ :: _) _ _); refine wpList_load_g (HLD.out.all) _ rfl rfl (by go_simp) ?_) | ((with_reducible show wpList _ _ _ (Oper.mk _ (Op.load _ _) _ _ _ _ :: _) _ _); refine wpList_load_g (HG.out.all) _ rfl rfl (by go_simp) ?_) | ((with_reducible show wpList _ _ _ (Oper.mk _ (Op.binOp _ _ _ _ _) _ _ _ _ :: _) _ _); refine wpList_exw rfl (HEX.out _ _ _ _ _ rfl rfl rfl _) ?_))
    refine (better_any y x _ hy hxo.fits).mono ?_
    rintro e w1 ⟨rfl, hb1⟩
    have HB1 := Lib.hid (below_step HBE.out hb1)
    clear hb1
    go_wp2
    go_ret
    rw [HV.out]
    exact ⟨rfl, HB1.out⟩
end Go.Proofs.YtnpeedmicjeleaaDoor

/- Arguments that are RIBs and batches, opened. -/
namespace Go.Proofs.YtnpeedmicjeleaaDoor
open Go.ChangeShapes Go.WideShapes Go.ChangeAt Go.RowKit
set_option linter.unusedVariables false
set_option linter.unusedSimpArgs false
set_option maxRecDepth 4000
theorem parts4 {α : Type} (l : List α) (a : Nat) : l = l.take a ++ ((l.drop a).take 1 ++ ((l.drop (a + 1)).take 1 ++ l.drop (a + 2))) := by
  have h1 : l.drop a = (l.drop a).take 1 ++ l.drop (a + 1) := by
    conv => lhs; rw [← List.take_append_drop 1 (l.drop a)]
    rw [List.drop_drop]
  have h2 : l.drop (a + 1) = (l.drop (a + 1)).take 1 ++ l.drop (a + 2) := by
    conv => lhs; rw [← List.take_append_drop 1 (l.drop (a + 1))]
    rw [List.drop_drop]
  rw [← h2, ← h1, List.take_append_drop]
section
variable {H : Type} {enc : TypeId × Value → H} {W : World} {base : Nat} {spare : Nat → Bool} {held : Bool}
theorem open_rte_cells {fuel : Nat} {cs : List Value} {x : DataW H × List MemPlace} (h : DataW.trod enc Tryd.prog W base spare held fuel 51 cs = some x) : ∃ r : Rte, cs = rteC r ∧ r.ok := by
  obtain ⟨xs, m, -, -, hlen, hxl, hg⟩ := DataW.trod_struct Tryd.underlying51 h
  have c1 : Tryd.prog.cellsOf 3 = 1 := by kernel_rfl
  have c2 : Tryd.prog.cellsOf 49 = 18 := by kernel_rfl
  have c3 : Tryd.prog.cellsOf 51 = 21 := by kernel_rfl
  have h0 : DataW.trod enc Tryd.prog W base spare held m 49 ((cs.drop 0).take (Tryd.prog.cellsOf 49)) = xs[0]? := hg 0 _ rfl
  have h1 : DataW.trod enc Tryd.prog W base spare held m 3 ((cs.drop 18).take (Tryd.prog.cellsOf 3)) = xs[1]? := hg 1 _ rfl
  have h2 : DataW.trod enc Tryd.prog W base spare held m 3 ((cs.drop 19).take (Tryd.prog.cellsOf 3)) = xs[2]? := hg 2 _ rfl
  have h3 : DataW.trod enc Tryd.prog W base spare held m 3 ((cs.drop 20).take (Tryd.prog.cellsOf 3)) = xs[3]? := hg 3 _ rfl
  rw [c3] at hlen
  rw [c2, List.drop_zero] at h0
  rw [c1] at h1 h2 h3
  have hx4 : xs.length = 4 := hxl
  match xs, hx4 with
  | [x0, x1, x2, x3], _ =>
    obtain ⟨v, l, b, hvl, hb, hw, hwb⟩ := open_pfx_cells (show DataW.trod enc Tryd.prog W base spare held m 49 (cs.take 18) = some x0 from h0)
    obtain ⟨s1, hv1, -, hw1⟩ := DataW.trod_int Tryd.underlying3 (show DataW.trod enc Tryd.prog W base spare held m 3 ((cs.drop 18).take 1) = some x1 from h1)
    obtain ⟨s2, hv2, -, hw2⟩ := DataW.trod_int Tryd.underlying3 (show DataW.trod enc Tryd.prog W base spare held m 3 ((cs.drop 19).take 1) = some x2 from h2)
    obtain ⟨s3, hv3, -, hw3⟩ := DataW.trod_int Tryd.underlying3 (show DataW.trod enc Tryd.prog W base spare held m 3 ((cs.drop 20).take 1) = some x3 from h3)
    rw [List.take_of_length_le (by rw [List.length_drop]; omega)] at hv3
    refine ⟨⟨⟨v, l, b⟩, s1, s2, s3⟩, ?_, ⟨hb, hw, hwb⟩, hw1, hw2, hw3⟩
    rw [parts4 cs 18, hvl, hv1, hv2, hv3]
    rw [show rteC ⟨⟨v, l, b⟩, s1, s2, s3⟩ = (pfxV v l b).toList ++ [.int .i64 s1, .int .i64 s2, .int .i64 s3] from rfl, pfxV_list]
    simp
theorem open_upd_cells {fuel : Nat} {cs : List Value} {x : DataW H × List MemPlace} (h : DataW.trod enc Tryd.prog W base spare held fuel 75 cs = some x) : ∃ r : Upd, cs = updC r ∧ r.ok := by
  obtain ⟨xs, m, -, -, hlen, hxl, hg⟩ := DataW.trod_struct Tryd.underlying75 h
  have c1 : Tryd.prog.cellsOf 3 = 1 := by kernel_rfl
  have c4 : Tryd.prog.cellsOf 4 = 1 := by kernel_rfl
  have c2 : Tryd.prog.cellsOf 49 = 18 := by kernel_rfl
  have c3 : Tryd.prog.cellsOf 75 = 22 := by kernel_rfl
  have h0 : DataW.trod enc Tryd.prog W base spare held m 49 ((cs.drop 0).take (Tryd.prog.cellsOf 49)) = xs[0]? := hg 0 _ rfl
  have h1 : DataW.trod enc Tryd.prog W base spare held m 3 ((cs.drop 18).take (Tryd.prog.cellsOf 3)) = xs[1]? := hg 1 _ rfl
  have h2 : DataW.trod enc Tryd.prog W base spare held m 4 ((cs.drop 19).take (Tryd.prog.cellsOf 4)) = xs[2]? := hg 2 _ rfl
  have h3 : DataW.trod enc Tryd.prog W base spare held m 3 ((cs.drop 20).take (Tryd.prog.cellsOf 3)) = xs[3]? := hg 3 _ rfl
  have h4 : DataW.trod enc Tryd.prog W base spare held m 3 ((cs.drop 21).take (Tryd.prog.cellsOf 3)) = xs[4]? := hg 4 _ rfl
  rw [c3] at hlen
  rw [c2, List.drop_zero] at h0
  rw [c1] at h1 h3 h4
  rw [c4] at h2
  have hx5 : xs.length = 5 := hxl
  match xs, hx5 with
  | [x0, x1, x2, x3, x4], _ =>
    obtain ⟨v, l, b, hvl, hb, hw, hwb⟩ := open_pfx_cells (show DataW.trod enc Tryd.prog W base spare held m 49 (cs.take 18) = some x0 from h0)
    obtain ⟨s1, hv1, -, hw1⟩ := DataW.trod_int Tryd.underlying3 (show DataW.trod enc Tryd.prog W base spare held m 3 ((cs.drop 18).take 1) = some x1 from h1)
    obtain ⟨g, hv2, -⟩ := DataW.trod_bool Tryd.underlying4 (show DataW.trod enc Tryd.prog W base spare held m 4 ((cs.drop 19).take 1) = some x2 from h2)
    obtain ⟨s3, hv3, -, hw3⟩ := DataW.trod_int Tryd.underlying3 (show DataW.trod enc Tryd.prog W base spare held m 3 ((cs.drop 20).take 1) = some x3 from h3)
    obtain ⟨s4, hv4, -, hw4⟩ := DataW.trod_int Tryd.underlying3 (show DataW.trod enc Tryd.prog W base spare held m 3 ((cs.drop 21).take 1) = some x4 from h4)
    rw [List.take_of_length_le (by rw [List.length_drop]; omega)] at hv4
    refine ⟨⟨⟨v, l, b⟩, s1, g, s3, s4⟩, ?_, ⟨hb, hw, hwb⟩, hw1, hw3, hw4⟩
    have e2 : cs.drop 20 = (cs.drop 20).take 1 ++ cs.drop 21 := by
      conv => lhs; rw [← List.take_append_drop 1 (cs.drop 20)]
      rw [List.drop_drop]
    rw [parts4 cs 18, hvl, hv1, hv2, show 18 + 2 = 20 from rfl, e2, hv3, hv4]
    rw [show updC ⟨⟨v, l, b⟩, s1, g, s3, s4⟩ = (pfxV v l b).toList ++ [.int .i64 s1, .bool g, .int .i64 s3, .int .i64 s4] from rfl, pfxV_list]
    simp
theorem open_rib_cells {fuel : Nat} {cs : List Value} {x : DataW H × List MemPlace} (h : DataW.trod enc Tryd.prog W base spare held fuel 24 cs = some x) (hl : Light Tryd.prog 24 x.1) : ∃ A n c t, cs = [.slice A n c] ∧ RS rteK W A n c t ∧ (∀ a ∈ t, a.ok) ∧ n * 56 ≤ 140737488351232 := by
  obtain ⟨xs, m, -, hx, hlen, hxl, hg⟩ := DataW.trod_struct Tryd.underlying24 h
  have c1 : Tryd.prog.cellsOf 22 = 1 := by kernel_rfl
  have c3 : Tryd.prog.cellsOf 24 = 1 := by kernel_rfl
  have h0 : DataW.trod enc Tryd.prog W base spare held m 22 ((cs.drop 0).take (Tryd.prog.cellsOf 22)) = xs[0]? := hg 0 _ rfl
  rw [c3] at hlen
  rw [c1, List.drop_zero, List.take_of_length_le (by omega)] at h0
  have hx1 : xs.length = 1 := hxl
  subst hx
  match xs, hx1 with
  | [x0], _ =>
    have hl0 : Light Tryd.prog 22 x0.1 := light_field Tryd.underlying24 hl (i := 0) (f := _) rfl rfl
    obtain ⟨A, n, c, t, e1, e2, e3, e4⟩ := open_shp rteK Rte.ok (by show Tryd.prog.cellsOf 51 = 21; kernel_rfl) (by show 0 < Tryd.prog.bytesOf 51; exact of_decide_eq_true (by kernel_rfl)) (fun fuel cs y hy _ => by
      obtain ⟨r, e, hr⟩ := open_rte_cells hy
      exact ⟨r, e, hr.fits, hr⟩) (show DataW.trod enc Tryd.prog W base spare held m 22 cs = some x0 from h0) hl0
    refine ⟨A, n, c, t, e1, e2, e3, ?_⟩
    have hb : Tryd.prog.bytesOf (rteK).t = 56 := by show Tryd.prog.bytesOf 51 = 56; kernel_rfl
    rw [hb] at e4
    exact e4
theorem open_bat_cells {fuel : Nat} {cs : List Value} {x : DataW H × List MemPlace} (h : DataW.trod enc Tryd.prog W base spare held fuel 27 cs = some x) (hl : Light Tryd.prog 27 x.1) : ∃ A n c t, cs = [.slice A n c] ∧ RS updK W A n c t ∧ (∀ a ∈ t, a.ok) ∧ n * 64 ≤ 140737488351232 := by
  obtain ⟨xs, m, -, hx, hlen, hxl, hg⟩ := DataW.trod_struct Tryd.underlying27 h
  have c1 : Tryd.prog.cellsOf 25 = 1 := by kernel_rfl
  have c3 : Tryd.prog.cellsOf 27 = 1 := by kernel_rfl
  have h0 : DataW.trod enc Tryd.prog W base spare held m 25 ((cs.drop 0).take (Tryd.prog.cellsOf 25)) = xs[0]? := hg 0 _ rfl
  rw [c3] at hlen
  rw [c1, List.drop_zero, List.take_of_length_le (by omega)] at h0
  have hx1 : xs.length = 1 := hxl
  subst hx
  match xs, hx1 with
  | [x0], _ =>
    have hl0 : Light Tryd.prog 25 x0.1 := light_field Tryd.underlying27 hl (i := 0) (f := _) rfl rfl
    obtain ⟨A, n, c, t, e1, e2, e3, e4⟩ := open_shp updK Upd.ok (by show Tryd.prog.cellsOf 75 = 22; kernel_rfl) (by show 0 < Tryd.prog.bytesOf 75; exact of_decide_eq_true (by kernel_rfl)) (fun fuel cs y hy _ => by
      obtain ⟨r, e, hr⟩ := open_upd_cells hy
      exact ⟨r, e, hr.fits, hr⟩) (show DataW.trod enc Tryd.prog W base spare held m 25 cs = some x0 from h0) hl0
    refine ⟨A, n, c, t, e1, e2, e3, ?_⟩
    have hb : Tryd.prog.bytesOf (updK).t = 64 := by show Tryd.prog.bytesOf 75 = 64; kernel_rfl
    rw [hb] at e4
    exact e4
end
theorem open_rib {H : Type} {enc : TypeId × Value → H} {W : World} {base b0 : Nat} {spare : Nat → Bool} {held : Bool} {v : Value} {d : DataW H} {p : List MemPlace} (hv : Value.okWide Tryd.prog W .any b0 24 v)
    (h : DataW.Trod enc Tryd.prog W base spare held 24 v d p) (hl : Light Tryd.prog 24 d) : ∃ A n c t, v = .agg (tabV A n c) ∧ RS rteK W A n c t ∧ (∀ a ∈ t, a.ok) ∧ n * 56 ≤ 140737488351232 := by
  obtain ⟨cs, rfl, -⟩ := okWide_struct Tryd.underlying24 hv
  obtain ⟨fuel, hf⟩ := h
  obtain ⟨A, n, c, t, hc, h1, h2, h3⟩ := open_rib_cells hf hl
  refine ⟨A, n, c, t, ?_, h1, h2, h3⟩
  have : cs = tabV A n c := by
    apply Array.toList_inj.1
    exact hc
  rw [this]
theorem open_bat {H : Type} {enc : TypeId × Value → H} {W : World} {base b0 : Nat} {spare : Nat → Bool} {held : Bool} {v : Value} {d : DataW H} {p : List MemPlace} (hv : Value.okWide Tryd.prog W .any b0 27 v)
    (h : DataW.Trod enc Tryd.prog W base spare held 27 v d p) (hl : Light Tryd.prog 27 d) : ∃ A n c t, v = .agg (tabV A n c) ∧ RS updK W A n c t ∧ (∀ a ∈ t, a.ok) ∧ n * 64 ≤ 140737488351232 := by
  obtain ⟨cs, rfl, -⟩ := okWide_struct Tryd.underlying27 hv
  obtain ⟨fuel, hf⟩ := h
  obtain ⟨A, n, c, t, hc, h1, h2, h3⟩ := open_bat_cells hf hl
  refine ⟨A, n, c, t, ?_, h1, h2, h3⟩
  have : cs = tabV A n c := by
    apply Array.toList_inj.1
    exact hc
  rw [this]
end Go.Proofs.YtnpeedmicjeleaaDoor

/- Layer 9 (table): Get, Drop. -/
namespace Go.Proofs.YtnpeedmicjeleaaDoor
open Go.RowKit
set_option linter.unusedVariables false
set_option linter.unusedSimpArgs false
set_option maxRecDepth 4000
theorem load_tab {w : World} {g : Nat} {A : Option Addr} {n c : Nat} (h : w.heap[g]? = some (.cells (tabV A n c) 39 (0, 0))) : (Instr.loadAt 39 (.pointer (some ⟨g, 0, none⟩))).run Tryd.prog w = .ok (.agg (tabV A n c)) w := ((tab_at h).all w (Below.refl _ _)).1
theorem run_build_tab_nil (w : World) : (Instr.build 39 #[]).run Tryd.prog w = .ok (.agg (tabV none 0 0)) w := run_build w _ _ _ (by kernel_rfl)
theorem run_build_tab (w : World) (A : Option Addr) (n c : Nat) : (Instr.build 39 #[(0, .slice A n c)]).run Tryd.prog w = .ok (.agg (tabV A n c)) w := run_build w _ _ _ (by kernel_rfl)
theorem info_tab (A : Option Addr) (n c : Nat) : (Tryd.prog.info? 39).map (·.size) = some (tabV A n c).size := by show _ = some 1; kernel_rfl
theorem errT_true {t : List Row} (h : tabB t = true) : errT t = 0 := by unfold errT; rw [h]; rfl
theorem errT_false {t : List Row} (h : tabB t = false) : errT t = 190 := by unfold errT; rw [h]; rfl
theorem lowN_lt {t : List Row} {p : Pfx} (h : thereB t p = true) : lowN t p < t.length := by
  unfold thereB at h
  cases hx : t[lowN t p]? with
  | none => rw [hx] at h; cases h
  | some x => exact (List.getElem?_eq_some_iff.1 hx).1
end Go.Proofs.YtnpeedmicjeleaaDoor

/- Layer 9 (table): Drop, Same, Set. -/
namespace Go.Proofs.YtnpeedmicjeleaaDoor
open Go.RowKit
set_option linter.unusedVariables false
set_option linter.unusedSimpArgs false
set_option maxRecDepth 4000
theorem blk_own {w w1 : World} {g : Nat} {o : Obj} {A : Option Addr} {n c : Nat} (h : w.heap[g]? = some o) (hg : w.grownBy w1 ((Value.slice A n c).ownBlock)) (ha : ∀ ad, A = some ad → g < ad.block) : w1.heap[g]? = some o :=
  blk_grown h hg (fun e => by
    cases A with
    | none => cases e
    | some ad =>
      have := ha ad rfl
      injection e with e
      subst e
      exact Nat.lt_irrefl _ this)
theorem tab_one (A : Option Addr) (n c : Nat) : (tabV A n c).all (·.oneCell') = true := by simp [tabV, Value.oneCell']
theorem splice_tab (A A2 : Option Addr) (n c n2 c2 : Nat) : splice (tabV A n c) 0 (tabV A2 n2 c2).toList = tabV A2 n2 c2 := splice_all _ _ rfl
end Go.Proofs.YtnpeedmicjeleaaDoor

/- Layer 9 (table): Set. -/
namespace Go.Proofs.YtnpeedmicjeleaaDoor
open Go.RowKit
set_option linter.unusedVariables false
set_option linter.unusedSimpArgs false
set_option maxRecDepth 4000
def setE (t : List Row) (p : Pfx) (h : Int) : Int := if tabB t then (if p.right = true ∧ 1 ≤ h ∧ h ≤ 255 then (if thereB t p = false ∧ t.length = 40 then 6 else 0) else 2) else 190
def setL (t : List Row) (p : Pfx) (h : Int) : List Row := if setE t p h = 0 then setT t p h else []
theorem there_eq {t : List Row} {p : Pfx} (hf : Fits t) (hp : B16 p.l) (h : thereB t p = true) : (rowAt t (lowN t p)).p = p := by
  have hlt := lowN_lt h
  unfold thereB at h
  rw [rowAt_get hlt] at h
  exact (Pfx.cmp_zero _ _ (hf.at_ hlt) hp).1 (by simpa using h)
theorem setT_there {t : List Row} {p : Pfx} {h : Int} (hf : Fits t) (hp : B16 p.l) (hth : thereB t p = true) : setT t p h = t.take (lowN t p) ++ ⟨(rowAt t (lowN t p)).p, h⟩ :: t.drop (lowN t p + 1) := by
  rw [there_eq hf hp hth]
  unfold setT
  rw [hth]
  rfl
theorem setT_new {t : List Row} {p : Pfx} {h : Int} (hth : thereB t p = false) : setT t p h = t.take (lowN t p) ++ ⟨p, h⟩ :: t.drop (lowN t p) := by
  unfold setT
  rw [hth]
  rfl
theorem row_patch (r : Row) (hf : r.fits) (h : Int) : rowC ⟨r.p, h⟩ = (rowC r).take 18 ++ Value.int .i64 h :: (rowC r).drop 19 := by
  have h1 := rowC_len hf
  have e : rowC r = (.int .i64 r.p.v :: (nums .u8 r.p.l ++ [.int .i64 r.p.b])) ++ [.int .i64 r.h] := by simp [rowC]
  have e2 : (Value.int .i64 r.p.v :: (nums .u8 r.p.l ++ [.int .i64 r.p.b])).length = 18 := by simp [nums, hf.len]
  rw [List.drop_eq_nil_of_le (by omega), e, List.take_left' e2]
  simp [rowC]
theorem hopB_iff (h : Int) : hopB h = true ↔ 1 ≤ h ∧ h ≤ 255 := by simp [hopB]
set_option maxHeartbeats 4000000 in
theorem tset_any (A : Option Addr) (n c : Nat) (t : List Row) (p : Pfx) (hp9 : Int) (w : World) (hL : Laid w) (ht : RT w A n c t) (hp : B16 p.l) (hn : n ≤ 10000) : Calls Tryd.prog 52 #[.agg (tabV A n c), .agg (pfxV p.v p.l p.b), .int .i64 hp9] w fun e w' => ∃ A' n' c', e = .returned (.tuple #[.agg (tabV A' n' c'), .int .i64 (setE t p hp9)]) ∧ OT w' w.heap.size A' n' c' (setL t p hp9) ∧ Below w.heap.size w w' := by
  have hblk1 := blk_new w (.cells (tabV A n c) 39)
  have hbel1 : Below w.heap.size w (w.alloc (.cells (tabV A n c) 39)) := below_alloc (Below.refl _ _) _
  have hblk2 := blk_new (w.alloc (.cells (tabV A n c) 39)) (.cells (pfxV p.v p.l p.b) 49)
  have hbel2 : Below w.heap.size w ((w.alloc (.cells (tabV A n c) 39)).alloc (.cells (pfxV p.v p.l p.b) 49)) := below_alloc (hbel1) _
  rw [show (w.alloc (.cells (tabV A n c) 39)).heap.size = w.heap.size + 1 by simp] at hblk2
  replace hblk1 := blk_below hblk1 (below_alloc (Below.refl _ _) (.cells (pfxV p.v p.l p.b) 49))
  have HP1 := Lib.hid (tab_at hblk1)
  have HBK1 := Lib.hid hblk1
  have HP2 := Lib.hid (pfx_at hp hblk2)
  have HBK2 := Lib.hid hblk2
  have HBE := Lib.hid hbel2
  have HL := Lib.hid (hL.below HBE.out)
  obtain ⟨cs1, hcs1⟩ : ∃ cs, tabV A n c = cs := ⟨_, rfl⟩
  obtain ⟨cs2, hcs2⟩ : ∃ cs, pfxV p.v p.l p.b = cs := ⟨_, rfl⟩
  simp only [hcs1, hcs2] at HBE HL HP1 HP2 HBK1 HBK2 ⊢
  have HC1 := Lib.hid hcs1
  have HC2 := Lib.hid hcs2
  clear hL hcs1 hblk1 hbel1 hcs2 hblk2 hbel2
  have HT := Lib.hid (ht.below HBE.out)
  have hsz2 : ((w.alloc (.cells cs1 39)).alloc (.cells cs2 49)).heap.size = w.heap.size + 2 := by simp
  have hz := blk_new ((w.alloc (.cells cs1 39)).alloc (.cells cs2 49)) (.cells (tabV none 0 0) 39)
  rw [hsz2] at hz
  have HZ := Lib.hid hz
  have hl1 := (HP1.out.all _ (below_alloc (Below.refl _ _) (.cells (tabV none 0 0) 39))).1
  rw [HC1.out] at hl1
  have hbn := run_build_tab_nil
  clear ht hz hsz2
  go_enter Tryd.func52, Tryd.ntmps52
  go_wp2_with (first | ((with_reducible show wpList _ _ _ (Oper.mk _ (Op.load _ _) _ _ _ _ :: _) _ _); refine wpList_load_g hl1 _ rfl rfl (by go_simp) ?_))
  have hch := tcheck_any A n c t _ (HL.out.below (below_alloc (Below.refl _ _) (.cells (tabV none 0 0) 39))) (HT.out.below (below_alloc (Below.refl _ _) _)) (by omega)
  rw [HC1.out] at hch
  refine hch.mono ?_
  clear hch
  rintro e w1 ⟨rfl, hbb1⟩
  have HZ1 := Lib.hid (blk_below HZ.out hbb1)
  have HB1 := Lib.hid (below_step (below_alloc (Below.refl _ _) (.cells (tabV none 0 0) 39)) hbb1)
  clear hbb1 hl1 HZ
  cases hR : tabB t with
  | false =>
    have HE := Lib.hid (show setE t p hp9 = 190 ∧ setL t p hp9 = [] by unfold setL setE; rw [hR]; exact ⟨rfl, rfl⟩)
    rw [errT_false hR]
    clear hR
    go_wp2_with (first | ((with_reducible show wpList _ _ _ (Oper.mk _ (Op.store _ _ _) _ _ _ _ :: _) _ _); refine wpList_store_blk HZ1.out 39 0 (tabV none 0 0) (Nat.le_refl _) (info_tab _ _ _) (tab_one _ _ _) _ _ rfl rfl rfl rfl ?_; intro w2 hg9 hs9 hb9; rw [splice_tab] at hb9; have H2 := Lib.hid (And.intro hg9 hb9); clear hg9 hs9 hb9))
    have hld := load_tab H2.out.2
    refine bodyPost_ret (results_c2 rfl rfl hld) rfl ?_
    rw [HE.out.1, HE.out.2]
    exact ⟨_, _, _, rfl, OS.nil _ _ _, below_grown (below_step HBE.out HB1.out) H2.out.1 (by omega)⟩
  | true =>
    have HUP := Lib.hid (tabB_to hR)
    have HR := Lib.hid hR
    rw [errT_true hR]
    clear hR
    have hl2 := (HP2.out.all w1 HB1.out).2.2.2.2
    rw [HC2.out] at hl2
    go_wp2_with (first | ((with_reducible show wpList _ _ _ (Oper.mk _ (Op.load _ _) _ _ _ _ :: _) _ _); refine wpList_load_g hl2 _ rfl rfl (by go_simp) ?_))
    have hch := check_any p.v p.l p.b w1 (HL.out.below HB1.out) hp
    rw [HC2.out] at hch
    refine hch.mono ?_
    clear hch
    rintro e w2 ⟨rfl, hbb2⟩
    have HZ2 := Lib.hid (blk_below HZ1.out hbb2)
    have HB2 := Lib.hid (below_step HB1.out hbb2)
    clear hbb2 hl2 HZ1 HB1
    cases hpr : rightP p.v p.l p.b with
    | false =>
      have HE := Lib.hid (show setE t p hp9 = 2 ∧ setL t p hp9 = [] by
        have : p.right = false := hpr
        unfold setL setE
        rw [HR.out, this]
        exact ⟨rfl, rfl⟩)
      rw [errP_false hpr]
      clear hpr
      go_wp2_with (first | ((with_reducible show wpList _ _ _ (Oper.mk _ (Op.store _ _ _) _ _ _ _ :: _) _ _); refine wpList_store_blk HZ2.out 39 0 (tabV none 0 0) (Nat.le_refl _) (info_tab _ _ _) (tab_one _ _ _) _ _ rfl rfl rfl rfl ?_; intro w3 hg9 hs9 hb9; rw [splice_tab] at hb9; have H3 := Lib.hid (And.intro hg9 hb9); clear hg9 hs9 hb9))
      have hld := load_tab H3.out.2
      refine bodyPost_ret (results_c2 rfl rfl hld) rfl ?_
      rw [HE.out.1, HE.out.2]
      exact ⟨_, _, _, rfl, OS.nil _ _ _, below_grown (below_step HBE.out HB2.out) H3.out.1 (by omega)⟩
    | true =>
      have HPR := Lib.hid (show p.right = true from hpr)
      rw [errP_true hpr]
      clear hpr
      go_wp2_with fail
      refine (hop_any hp9 w2).mono ?_
      rintro e w2' ⟨rfl, rfl⟩
      cases hho : hopB hp9 with
      | false =>
        have HE := Lib.hid (show setE t p hp9 = 2 ∧ setL t p hp9 = [] by
          have h2 : ¬ (1 ≤ hp9 ∧ hp9 ≤ 255) := fun h => by rw [(hopB_iff hp9).2 h] at hho; cases hho
          have h3 : setE t p hp9 = 2 := by unfold setE; rw [HR.out, if_pos rfl, if_neg (fun h => h2 h.2)]
          unfold setL
          rw [h3]
          exact ⟨rfl, rfl⟩)
        clear hho
        go_wp2_with (first | ((with_reducible show wpList _ _ _ (Oper.mk _ (Op.store _ _ _) _ _ _ _ :: _) _ _); refine wpList_store_blk HZ2.out 39 0 (tabV none 0 0) (Nat.le_refl _) (info_tab _ _ _) (tab_one _ _ _) _ _ rfl rfl rfl rfl ?_; intro w3 hg9 hs9 hb9; rw [splice_tab] at hb9; have H3 := Lib.hid (And.intro hg9 hb9); clear hg9 hs9 hb9))
        have hld := load_tab H3.out.2
        refine bodyPost_ret (results_c2 rfl rfl hld) rfl ?_
        rw [HE.out.1, HE.out.2]
        exact ⟨_, _, _, rfl, OS.nil _ _ _, below_grown (below_step HBE.out HB2.out) H3.out.1 (by omega)⟩
      | true =>
        have HHO := Lib.hid ((hopB_iff hp9).1 hho)
        clear hho
        have hl1 := (HP1.out.all w2 HB2.out).1
        have hl2 := (HP2.out.all w2 HB2.out).2.2.2.2
        rw [HC1.out] at hl1
        rw [HC2.out] at hl2
        go_wp2_with (first | ((with_reducible show wpList _ _ _ (Oper.mk _ (Op.load _ _) _ _ _ _ :: _) _ _); refine wpList_load_g hl1 _ rfl rfl (by go_simp) ?_) | ((with_reducible show wpList _ _ _ (Oper.mk _ (Op.load _ _) _ _ _ _ :: _) _ _); refine wpList_load_g hl2 _ rfl rfl (by go_simp) ?_))
        have hpl := place_any A n c t p w2 (HT.out.below HB2.out) HUP.out.2.2 hp (by have := HUP.out.1; rw [HT.out.len] at this; omega)
        rw [HC1.out, HC2.out] at hpl
        refine hpl.mono ?_
        clear hpl
        rintro e w3 ⟨rfl, hbb3⟩
        have HZ3 := Lib.hid (blk_below HZ2.out hbb3)
        have HB3 := Lib.hid (below_step HB2.out hbb3)
        have hlow : lowN t p ≤ n := by rw [← HT.out.len]; exact lowN_le t p
        have HTH := Lib.hid (@setT_there t p hp9 HT.out.fits hp)
        have HNEW := Lib.hid (@setT_new t p hp9)
        have hst : setE t p hp9 = if thereB t p = false ∧ n = 40 then 6 else 0 := by
          unfold setE
          rw [HR.out, if_pos rfl, if_pos ⟨HPR.out, HHO.out⟩, HT.out.len]
        have HST := Lib.hid hst
        have HLT := Lib.hid (@lowN_lt t p)
        have hl3 := (HP1.out.all w3 HB3.out).2
        obtain ⟨i, hi⟩ : ∃ i, lowN t p = i := ⟨_, rfl⟩
        obtain ⟨th, hth⟩ : ∃ th, thereB t p = th := ⟨_, rfl⟩
        rw [hi] at hlow HTH HNEW HLT ⊢
        rw [hth] at HTH HNEW HST HLT ⊢
        clear hbb3 hl1 hl2 HZ2 HB2 hst hi hth
        go_wp2_with (first | ((with_reducible show wpList _ _ _ (Oper.mk _ (Op.load _ _) _ _ _ _ :: _) _ _); refine wpList_load_g hl3 _ rfl rfl (by go_simp) ?_))
        refine (cloneR_any A n c t w3 (HT.out.below HB3.out) (by omega)).mono ?_
        rintro e w4 ⟨A1, c1, rfl, hO4, hbb4⟩
        have HO4 := Lib.hid hO4
        have HZ4 := Lib.hid (blk_below HZ3.out hbb4)
        have HB4 := Lib.hid (below_step HB3.out hbb4)
        have hsz34 := hbb4.size
        have hzlt := blk_lt HZ3.out
        have hzn := blk_new w4 (.cells (tabV none 0 0) 39)
        have hbt := fun w => run_build_tab w A1 n c1
        clear hO4 hbb4 hl3 HZ3 HB3
        go_upto_if 45 with (first | ((with_reducible show wpList _ _ _ (Oper.mk _ (Op.store _ _ _) _ _ _ _ :: _) _ _); refine wpList_store_blk hzn 39 0 (tabV A1 n c1) (Nat.le_refl _) (info_tab _ _ _) (tab_one _ _ _) _ _ rfl rfl rfl rfl ?_; intro w5 hg9 hs9 hb9; rw [splice_tab] at hb9; have H5 := Lib.hid (And.intro hg9 hb9); clear hg9 hs9 hb9))
        have hsz5 := H5.out.1.size
        have hA1 := HO4.out.lt
        have hA1b := HO4.out.base_
        have hb4a : Below w4.heap.size w4 (w4.alloc (.cells (tabV none 0 0) 39)) := below_alloc (Below.refl _ _) _
        simp at hsz5
        have HO5 := Lib.hid ((HO4.out.below hb4a).grown H5.out.1 (fun ad e => by have := hA1 ad e; intro h; injection h with h; omega))
        have HZ5 := Lib.hid (blk_grown (blk_below HZ4.out hb4a) H5.out.1 (fun e => by injection e with e; omega))
        have HB5 := Lib.hid (below_grown (below_step HBE.out (below_step HB4.out hb4a)) H5.out.1 (by have := (below_step HBE.out HB4.out).size; omega))
        have hl5 := ((tab_at H5.out.2).all w5 (Below.refl _ _)).2
        clear hzn hbt
        cases th with
        | true =>
          have hlt := HLT.out rfl
          rw [HT.out.len] at hlt
          have hlt' : (i : Int) < n := by omega
          have HE := Lib.hid (show setE t p hp9 = 0 ∧ setL t p hp9 = t.take i ++ ⟨(rowAt t i).p, hp9⟩ :: t.drop (i + 1) by
            have h1 : setE t p hp9 = 0 := by rw [HST.out, if_neg (by simp)]
            unfold setL
            rw [h1, if_pos rfl]
            exact ⟨rfl, HTH.out rfl⟩)
          obtain ⟨ad1, rfl⟩ : ∃ ad, A1 = some ad := by
            cases A1 with
            | none => have := HO5.out.ov.bare rfl; have := HO5.out.cap; omega
            | some ad => exact ⟨ad, rfl⟩
          have hsp : ad1.spot = none := (HO5.out.ov.form _ rfl).2.1
          obtain ⟨b1, o1, s1⟩ := ad1
          simp only at hsp
          subst hsp
          obtain ⟨⟨u, hu⟩, hfz, hO6⟩ := HO5.out.patch hlt ⟨(rowAt t i).p, hp9⟩ (RS.fits_at HT.out hlt) 18 (.int .i64 hp9) (by show 18 < 19; omega) (row_patch _ (RS.fits_at HT.out hlt) hp9)
          have hbl := hA1 _ rfl
          have hbb := hA1b _ rfl
          simp only at hbl hbb
          have hof : o1 + (i * 19 + 18) = o1 + i * 19 + 18 := by omega
          have hu2 : w5.cell? ⟨b1, o1 + i * 19 + 18, none⟩ = some u := by rw [← hof]; exact hu
          have hfz2 : w5.frozen? ⟨b1, o1 + i * 19 + 18, none⟩ = false := by rw [← hof]; exact hfz
          replace hO6 : OS rowK (w5.setCell ⟨b1, o1 + i * 19 + 18, none⟩ (.int .i64 hp9)) w3.heap.size (some ⟨b1, o1, none⟩) n c1 (t.take i ++ ⟨(rowAt t i).p, hp9⟩ :: t.drop (i + 1)) := by rw [← hof]; exact hO6
          clear hu hfz hof
          have HU := Lib.hid hO6
          have hg6 := grown_setCell w5 ⟨b1, o1 + i * 19 + 18, none⟩ (.int .i64 hp9)
          have hl6 := load_tab (blk_grown H5.out.2 hg6 (fun e => by injection e with e; simp only at e; omega))
          have HZ6 := Lib.hid (blk_grown HZ5.out hg6 (fun e => by injection e with e; simp only at e; omega))
          have HB6 := Lib.hid (below_grown HB5.out hg6 (by simp only; have := (below_step HBE.out HB4.out).size; omega))
          clear hO6 hg6
          go_wp2_with (first | ((with_reducible show wpList _ _ _ (Oper.mk _ (Op.load _ _) _ _ _ _ :: _) _ _); refine wpList_load_g hl5 _ rfl rfl (by go_simp) ?_) | ((with_reducible show wpList _ _ _ (Oper.mk _ (Op.load _ _) _ _ _ _ :: _) _ _); refine wpList_load_g hl6 _ rfl rfl (by go_simp) ?_) | ((with_reducible show wpList _ _ _ (Oper.mk _ (Op.store _ _ _) _ _ _ _ :: _) _ _); refine wpList_store_blk HZ6.out 39 0 (tabV (some ⟨b1, o1, none⟩) n c1) (Nat.le_refl _) (info_tab _ _ _) (tab_one _ _ _) _ _ rfl rfl rfl rfl ?_; intro w7 hg9 hs9 hb9; rw [splice_tab] at hb9; have H7 := Lib.hid (And.intro hg9 hb9); clear hg9 hs9 hb9))
          have hld := load_tab H7.out.2
          refine bodyPost_ret (results_c2 rfl rfl hld) rfl ?_
          rw [HE.out.1, HE.out.2]
          refine ⟨_, _, _, rfl, (HU.out.grown H7.out.1 (fun ad e h => ?_)).lower (by omega), below_grown HB6.out H7.out.1 (by omega)⟩
          injection e with e
          subst e
          injection h with h
          simp only at h
          omega
        | false =>
          by_cases h40 : n = 40
          · have HE := Lib.hid (show setE t p hp9 = 6 ∧ setL t p hp9 = [] by
              have h1 : setE t p hp9 = 6 := by rw [HST.out, if_pos ⟨rfl, h40⟩]
              unfold setL
              rw [h1]
              exact ⟨rfl, rfl⟩)
            have h40' : ((n : Int) == 40) = true := by simp; omega
            have hl6 := (HP1.out.all w5 (below_grown (below_step HB4.out hb4a) H5.out.1 HB4.out.size)).2
            clear h40
            go_wp2_with (first | ((with_reducible show wpList _ _ _ (Oper.mk _ (Op.load _ _) _ _ _ _ :: _) _ _); refine wpList_load_g hl6 _ rfl rfl (by go_simp) ?_) | ((with_reducible show wpList _ _ _ (Oper.mk _ (Op.store _ _ _) _ _ _ _ :: _) _ _); refine wpList_store_blk HZ5.out 39 0 (tabV none 0 0) (Nat.le_refl _) (info_tab _ _ _) (tab_one _ _ _) _ _ rfl rfl rfl rfl ?_; intro w7 hg9 hs9 hb9; rw [splice_tab] at hb9; have H7 := Lib.hid (And.intro hg9 hb9); clear hg9 hs9 hb9))
            have hld := load_tab H7.out.2
            refine bodyPost_ret (results_c2 rfl rfl hld) rfl ?_
            rw [HE.out.1, HE.out.2]
            exact ⟨_, _, _, rfl, OS.nil _ _ _, below_grown HB5.out H7.out.1 (by omega)⟩
          · have HE := Lib.hid (show setE t p hp9 = 0 ∧ setL t p hp9 = t.take i ++ ⟨p, hp9⟩ :: t.drop i by
              have h1 : setE t p hp9 = 0 := by rw [HST.out, if_neg (fun h => h40 h.2)]
              unfold setL
              rw [h1, if_pos rfl]
              exact ⟨rfl, HNEW.out rfl⟩)
            have h40' : ((n : Int) == 40) = false := by simp; omega
            have hl6 := (HP1.out.all w5 (below_grown (below_step HB4.out hb4a) H5.out.1 HB4.out.size)).2
            have hl7 := (HP2.out.all w5 (below_grown (below_step HB4.out hb4a) H5.out.1 HB4.out.size)).2.2.2.2
            rw [HC2.out] at hl7
            have hbr := fun w => run_build_row w p hp9 hp.len
            rw [HC2.out] at hbr
            clear h40
            go_wp2_with (first | ((with_reducible show wpList _ _ _ (Oper.mk _ (Op.load _ _) _ _ _ _ :: _) _ _); refine wpList_load_g hl6 _ rfl rfl (by go_simp) ?_) | ((with_reducible show wpList _ _ _ (Oper.mk _ (Op.load _ _) _ _ _ _ :: _) _ _); refine wpList_load_g hl5 _ rfl rfl (by go_simp) ?_) | ((with_reducible show wpList _ _ _ (Oper.mk _ (Op.load _ _) _ _ _ _ :: _) _ _); refine wpList_load_g hl7 _ rfl rfl (by go_simp) ?_) | (refine wpList_exec rfl (exec_build2 (t := 79) (i0 := 0) (i1 := 1) (x0 := .tmp 39) (x1 := .tmp 40) (v0 := .agg cs2) (v1 := .int .i64 hp9) (v := .agg (rowV ⟨p, hp9⟩)) rfl rfl rfl (hbr _)) ?_) | (refine wpList_exec rfl (exec_lit1 rowK (x := .tmp 41) rfl ⟨p, hp9⟩ rfl hp (by show 19 ≤ _; omega) _) ?_))
            have hne1 : ∀ ad, A1 = some ad → ad.block ≠ w5.heap.size := fun ad e => by have := hA1 ad e; omega
            have hrow := blk_new w5 (.cells (rowV ⟨p, hp9⟩) 79)
            refine (insertR_any w3.heap.size A1 n c1 i w5.heap.size t ⟨p, hp9⟩ _ (HO5.out.below (below_alloc (Below.refl _ _) _)) hlow (by omega) (by simp; omega) hrow hp hne1).mono ?_
            rintro e w6 ⟨A2, c2, rfl, hO6, hg6, hA2⟩
            have hsz6 := hg6.size
            simp at hsz6
            have hb5a : Below w5.heap.size w5 (w5.alloc (.cells (rowV ⟨p, hp9⟩) 79)) := below_alloc (Below.refl _ _) _
            have HZ6 := Lib.hid (blk_own (blk_below HZ5.out hb5a) hg6 (fun ad e => by have := hA1b ad e; omega))
            have hz10 := blk_grown (blk_below H5.out.2 hb5a) hg6 (fun e => by
              obtain ⟨ad, e1, e2⟩ := own_of e.symm
              have := hA1 ad e1
              omega)
            have hsz0 := (below_step HBE.out HB4.out).size
            have HB6 := Lib.hid (below_own (below_step HB5.out hb5a) hg6 (fun ad e => by have := hA1b ad e; omega))
            have hc10 : w6.cell? ⟨w4.heap.size, 0, none⟩ = some (.slice A1 n c1) := by rw [blk_cell hz10]; rfl
            have hf10 : w6.frozen? ⟨w4.heap.size, 0, none⟩ = false := blk_frozen hz10 0
            have hz11 : (w6.setCell ⟨w4.heap.size, 0, none⟩ (.slice A2 (n + 1) c2)).heap[w4.heap.size]? = some (.cells (tabV A2 (n + 1) c2) 39 (0, 0)) := blk_set hz10 0 _
            have hl11 := load_tab hz11
            have hg7 := grown_setCell w6 ⟨w4.heap.size, 0, none⟩ (.slice A2 (n + 1) c2)
            have HZ7 := Lib.hid (blk_grown HZ6.out hg7 (fun e => by injection e with e; simp only at e; omega))
            have HB7 := Lib.hid (below_grown HB6.out hg7 (by simp only; omega))
            have hne2 : ∀ ad, A2 = some ad → ad.block ≠ w4.heap.size ∧ w3.heap.size ≤ ad.block := fun ad e => by
              refine ⟨?_, hO6.base_ ad e⟩
              rcases hA2 with h | h
              · have := hA1 ad (h ▸ e); omega
              · have := h ad e; simp at this; omega
            have HO7 := Lib.hid (hO6.grown hg7 (fun ad e h => by injection h with h; simp only at h; exact (hne2 ad e).1 h))
            clear hO6 hg6 hA2 hz10 hz11 hg7 hb5a hne1
            go_wp2_with (first | ((with_reducible show wpList _ _ _ (Oper.mk _ (Op.load _ _) _ _ _ _ :: _) _ _); refine wpList_load_g hl11 _ rfl rfl (by go_simp) ?_) | ((with_reducible show wpList _ _ _ (Oper.mk _ (Op.store _ _ _) _ _ _ _ :: _) _ _); refine wpList_store_blk HZ7.out 39 0 (tabV A2 (n + 1) c2) (Nat.le_refl _) (info_tab _ _ _) (tab_one _ _ _) _ _ rfl rfl rfl rfl ?_; intro w8 hg9 hs9 hb9; rw [splice_tab] at hb9; have H8 := Lib.hid (And.intro hg9 hb9); clear hg9 hs9 hb9))
            have hld := load_tab H8.out.2
            refine bodyPost_ret (results_c2 rfl rfl hld) rfl ?_
            rw [HE.out.1, HE.out.2]
            refine ⟨_, _, _, rfl, (HO7.out.grown H8.out.1 (fun ad e h => ?_)).lower (by omega), below_grown HB7.out H8.out.1 (by omega)⟩
            injection h with h
            have := (hne2 ad e).2
            omega
end Go.Proofs.YtnpeedmicjeleaaDoor

/- Layer 9 (table): the document's Same and Get. -/
namespace Go.Proofs.YtnpeedmicjeleaaDoor
open Go.RowKit
set_option linter.unusedVariables false
set_option linter.unusedSimpArgs false
set_option maxRecDepth 4000
end Go.Proofs.YtnpeedmicjeleaaDoor

/- The document's answer for layer 5: Has, Holds. -/
namespace Go.Proofs.YtnpeedmicjeleaaDoor
open Go.RowKit
set_option linter.unusedVariables false
set_option linter.unusedSimpArgs false
set_option maxRecDepth 4000

end Go.Proofs.YtnpeedmicjeleaaDoor

/- Layer 9 (table): the longest match, by the document. -/
namespace Go.Proofs.YtnpeedmicjeleaaDoor
open Go.RowKit
set_option linter.unusedVariables false
set_option linter.unusedSimpArgs false
set_option maxRecDepth 4000
end Go.Proofs.YtnpeedmicjeleaaDoor

/- Layer 5 (prefix): a whole prefix out of a block. -/
namespace Go.Proofs.YtnpeedmicjeleaaDoor
open Go.RowKit
set_option linter.unusedVariables false
set_option linter.unusedSimpArgs false
set_option maxRecDepth 4000

end Go.Proofs.YtnpeedmicjeleaaDoor

/- Layer 5 (prefix): Has. -/
namespace Go.Proofs.YtnpeedmicjeleaaDoor
open Go.RowKit
set_option linter.unusedVariables false
set_option linter.unusedSimpArgs false
set_option maxRecDepth 4000

end Go.Proofs.YtnpeedmicjeleaaDoor

/- Layer 5 (prefix): Holds. -/
namespace Go.Proofs.YtnpeedmicjeleaaDoor
open Go.RowKit
set_option linter.unusedVariables false
set_option linter.unusedSimpArgs false
set_option maxRecDepth 4000

end Go.Proofs.YtnpeedmicjeleaaDoor

/- Layer 9 (table): Longest. -/
namespace Go.Proofs.YtnpeedmicjeleaaDoor
open Go.RowKit
set_option linter.unusedVariables false
set_option linter.unusedSimpArgs false
set_option maxRecDepth 4000
end Go.Proofs.YtnpeedmicjeleaaDoor

/- Layer 9 (table): the document's Put. -/
namespace Go.Proofs.YtnpeedmicjeleaaDoor
open Go.RowKit
set_option linter.unusedVariables false
set_option linter.unusedSimpArgs false
set_option maxRecDepth 4000
end Go.Proofs.YtnpeedmicjeleaaDoor

/- Layer 9 (table): the document's Put, walked. -/
namespace Go.Proofs.YtnpeedmicjeleaaDoor
open Go.RowKit
set_option linter.unusedVariables false
set_option linter.unusedSimpArgs false
set_option maxRecDepth 4000
end Go.Proofs.YtnpeedmicjeleaaDoor

/- Layer 9 (table): the document's Set and Drop. -/
namespace Go.Proofs.YtnpeedmicjeleaaDoor
open Go.RowKit
set_option linter.unusedVariables false
set_option linter.unusedSimpArgs false
set_option maxRecDepth 4000
end Go.Proofs.YtnpeedmicjeleaaDoor

/- Layer 5 (prefix): Bit; the document's Bit. -/
namespace Go.Proofs.YtnpeedmicjeleaaDoor
open Go.RowKit
set_option linter.unusedVariables false
set_option linter.unusedSimpArgs false
set_option maxRecDepth 4000

end Go.Proofs.YtnpeedmicjeleaaDoor

/- Layer 5 (prefix): Nibble; the document's Nibble. -/
namespace Go.Proofs.YtnpeedmicjeleaaDoor
open Go.RowKit
set_option linter.unusedVariables false
set_option linter.unusedSimpArgs false
set_option maxRecDepth 4000

end Go.Proofs.YtnpeedmicjeleaaDoor

/- Layer 5 (prefix): EncodeAddr, Encode; the document's bytes. -/
namespace Go.Proofs.YtnpeedmicjeleaaDoor
open Go.RowKit
set_option linter.unusedVariables false
set_option linter.unusedSimpArgs false
set_option maxRecDepth 4000

def encPE (p : Pfx) : List Int := if p.right then encP p else []
theorem encPE_no {p : Pfx} (h : p.right = false) : encPE p = [] := by unfold encPE; rw [h]; rfl
theorem encPE_yes {p : Pfx} (h : p.right = true) : encPE p = encP p := by unfold encPE; rw [h]; rfl
theorem full_any (b : Int) (w : World) (h0 : 0 ≤ b) (h1 : b ≤ 128) : Calls Tryd.prog 113 #[.int .i64 b] w fun e w' => e = .returned (.int .i64 ((b + 7) / 8)) ∧ w = w' := by
  go_enter Tryd.func113, Tryd.ntmps113
  go_wp2
  go_ret
  exact ⟨rfl, rfl⟩
theorem OB.two (W : World) (x y : Int) (hx : 0 ≤ x ∧ x < 256) (hy : 0 ≤ y ∧ y < 256) (base : Nat) (hb : base ≤ W.heap.size) : OB (W.alloc (.cells #[.int .u8 x, .int .u8 y] 5)) base (some ⟨W.heap.size, 0, none⟩) 2 2 [x, y] :=
  OB.new W base [x, y] hb (by simp) (fun z hz => by simp at hz; omega)
theorem OB.one (W : World) (x : Int) (hx : 0 ≤ x ∧ x < 256) (base : Nat) (hb : base ≤ W.heap.size) : OB (W.alloc (.cells #[.int .u8 x] 5)) base (some ⟨W.heap.size, 0, none⟩) 1 1 [x] :=
  OB.new W base [x] hb (by simp) (fun z hz => by simp at hz; omega)

set_option maxHeartbeats 2000000 in
theorem encode_any (p : Pfx) (w : World) (hL : Laid w) (hp : B16 p.l) : Calls Tryd.prog 96 #[.agg (pfxV p.v p.l p.b)] w fun e w' => ∃ A n c, e = .returned (.tuple #[.slice A n c, .int .i64 (errP p.v p.l p.b)]) ∧ OB w' w.heap.size A n c (encPE p) ∧ Below w.heap.size w w' := by
  have hblk1 := blk_new w (.cells (pfxV p.v p.l p.b) 49)
  have hbel1 : Below w.heap.size w (w.alloc (.cells (pfxV p.v p.l p.b) 49)) := below_alloc (Below.refl _ _) _
  have HP1 := Lib.hid (pfx_at hp hblk1)
  have HBK1 := Lib.hid hblk1
  have HBE := Lib.hid hbel1
  have HL := Lib.hid (hL.below HBE.out)
  obtain ⟨cs1, hcs1⟩ : ∃ cs, pfxV p.v p.l p.b = cs := ⟨_, rfl⟩
  simp only [hcs1] at HBE HL HP1 HBK1 ⊢
  have HC1 := Lib.hid hcs1
  clear hL hcs1 hblk1 hbel1
  have hla := (HP1.out.all _ (Below.refl _ _)).2.2.2.2
  go_enter Tryd.func96, Tryd.ntmps96
  go_wp2_with ((with_reducible show wpList _ _ _ (Oper.mk _ (Op.load _ _) _ _ _ _ :: _) _ _); refine wpList_load_g hla _ rfl rfl (by go_simp) ?_)
  refine (check_any p.v p.l p.b _ HL.out hp).mono ?_
  rintro e w1 ⟨rfl, hbb1⟩
  have HB1 := Lib.hid hbb1
  clear hbb1 hla
  cases hR : rightP p.v p.l p.b with
  | false =>
    have HE := Lib.hid (encPE_no (p := p) hR)
    have HE2 := Lib.hid (errP_false hR)
    rw [HE2.out]
    clear hR
    go_wp2
    go_ret2
    rw [HE.out, HE2.out]
    exact ⟨_, _, _, rfl, OB.nil _ _, below_step HBE.out HB1.out⟩
  | true =>
    have HY := Lib.hid (encPE_yes (p := p) hR)
    have HE2 := Lib.hid (errP_true hR)
    rw [HE2.out]
    have hb0 := (p.right_iff.1 hR).2.1
    have hb1 : p.b ≤ 128 := by have := (p.right_iff.1 hR).2.2.1; have := widthA_le p.v; omega
    clear hR
    go_wp2_with fail
    have hfq := fun w0 => full_any p.b w0 hb0 hb1
    have hkb := blk_below HBK1.out HB1.out
    rw [← HC1.out] at hkb
    have HRB := Lib.hid (rb_pfx hp hkb)
    obtain ⟨k, hk⟩ : ∃ k, fullB p.b = k := ⟨_, rfl⟩
    have hkk : (p.b + 7) / 8 = (k : Int) := by rw [← hk]; unfold fullB; omega
    have HE : Hid (encP p = p.v % 256 :: p.b % 256 :: p.l.take k) := by unfold encP; rw [hk]; exact rfl
    have hk16 : (k : Int) ≤ 16 := by omega
    have hk0 : 0 ≤ (k : Int) := by omega
    have hv8 : IntKind.u8.wrap p.v = p.v % 256 := by simp [IntKind.wrap, IntKind.bits, IntKind.signed]
    have hv9 : IntKind.u8.wrap p.b = p.b % 256 := by simp [IntKind.wrap, IntKind.bits, IntKind.signed]
    rw [hkk] at hfq
    clear hkb hk hkk hb0 hb1
    refine wp_region_mix (fun w0 => Below (w1).heap.size (w1) w0) [(0, 0), (1, 0), (2, 0), (3, 0), (4, 0), (5, 0), (6, 0), (8, 0), (9, 0), (10, 0), (11, 0), (12, 0), (13, 0), (7, 2), (14, 2), (15, 0), (16, 0)] (by kernel_rfl) (by kernel_rfl) (below_drew1 _) ?_
    simp only [List.map_cons, List.map_nil]
    iterate 2 (refine wpO_step0 rfl rfl (fun K hK => ?_); go_simp; refine hK _ _ ?_; clear hK K)
    refine wpO_loadW (t := 3) (ad := ⟨w.heap.size, 0, none⟩) rfl rfl ?hw rfl rfl ((fun w0 hS => (HP1.out.all w0 (below_step HB1.out hS)).2.2.1)) ?_
    case hw => go_simp
    iterate 2 (refine wpO_step0 rfl rfl (fun K hK => ?_); go_simp; refine hK _ _ ?_; clear hK K)
    refine wpO_loadW (t := 3) (ad := ⟨w.heap.size, 17, none⟩) rfl rfl ?hw rfl rfl ((fun w0 hS => (HP1.out.all w0 (below_step HB1.out hS)).2.1)) ?_
    case hw => go_simp
    iterate 4 (refine wpO_step0 rfl rfl (fun K hK => ?_); go_simp; refine hK _ _ ?_; clear hK K)
    refine wpO_loadW (t := 3) (ad := ⟨w.heap.size, 17, none⟩) rfl rfl ?hw rfl rfl ((fun w0 hS => (HP1.out.all w0 (below_step HB1.out hS)).2.1)) ?_
    case hw => go_simp
    refine wpO_quiet rfl rfl ?hw Tryd.func113 (by kernel_rfl) (by kernel_rfl) rfl rfl (fun w0 hS => hfq w0) ?_
    case hw => go_simp
    iterate 1 (refine wpO_step0 rfl rfl (fun K hK => ?_); go_simp; refine hK _ _ ?_; clear hK K)
    refine wpO_step2 rfl rfl (below_drew1 _) (fun K hK => ?_)
    go_simp
    have hsz := HB1.out.size
    simp at hsz
    have HO := Lib.hid ((OB.two w1 (p.v % 256) (p.b % 256) (by omega) (by omega) w.heap.size (by omega)).below (below_drew1 _))
    refine hK _ _ ⟨(below_alloc (Below.refl _ _) _).drew, ?_⟩
    clear hK K
    have HR := Lib.hid ((HRB.out.take k (by omega)).below (below_step (below_alloc (Below.refl _ _) (.cells #[.int .u8 (p.v % 256), .int .u8 (p.b % 256)] 5)) (below_drew1 _)))
    refine wpO_step2 rfl rfl ((below_alloc (Below.refl _ _) _).drew) (fun K hK => ?_)
    rw [if_pos (show Region.wanted _ _ = true from rfl)]
    refine oper_append_bytes (.tmp 17) (.tmp 23) rfl rfl rfl HO.out HR.out (by simp; omega) (by omega) ?_
    intro A3 c3 w3 h1 h2 h3
    have hb3 : Below w1.heap.size w1 w3 := (below_step (below_alloc (Below.refl _ _) (.cells #[.int .u8 (p.v % 256), .int .u8 (p.b % 256)] 5)) (below_drew1 _)).grown h2 (by simp) (own_row (fun ad e => by injection e with e; rw [← e]; exact Nat.le_refl _))
    have H3 := Lib.hid (And.intro h1 hb3)
    clear h1 h2 h3 hb3
    refine hK _ _ ⟨H3.out.2, ?_⟩
    clear hK K
    iterate 2 (refine wpO_step0 rfl rfl (fun K hK => ?_); go_simp; refine hK _ _ ?_; clear hK K)
    refine wpO_nil ?_
    go_wp2
    go_ret2
    rw [HY.out, HE.out, HE2.out]
    exact ⟨_, _, _, rfl, H3.out.1, below_step HBE.out (below_step HB1.out H3.out.2)⟩

end Go.Proofs.YtnpeedmicjeleaaDoor

/- Layer 5 (prefix): the reader's version and some. -/
namespace Go.Proofs.YtnpeedmicjeleaaDoor
open Go.RowKit
set_option linter.unusedVariables false
set_option linter.unusedSimpArgs false
set_option maxRecDepth 4000

theorem Laid.grown {w w1 : World} (h : Laid w) {g : Nat} (hg : w.grownBy w1 (some g)) (h0 : g ≠ 0) : Laid w1 :=
  ⟨fun i hi => hg.cell (h.at_ i hi) (fun e => by injection e with e; exact h0 e.symm)⟩
theorem grown_of_alloc {w w1 : World} {o : Obj} {g : Nat} (h : (w.alloc o).grownBy w1 (some g)) : w.grownBy w1 (some g) :=
  ⟨h.os, h.tape, h.output, by have := h.size; simp at this; omega, fun k hk hne => by
    rw [h.block k (by simp; omega) hne]
    exact Below.heap_alloc w o k hk⟩
theorem grown_far {w w1 w2 : World} {row : Option Nat} {c : Nat} (h : w.grownBy w1 row) (k : w1.grownBy w2 (some c)) (hc : w.heap.size ≤ c) : w.grownBy w2 row :=
  ⟨k.os.trans h.os, k.tape.trans h.tape, k.output.trans h.output, Nat.le_trans h.size k.size, fun i hi hne =>
    (k.block i (Nat.lt_of_lt_of_le hi h.size) (fun e => by injection e with e; omega)).trans (h.block i hi hne)⟩
theorem grown_then {w w1 w2 : World} {row : Option Nat} (h : w.grownBy w1 row) (k : Below w1.heap.size w1 w2) : w.grownBy w2 row :=
  ⟨k.os.trans h.os, k.tape.trans h.tape, k.output.trans h.output, Nat.le_trans h.size k.size, fun i hi hne =>
    (k.block i (Nat.lt_of_lt_of_le hi h.size)).trans (h.block i hi hne)⟩
theorem Rdr.byte {w : World} {lo g : Nat} {xs : List Int} {e : Int} (h : Rdr w lo g xs e) : Bytes xs := by
  obtain ⟨A, n, c, -, hr, -⟩ := h
  exact hr.range
theorem u8_none {lo : Nat} (g : Nat) (w : World) (hr : Rdr w lo g [] 0) :
    Calls Tryd.prog 100 #[.pointer (some ⟨g, 0, none⟩)] w fun e w' => e = .returned (.int .u8 0) ∧ Rdr w' lo g [] 7 ∧ w.grownBy w' (some g) :=
  u8_any g [] 0 w hr
theorem u8_some {lo : Nat} (g : Nat) (x : Int) (r : List Int) (w : World) (hr : Rdr w lo g (x :: r) 0) :
    Calls Tryd.prog 100 #[.pointer (some ⟨g, 0, none⟩)] w fun e w' => e = .returned (.int .u8 x) ∧ Rdr w' lo g r 0 ∧ w.grownBy w' (some g) := by
  have hx := hr.byte x (by simp)
  have hb : offB (x :: r) 0 1 = true := by simp [offB]; omega
  have := u8_any g (x :: r) 0 w hr
  rw [offT_true hb, offL_true hb, offE_true hb] at this
  have e : numOf 0 ((x :: r).take (1 : Int).toNat) % 256 = x := by
    show (0 * 256 + x) % 18446744073709551616 % 256 = x
    omega
  rw [e] at this
  exact this
/-- The reader of the package: a box that holds the pointer. -/
abbrev rdV (g : Nat) : Array Value := #[.pointer (some ⟨g, 0, none⟩)]

set_option maxHeartbeats 2000000 in
theorem version_any {lo : Nat} (g : Nat) (xs : List Int) (wrong : Int) (w : World) (hL : Laid w) (hg0 : g ≠ 0) (hr : Rdr w lo g xs 0) (hwr : wrong ≠ 0) :
    Calls Tryd.prog 116 #[.agg (rdV g), .int .i64 wrong] w fun e w' => e = .returned (.tuple #[.int .i64 (verV xs wrong), .int .i64 (verE xs wrong)]) ∧ Rdr w' lo g (xs.drop 1) (if xs.length = 0 then 7 else 0) ∧ w.grownBy w' (some g) := by
  have hlt := hr.lt
  have HR := Lib.hid (hr.below (below_alloc (Below.refl _ _) (.cells (rdV g) 157)))
  have HB := Lib.hid (blk_new w (.cells (rdV g) 157))
  have HL := Lib.hid (hL.below (below_alloc (Below.refl _ _) (.cells (rdV g) 157)))
  clear hL
  cases xs with
  | nil =>
    have h0 : verV [] wrong = 0 := rfl
    have h1 : verE [] wrong = 7 := rfl
    rw [h0, h1]
    clear h0 h1
    go_enter Tryd.func116, Tryd.ntmps116
    go_wp2_with fail
    refine (u8_none g _ HR.out).mono ?_
    rintro e w1 ⟨rfl, hr1, hg1⟩
    have hb1 := blk_grown HB.out hg1 (fun e => by injection e with e; omega)
    have hc1 : w1.cell? ⟨w.heap.size, 0, none⟩ = some (.pointer (some ⟨g, 0, none⟩)) := by rw [blk_cell hb1]; rfl
    have H1 := Lib.hid (And.intro hr1 hg1)
    clear hr1 hg1 hb1
    go_wp2_with fail
    refine (err_any g _ _ w1 H1.out.1).mono ?_
    rintro e w2 ⟨rfl, rfl⟩
    go_wp2
    go_ret2
    exact ⟨rfl, H1.out.1, grown_of_alloc H1.out.2⟩
  | cons x r =>
    have hx := hr.byte x (by simp)
    clear hr
    go_enter Tryd.func116, Tryd.ntmps116
    go_wp2_with fail
    refine (u8_some g x r _ HR.out).mono ?_
    rintro e w1 ⟨rfl, hr1, hg1⟩
    have hb1 := blk_grown HB.out hg1 (fun e => by injection e with e; omega)
    have hc1 : w1.cell? ⟨w.heap.size, 0, none⟩ = some (.pointer (some ⟨g, 0, none⟩)) := by rw [blk_cell hb1]; rfl
    have H1 := Lib.hid (And.intro hr1 hg1)
    have HL1 := Lib.hid (HL.out.grown hg1 hg0)
    clear hr1 hg1 hb1
    go_wp2_with fail
    refine (err_any g _ _ w1 H1.out.1).mono ?_
    rintro e w2 ⟨rfl, rfl⟩
    go_wp2_with fail
    refine (width_any x w1 HL1.out).mono ?_
    rintro e w2 ⟨rfl, rfl⟩
    have hrd : rd (x :: r) 0 = x := rfl
    by_cases hw : widthA x = 0
    · have HV := Lib.hid (show verE (x :: r) wrong = wrong by rw [verE_cons (by simp), hrd, if_pos hw])
      have HW := Lib.hid (show verV (x :: r) wrong = 0 by unfold verV; rw [HV.out, if_neg hwr])
      rw [hw]
      clear hw hrd
      go_wp2
      go_ret2
      rw [HV.out, HW.out]
      exact ⟨rfl, H1.out.1, grown_of_alloc H1.out.2⟩
    · have HV := Lib.hid (show verE (x :: r) wrong = 0 by rw [verE_cons (by simp), hrd, if_neg hw])
      have HW := Lib.hid (show verV (x :: r) wrong = x by unfold verV; rw [HV.out, hrd]; rfl)
      have hw0 : ((widthA x : Int) == 0) = false := by simp; omega
      have hw1 : ((widthA x) == 0) = false := by simp; omega
      clear hw hrd
      go_wp2
      go_ret2
      rw [HV.out, HW.out]
      exact ⟨rfl, H1.out.1, grown_of_alloc H1.out.2⟩

theorem arr_neq_exec {r : Operand → Value} {o : Oper} {x y : Operand} {ty : TypeId} (ho : o.op = .binOp .neq 45 x y ty) (l m : List Int) (hx : r x = .agg (arrV l)) (hy : r y = .agg (arrV m)) (hl : B16 l) (hm : B16 m) (w : World) :
    (execOp r o).run Tryd.prog w = .ok (.value (.bool (!decide (l = m)))) w := by
  have hgt : Tryd.prog.eqGuardType Tryd.prog.depth 45 = false := by kernel_rfl
  have hg : (eqGuard .neq 45 x y (.agg (arrV l)) (.agg (arrV m))).run Tryd.prog w = .ok () w := by
    simp [eqGuard, Sem.run_bind, run_program, hgt]
  have hq : (binOp .neq 45 (.agg (arrV l)) (.agg (arrV m))).run Tryd.prog w = .ok (.bool (!decide (l = m))) w := by
    show ((do pure (Value.bool (!(← Op.equal 45 (.agg (arrV l)) (.agg (arrV m))))) : Sem Value)).run Tryd.prog w = _
    rw [Sem.run_bind, arr_equal l m hl hm w]
    rfl
  unfold execOp
  simp only [ho, hx, hy, Sem.run_bind, hg, hq, Result.andThen_ok, Sem.run_pure]

def SomeRest (lo g : Nat) (xs : List Int) (bits : Nat) (wrong : Int) (w : World) : Prop := ∃ rest e1, Rdr w lo g rest e1 ∧ (someE xs bits wrong = 0 → rest = xs.drop (fullB bits) ∧ e1 = 0)
theorem drop_rd (xs : List Int) (k : Nat) (h : k < xs.length) : xs.drop k = rd xs (k : Int) :: xs.drop (k + 1) := by
  rw [List.drop_eq_getElem_cons h]
  simp [rd, List.getD_eq_getElem?_getD, h]
set_option maxHeartbeats 4000000 in
theorem some_any {lo : Nat} (g : Nat) (xs : List Int) (bits : Nat) (wrong : Int) (w : World) (hr : Rdr w lo g xs 0) (hwr : wrong ≠ 0) (hbits : bits ≤ 128) :
    Calls Tryd.prog 117 #[.agg (rdV g), .int .i64 bits, .int .i64 wrong] w fun e w' => e = .returned (.tuple #[.agg (arrV (someL xs bits wrong)), .int .i64 (someE xs bits wrong)]) ∧
      SomeRest lo g xs bits wrong w' ∧ w.grownBy w' (some g) := by
  have hlt := hr.lt
  have hxb := hr.byte
  have hst : (((w.alloc (.cells (rdV g) 157)).alloc (.cells (arrV zero16) 45))).heap[w.heap.size]? = some (.cells (rdV g) 157 (0, 0)) :=
    blk_below (blk_new w _) (below_alloc (Below.refl _ _) _)
  have hst2 := blk_new (w.alloc (.cells (rdV g) 157)) (.cells (arrV zero16) 45)
  rw [show (w.alloc (.cells (rdV g) 157)).heap.size = w.heap.size + 1 by simp] at hst2
  have HB : Hid (((w.alloc (.cells (rdV g) 157)).alloc (.cells (arrV zero16) 45)).heap[w.heap.size]? = some (.cells (rdV g) 157 (0, 0)) ∧
      ((w.alloc (.cells (rdV g) 157)).alloc (.cells (arrV zero16) 45)).heap[w.heap.size + 1]? = some (.cells (arrV (pad (xs.take 0))) 45 (0, 0)) ∧
      Rdr ((w.alloc (.cells (rdV g) 157)).alloc (.cells (arrV zero16) 45)) lo g (xs.drop 0) 0 ∧
      w.grownBy ((w.alloc (.cells (rdV g) 157)).alloc (.cells (arrV zero16) 45)) (some g)) :=
    ⟨hst, hst2, hr.below (below_alloc (below_alloc (Below.refl _ _) _) _), grown_of_below (below_alloc (below_alloc (Below.refl _ _) _) _) _⟩
  clear hst hst2 hr
  have hb0 : (0 : Int) ≤ bits := by omega
  have hb1 : (bits : Int) ≤ 128 := by omega
  obtain ⟨nb, hnb⟩ : ∃ nb, fullB (bits : Int) = nb := ⟨_, rfl⟩
  have hnn : ((bits : Int) + 7) / 8 = (nb : Int) := by rw [← hnb]; unfold fullB; omega
  have hn16 : nb ≤ 16 := by omega
  have HNB := Lib.hid hnb
  have hfq := fun w0 => full_any (bits : Int) w0 hb0 hb1
  rw [hnn] at hfq
  clear hnb hnn
  go_enter Tryd.func117, Tryd.ntmps117
  go_wp2_with fail
  refine (hfq _).mono ?_
  rintro e w1 ⟨rfl, rfl⟩
  go_wp2_with fail
  go_loopw [11] (fun i wr => ∃ k : Nat, i = .int .i64 k ∧ Hid (k ≤ nb ∧ k ≤ xs.length ∧ wr.heap[w.heap.size]? = some (.cells (rdV g) 157 (0, 0)) ∧ wr.heap[w.heap.size + 1]? = some (.cells (arrV (pad (xs.take k))) 45 (0, 0)) ∧ Rdr wr lo g (xs.drop k) 0 ∧ w.grownBy wr (some g) ∧ (k = nb → 0 < nb → clearA (pad (xs.take nb)) bits = true))) (fun i _ => 16 - (intOf i).toNat)
  case atStart => exact ⟨0, rfl, Nat.zero_le _, Nat.zero_le _, HB.out.1, HB.out.2.1, HB.out.2.2.1, HB.out.2.2.2, fun h h0 => by omega⟩
  case round =>
    obtain ⟨k, rfl, HH⟩ := hrel
    clear HB
    have hk := HH.out.1
    by_cases hlt2 : k < nb
    · have hlt' : (k : Int) < nb := by omega
      have hc1 : wr.cell? ⟨w.heap.size, 0, none⟩ = some (.pointer (some ⟨g, 0, none⟩)) := by rw [blk_cell HH.out.2.2.1]; rfl
      have hlp : (pad (xs.take k)).length = 16 := pad_len (by rw [List.length_take]; omega)
      by_cases hkx : k < xs.length
      · have hrd := HH.out.2.2.2.2.1
        rw [drop_rd xs k hkx] at hrd
        have HRD := Lib.hid hrd
        clear hrd
        go_wp2_with fail
        refine (u8_some g _ _ wr HRD.out).mono ?_
        rintro e w1 ⟨rfl, hr1, hg1⟩
        have hbx := blk_grown HH.out.2.2.1 hg1 (fun e => by injection e with e; omega)
        have hby := blk_grown HH.out.2.2.2.1 hg1 (fun e => by injection e with e; omega)
        have hcx : w1.cell? ⟨w.heap.size, 0, none⟩ = some (.pointer (some ⟨g, 0, none⟩)) := by rw [blk_cell hbx]; rfl
        have hcy := arr_cell hby k (by rw [hlp]; omega)
        have hfy : w1.frozen? ⟨w.heap.size + 1, k, none⟩ = false := blk_frozen hby k
        have hk16 : (k : Int) < 16 := by omega
        have hk0 : (0 : Int) ≤ k := by omega
        have H1 : Hid (Rdr w1 lo g (xs.drop (k + 1)) 0 ∧ w.grownBy w1 (some g) ∧ w1.heap[w.heap.size]? = some (.cells (rdV g) 157 (0, 0)) ∧ w1.heap[w.heap.size + 1]? = some (.cells (arrV (pad (xs.take k))) 45 (0, 0))) :=
          ⟨hr1, grown_trans HH.out.2.2.2.2.2.1 hg1, hbx, hby⟩
        clear hr1 hg1 hbx hby HRD hc1
        have H2 : Hid (Rdr (w1.setCell ⟨w.heap.size + 1, k, none⟩ (.int .u8 (rd xs (k : Int)))) lo g (xs.drop (k + 1)) 0 ∧ w.grownBy (w1.setCell ⟨w.heap.size + 1, k, none⟩ (.int .u8 (rd xs (k : Int)))) (some g) ∧
            (w1.setCell ⟨w.heap.size + 1, k, none⟩ (.int .u8 (rd xs (k : Int)))).heap[w.heap.size]? = some (.cells (rdV g) 157 (0, 0)) ∧
            (w1.setCell ⟨w.heap.size + 1, k, none⟩ (.int .u8 (rd xs (k : Int)))).heap[w.heap.size + 1]? = some (.cells (arrV (pad (xs.take (k + 1)))) 45 (0, 0))) := by
          refine ⟨H1.out.1.grown (grown_setCell _ _ _) (fun b hb => by injection hb with hb; simp only at hb; omega), grown_far H1.out.2.1 (grown_setCell _ _ _) (by simp), blk_set_far H1.out.2.2.1 (by simp) _, ?_⟩
          have := arr_set H1.out.2.2.2 k (rd xs (k : Int))
          rw [pad_set xs k hkx (by omega)] at this
          exact this
        go_wp2_with fail
        refine (err_any g _ _ _ H2.out.1).mono ?_
        rintro e w2' ⟨rfl, rfl⟩
        obtain ⟨w2, hw2⟩ : ∃ w2, w1.setCell ⟨w.heap.size + 1, k, none⟩ (.int .u8 (rd xs (k : Int))) = w2 := ⟨_, rfl⟩
        rw [hw2] at H2 ⊢
        clear hw2 hcx hcy hfy
        have hp16 : B16 (pad (xs.take (k + 1))) := pad_16 (by rw [List.length_take]; omega) (hxb.take _)
        have HLD : Hid (∀ w0, Below w2.heap.size w2 w0 → (Instr.loadAt 45 (.pointer (some ⟨w.heap.size + 1, 0, none⟩))).run Tryd.prog w0 = .ok (.agg (arrV (pad (xs.take (k + 1))))) w0) :=
          fun w0 h0 => load_arr hp16 (fun i hi => by rw [Nat.zero_add]; exact arr_cell (blk_below H2.out.2.2.2 h0) i (by rw [hp16.len]; exact hi))
        go_wp2_with fail
        refine wp_region_mix (fun w0 => Below (w2).heap.size (w2) w0) [(0, 0), (1, 0), (3, 0), (2, 2), (4, 0), (5, 0)] (by kernel_rfl) (by kernel_rfl) (below_drew1 _) ?_
        simp only [List.map_cons, List.map_nil]
        refine wpO_loadW (t := 45) (ad := ⟨(w.heap.size+1), 0, none⟩) rfl rfl ?hw rfl rfl ((fun w0 hS => HLD.out w0 hS)) ?_
        case hw => go_simp
        iterate 1 (refine wpO_step0 rfl rfl (fun K hK => ?_); go_simp; refine hK _ _ ?_; clear hK K)
        refine wpO_loadW (t := 45) (ad := ⟨(w.heap.size+1), 0, none⟩) rfl rfl ?hw rfl rfl ((fun w0 hS => HLD.out w0 hS)) ?_
        case hw => go_simp
        refine wpO_step2 rfl rfl (below_drew1 _) (fun K hK => ?_)
        go_simp
        refine (cut_any (pad (xs.take (k + 1))) bits _ hp16 hb0 hb1).mono ?_
        rintro e w3 ⟨rfl, hbb3⟩
        have HB3 := Lib.hid (below_step (below_drew1 _) hbb3)
        clear hbb3
        refine hK _ _ ⟨HB3.out, ?_⟩
        clear hK K
        refine wpO_step0 rfl rfl (fun K hK => ?_)
        rw [if_pos (show Region.wanted _ _ = true from rfl)]
        refine ⟨_, fun w0 => arr_neq_exec rfl (cutA (pad (xs.take (k + 1))) bits) (pad (xs.take (k + 1))) rfl rfl (cutA_16 hp16 _) hp16 w0, hK _ _ ?_⟩
        clear hK K
        have H3 : Hid (Rdr w3 lo g (xs.drop (k + 1)) 0 ∧ w.grownBy w3 (some g) ∧ w3.heap[w.heap.size]? = some (.cells (rdV g) 157 (0, 0)) ∧ w3.heap[w.heap.size + 1]? = some (.cells (arrV (pad (xs.take (k + 1)))) 45 (0, 0))) :=
          ⟨H2.out.1.below HB3.out, grown_then H2.out.2.1 HB3.out, blk_below H2.out.2.2.1 HB3.out, blk_below H2.out.2.2.2 HB3.out⟩
        by_cases hcl : clearA (pad (xs.take (k + 1))) bits = true
        · have hdc : (!decide (cutA (pad (xs.take (k + 1))) bits = pad (xs.take (k + 1)))) = false := by rw [decide_eq_true ((cut_clear hp16 bits).2 hcl)]; rfl
          rw [hdc]
          have HC := Lib.hid hcl
          clear hdc hcl
          iterate 1 (refine wpO_step0 rfl rfl (fun K hK => ?_); go_simp; refine hK _ _ ?_; clear hK K)
          refine wpO_nil ?_
          go_wp2_with fail
          go_roundw
          case measure => simp [intOf]; omega
          case rel =>
            exact ⟨k + 1, by go_num, by omega, by omega, H3.out.2.2.1, H3.out.2.2.2, H3.out.1, H3.out.2.1, fun h _ => by rw [← h]; exact HC.out⟩
        · have hcf : clearA (pad (xs.take (k + 1))) bits = false := by simpa using hcl
          have hk1 : k + 1 = nb := by
            rcases Nat.lt_or_ge (k + 1) nb with h | h
            · have := clear_pad (xs.take (k + 1)) bits (by rw [List.length_take]; have := fullB_lt (bits := bits) (i := k) (by rw [HNB.out]; exact h); omega)
              rw [this] at hcf
              cases hcf
            · omega
          have hdc : (!decide (cutA (pad (xs.take (k + 1))) bits = pad (xs.take (k + 1)))) = true := by
            rw [decide_eq_false (fun h => hcl ((cut_clear hp16 bits).1 h))]
            rfl
          rw [hdc]
          have HE := Lib.hid (some_wrong (xs := xs) (bits := bits) (wrong := wrong) (by rw [HNB.out]; omega) (by rw [HNB.out, ← hk1]; exact hcf))
          have HE2 := Lib.hid (someL_no (xs := xs) (bits := bits) (wrong := wrong) (by rw [HE.out]; exact hwr))
          have hbn := run_build_arr_nil
          clear hdc hcl hcf hk1
          iterate 1 (refine wpO_step0 rfl rfl (fun K hK => ?_); go_simp; refine hK _ _ ?_; clear hK K)
          refine wpO_nil ?_
          go_wp2_with (refine wpList_store_blk H3.out.2.2.2 45 0 (arrV zero16) (by rw [arr_size rfl, arr_size hp16.len]; exact Nat.le_refl _) (info_arr rfl) (arr_one _) _ _ rfl rfl rfl rfl ?_; intro w4 hg hs hb; rw [splice_arr0 _ zero16 rfl (arr_size hp16.len)] at hb; have H4 := Lib.hid (And.intro hg hb); clear hg hs hb)
          have hld := load_arr (b := w.heap.size + 1) (o := 0) zero16_B (fun i hi => by rw [Nat.zero_add]; exact arr_cell H4.out.2 i hi)
          refine bodyPost_ret (results_c2 rfl rfl hld) rfl ?_
          rw [HE.out, HE2.out]
          exact ⟨rfl, ⟨_, _, H3.out.1.grown H4.out.1 (fun b hb => by injection hb with hb; omega), fun h => absurd (HE.out.symm.trans h) hwr⟩, grown_far H3.out.2.1 H4.out.1 (by omega)⟩
      · have hkx' : k = xs.length := by have := HH.out.2.1; omega
        have hrd := HH.out.2.2.2.2.1
        rw [List.drop_of_length_le (by omega)] at hrd
        have HRD := Lib.hid hrd
        have HE := Lib.hid (some_short (xs := xs) (bits := bits) (wrong := wrong) (by rw [HNB.out]; omega))
        have HE2 := Lib.hid (someL_no (xs := xs) (bits := bits) (wrong := wrong) (by rw [HE.out]; decide))
        clear hrd hkx hkx'
        go_wp2_with fail
        refine (u8_none g wr HRD.out).mono ?_
        rintro e w1 ⟨rfl, hr1, hg1⟩
        have hbx := blk_grown HH.out.2.2.1 hg1 (fun e => by injection e with e; omega)
        have hby := blk_grown HH.out.2.2.2.1 hg1 (fun e => by injection e with e; omega)
        have hcx : w1.cell? ⟨w.heap.size, 0, none⟩ = some (.pointer (some ⟨g, 0, none⟩)) := by rw [blk_cell hbx]; rfl
        have hcy := arr_cell hby k (by rw [hlp]; omega)
        have hfy : w1.frozen? ⟨w.heap.size + 1, k, none⟩ = false := blk_frozen hby k
        have hk16 : (k : Int) < 16 := by omega
        have hk0 : (0 : Int) ≤ k := by omega
        have H2 : Hid (Rdr (w1.setCell ⟨w.heap.size + 1, k, none⟩ (.int .u8 0)) lo g [] 7 ∧ w.grownBy (w1.setCell ⟨w.heap.size + 1, k, none⟩ (.int .u8 0)) (some g) ∧
            (w1.setCell ⟨w.heap.size + 1, k, none⟩ (.int .u8 0)).heap[w.heap.size + 1]? = some (.cells (arrV ((pad (xs.take k)).set k 0)) 45 (0, 0))) :=
          ⟨hr1.grown (grown_setCell _ _ _) (fun b hb => by injection hb with hb; simp only at hb; omega), grown_far (grown_trans HH.out.2.2.2.2.2.1 hg1) (grown_setCell _ _ _) (by simp), arr_set hby k 0⟩
        clear hr1 hg1 hbx hby HRD hc1
        go_wp2_with fail
        refine (err_any g _ _ _ H2.out.1).mono ?_
        rintro e w2' ⟨rfl, rfl⟩
        obtain ⟨w2, hw2⟩ : ∃ w2, w1.setCell ⟨w.heap.size + 1, k, none⟩ (.int .u8 0) = w2 := ⟨_, rfl⟩
        rw [hw2] at H2 ⊢
        have hbn := run_build_arr_nil
        have hl16 : ((pad (xs.take k)).set k 0).length = 16 := by rw [List.length_set, hlp]
        clear hw2 hcx hcy hfy hlp
        go_wp2_with (refine wpList_store_blk H2.out.2.2 45 0 (arrV zero16) (by rw [arr_size rfl, arr_size hl16]; exact Nat.le_refl _) (info_arr rfl) (arr_one _) _ _ rfl rfl rfl rfl ?_; intro w4 hg hs hb; rw [splice_arr0 _ zero16 rfl (arr_size hl16)] at hb; have H4 := Lib.hid (And.intro hg hb); clear hg hs hb)
        have hld := load_arr (b := w.heap.size + 1) (o := 0) zero16_B (fun i hi => by rw [Nat.zero_add]; exact arr_cell H4.out.2 i hi)
        refine bodyPost_ret (results_c2 rfl rfl hld) rfl ?_
        rw [HE.out, HE2.out]
        exact ⟨rfl, ⟨_, _, H2.out.1.grown H4.out.1 (fun b hb => by injection hb with hb; omega), fun h => absurd (HE.out.symm.trans h) (by decide)⟩, grown_far H2.out.2.1 H4.out.1 (by omega)⟩
    · obtain rfl : k = nb := by omega
      have hm1 : decide ((k : Int) < k) = false := decide_eq_false (by omega)
      have hp16 : B16 (pad (xs.take k)) := pad_16 (by rw [List.length_take]; omega) (hxb.take _)
      have hcl : clearA (pad (xs.take k)) bits = true := by
        rcases Nat.eq_zero_or_pos k with h | h
        · subst h
          exact clear_pad _ _ (by simp)
        · exact HH.out.2.2.2.2.2.2 rfl h
      have HE := Lib.hid (some_ok (xs := xs) (bits := bits) (wrong := wrong) (by rw [HNB.out]; exact HH.out.2.1) (by rw [HNB.out]; exact hcl))
      have HE2 := Lib.hid ((someL_ok HE.out).trans (by rw [HNB.out]))
      have hld0 := load_arr (b := w.heap.size + 1) (o := 0) hp16 (fun i hi => by rw [Nat.zero_add]; exact arr_cell HH.out.2.2.2.1 i (by rw [hp16.len]; exact hi))
      clear hlt2 hcl hk
      go_wp2_with (first | ((with_reducible show wpList _ _ _ (Oper.mk _ (Op.load _ _) _ _ _ _ :: _) _ _); refine wpList_load_g hld0 _ rfl rfl (by go_simp) ?_) | (refine wpList_store_blk HH.out.2.2.2.1 45 0 (arrV (pad (xs.take k))) (by rw [arr_size hp16.len]; exact Nat.le_refl _) (info_arr hp16.len) (arr_one _) _ _ rfl rfl rfl rfl ?_; intro w4 hg hs hb; rw [splice_arr0 _ (pad (xs.take k)) hp16.len (arr_size hp16.len)] at hb; have H4 := Lib.hid (And.intro hg hb); clear hg hs hb))
      have hld := load_arr (b := w.heap.size + 1) (o := 0) hp16 (fun i hi => by rw [Nat.zero_add]; exact arr_cell H4.out.2 i (by rw [hp16.len]; exact hi))
      refine bodyPost_ret (results_c2 rfl rfl hld) rfl ?_
      rw [HE.out, HE2.out]
      exact ⟨rfl, ⟨_, _, HH.out.2.2.2.2.1.grown H4.out.1 (fun b hb => by injection hb with hb; omega), fun _ => ⟨by rw [HNB.out], rfl⟩⟩, grown_far HH.out.2.2.2.2.2.1 H4.out.1 (by omega)⟩
end Go.Proofs.YtnpeedmicjeleaaDoor

/- A region that draws its order, where two operations that act may stand in either order: both orders are walked. -/
namespace Go.Proofs.YtnpeedmicjeleaaDoor
open Go.RowKit
set_option linter.unusedVariables false
set_option linter.unusedSimpArgs false
set_option maxRecDepth 4000

section
variable {P : Program} {S : World → Prop} {ops : Array Oper} {md : Region.Mode} {cl : Nat → Nat}
theorem notOut (X : Act → World → Prop) : ¬ LetsOut (onlyNormal X) := fun ⟨_, _, h⟩ => h
theorem wpOp_normal {X Y K : Act → World → Prop} {i : Nat} {a : Act} {w : World} (h : wpOp P ops (onlyNormal X) i K a w) : wpOp P ops (onlyNormal Y) i K a w := by
  unfold wpOp at *
  cases hi : ops[i]? with
  | none => rw [hi] at h; exact h
  | some o =>
    rw [hi] at h
    simp only at h ⊢
    split
    · rename_i hw
      rw [if_pos hw] at h
      rcases h with h | ⟨_, h⟩
      · refine .inl ?_
        unfold Oper.wp at *
        generalize (execOp a.eval o).run P w = r at *
        cases r with
        | ok n w' =>
          cases n <;> simp only [Oper.upon] at h ⊢
          case value u => exact h
          case skip => exact h
          case defer d => exact h
          case enter f args =>
            refine Calls.mono h fun e w'' he => ?_
            cases e with
            | returned u => exact he
            | panicked c => exact he.elim
            | outgrown => exact (notOut _ he).elim
          case row row args => exact h
        | halt x w' =>
          cases x <;> simp only [Oper.upon] at h ⊢
          case panic u => exact h.elim
      · exact (notOut _ h).elim
    · rename_i hw
      rw [if_neg hw] at h
      exact h
theorem mOp_normal {X Y K K' : Act → World → Prop} {i : Nat} {a : Act} {w : World} (hk : ∀ a w, K a w → K' a w) (h : mOp P S ops (onlyNormal X) cl i K a w) : mOp P S ops (onlyNormal Y) cl i K' a w := by
  refine mOp_mono hk ?_
  unfold mOp at *
  cases hi : ops[i]? with
  | none => rw [hi] at h; exact h
  | some o =>
    rw [hi] at h
    simp only at h ⊢
    split at h
    · exact h
    · exact h
    · exact wpOp_normal h
    · exact h
    · exact wpOp_normal h

inductive OrdT where
  | lin (l : List Nat)
  | fork (l : List Nat) (i j : Nat) (r s : OrdT)
def OrdT.len : OrdT → Nat
  | .lin l => l.length
  | .fork l _ _ r _ => l.length + (r.len + 1)
def wpF (P : Program) (S : World → Prop) (ops : Array Oper) (cl : Nat → Nat) (K : Act → World → Prop) : OrdT → Act → World → Prop
  | .lin l, a, w => wpO P S ops (onlyNormal K) cl l a w
  | .fork l i j r s, a, w => wpO P S ops (onlyNormal fun a w => wpO P S ops (onlyNormal (wpF P S ops cl K r)) cl [i] a w ∧ wpO P S ops (onlyNormal (wpF P S ops cl K s)) cl [j] a w) cl l a w
def afterL (l : List Nat) (listed : Array Bool) : Array Bool := l.foldl (fun b i => b.setIfInBounds i true) listed
def ordP (md : Region.Mode) (ops : Array Oper) (cl : Nat → Nat) : List Nat → Array Bool → Bool
  | [], _ => true
  | i :: l, listed => (match cl i with
    | 0 => (Region.ready md ops listed).contains i && Region.free md ops listed i
    | 1 => (Region.ready md ops listed).contains i && Region.free md ops listed i && (List.range ops.size).all fun j => listed.getD j true || cl j == 0 || cl j == 1 || reach md ops i ops.size j
    | 4 => (Region.ready md ops listed).contains i && Region.free md ops listed i
    | _ => Region.ready md ops listed == [i]) && ordP md ops cl l (listed.setIfInBounds i true)
def ordF (md : Region.Mode) (ops : Array Oper) (cl : Nat → Nat) : OrdT → Array Bool → Bool
  | .lin l, listed => ordB md ops cl l listed
  | .fork l i j r s, listed => ordP md ops cl l listed && (Region.ready md ops (afterL l listed) == [i, j]) && decide (r.len = s.len) && ordF md ops cl r ((afterL l listed).setIfInBounds i true) && ordF md ops cl s ((afterL l listed).setIfInBounds j true)

theorem wpM_prefix (hf : Fin md ops cl) (hs : Region.noSelect ops = true) {X K : Act → World → Prop} {n : Nat} : ∀ (l : List Nat) (listed : Array Bool) (a : Act) (w : World), Closed md ops listed → ordP md ops cl l listed = true →
    wpO P S ops (onlyNormal X) cl l a w → (∀ a w, Closed md ops (afterL l listed) → X a w → wpM P S md ops (onlyNormal K) cl n (afterL l listed) a w) → wpM P S md ops (onlyNormal K) cl (n + l.length) listed a w
  | [], listed, a, w, hcl, _, h, hX => hX a w hcl h
  | i :: l, listed, a, w, hcl, hB, h, hX => by
    simp only [ordP, Bool.and_eq_true] at hB
    obtain ⟨hB1, hB2⟩ := hB
    simp only [wpO] at h
    have h0 := h
    have hX' : ∀ a w, Closed md ops (afterL l (listed.setIfInBounds i true)) → X a w → wpM P S md ops (onlyNormal K) cl n (afterL l (listed.setIfInBounds i true)) a w := fun a w hc hx => hX a w hc hx
    show wpM P S md ops (onlyNormal K) cl (n + l.length + 1) listed a w
    unfold mOp at h
    split at hB1
    · rename_i hc
      simp only [Bool.and_eq_true, List.contains_iff_mem] at hB1
      obtain ⟨_, oi, hoi, _⟩ := mem_ready.1 hB1.1
      rw [hoi] at h
      simp only [hc] at h
      obtain ⟨v, hy, hk⟩ := h
      exact wpM_first0 hf hoi hc (Region.noSelect_spec hs) (fun c a w h => h) (n + l.length) listed a w hcl (Region.free_spec hoi hB1.2) hB1.1 hy (wpM_prefix hf hs l _ _ w (hcl.set hB1.1) hB2 hk hX')
    · rename_i hc
      simp only [Bool.and_eq_true, List.contains_iff_mem, List.all_eq_true, List.mem_range, Bool.or_eq_true, beq_iff_eq] at hB1
      obtain ⟨_, oi, hoi, _⟩ := mem_ready.1 hB1.1.1
      rw [hoi] at h
      simp only [hc] at h
      obtain ⟨v, hy, hk⟩ := h
      refine wpM_first1 (N := ops.size) hoi hc (Region.noSelect_spec hs) (n + l.length) listed a hcl (fun j oj hj hun => ?_) (Region.free_spec hoi hB1.1.2) hB1.1.1 hy (wpM_prefix hf hs l _ _ w (hcl.set hB1.1.1) hB2 hk hX')
      have := hB1.2 j (Array.getElem?_eq_some_iff.1 hj).1
      rw [hun] at this
      simpa [or_assoc] using this
    · rename_i hc
      simp only [Bool.and_eq_true, List.contains_iff_mem] at hB1
      obtain ⟨_, oi, hoi, _⟩ := mem_ready.1 hB1.1
      rw [hoi] at h
      simp only [hc] at h
      obtain ⟨v, hy, hk⟩ := h
      exact wpM_first4 hoi hc (Region.noSelect_spec hs) (fun c a w h => h) (n + l.length) listed a w hcl (Region.free_spec hoi hB1.2) hB1.1 hy (wpM_prefix hf hs l _ _ w (hcl.set hB1.1) hB2 hk hX')
    · simp only [beq_iff_eq] at hB1
      have hr : i ∈ Region.ready md ops listed := by rw [hB1]; exact List.mem_singleton.2 rfl
      exact wpM_only hB1 (mOp_normal (fun a' w' h' => wpM_prefix hf hs l _ a' w' (hcl.set hr) hB2 h' hX') h0)
theorem wpM_of_wpF (hf : Fin md ops cl) (hs : Region.noSelect ops = true) {K : Act → World → Prop} : ∀ (t : OrdT) (listed : Array Bool) (a : Act) (w : World), Closed md ops listed → ordF md ops cl t listed = true → wpF P S ops cl K t a w →
    wpM P S md ops (onlyNormal K) cl t.len listed a w
  | .lin l, listed, a, w, hcl, hB, h => wpM_of_wpO hf hs (fun c dst v a w h => h) l listed a w hcl hB h
  | .fork l i j r s, listed, a, w, hcl, hB, h => by
    simp only [ordF, Bool.and_eq_true, decide_eq_true_eq, beq_iff_eq] at hB
    obtain ⟨⟨⟨⟨h1, h2⟩, h3⟩, h4⟩, h5⟩ := hB
    show wpM P S md ops (onlyNormal K) cl (l.length + (r.len + 1)) listed a w
    rw [Nat.add_comm]
    refine wpM_prefix hf hs l listed a w hcl h1 h (fun a w hc hx => ?_)
    refine ⟨fun h => (by rw [h2] at h; cases h), fun k hk => ?_⟩
    have hri : i ∈ Region.ready md ops (afterL l listed) := by rw [h2]; simp
    have hrj : j ∈ Region.ready md ops (afterL l listed) := by rw [h2]; simp
    rw [h2] at hk
    rcases List.mem_cons.1 hk with rfl | hk
    · exact mOp_normal (fun a' w' h' => wpM_of_wpF hf hs r _ a' w' (hc.set hri) h4 h') hx.1
    · rw [List.mem_singleton] at hk
      subst hk
      exact mOp_normal (fun a' w' h' => by rw [h3]; exact wpM_of_wpF hf hs s _ a' w' (hc.set hrj) h5 h') hx.2
end
theorem wp_region_fork {P : Program} (S : World → Prop) {ops : Array Oper} {id : Nat} {Q : Exit → Act → World → Prop} {a : Act} {w : World} (t : OrdT) (l : List (Nat × Nat)) (hm : P.follows .mixedOrders = true)
    (hB : (finB .any ops l && Region.noSelect ops && decide (t.len = ops.size) && ordF .any ops (clOf l) t (Array.replicate ops.size false)) = true)
    (hS : S w.drew) (h : wpF P S ops (clOf l) (Q .normal) t a w.drew) : (Code.region id ops true).wp P Q a w := by
  simp only [Bool.and_eq_true, decide_eq_true_eq] at hB
  refine wp_mono (Q := onlyNormal (Q .normal)) (wp_region_any hm (wpAny_of_wpM (S := S) (cl := clOf l) (fin_of hB.1.1.1) _ _ _ _ (Closed.start _) hS ?_)) (fun e a w hq => ?_)
  · have := wpM_of_wpF (P := P) (S := S) (md := .any) (cl := clOf l) (fin_of hB.1.1.1) hB.1.1.2 t (Array.replicate ops.size false) a w.drew (Closed.start _) hB.2 h
    rw [hB.1.2] at this
    exact this
  · cases e <;> first | exact hq | exact hq.elim
end Go.Proofs.YtnpeedmicjeleaaDoor

/- Layer 5 (prefix): DecodeAddr. -/
namespace Go.Proofs.YtnpeedmicjeleaaDoor
open Go.RowKit
set_option linter.unusedVariables false
set_option linter.unusedSimpArgs false
set_option maxRecDepth 4000

theorem load_rd {w : World} {b g : Nat} (h : w.heap[b]? = some (.cells (rdV g) 157 (0, 0))) : (Instr.loadAt 157 (.pointer (some ⟨b, 0, none⟩))).run Tryd.prog w = .ok (.agg (rdV g)) w := by
  refine run_loadAt_mid w b 0 157 [.pointer (some ⟨g, 0, none⟩)] _ (fun j v hv => ?_) Tryd.underlying157 rfl (by kernel_rfl)
  rw [Nat.zero_add, blk_cell h]
  simpa using hv
theorem load_rp {w : World} {b g : Nat} (h : w.heap[b]? = some (.cells (rdV g) 157 (0, 0))) : (Instr.loadAt 108 (.pointer (some ⟨b, 0, none⟩))).run Tryd.prog w = .ok (.pointer (some ⟨g, 0, none⟩)) w := by
  have hc : w.cell? ⟨b, 0, none⟩ = some (.pointer (some ⟨g, 0, none⟩)) := by rw [blk_cell h]; rfl
  clear h
  go_simp
theorem load_arr0 {w : World} {b : Nat} {l : List Int} (hl : B16 l) (h : w.heap[b]? = some (.cells (arrV l) 45 (0, 0))) : (Instr.loadAt 45 (.pointer (some ⟨b, 0, none⟩))).run Tryd.prog w = .ok (.agg (arrV l)) w :=
  load_arr hl (fun i hi => by rw [Nat.zero_add]; exact arr_cell h i (by rw [hl.len]; exact hi))
/-- What holds while the bytes are read: the reader's box, the result's cell. -/
structure DecS (w : World) (rb zb g : Nat) (z : Obj) (w0 : World) : Prop where
  below : Below w.heap.size w w0
  box : w0.heap[rb]? = some (.cells (rdV g) 157 (0, 0))
  zero : w0.heap[zb]? = some z
theorem DecS.step {w w0 w1 : World} {rb zb g : Nat} {z : Obj} (h : DecS w rb zb g z w0) (hb : Below w0.heap.size w0 w1) : DecS w rb zb g z w1 := ⟨below_step h.below hb, blk_below h.box hb, blk_below h.zero hb⟩
theorem DecS.grow {w w0 w1 : World} {rb zb g c : Nat} {z : Obj} (h : DecS w rb zb g z w0) (hg : w0.grownBy w1 (some c)) (h1 : w.heap.size ≤ c) (h2 : rb ≠ c) (h3 : zb ≠ c) : DecS w rb zb g z w1 :=
  ⟨below_grown h.below hg h1, blk_grown h.box hg (fun e => by injection e with e; exact h2 e), blk_grown h.zero hg (fun e => by injection e with e; exact h3 e)⟩

theorem SomeRest.below {lo g : Nat} {xs : List Int} {bits : Nat} {wrong : Int} {w w1 : World} (h : SomeRest lo g xs bits wrong w) (hb : Below w.heap.size w w1) : SomeRest lo g xs bits wrong w1 := by
  obtain ⟨r, e, h1, h2⟩ := h
  exact ⟨r, e, h1.below hb, h2⟩
theorem SomeRest.grown {lo g c : Nat} {xs : List Int} {bits : Nat} {wrong : Int} {w w1 : World} (h : SomeRest lo g xs bits wrong w) (hg : w.grownBy w1 (some c)) (hc : g < c) : SomeRest lo g xs bits wrong w1 := by
  obtain ⟨r, e, h1, h2⟩ := h
  exact ⟨r, e, h1.grown hg (fun b hb => by injection hb with hb; omega), h2⟩
/-- What the reading has left: the bytes in a block of their own, the reader behind them. -/
structure DecR (w : World) (rb zb g gb lo : Nat) (z : Obj) (sl : List Int) (ys : List Int) (bits : Nat) (wrong : Int) (w0 : World) : Prop where
  s : DecS w rb zb g z w0
  arr : w0.heap[gb]? = some (.cells (arrV sl) 45 (0, 0))
  rest : SomeRest lo g ys bits wrong w0
theorem DecR.drew {w w0 : World} {rb zb g gb lo : Nat} {z : Obj} {sl ys : List Int} {bits : Nat} {wrong : Int} (h : DecR w rb zb g gb lo z sl ys bits wrong w0) : DecR w rb zb g gb lo z sl ys bits wrong w0.drew :=
  ⟨h.s.step (below_drew1 _), h.arr, h.rest.below (below_drew1 _)⟩
structure DecT (w : World) (rb g gb : Nat) (sl : List Int) (w0 : World) : Prop where
  below : Below w.heap.size w w0
  box : w0.heap[rb]? = some (.cells (rdV g) 157 (0, 0))
  arr : w0.heap[gb]? = some (.cells (arrV sl) 45 (0, 0))
theorem DecR.t {w w0 : World} {rb zb g gb lo : Nat} {z : Obj} {sl ys : List Int} {bits : Nat} {wrong : Int} (h : DecR w rb zb g gb lo z sl ys bits wrong w0) : DecT w rb g gb sl w0 := ⟨h.s.below, h.s.box, h.arr⟩
theorem DecT.grow {w w0 w1 : World} {rb g gb c : Nat} {sl : List Int} (h : DecT w rb g gb sl w0) (hg : w0.grownBy w1 (some c)) (h1 : w.heap.size ≤ c) (h2 : rb ≠ c) (h3 : gb ≠ c) : DecT w rb g gb sl w1 :=
  ⟨below_grown h.below hg h1, blk_grown h.box hg (fun e => by injection e with e; exact h2 e), blk_grown h.arr hg (fun e => by injection e with e; exact h3 e)⟩

end Go.Proofs.YtnpeedmicjeleaaDoor

/- Layer 5 (prefix): Decode. -/
namespace Go.Proofs.YtnpeedmicjeleaaDoor
open Go.RowKit
set_option linter.unusedVariables false
set_option linter.unusedSimpArgs false
set_option maxRecDepth 4000

theorem decP_no {xs : List Int} (h : decPE xs ≠ 0) : decP xs = ⟨0, zero16, 0⟩ ∧ decPN xs = 0 := by
  refine ⟨?_, ?_⟩
  · unfold decP; rw [if_neg h]
  · unfold decPN; rw [if_neg h]
theorem decP_ver {xs : List Int} (h : verE xs 151 ≠ 0) : decPE xs = verE xs 151 := by unfold decPE; rw [if_pos h]
theorem decP_short {xs : List Int} (h : verE xs 151 = 0) (hs : xs.length < 2) : decPE xs = 7 := by unfold decPE; rw [if_neg (by rw [h]; simp), if_pos hs]
theorem decP_wide {xs : List Int} (h : verE xs 151 = 0) (hs : 2 ≤ xs.length) (hw : (widthA (rd xs 0) : Int) < rd xs 1) : decPE xs = 151 := by
  unfold decPE; rw [if_neg (by rw [h]; simp), if_neg (by omega), if_pos hw]
theorem decP_some {xs : List Int} {b : Nat} (h : verE xs 151 = 0) (hs : 2 ≤ xs.length) (hb : rd xs 1 = b) (hw : b ≤ widthA (rd xs 0)) : decPE xs = someE (xs.drop 2) b 151 := by
  unfold decPE; rw [if_neg (by rw [h]; simp), if_neg (by omega), if_neg (by omega), hb]; rfl
theorem decP_ok {xs : List Int} {b : Nat} (h : decPE xs = 0) (he : decPE xs = someE (xs.drop 2) b 151) (hs : 2 ≤ xs.length) (hb : rd xs 1 = b) :
    decP xs = ⟨rd xs 0, someL (xs.drop 2) b 151, b⟩ ∧ decPN xs = 2 + fullB b ∧ xs.length - ((xs.drop 2).drop (fullB b)).length = 2 + fullB b ∧ 2 + fullB b ≤ xs.length := by
  have hse := he.symm.trans h
  have hlen : fullB b ≤ (xs.drop 2).length := by
    rcases Nat.lt_or_ge (xs.drop 2).length (fullB b) with hh | hh
    · rw [some_short hh] at hse; cases hse
    · exact hh
  rw [List.length_drop] at hlen
  refine ⟨?_, ?_, ?_, by omega⟩
  · unfold decP; rw [if_pos h, someL_ok hse, hb]
  · unfold decPN; rw [if_pos h, hb]
  · rw [List.length_drop, List.length_drop]; omega

set_option maxHeartbeats 8000000 in
theorem decode_any (A : Option Addr) (n c : Nat) (xs : List Int) (w : World) (hL : Laid w) (hr : RB w A n c xs) (hn : n ≤ 140737488355328) :
    Calls Tryd.prog 102 #[.slice A n c] w fun e w' => e = .returned (.tuple #[.agg (pfxV (decP xs).v (decP xs).l (decP xs).b), .int .i64 (decPN xs), .int .i64 (decPE xs)]) ∧ Below w.heap.size w w' := by
  have hlen := hr.len
  have hsm := hr.small
  have HZ := Lib.hid (blk_new w (.cells (pfxV 0 zero16 0) 49))
  have HBZ : Hid (Below w.heap.size w (w.alloc (.cells (pfxV 0 zero16 0) 49))) := below_alloc (Below.refl _ _) _
  have HR := Lib.hid (hr.below HBZ.out)
  have HL := Lib.hid hL
  have HLEN := Lib.hid hlen
  clear hr hL hlen
  go_enter Tryd.func102, Tryd.ntmps102
  go_wp2_with fail
  refine (read_any A n c xs _ HR.out hn).mono ?_
  rintro e w1 ⟨g, rfl, hg, hrd, hb1⟩
  simp at hg
  have hglt := hrd.lt
  have hby := Lib.hid hrd.byte
  have HR1 := Lib.hid (hrd.below (below_alloc (Below.refl _ _) (.cells (rdV g) 157)))
  have HD1 : Hid (DecS w w1.heap.size w.heap.size g (.cells (pfxV 0 zero16 0) 49) (w1.alloc (.cells (rdV g) 157))) :=
    ⟨below_alloc (below_step HBZ.out hb1) _, blk_new _ _, blk_below (blk_below HZ.out hb1) (below_alloc (Below.refl _ _) _)⟩
  clear hrd hb1 HR HZ HBZ
  go_wp2_with fail
  refine (version_any g xs 151 _ (HL.out.below HD1.out.below) (by omega) HR1.out (by decide)).mono ?_
  rintro e w2 ⟨rfl, hr2, hg2⟩
  have HD2 := Lib.hid (HD1.out.grow hg2 (by omega) (by omega) (by omega))
  have HR2 := Lib.hid hr2
  clear hr2 hg2 HD1 HR1
  by_cases hve : verE xs 151 = 0
  · have hvv : verV xs 151 = rd xs 0 := by unfold verV; rw [if_pos hve]
    have hpos : xs.length ≠ 0 := fun h => by unfold verE at hve; rw [if_pos h] at hve; cases hve
    have HVE := Lib.hid hve
    have hr2 := HR2.out
    rw [if_neg hpos] at hr2
    rw [hve, hvv]
    have hcx : w2.cell? ⟨w1.heap.size, 0, none⟩ = some (.pointer (some ⟨g, 0, none⟩)) := by rw [blk_cell HD2.out.box]; rfl
    clear hve hvv HR2
    by_cases h2 : xs.length < 2
    · have HE := Lib.hid (decP_short HVE.out h2)
      have HN0 := Lib.hid (decP_no (by rw [HE.out]; decide))
      rw [List.drop_of_length_le (by omega)] at hr2
      have HR3 := Lib.hid hr2
      clear hr2 h2 hpos
      go_wp2_with fail
      refine (u8_none g w2 HR3.out).mono ?_
      rintro e w3 ⟨rfl, hr3, hg3⟩
      have HD3 := Lib.hid (HD2.out.grow hg3 (by omega) (by omega) (by omega))
      have HR4 := Lib.hid hr3
      have hcy : w3.cell? ⟨w1.heap.size, 0, none⟩ = some (.pointer (some ⟨g, 0, none⟩)) := by rw [blk_cell HD3.out.box]; rfl
      have hbn := run_build_pfx_nil
      clear hr3 hg3 hcx
      go_wp2_with fail
      refine (err_any g _ _ w3 HR4.out).mono ?_
      rintro e w4 ⟨rfl, rfl⟩
      go_wp2_with (refine wpList_store_blk HD3.out.zero 49 0 (pfxV 0 zero16 0) (store_pfx_fit rfl rfl) (info_pfx rfl) (pfx_one _ _ _) _ _ rfl rfl rfl rfl ?_; intro w9 hg9 hs9 hb9; rw [splice_pfx _ 0 0 zero16 rfl rfl] at hb9; have H9 := Lib.hid (And.intro hg9 hb9); clear hg9 hs9 hb9)
      have hld := load_pfx zero16_B H9.out.2
      refine bodyPost_ret (results_c3 rfl rfl hld) rfl ?_
      rw [HN0.out.1, HN0.out.2, HE.out]
      exact ⟨rfl, below_grown HD3.out.below H9.out.1 (by omega)⟩
    · have h2' : 2 ≤ xs.length := by omega
      rw [drop_rd xs 1 (by omega)] at hr2
      have hbr : 0 ≤ rd xs 1 ∧ rd xs 1 < 256 := hby.out.getD 1
      obtain ⟨b, hb⟩ := Int.eq_ofNat_of_zero_le hbr.1
      have hr2' : Rdr w2 (w.alloc (.cells (pfxV 0 zero16 0) 49)).heap.size g ((b : Int) :: xs.drop 2) 0 := by rw [← hb]; exact hr2
      rw [hb] at hbr
      have HBQ := Lib.hid hb
      have HR3 := Lib.hid hr2'
      clear hr2 hr2' h2 hpos hb
      go_wp2_with fail
      refine (u8_some g (b : Int) (xs.drop 2) w2 HR3.out).mono ?_
      rintro e w3 ⟨rfl, hr3, hg3⟩
      have HD3 := Lib.hid (HD2.out.grow hg3 (by omega) (by omega) (by omega))
      have HR4 := Lib.hid hr3
      have hcy : w3.cell? ⟨w1.heap.size, 0, none⟩ = some (.pointer (some ⟨g, 0, none⟩)) := by rw [blk_cell HD3.out.box]; rfl
      clear hr3 hg3 hcx
      go_wp2_with fail
      refine (err_any g _ _ w3 HR4.out).mono ?_
      rintro e w4 ⟨rfl, rfl⟩
      clear hcy
      go_wp2_with fail
      refine (width_any (rd xs 0) w3 (HL.out.below HD3.out.below)).mono ?_
      rintro e w4 ⟨rfl, rfl⟩
      have hwl := widthA_le (rd xs 0)
      by_cases hw : (widthA (rd xs 0) : Int) < b
      · have HE := Lib.hid (decP_wide HVE.out h2' (by rw [HBQ.out]; exact hw))
        have HN0 := Lib.hid (decP_no (by rw [HE.out]; decide))
        have hbn := run_build_pfx_nil
        go_wp2_with (refine wpList_store_blk HD3.out.zero 49 0 (pfxV 0 zero16 0) (store_pfx_fit rfl rfl) (info_pfx rfl) (pfx_one _ _ _) _ _ rfl rfl rfl rfl ?_; intro w9 hg9 hs9 hb9; rw [splice_pfx _ 0 0 zero16 rfl rfl] at hb9; have H9 := Lib.hid (And.intro hg9 hb9); clear hg9 hs9 hb9)
        have hld := load_pfx zero16_B H9.out.2
        refine bodyPost_ret (results_c3 rfl rfl hld) rfl ?_
        rw [HN0.out.1, HN0.out.2, HE.out]
        exact ⟨rfl, below_grown HD3.out.below H9.out.1 (by omega)⟩
      · have hw' : b ≤ widthA (rd xs 0) := by omega
        have hd1 : decide ((widthA (rd xs 0) : Int) < b) = false := decide_eq_false hw
        have HPE := Lib.hid (decP_some HVE.out h2' HBQ.out hw')
        have hb128 : b ≤ 128 := by omega
        have hsomeB : B16 (someL (xs.drop 2) b 151) := someL_16 (hby.out.drop 2) hb128
        obtain ⟨sl, hsl⟩ : ∃ sl, someL (xs.drop 2) b 151 = sl := ⟨_, rfl⟩
        obtain ⟨se, hse⟩ : ∃ se, someE (xs.drop 2) b 151 = se := ⟨_, rfl⟩
        rw [hsl] at hsomeB
        have HSL := Lib.hid (And.intro hsl hse)
        have hlr := load_rd HD3.out.box
        clear hsl hse hw
        go_wp2_with ((with_reducible show wpList _ _ _ (Oper.mk _ (Op.load _ _) _ _ _ _ :: _) _ _); refine wpList_load_g hlr _ rfl rfl (by go_simp) ?_)
        clear hlr hd1
        refine (some_any g (xs.drop 2) b 151 w3 HR4.out (by decide) hb128).mono ?_
        rw [HSL.out.1, HSL.out.2]
        rintro e w4 ⟨rfl, hrest, hg4⟩
        have HD4 := Lib.hid (HD3.out.grow hg4 (by omega) (by omega) (by omega))
        have HREST := Lib.hid hrest
        have hnew := blk_new w4 (.cells (arrV zero16) 45)
        have HN : Hid (DecR w w1.heap.size w.heap.size g w4.heap.size (w.alloc (.cells (pfxV 0 zero16 0) 49)).heap.size (.cells (pfxV 0 zero16 0) 49) zero16 (xs.drop 2) b 151 (w4.alloc (.cells (arrV zero16) 45))) :=
          ⟨HD4.out.step (below_alloc (Below.refl _ _) _), hnew, HREST.out.below (below_alloc (Below.refl _ _) _)⟩
        have hl4 := blk_lt HD4.out.box
        have hz4 := blk_lt HD4.out.zero
        clear hrest hg4 hnew
        by_cases hse : se = 0
        · have hpe : decPE xs = 0 := HPE.out.trans (HSL.out.2.trans hse)
          have HE := Lib.hid (And.intro hpe (decP_ok hpe HPE.out h2' HBQ.out))
          subst hse
          go_wp2_with (refine wpList_store_blk HN.out.arr 45 0 (arrV sl) (by rw [arr_size hsomeB.len, arr_size rfl]; exact Nat.le_refl _) (info_arr hsomeB.len) (arr_one _) _ _ rfl rfl rfl rfl ?_; intro w5 hg5 hs5 hb5; rw [splice_arr0 _ sl hsomeB.len rfl] at hb5; have H5 : Hid (DecR w w1.heap.size w.heap.size g w4.heap.size (w.alloc (.cells (pfxV 0 zero16 0) 49)).heap.size (.cells (pfxV 0 zero16 0) 49) sl (xs.drop 2) b 151 w5) := ⟨HN.out.s.grow hg5 (by omega) (by omega) (by omega), hb5, HN.out.rest.grown hg5 (by omega)⟩; clear hg5 hs5 hb5)
          obtain ⟨rest, er, hrr, hrw⟩ := H5.out.rest
          obtain ⟨rfl, rfl⟩ := hrw HSL.out.2
          have HRR := Lib.hid hrr
          have hwv := HE.out.2.2.2
          clear hrr hrw hpe
          obtain ⟨lf, hlf⟩ : ∃ lf, ((xs.drop 2).drop (fullB b)).length = lf := ⟨_, rfl⟩
          obtain ⟨wq, hwq⟩ : ∃ wq, fullB b = wq := ⟨_, rfl⟩
          rw [hlf, hwq, HLEN.out] at hwv
          have hsub : IntKind.i64.wrap ((n : Int) - (lf : Int)) = 2 + wq := by rw [IntWalk.i64_in _ (by omega)]; omega
          have HWQ := Lib.hid (And.intro hlf hwq)
          clear hwv hlf hwq
          refine wp_region_mix ((DecT w w1.heap.size g w4.heap.size sl)) [(0, 0), (1, 0), (2, 0), (3, 0), (4, 0), (5, 0), (6, 0), (7, 0), (8, 0), (9, 2), (10, 0), (11, 2), (12, 0), (13, 0)] (by kernel_rfl) (by kernel_rfl) ((H5.out.drew.t)) ?_
          simp only [List.map_cons, List.map_nil]
          iterate 1 (refine wpO_step0 rfl rfl (fun K hK => ?_); go_simp; refine hK _ _ ?_; clear hK K)
          refine wpO_loadW (t := 45) (ad := ⟨w4.heap.size, 0, none⟩) rfl rfl ?hw rfl rfl ((fun w0 hS => load_arr0 hsomeB hS.arr)) ?_
          case hw => go_simp
          refine wpO_step0 rfl rfl (fun K hK => ?_)
          rw [if_pos (show Region.wanted _ _ = true from rfl)]
          refine ⟨_, fun w0 => exec_build_adr rfl rfl rfl hsomeB.len w0, hK _ _ ?_⟩
          clear hK K
          iterate 1 (refine wpO_step0 rfl rfl (fun K hK => ?_); go_simp; refine hK _ _ ?_; clear hK K)
          refine wpO_step0 rfl rfl (fun K hK => ?_)
          rw [if_pos (show Region.wanted _ _ = true from rfl)]
          refine ⟨_, fun w0 => exec_build_pfx rfl rfl rfl hsomeB.len w0, hK _ _ ?_⟩
          clear hK K
          iterate 3 (refine wpO_step0 rfl rfl (fun K hK => ?_); go_simp; refine hK _ _ ?_; clear hK K)
          refine wpO_loadW (t := 108) (ad := ⟨w1.heap.size, 0, none⟩) rfl rfl ?hw rfl rfl ((fun w0 hS => load_rp hS.box)) ?_
          case hw => go_simp
          refine wpO_step2 rfl rfl (H5.out.drew.t) (fun K hK => ?_)
          go_simp
          refine (left_any g _ _ _ (HRR.out.below (below_drew1 _))).mono ?_
          rintro e w6 ⟨rfl, rfl⟩
          rw [HWQ.out.1]
          refine hK _ _ ⟨H5.out.drew.t, ?_⟩
          clear hK K
          iterate 1 (refine wpO_step0 rfl rfl (fun K hK => ?_); go_simp; refine hK _ _ ?_; clear hK K)
          refine wpO_step2 rfl rfl (H5.out.drew.t) (fun K hK => ?_)
          rw [if_pos (show Region.wanted _ _ = true from rfl)]
          refine oper_store_blk H5.out.drew.s.zero 49 0 (pfxV (rd xs 0) sl b) (store_pfx_fit hsomeB.len rfl) (info_pfx hsomeB.len) (pfx_one _ _ _) _ _ rfl rfl rfl ?_
          intro w6 hg6 hs6 hb6
          rw [splice_pfx _ _ _ sl hsomeB.len rfl] at hb6
          have H6 := Lib.hid (And.intro (H5.out.drew.t.grow hg6 (by omega) (by omega) (by omega)) hb6)
          clear hg6 hs6 hb6
          refine hK _ _ ⟨H6.out.1, ?_⟩
          clear hK K
          iterate 2 (refine wpO_step0 rfl rfl (fun K hK => ?_); go_simp; refine hK _ _ ?_; clear hK K)
          refine wpO_nil ?_
          go_wp2
          have hld := load_pfx hsomeB H6.out.2
          refine bodyPost_ret (results_c3 rfl rfl hld) rfl ?_
          rw [HE.out.1, HE.out.2.1, HE.out.2.2.1, HSL.out.1, HWQ.out.2]
          exact ⟨rfl, H6.out.1.below⟩
        · have HE := Lib.hid (HPE.out.trans HSL.out.2)
          have HN0 := Lib.hid (decP_no (by rw [HE.out]; exact hse))
          have hsb : (se != 0) = true := by simpa using hse
          have hbn := run_build_pfx_nil
          clear hse
          go_wp2_with (first | (refine wpList_store_blk HN.out.arr 45 0 (arrV sl) (by rw [arr_size hsomeB.len, arr_size rfl]; exact Nat.le_refl _) (info_arr hsomeB.len) (arr_one _) _ _ rfl rfl rfl rfl ?_; intro w5 hg5 hs5 hb5; have H5 := Lib.hid (HN.out.s.grow hg5 (by omega) (by omega) (by omega)); clear hg5 hs5 hb5) | (refine wpList_store_blk H5.out.zero 49 0 (pfxV 0 zero16 0) (store_pfx_fit rfl rfl) (info_pfx rfl) (pfx_one _ _ _) _ _ rfl rfl rfl rfl ?_; intro w9 hg9 hs9 hb9; rw [splice_pfx _ 0 0 zero16 rfl rfl] at hb9; have H9 := Lib.hid (And.intro hg9 hb9); clear hg9 hs9 hb9))
          have hld := load_pfx zero16_B H9.out.2
          refine bodyPost_ret (results_c3 rfl rfl hld) rfl ?_
          rw [HN0.out.1, HN0.out.2, HE.out]
          exact ⟨rfl, below_grown H5.out.below H9.out.1 (by omega)⟩
  · have HE := Lib.hid (decP_ver hve)
    have HN0 := Lib.hid (decP_no (by rw [HE.out]; exact hve))
    obtain ⟨ve, hv⟩ : ∃ ve, verE xs 151 = ve := ⟨_, rfl⟩
    rw [hv] at hve HE
    rw [hv]
    have hsb : (ve != 0) = true := by simpa using hve
    have hbn := run_build_pfx_nil
    clear hve hv
    go_wp2_with (refine wpList_store_blk HD2.out.zero 49 0 (pfxV 0 zero16 0) (store_pfx_fit rfl rfl) (info_pfx rfl) (pfx_one _ _ _) _ _ rfl rfl rfl rfl ?_; intro w9 hg9 hs9 hb9; rw [splice_pfx _ 0 0 zero16 rfl rfl] at hb9; have H9 := Lib.hid (And.intro hg9 hb9); clear hg9 hs9 hb9)
    have hld := load_pfx zero16_B H9.out.2
    refine bodyPost_ret (results_c3 rfl rfl hld) rfl ?_
    rw [HN0.out.1, HN0.out.2, HE.out]
    exact ⟨rfl, below_grown HD2.out.below H9.out.1 (by omega)⟩
end Go.Proofs.YtnpeedmicjeleaaDoor

/- Layer 5: wakes. -/
namespace Go.Proofs.YtnpeedmicjeleaaDoor
open Go.RowKit
set_option linter.unusedVariables false
set_option linter.unusedSimpArgs false
set_option maxRecDepth 4000

def ten8 : List Int := [10, 0, 0, 0, 0, 0, 0, 0, 0, 0, 0, 0, 0, 0, 0, 0]
theorem ten8_B : B16 ten8 := ⟨rfl, fun x hx => by simp [ten8] at hx; omega⟩
/-- A whole prefix stored into a cell just made. -/
structure WakS (w : World) (g h : Nat) (w0 : World) : Prop where
  below : Below w.heap.size w w0
  p : w0.heap[g]? = some (.cells (pfxV 4 ten8 8) 49 (0, 0))
  q : w0.heap[h]? = some (.cells (pfxV 4 ten8 8) 49 (0, 0))
theorem WakS.step {w w0 w1 : World} {g h : Nat} (s : WakS w g h w0) (hb : Below w0.heap.size w0 w1) : WakS w g h w1 := ⟨below_step s.below hb, blk_below s.p hb, blk_below s.q hb⟩
end Go.Proofs.YtnpeedmicjeleaaDoor

/- Layer 9 (table): wakes, copied. -/
namespace Go.Proofs.YtnpeedmicjeleaaDoor
open Go.RowKit
set_option linter.unusedVariables false
set_option linter.unusedSimpArgs false
set_option maxRecDepth 4000
end Go.Proofs.YtnpeedmicjeleaaDoor

/- Plain laws of tables (layer 9), fourth part: as bytes, and back. -/
namespace Go.Proofs.YtnpeedmicjeleaaDoor
set_option linter.unusedVariables false
set_option linter.unusedSimpArgs false
set_option maxRecDepth 4000

end Go.Proofs.YtnpeedmicjeleaaDoor

/- Layer 9 (table): Encode, and the document's bytes. -/
namespace Go.Proofs.YtnpeedmicjeleaaDoor
open Go.RowKit
set_option linter.unusedVariables false
set_option linter.unusedSimpArgs false
set_option maxRecDepth 4000
theorem blk_own2 {w w1 : World} {g : Nat} {o : Obj} {A : Option Addr} {n c : Nat} (h : w.heap[g]? = some o) (hg : w.grownBy w1 ((Value.slice A n c).ownBlock)) (ha : ∀ ad, A = some ad → ad.block ≠ g) : w1.heap[g]? = some o :=
  blk_grown h hg (fun e => by
    obtain ⟨ad, e1, e2⟩ := own_of e.symm
    exact ha ad e1 e2)
end Go.Proofs.YtnpeedmicjeleaaDoor

/- Layer 9 (table): Decode. -/
namespace Go.Proofs.YtnpeedmicjeleaaDoor
open Go.RowKit
set_option linter.unusedVariables false
set_option linter.unusedSimpArgs false
set_option maxRecDepth 4000
theorem u8_rd {lo : Nat} (g : Nat) (xs : List Int) (w : World) (hr : Rdr w lo g xs 0) :
    Calls Tryd.prog 100 #[.pointer (some ⟨g, 0, none⟩)] w fun e w' => e = .returned (.int .u8 (rd xs 0)) ∧ Rdr w' lo g (xs.drop 1) (if xs.length = 0 then 7 else 0) ∧ w.grownBy w' (some g) := by
  cases xs with
  | nil => exact u8_none g w hr
  | cons x r => exact u8_some g x r w hr
/-- What Decode bears: its result's cell, its table's block, what it made. -/
structure TD (w wr : World) (gt : Nat) (A : Option Addr) (n c : Nat) (t : List Row) : Prop where
  zero : wr.heap[w.heap.size]? = some (.cells (tabV none 0 0) 39 (0, 0))
  tab : wr.heap[gt]? = some (.cells (tabV A n c) 39 (0, 0))
  own : OT wr (gt + 1) A n c t
  below : Below w.heap.size w wr
theorem TD.step {w wr w2 : World} {gt : Nat} {A : Option Addr} {n c : Nat} {t : List Row} (h : TD w wr gt A n c t) (hb : Below wr.heap.size wr w2) : TD w w2 gt A n c t :=
  ⟨blk_below h.zero hb, blk_below h.tab hb, h.own.below hb, below_step h.below hb⟩
theorem TD.grow {w wr w2 : World} {g gt : Nat} {A : Option Addr} {n c : Nat} {t : List Row} (h : TD w wr gt A n c t) (hg : wr.grownBy w2 (some g)) (h1 : w.heap.size < g) (h2 : g < gt) : TD w w2 gt A n c t :=
  ⟨blk_grown h.zero hg (fun e => by injection e with e; omega), blk_grown h.tab hg (fun e => by injection e with e; omega), h.own.grown hg (fun ad e hh => by have := h.own.base_ ad e; injection hh with hh; omega), below_grown h.below hg (by omega)⟩
theorem TD.push {w W w9 w10 : World} {gt : Nat} {A : Option Addr} {n c : Nat} {t : List Row} {A' : Option Addr} {n' c' : Nat} {t' : List Row} (h : TD w W gt A n c t) (h2 : W.grownBy w9 ((Value.slice A n c).ownBlock)) (h3 : w9.grownBy w10 (some gt)) (ho : OT w9 (gt + 1) A' n' c' t') (ht : w10.heap[gt]? = some (.cells (tabV A' n' c') 39 (0, 0))) (hz : w.heap.size < gt) : TD w w10 gt A' n' c' t' :=
  ⟨blk_grown (blk_own2 h.zero h2 (fun ad e => by have := h.own.base_ ad e; omega)) h3 (fun e => by injection e with e; omega), ht, ho.grown h3 (fun ad e hh => by have := ho.base_ ad e; injection hh with hh; omega), below_grown (below_own h.below h2 (fun ad e => by have := h.own.base_ ad e; omega)) h3 (by omega)⟩
theorem rd_drop2 (xs : List Int) (q : Nat) : rd (xs.drop q) 0 = rd xs (q : Int) := by
  unfold rd
  simp [List.getD_eq_getElem?_getD]
theorem decP_16 {xs : List Int} (hx : Bytes xs) : B16 (decP xs).l := by
  by_cases h : decPE xs = 0
  · exact (enc_dec hx h).2.1
  · rw [(decP_no h).1]; exact zero16_B
theorem dec_nat {xs : List Int} (hx : Bytes xs) (h : decPE xs = 0) : ∃ n : Nat, decPN xs = n ∧ n ≤ xs.length := by
  obtain ⟨-, -, n, h1, h2, -⟩ := enc_dec hx h
  exact ⟨n, h1, h2⟩
end Go.Proofs.YtnpeedmicjeleaaDoor

/- Plain laws of layer 11 (route): the best of each prefix. -/
namespace Go.Proofs.YtnpeedmicjeleaaDoor
set_option linter.unusedVariables false
set_option linter.unusedSimpArgs false
set_option maxRecDepth 4000
set_option maxRecDepth 4000
theorem betB_iff (a b : Rte) : betB a b = true ↔ b.f < a.f ∨ (a.f = b.f ∧ a.s < b.s) := by
  unfold betB orI orI orI cmpN
  rw [decide_eq_true_eq]
  rcases Int.lt_trichotomy a.f b.f with h | h | h
  · rw [if_pos h]; simp; omega
  · rw [if_neg (show ¬ a.f < b.f by omega), if_neg (show ¬ b.f < a.f by omega)]
    rcases Int.lt_trichotomy b.s a.s with k | k | k
    · rw [if_pos k]; simp; omega
    · rw [if_neg (show ¬ b.s < a.s by omega), if_neg (show ¬ a.s < b.s by omega)]; simp; omega
    · rw [if_neg (show ¬ b.s < a.s by omega), if_pos k]; simp; omega
  · rw [if_neg (show ¬ a.f < b.f by omega), if_pos h]; simp; omega
def unb (l : List Rte) (x : Rte) : Bool := !l.any (fun y => beats y x)
theorem unb_iff {l : List Rte} {x : Rte} : unb l x = true ↔ ∀ y ∈ l, y.p = x.p → betB y x = false := by
  unfold unb
  rw [Bool.not_eq_true', List.any_eq_false]
  constructor
  · intro h y hy he
    have := h y hy
    unfold beats at this
    rw [(Pfx.eqB_iff _ _).2 he, Bool.true_and] at this
    simpa using this
  · intro h y hy hb
    unfold beats at hb
    rw [Bool.and_eq_true, Pfx.eqB_iff] at hb
    rw [h y hy hb.1] at hb
    cases hb.2
def Rte.row (x : Rte) : Row := ⟨x.p, x.h⟩
/-- The table of the best, of the first k. -/
def bk (l : List Rte) (k : Nat) : List Row := ((l.take k).filter (unb l)).map Rte.row
def bestT (l : List Rte) : List Row := (l.filter (unb l)).map Rte.row
theorem bk_all (l : List Rte) : bk l l.length = bestT l := by unfold bk bestT; rw [List.take_length]
theorem bk_succ (l : List Rte) {k : Nat} (hk : k < l.length) : bk l (k + 1) = bk l k ++ if unb l (rteAt l k) then [(rteAt l k).row] else [] := by
  unfold bk
  have e : l.take (k + 1) = l.take k ++ [rteAt l k] := take_getD rteZ hk
  rw [e, List.filter_append, List.map_append]
  generalize rteAt l k = a
  congr 1
  cases h : unb l a <;> simp [h]
theorem best_lt0 {l : List Rte} (ho : ∀ r ∈ l, r.fits) {a b : Rte} (ha : a ∈ l) (hb : b ∈ l) (h : cR a b < 0) (hi : unb l a = true) (hu : unb l b = true) : a.p.cmp b.p < 0 := by
  have fi := ho _ ha
  have fj := ho _ hb
  have hle := cmp_of_cR fi fj h
  by_cases h0 : a.p.cmp b.p = 0
  · exfalso
    have hp := (a.p.cmp_zero _ fi fj).1 h0
    rw [cR_eq _ _ fi fj, if_neg (by omega)] at h
    have hs : a.s < b.s := by
      unfold cmpN at h
      split at h
      · assumption
      · split at h <;> omega
    have h1 := unb_iff.1 hi _ hb hp.symm
    have h2 := unb_iff.1 hu _ ha hp
    rw [Bool.eq_false_iff, ne_eq, betB_iff] at h1 h2
    omega
  · omega
theorem best_lt {l : List Rte} (ho : ∀ r ∈ l, r.fits) (hr : risK Rte.key l = true) {i j : Nat} (hij : i < j) (hj : j < l.length) (hi : unb l (rteAt l i) = true) (hu : unb l (rteAt l j) = true) : (rteAt l i).p.cmp (rteAt l j).p < 0 :=
  best_lt0 ho (getD_mem (by omega)) (getD_mem hj) (risK_lt hr hij hj) hi hu
theorem rising_pw : ∀ {t : List Row}, t.Pairwise (fun a b => a.p.cmp b.p < 0) → rising t = true
  | [], _ => rfl
  | a :: t, h => by
    rw [List.pairwise_cons] at h
    exact rising_of_head h.1 (rising_pw h.2)
theorem getElem_rteAt {l : List Rte} {i : Nat} (h : i < l.length) : l[i] = rteAt l i := by
  have := getD_get (z := rteZ) h
  rw [List.getElem?_eq_getElem h] at this
  exact Option.some.inj this
theorem best_pw {l : List Rte} (ho : ∀ r ∈ l, r.fits) (hr : risK Rte.key l = true) (k : Nat) : (bk l k).Pairwise (fun a b => a.p.cmp b.p < 0) := by
  unfold bk
  rw [List.pairwise_map]
  have h0 : l.Pairwise (fun a b => unb l a = true → unb l b = true → a.p.cmp b.p < 0) := by
    rw [List.pairwise_iff_getElem]
    intro i j hi hj hij
    rw [getElem_rteAt hi, getElem_rteAt hj]
    exact fun a b => best_lt ho hr hij hj a b
  have h1 := (h0.sublist (List.take_sublist k l)).filter (unb l)
  refine h1.imp_of_mem fun {a b} ha hb h => ?_
  exact h (List.mem_filter.1 ha).2 (List.mem_filter.1 hb).2
theorem bk_lt {l : List Rte} (ho : ∀ r ∈ l, r.fits) (hr : risK Rte.key l = true) {k : Nat} (hk : k < l.length) (hu : unb l (rteAt l k) = true) : ∀ r ∈ bk l k, r.p.cmp (rteAt l k).p < 0 := by
  intro r hm
  have h := best_pw ho hr (k + 1)
  rw [bk_succ l hk, if_pos hu, List.pairwise_append] at h
  exact h.2.2 r hm (rteAt l k).row (List.mem_singleton.2 rfl)
theorem setT_snoc {p : Pfx} {h : Int} : ∀ {t : List Row}, (∀ r ∈ t, r.p.cmp p < 0) → setT t p h = t ++ [⟨p, h⟩] ∧ thereB t p = false
  | [], _ => ⟨rfl, rfl⟩
  | a :: t, hh => by
    have ih := setT_snoc (h := h) (t := t) (fun r hr => hh r (by simp [hr]))
    rw [setT_cons, if_pos (hh a (by simp)), ih.1, thereB_cons, if_pos (hh a (by simp))]
    exact ⟨rfl, ih.2⟩
theorem new_of (l : List Rte) : ∀ i, i < l.length → ∃ j, j < l.length ∧ newP l j = true ∧ (rteAt l j).p = (rteAt l i).p
  | 0, h => ⟨0, h, by simp [newP], rfl⟩
  | i + 1, h => by
    cases hn : newP l (i + 1) with
    | true => exact ⟨i + 1, h, hn, rfl⟩
    | false =>
      obtain ⟨j, h1, h2, h3⟩ := new_of l i (by omega)
      refine ⟨j, h1, h2, h3.trans ?_⟩
      unfold newP at hn
      rw [Bool.or_eq_false_iff] at hn
      have := hn.2
      rw [show i + 1 - 1 = i from rfl, Bool.not_eq_false'] at this
      exact (Pfx.eqB_iff _ _).1 this
theorem len_sub {α : Type} : ∀ {s t : List α}, s.Nodup → (∀ a ∈ s, a ∈ t) → s.length ≤ t.length
  | [], t, _, _ => by simp
  | a :: s, t, hn, hs => by
    rw [List.nodup_cons] at hn
    obtain ⟨u, v, rfl⟩ := List.append_of_mem (hs a (by simp))
    have := len_sub (s := s) (t := u ++ v) hn.2 (fun b hb => by
      have h1 := hs b (by simp [hb])
      rw [List.mem_append, List.mem_cons] at h1
      rw [List.mem_append]
      rcases h1 with h1 | h1 | h1
      · exact .inl h1
      · exact absurd (h1 ▸ hb) hn.1
      · exact .inr h1)
    simp at this ⊢
    omega
theorem best_len {l : List Rte} (ho : ∀ r ∈ l, r.fits) (hr : risK Rte.key l = true) : (bestT l).length ≤ pfxsN l := by
  have h1 : ((bestT l).map (·.p)).Nodup := by
    rw [← bk_all, List.Nodup, List.pairwise_map]
    refine (best_pw ho hr l.length).imp fun {a b} h e => ?_
    rw [e] at h
    exact cmp_irrefl _ h
  have h2 := len_sub (t := ((List.range l.length).filter (newP l)).map fun j => (rteAt l j).p) h1 (fun p hp => by
    obtain ⟨r, hr2, rfl⟩ := List.mem_map.1 hp
    unfold bestT at hr2
    obtain ⟨x, hx, rfl⟩ := List.mem_map.1 hr2
    obtain ⟨i, hi, he⟩ := mem_getD (z := rteZ) (List.mem_filter.1 hx).1
    obtain ⟨j, h3, h4, h5⟩ := new_of l i hi
    rw [List.mem_map]
    refine ⟨j, List.mem_filter.2 ⟨List.mem_range.2 h3, h4⟩, ?_⟩
    rw [h5, show rteAt l i = x from he]
    rfl)
  rw [List.length_map, List.length_map] at h2
  exact h2
theorem bk_len (l : List Rte) (k : Nat) : (bk l k).length ≤ (bestT l).length := by
  unfold bk bestT
  rw [List.length_map, List.length_map]
  exact ((List.take_sublist k l).filter _).length_le
theorem fit_row {x : Rte} (h : x.fit = true) : x.row.okB = true := by
  unfold Rte.fit fitB at h
  simp only [Bool.and_eq_true, decide_eq_true_eq] at h
  rw [okB_iff]
  exact ⟨h.1.1.1.1.1.1, h.1.2, h.2⟩
theorem bk_mem {l : List Rte} {k : Nat} {r : Row} (h : r ∈ bk l k) : ∃ x ∈ l, x.row = r := by
  unfold bk at h
  obtain ⟨x, hx, rfl⟩ := List.mem_map.1 h
  exact ⟨x, List.mem_of_mem_take (List.mem_filter.1 hx).1, rfl⟩
theorem rib_fit {l : List Rte} (h : ribB l = true) {x : Rte} (hx : x ∈ l) : x.fit = true := by
  unfold ribB ribsB at h
  simp only [Bool.and_eq_true, List.all_eq_true] at h
  exact h.1.1.2 x hx
theorem rib_to {l : List Rte} (h : ribB l = true) : l.length ≤ 160 ∧ risK Rte.key l = true ∧ pfxsN l ≤ 40 := by
  unfold ribB ribsB at h
  simp only [Bool.and_eq_true, decide_eq_true_eq] at h
  exact ⟨h.1.1.1, h.1.2, h.2⟩
theorem tabB_bk {l : List Rte} (ho : ∀ r ∈ l, r.fits) (h : ribB l = true) (k : Nat) : tabB (bk l k) = true := by
  obtain ⟨_, h2, h3⟩ := rib_to h
  refine tabB_of (Nat.le_trans (bk_len l k) (Nat.le_trans (best_len ho h2) h3)) (fun r hr => ?_) (rising_pw (best_pw ho h2 k))
  obtain ⟨x, hx, rfl⟩ := bk_mem hr
  exact fit_row (rib_fit h hx)
/-- One candidate that is not beaten goes behind. -/
theorem set_bk {l : List Rte} (ho : ∀ r ∈ l, r.fits) (h : ribB l = true) {k : Nat} (hk : k < l.length) (hu : unb l (rteAt l k) = true) : setE (bk l k) (rteAt l k).p (rteAt l k).h = 0 ∧ setL (bk l k) (rteAt l k).p (rteAt l k).h = bk l (k + 1) := by
  obtain ⟨_, h2, h3⟩ := rib_to h
  have hs := setT_snoc (h := (rteAt l k).h) (bk_lt ho h2 hk hu)
  have hx : (rteAt l k).p.right = true ∧ 1 ≤ (rteAt l k).h ∧ (rteAt l k).h ≤ 255 := (okB_iff _).1 (fit_row (rib_fit h (getD_mem (z := rteZ) hk)))
  have hlen : (bk l k).length ≤ 39 := by
    have h4 := Nat.le_trans (bk_len l (k + 1)) (Nat.le_trans (best_len ho h2) h3)
    rw [bk_succ l hk, if_pos hu, List.length_append] at h4
    simp at h4
    omega
  have he : setE (bk l k) (rteAt l k).p (rteAt l k).h = 0 := by
    unfold setE
    rw [if_pos (tabB_bk ho h k), if_pos hx, if_neg (by omega)]
  refine ⟨he, ?_⟩
  unfold setL
  rw [if_pos he, hs.1, bk_succ l hk, if_pos hu]
  rfl
def bestR (l : List Rte) : List Row := if ribB l then bestT l else []
end Go.Proofs.YtnpeedmicjeleaaDoor

/- Plain laws of layer 11 (route): candidates and batches out of bytes. -/
namespace Go.Proofs.YtnpeedmicjeleaaDoor
set_option linter.unusedVariables false
set_option linter.unusedSimpArgs false
set_option maxRecDepth 4000
set_option maxRecDepth 4000
/-- Items one behind the other: `it` tells a begin's error, its item and its length. -/
def decI {α : Type} (it : List Int → Int × α × Nat) : Nat → List α → List Int → Int × List α × List Int
  | 0, acc, xs => (0, acc, xs)
  | k + 1, acc, xs => if (it xs).1 ≠ 0 then ((it xs).1, [], []) else decI it k (acc ++ [(it xs).2.1]) (xs.drop (it xs).2.2)
def decIR {α : Type} (it : List Int → Int × α × Nat) (xs : List Int) : Int × List α × List Int := decI it (rd xs 0).toNat [] (xs.drop 1)
def decIE {α : Type} (it : List Int → Int × α × Nat) (bad : Int) (ok : List α → Bool) (xs : List Int) : Int := if xs.length = 0 then 7 else if (decIR it xs).1 ≠ 0 then (decIR it xs).1 else if (decIR it xs).2.2.length = 0 ∧ ok (decIR it xs).2.1 = true then 0 else bad
def decIL {α : Type} (it : List Int → Int × α × Nat) (bad : Int) (ok : List α → Bool) (xs : List Int) : List α := if decIE it bad ok xs = 0 then (decIR it xs).2.1 else []
def itR (ys : List Int) : Int × Rte × Nat :=
  if decPE ys = 7 then (7, rteZ, 0) else if decPE ys ≠ 0 then (211, rteZ, 0) else if ys.length < (decPN ys).toNat + 3 then (7, rteZ, 0)
  else (0, ⟨decP ys, rd ys (decPN ys), rd ys (decPN ys + 1), rd ys (decPN ys + 2)⟩, (decPN ys).toNat + 3)
def itU (ys : List Int) : Int × Upd × Nat :=
  if decPE ys = 7 then (7, updZ, 0) else if decPE ys ≠ 0 then (210, updZ, 0) else if (decPN ys).toNat + 2 ≤ ys.length ∧ 1 < rd ys (decPN ys + 1) then (210, updZ, 0) else if ys.length < (decPN ys).toNat + 4 then (7, updZ, 0)
  else (0, ⟨decP ys, rd ys (decPN ys), (rd ys (decPN ys + 1) == 1), rd ys (decPN ys + 2), rd ys (decPN ys + 3)⟩, (decPN ys).toNat + 4)
section
variable {α : Type} {it : List Int → Int × α × Nat} {bad : Int} {ok : List α → Bool}
theorem decI_err {k : Nat} {acc : List α} {ys : List Int} {e : Int} (hk : 0 < k) (h : (it ys).1 = e) (he : e ≠ 0) : (decI it k acc ys).1 = e := by
  cases k with
  | zero => omega
  | succ k => rw [decI, if_pos (by rw [h]; exact he), h]
theorem decI_step {K k : Nat} {acc : List α} {ys : List Int} {x : α} {q : Nat} (hk : k < K) (h : it ys = (0, x, q)) : decI it (K - k) acc ys = decI it (K - (k + 1)) (acc ++ [x]) (ys.drop q) := by
  rw [show K - k = (K - (k + 1)) + 1 by omega, decI, if_neg (by rw [h]; simp), h]
theorem decIE_of {xs : List Int} {e : Int} (hx : xs.length ≠ 0) (h : (decIR it xs).1 = e) (he : e ≠ 0) : decIE it bad ok xs = e := by
  unfold decIE
  rw [if_neg hx, if_pos (by rw [h]; exact he), h]
theorem decIL_no {xs : List Int} (h : decIE it bad ok xs ≠ 0) : decIL it bad ok xs = [] := by unfold decIL; rw [if_neg h]
theorem decIE_end {xs : List Int} {acc : List α} {r : List Int} (hx : xs.length ≠ 0) (h : decIR it xs = (0, acc, r)) : decIE it bad ok xs = if r.length = 0 ∧ ok acc = true then 0 else bad := by
  unfold decIE
  rw [if_neg hx, h, if_neg (by simp)]
theorem decIL_end {xs : List Int} {acc : List α} {r : List Int} (h : decIR it xs = (0, acc, r)) (h0 : decIE it bad ok xs = 0) : decIL it bad ok xs = acc := by
  unfold decIL
  rw [if_pos h0, h]
/-- What every item of bytes has, the items have. -/
theorem decI_all {P : α → Prop} (hit : ∀ ys, Bytes ys → (it ys).1 = 0 → P (it ys).2.1) : ∀ (k : Nat) (acc : List α) (xs : List Int), Bytes xs → (∀ a ∈ acc, P a) → ∀ a ∈ (decI it k acc xs).2.1, P a
  | 0, acc, xs, _, ha => ha
  | k + 1, acc, xs, hx, ha => by
    rw [decI]
    split
    · intro r hr; cases hr
    · rename_i h0
      refine decI_all hit k _ _ (hx.drop _) (fun r hr => ?_)
      rcases List.mem_append.1 hr with h | h
      · exact ha r h
      · rw [List.mem_singleton] at h
        rw [h]
        exact hit xs hx (by simpa using h0)
/-- What was laid is read as it was. -/
theorem decI_enc {enc : α → List Int} {P : α → Prop} (h : ∀ a raw, P a → it (enc a ++ raw) = (0, a, (enc a).length)) : ∀ {t : List α}, (∀ a ∈ t, P a) → ∀ acc raw, decI it t.length acc (t.flatMap enc ++ raw) = (0, acc ++ t, raw)
  | [], _, acc, raw => by simp [decI]
  | a :: t, hp, acc, raw => by
    rw [List.flatMap_cons, List.append_assoc, List.length_cons, decI, h a _ (hp a (by simp)), if_neg (by simp)]
    simp only
    rw [List.drop_left, decI_enc h (fun x hx => hp x (by simp [hx]))]
    simp
theorem decI_cut {enc : α → List Int} {P : α → Prop} (h : ∀ a raw, P a → it (enc a ++ raw) = (0, a, (enc a).length)) (hc : ∀ a m, P a → m < (enc a).length → (it ((enc a).take m)).1 = 7) : ∀ {t : List α}, (∀ a ∈ t, P a) → ∀ acc m, m < (t.flatMap enc).length → (decI it t.length acc ((t.flatMap enc).take m)).1 = 7
  | [], _, acc, m, hm => by simp at hm
  | a :: t, hp, acc, m, hm => by
    have hp0 := hp a (by simp)
    rw [List.flatMap_cons] at hm ⊢
    rw [List.length_append] at hm
    by_cases hge : (enc a).length ≤ m
    · have e : (enc a ++ t.flatMap enc).take m = enc a ++ (t.flatMap enc).take (m - (enc a).length) := by
        rw [List.take_append, List.take_of_length_le hge]
      rw [e, List.length_cons, decI, h a _ hp0, if_neg (by simp)]
      simp only
      rw [List.drop_left]
      exact decI_cut h hc (fun x hx => hp x (by simp [hx])) _ _ (by omega)
    · have e : (enc a ++ t.flatMap enc).take m = (enc a).take m := List.take_append_of_le_length (by omega)
      rw [e, List.length_cons]
      exact decI_err (by omega) (hc a m hp0 (by omega)) (by decide)
theorem decIE_enc {enc : α → List Int} {P : α → Prop} (h : ∀ a raw, P a → it (enc a ++ raw) = (0, a, (enc a).length)) {t : List α} (hp : ∀ a ∈ t, P a) (hk : ok t = true) : decIE it bad ok ((t.length : Int) :: t.flatMap enc) = 0 ∧ decIL it bad ok ((t.length : Int) :: t.flatMap enc) = t := by
  have e : decIR it ((t.length : Int) :: t.flatMap enc) = (0, t, []) := by
    unfold decIR
    rw [rd_0, List.drop_one, List.tail_cons, Int.toNat_natCast]
    have := decI_enc h hp [] []
    simpa using this
  have e1 : decIE it bad ok ((t.length : Int) :: t.flatMap enc) = 0 := by
    rw [decIE_end (by simp) e, if_pos ⟨rfl, hk⟩]
  exact ⟨e1, decIL_end e e1⟩
theorem decIE_cut {enc : α → List Int} {P : α → Prop} (h : ∀ a raw, P a → it (enc a ++ raw) = (0, a, (enc a).length)) (hc : ∀ a m, P a → m < (enc a).length → (it ((enc a).take m)).1 = 7) {t : List α} (hp : ∀ a ∈ t, P a) {k : Nat} (hk : k < ((t.length : Int) :: t.flatMap enc).length) : decIE it bad ok (((t.length : Int) :: t.flatMap enc).take k) = 7 := by
  cases k with
  | zero => rfl
  | succ m =>
    refine decIE_of (by simp) ?_ (by decide)
    unfold decIR
    rw [List.take_succ_cons, rd_0, List.drop_one, List.tail_cons, Int.toNat_natCast]
    exact decI_cut h hc hp [] m (by simpa using hk)
end
theorem rd_app (xs ys : List Int) (k : Nat) : rd (xs ++ ys) ((xs.length : Int) + k) = rd ys k := by
  unfold rd
  rw [show (((xs.length : Int) + (k : Int)).toNat) = xs.length + k by omega]
  rw [List.getD_eq_getElem?_getD, List.getD_eq_getElem?_getD, List.getElem?_append_right (by omega)]
  simp
theorem rd_app0 (xs ys : List Int) : rd (xs ++ ys) (xs.length : Int) = rd ys 0 := by have := rd_app xs ys 0; simpa using this
def encRp (x : Rte) : List Int := encP x.p ++ [x.s % 256, x.f % 256, x.h % 256]
def goneI (g : Bool) : Int := if g then 1 else 0
def encUq (x : Upd) : List Int := encP x.p ++ [x.s % 256, goneI x.g, x.f % 256, x.h % 256]
theorem itR_enc (x : Rte) (raw : List Int) (hf : B16 x.p.l ∧ x.fit = true) : itR (encRp x ++ raw) = (0, x, (encRp x).length) := by
  obtain ⟨hl, hx⟩ := hf
  unfold Rte.fit fitB at hx
  simp only [Bool.and_eq_true, decide_eq_true_eq] at hx
  obtain ⟨⟨⟨⟨⟨⟨h1, h2⟩, h3⟩, h4⟩, h5⟩, h6⟩, h7⟩ := hx
  obtain ⟨d1, d2, d3⟩ := dec_enc hl h1 (x.s % 256 :: x.f % 256 :: x.h % 256 :: raw)
  have e : encRp x ++ raw = encP x.p ++ (x.s % 256 :: x.f % 256 :: x.h % 256 :: raw) := by simp [encRp]
  have e1 := rd_app0 (encP x.p) (x.s % 256 :: x.f % 256 :: x.h % 256 :: raw)
  have e2 := rd_app (encP x.p) (x.s % 256 :: x.f % 256 :: x.h % 256 :: raw) 1
  have e3 := rd_app (encP x.p) (x.s % 256 :: x.f % 256 :: x.h % 256 :: raw) 2
  have r1 : rd (x.s % 256 :: x.f % 256 :: x.h % 256 :: raw) 0 = x.s := by show x.s % 256 = _; omega
  have r2 : rd (x.s % 256 :: x.f % 256 :: x.h % 256 :: raw) ((1 : Nat) : Int) = x.f := by show x.f % 256 = _; omega
  have r3 : rd (x.s % 256 :: x.f % 256 :: x.h % 256 :: raw) ((2 : Nat) : Int) = x.h := by show x.h % 256 = _; omega
  rw [r1] at e1
  rw [r2] at e2
  rw [r3] at e3
  rw [e]
  unfold itR
  rw [if_neg (by rw [d1]; decide), if_neg (by rw [d1]; simp), d3, Int.toNat_natCast, if_neg (by simp), d2, e1]
  have e2' : rd (encP x.p ++ x.s % 256 :: x.f % 256 :: x.h % 256 :: raw) (((encP x.p).length : Int) + 1) = x.f := e2
  have e3' : rd (encP x.p ++ x.s % 256 :: x.f % 256 :: x.h % 256 :: raw) (((encP x.p).length : Int) + 2) = x.h := e3
  rw [e2', e3']
  simp [encRp]
theorem itR_cut (x : Rte) (m : Nat) (hf : B16 x.p.l ∧ x.fit = true) (hm : m < (encRp x).length) : (itR ((encRp x).take m)).1 = 7 := by
  obtain ⟨hl, hx⟩ := hf
  unfold Rte.fit fitB at hx
  simp only [Bool.and_eq_true, decide_eq_true_eq] at hx
  have h1 := hx.1.1.1.1.1.1
  unfold encRp at hm ⊢
  rw [List.length_append] at hm
  by_cases hlt : m < (encP x.p).length
  · rw [List.take_append_of_le_length (by omega)]
    unfold itR
    rw [if_pos (dec_cut hl h1 m hlt)]
  · rw [List.take_append, List.take_of_length_le (by omega)]
    obtain ⟨d1, d2, d3⟩ := dec_enc hl h1 ([x.s % 256, x.f % 256, x.h % 256].take (m - (encP x.p).length))
    unfold itR
    rw [if_neg (by rw [d1]; decide), if_neg (by rw [d1]; simp), d3, Int.toNat_natCast, if_pos (by simp at hm ⊢; omega)]
theorem itU_enc (x : Upd) (raw : List Int) (hf : B16 x.p.l ∧ updB x = true) : itU (encUq x ++ raw) = (0, x, (encUq x).length) := by
  obtain ⟨hl, hx⟩ := hf
  have h1 : x.p.right = true ∧ 1 ≤ x.s ∧ x.s ≤ 4 ∧ 0 ≤ x.f ∧ x.f ≤ 255 ∧ 0 ≤ x.h ∧ x.h ≤ 255 := by
    unfold updB fitB at hx
    split at hx <;> simp only [Bool.and_eq_true, decide_eq_true_eq, beq_iff_eq] at hx
    · obtain ⟨⟨a, b⟩, ⟨⟨⟨⟨⟨⟨h1, h2⟩, h3⟩, h4⟩, h5⟩, h6⟩, h7⟩⟩ := hx
      exact ⟨h1, h2, h3, by omega, by omega, by omega, by omega⟩
    · obtain ⟨⟨⟨⟨⟨⟨h1, h2⟩, h3⟩, h4⟩, h5⟩, h6⟩, h7⟩ := hx
      exact ⟨h1, h2, h3, h4, h5, by omega, h7⟩
  obtain ⟨h1, h2, h3, h4, h5, h6, h7⟩ := h1
  obtain ⟨d1, d2, d3⟩ := dec_enc hl h1 (x.s % 256 :: goneI x.g :: x.f % 256 :: x.h % 256 :: raw)
  have e : encUq x ++ raw = encP x.p ++ (x.s % 256 :: goneI x.g :: x.f % 256 :: x.h % 256 :: raw) := by simp [encUq]
  have e1 := rd_app0 (encP x.p) (x.s % 256 :: goneI x.g :: x.f % 256 :: x.h % 256 :: raw)
  have e2 := rd_app (encP x.p) (x.s % 256 :: goneI x.g :: x.f % 256 :: x.h % 256 :: raw) 1
  have e3 := rd_app (encP x.p) (x.s % 256 :: goneI x.g :: x.f % 256 :: x.h % 256 :: raw) 2
  have e4 := rd_app (encP x.p) (x.s % 256 :: goneI x.g :: x.f % 256 :: x.h % 256 :: raw) 3
  have r1 : rd (x.s % 256 :: goneI x.g :: x.f % 256 :: x.h % 256 :: raw) 0 = x.s := by show x.s % 256 = _; omega
  have r2 : rd (x.s % 256 :: goneI x.g :: x.f % 256 :: x.h % 256 :: raw) ((1 : Nat) : Int) = goneI x.g := rfl
  have r3 : rd (x.s % 256 :: goneI x.g :: x.f % 256 :: x.h % 256 :: raw) ((2 : Nat) : Int) = x.f := by show x.f % 256 = _; omega
  have r4 : rd (x.s % 256 :: goneI x.g :: x.f % 256 :: x.h % 256 :: raw) ((3 : Nat) : Int) = x.h := by show x.h % 256 = _; omega
  rw [r1] at e1
  rw [r2] at e2
  rw [r3] at e3
  rw [r4] at e4
  rw [e]
  have hg : ¬ (1 < goneI x.g) := by unfold goneI; split <;> omega
  have hg2 : (goneI x.g == 1) = x.g := by unfold goneI; cases x.g <;> rfl
  have e2' : rd (encP x.p ++ x.s % 256 :: goneI x.g :: x.f % 256 :: x.h % 256 :: raw) (((encP x.p).length : Int) + 1) = goneI x.g := e2
  have e3' : rd (encP x.p ++ x.s % 256 :: goneI x.g :: x.f % 256 :: x.h % 256 :: raw) (((encP x.p).length : Int) + 2) = x.f := e3
  have e4' : rd (encP x.p ++ x.s % 256 :: goneI x.g :: x.f % 256 :: x.h % 256 :: raw) (((encP x.p).length : Int) + 3) = x.h := e4
  unfold itU
  rw [if_neg (by rw [d1]; decide), if_neg (by rw [d1]; simp), d3, Int.toNat_natCast, e2', if_neg (by simp [hg]), if_neg (by simp), d2, e1, e3', e4', hg2]
  simp [encUq]
theorem itU_cut (x : Upd) (m : Nat) (hf : B16 x.p.l ∧ updB x = true) (hm : m < (encUq x).length) : (itU ((encUq x).take m)).1 = 7 := by
  obtain ⟨hl, hx⟩ := hf
  have h1 : x.p.right = true := by
    unfold updB fitB at hx
    split at hx <;> simp only [Bool.and_eq_true, decide_eq_true_eq, beq_iff_eq] at hx
    · exact hx.2.1.1.1.1.1.1
    · exact hx.1.1.1.1.1.1
  unfold encUq at hm ⊢
  rw [List.length_append] at hm
  by_cases hlt : m < (encP x.p).length
  · rw [List.take_append_of_le_length (by omega)]
    unfold itU
    rw [if_pos (dec_cut hl h1 m hlt)]
  · rw [List.take_append, List.take_of_length_le (by omega)]
    obtain ⟨j, hj⟩ : ∃ j, m - (encP x.p).length = j := ⟨_, rfl⟩
    rw [hj]
    have hj4 : j < 4 := by simp at hm; omega
    obtain ⟨d1, d2, d3⟩ := dec_enc hl h1 ([x.s % 256, goneI x.g, x.f % 256, x.h % 256].take j)
    have hg : ¬ (1 < goneI x.g) := by unfold goneI; split <;> omega
    unfold itU
    rw [if_neg (by rw [d1]; decide), if_neg (by rw [d1]; simp), d3, Int.toNat_natCast, if_neg ?_, if_pos ?_]
    · simp; omega
    · rintro ⟨a, b⟩
      have h2 : 2 ≤ j := by simp at a; omega
      have e2 := rd_app (encP x.p) ([x.s % 256, goneI x.g, x.f % 256, x.h % 256].take j) 1
      have e3 : rd ([x.s % 256, goneI x.g, x.f % 256, x.h % 256].take j) ((1 : Nat) : Int) = goneI x.g := by
        match j, h2, hj4 with
        | 2, _, _ => rfl
        | 3, _, _ => rfl
      rw [e3] at e2
      have e2' : rd (encP x.p ++ [x.s % 256, goneI x.g, x.f % 256, x.h % 256].take j) (((encP x.p).length : Int) + 1) = goneI x.g := e2
      rw [e2'] at b
      exact hg b
end Go.Proofs.YtnpeedmicjeleaaDoor

/- A region that draws its order and may end in a panic. -/
namespace Go.Proofs.YtnpeedmicjeleaaDoor
set_option linter.unusedVariables false
section
variable {P : Program} {S : World → Prop} {ops : Array Oper} {Q : Exit → Act → World → Prop} {md : Region.Mode} {cl : Nat → Nat}
theorem wpM_of_wpOq (hf : Fin md ops cl) (hs : Region.noSelect ops = true) (hQ : ∀ (i : Nat) (o : Oper), ops[i]? = some o → ∀ c v a w, Q (.panic c) (a.put o.dst v) w → Q (.panic c) a w) : ∀ (l : List Nat) (listed : Array Bool) (a : Act) (w : World), Closed md ops listed →
    ordB md ops cl l listed = true → wpO P S ops Q cl l a w → wpM P S md ops Q cl l.length listed a w
  | [], _, _, _, _, hB, h => ⟨by simpa [ordB] using hB, h⟩
  | i :: l, listed, a, w, hcl, hB, h => by
    simp only [ordB, Bool.and_eq_true] at hB
    obtain ⟨hB1, hB2⟩ := hB
    simp only [wpO] at h
    have h0 := h
    unfold mOp at h
    split at hB1
    · rename_i hc
      simp only [Bool.and_eq_true, List.contains_iff_mem] at hB1
      obtain ⟨_, oi, hoi, _⟩ := mem_ready.1 hB1.1
      rw [hoi] at h
      simp only [hc] at h
      obtain ⟨v, hy, hk⟩ := h
      exact wpM_first0 hf hoi hc (Region.noSelect_spec hs) (fun c a w => hQ i oi hoi c v a w) l.length listed a w hcl (Region.free_spec hoi hB1.2) hB1.1 hy (wpM_of_wpOq hf hs hQ l _ _ w (hcl.set hB1.1) hB2 hk)
    · rename_i hc
      simp only [Bool.and_eq_true, List.contains_iff_mem, List.all_eq_true, List.mem_range, Bool.or_eq_true, beq_iff_eq] at hB1
      obtain ⟨_, oi, hoi, _⟩ := mem_ready.1 hB1.1.1
      rw [hoi] at h
      simp only [hc] at h
      obtain ⟨v, hy, hk⟩ := h
      refine wpM_first1 (N := ops.size) hoi hc (Region.noSelect_spec hs) l.length listed a hcl (fun j oj hj hun => ?_) (Region.free_spec hoi hB1.1.2) hB1.1.1 hy (wpM_of_wpOq hf hs hQ l _ _ w (hcl.set hB1.1.1) hB2 hk)
      have := hB1.2 j (Array.getElem?_eq_some_iff.1 hj).1
      rw [hun] at this
      simpa [or_assoc] using this
    · rename_i hc
      simp only [Bool.and_eq_true, List.contains_iff_mem] at hB1
      obtain ⟨_, oi, hoi, _⟩ := mem_ready.1 hB1.1
      rw [hoi] at h
      simp only [hc] at h
      obtain ⟨v, hy, hk⟩ := h
      exact wpM_first4 hoi hc (Region.noSelect_spec hs) (fun c a w => hQ i oi hoi c v a w) l.length listed a w hcl (Region.free_spec hoi hB1.2) hB1.1 hy (wpM_of_wpOq hf hs hQ l _ _ w (hcl.set hB1.1) hB2 hk)
    · simp only [beq_iff_eq] at hB1
      have hr : i ∈ Region.ready md ops listed := by rw [hB1]; exact List.mem_singleton.2 rfl
      exact wpM_only hB1 (mOp_mono (fun a' w' h' => wpM_of_wpOq hf hs hQ l _ a' w' (hcl.set hr) hB2 h') h0)
end
/-- The region's end: it goes on, or it leaves by a panic. -/
def panicOr (N : Act → World → Prop) (R : List PanicEntry → Act → World → Prop) : Exit → Act → World → Prop
  | .normal, a, w => N a w
  | .panic c, a, w => R c a w
  | _, _, _ => False
/-- What a panic leaves by: the deferred calls, one slot, and what is to hold. -/
def panicAt (D : List Deferred) (k : Nat) (V : Option Value) (C : List PanicEntry → World → Prop) (c : List PanicEntry) (a : Act) (w : World) : Prop := a.defers = D ∧ a.tmps[k]? = V ∧ C c w
theorem put_defersP (a : Act) (d : Option Nat) (v : Value) : (a.put d v).defers = a.defers := by cases d <;> rfl
theorem put_slotP (a : Act) {d : Option Nat} {k : Nat} (h : d ≠ some k) (v : Value) : (a.put d v).tmps[k]? = a.tmps[k]? := by
  cases d with
  | none => rfl
  | some j =>
    have hj : j ≠ k := fun e => h (by rw [e])
    show (a.tmps.setIfInBounds j v)[k]? = a.tmps[k]?
    rw [Array.getElem?_setIfInBounds_ne hj]
theorem wp_region_mixp {P : Program} (S : World → Prop) (D : List Deferred) (k : Nat) (V : Option Value) (C : List PanicEntry → World → Prop) {ops : Array Oper} {id : Nat} {Q : Exit → Act → World → Prop} {a : Act} {w : World} (l : List (Nat × Nat)) (hm : P.follows .mixedOrders = true)
    (hB : (finB .any ops l && Region.noSelect ops && decide (l.length = ops.size) && ordB .any ops (clOf l) (l.map (·.1)) (Array.replicate ops.size false)) = true)
    (hk : ops.toList.all (fun o => o.dst != some k) = true)
    (hS : S w.drew) (hR : ∀ c a w, panicAt D k V C c a w → Q (.panic c) a w) (h : wpO P S ops (panicOr (Q .normal) (panicAt D k V C)) (clOf l) (l.map (·.1)) a w.drew) : (Code.region id ops true).wp P Q a w := by
  simp only [Bool.and_eq_true, decide_eq_true_eq] at hB
  refine wp_mono (Q := panicOr (Q .normal) (panicAt D k V C)) (wp_region_any hm (wpAny_of_wpM (S := S) (cl := clOf l) (fin_of hB.1.1.1) _ _ _ _ (Closed.start _) hS ?_)) (fun e a w hq => ?_)
  · have := wpM_of_wpOq (P := P) (S := S) (md := .any) (Q := panicOr (Q .normal) (panicAt D k V C)) (cl := clOf l) (fin_of hB.1.1.1) hB.1.1.2 (fun i o hi c v a w h => by
      have h2 : panicAt D k V C c (a.put o.dst v) w := h
      have hne : o.dst ≠ some k := by
        have h3 := List.all_eq_true.1 hk o (List.mem_of_getElem? (i := i) (by rw [Array.getElem?_toList]; exact hi))
        simpa using h3
      unfold panicAt at h2
      rw [put_defersP, put_slotP _ hne] at h2
      exact h2) (l.map (·.1)) (Array.replicate ops.size false) a w.drew (Closed.start _) hB.2 h
    rw [List.length_map, hB.1.2] at this
    exact this
  · cases e <;> first | exact hq | exact hq.elim | exact hR _ _ _ hq
end Go.Proofs.YtnpeedmicjeleaaDoor

/- Layer 11 (route): the methods of the reader. -/
namespace Go.Proofs.YtnpeedmicjeleaaDoor
open Go.RowKit
set_option linter.unusedVariables false
set_option linter.unusedSimpArgs false
set_option maxRecDepth 4000
/-- A reader of layer 11: the octet reader, all its bytes, the error of what may not be. -/
def rd3V (g : Nat) (A : Option Addr) (n c : Nat) (bad : Int) : Array Value := #[.pointer (some ⟨g, 0, none⟩), .slice A n c, .int .i64 bad]
/-- What a reader leaves by. -/
def wrg (e : Int) : List PanicEntry := [{ v := .iface 134 (.agg #[.int .i64 e]), recovered := false }]
structure Rd3Ld (w : World) (b g : Nat) (A : Option Addr) (n c : Nat) (bad : Int) : Prop where
  all : (Instr.loadAt 110 (.pointer (some ⟨b, 0, none⟩))).run Tryd.prog w = .ok (.agg (rd3V g A n c bad)) w
  ptr : (Instr.loadAt 108 (.pointer (some ⟨b, 0, none⟩))).run Tryd.prog w = .ok (.pointer (some ⟨g, 0, none⟩)) w
  raw : (Instr.loadAt 63 (.pointer (some ⟨b, 1, none⟩))).run Tryd.prog w = .ok (.slice A n c) w
  err : (Instr.loadAt 32 (.pointer (some ⟨b, 2, none⟩))).run Tryd.prog w = .ok (.int .i64 bad) w
structure Rd3At (w : World) (b g : Nat) (A : Option Addr) (n c : Nat) (bad : Int) : Prop where
  all : ∀ w0, Below w.heap.size w w0 → Rd3Ld w0 b g A n c bad
theorem rd3_ld {w : World} {b g : Nat} {A : Option Addr} {n c : Nat} {bad : Int} (h : w.heap[b]? = some (.cells (rd3V g A n c bad) 110 (0, 0))) : Rd3Ld w b g A n c bad := by
  have h0 := cells_blk h
  have c0 : w.cell? ⟨b, 0, none⟩ = some (.pointer (some ⟨g, 0, none⟩)) := by rw [blk_cell h]; rfl
  have c1 : w.cell? ⟨b, 1, none⟩ = some (.slice A n c) := by rw [blk_cell h]; rfl
  have c2 : w.cell? ⟨b, 2, none⟩ = some (.int .i64 bad) := by rw [blk_cell h]; rfl
  refine ⟨load_cells h0 Tryd.underlying110 rfl (by kernel_rfl), ?_, ?_, ?_⟩
  · clear h h0 c1 c2; go_simp
  · clear h h0 c0 c2; go_simp
  · clear h h0 c0 c1; go_simp
theorem rd3_at {w : World} {b g : Nat} {A : Option Addr} {n c : Nat} {bad : Int} (h : w.heap[b]? = some (.cells (rd3V g A n c bad) 110 (0, 0))) : Rd3At w b g A n c bad :=
  ⟨fun w0 hb => rd3_ld (blk_below h hb)⟩
set_option maxHeartbeats 2000000 in
theorem number11_any {lo : Nat} (g : Nat) (A : Option Addr) (n c : Nat) (bad : Int) (ys : List Int) (w : World) (hr : Rdr w lo g ys 0) :
    Calls Tryd.prog 74 #[.agg (rd3V g A n c bad)] w fun e w' => w.grownBy w' (some g) ∧ ((ys.length = 0 ∧ e = .panicked (wrg 7)) ∨ (ys.length ≠ 0 ∧ e = .returned (.int .i64 (rd ys 0)) ∧ Rdr w' lo g (ys.drop 1) 0)) := by
  have hL : True := trivial
  have hblk1 := blk_new w (.cells (rd3V g A n c bad) 110)
  have hbel1 : Below w.heap.size w (w.alloc (.cells (rd3V g A n c bad) 110)) := below_alloc (Below.refl _ _) _
  have HP1 := Lib.hid (rd3_at hblk1)
  have HBK1 := Lib.hid hblk1
  have HBE := Lib.hid hbel1
  obtain ⟨cs1, hcs1⟩ : ∃ cs, rd3V g A n c bad = cs := ⟨_, rfl⟩
  simp only [hcs1] at HBE HP1 HBK1 ⊢
  have HC1 := Lib.hid hcs1
  clear hcs1 hblk1 hbel1
  have HR := Lib.hid (hr.below HBE.out)
  have HY := Lib.hid hr.byte
  have hlt := hr.lt
  clear hr
  go_enter Tryd.func74, Tryd.ntmps74
  go_wp2_with (first | ((with_reducible show wpList _ _ _ (Oper.mk _ (Op.load _ _) _ _ _ _ :: _) _ _); refine wpList_load_g ((HP1.out.all _ (Below.refl _ _)).ptr) _ rfl rfl (by go_simp) ?_))
  refine (u8_rd g ys _ HR.out).mono ?_
  rintro e w1 ⟨rfl, hr1, hg1⟩
  have HG1 := Lib.hid hg1
  have HR1 := Lib.hid hr1
  have HP : Hid (Rd3Ld w1 w.heap.size g A n c bad) := Lib.hid (rd3_ld ((blk_grown HBK1.out hg1 (fun e => by injection e with e; omega)).trans (by rw [HC1.out])))
  clear hr1 hg1
  obtain ⟨y, hy⟩ : ∃ y, rd ys 0 = y := ⟨_, rfl⟩
  have hy2 : 0 ≤ y ∧ y < 256 := by rw [← hy]; exact HY.out.getD 0
  have hwy : IntKind.i64.wrap y = y := IntWalk.i64_in _ (by omega)
  rw [hy]
  have HYY := Lib.hid hy
  by_cases hz : ys.length = 0
  · have hr1 := HR1.out
    rw [if_pos hz] at hr1
    have HR2 := Lib.hid hr1
    have HZ := Lib.hid hz
    clear hr1 hy hz
    go_wp2_with (first | ((with_reducible show wpList _ _ _ (Oper.mk _ (Op.load _ _) _ _ _ _ :: _) _ _); refine wpList_load_g (HP.out.ptr) _ rfl rfl (by go_simp) ?_))
    refine (err_any g _ 7 w1 HR2.out).mono ?_
    rintro e w2 ⟨rfl, rfl⟩
    go_wp2_with fail
    exact ⟨rfl, grown_of_alloc HG1.out, .inl ⟨HZ.out, rfl⟩⟩
  · have hr1 := HR1.out
    rw [if_neg hz] at hr1
    have HR2 := Lib.hid hr1
    have HZ := Lib.hid hz
    clear hr1 hy hz
    go_wp2_with (first | ((with_reducible show wpList _ _ _ (Oper.mk _ (Op.load _ _) _ _ _ _ :: _) _ _); refine wpList_load_g (HP.out.ptr) _ rfl rfl (by go_simp) ?_))
    refine (err_any g _ 0 w1 HR2.out).mono ?_
    rintro e w2 ⟨rfl, rfl⟩
    go_wp2_with fail
    go_ret
    rw [← HYY.out]
    exact ⟨grown_of_alloc HG1.out, .inr ⟨HZ.out, rfl, HR2.out⟩⟩
theorem need11_true (g : Nat) (A : Option Addr) (n c : Nat) (bad : Int) (w : World) :
    Calls Tryd.prog 78 #[.agg (rd3V g A n c bad), .bool true] w fun e w' => e = .returned (.tuple #[]) ∧ Below w.heap.size w w' := by
  have hL : True := trivial
  have hblk1 := blk_new w (.cells (rd3V g A n c bad) 110)
  have hbel1 : Below w.heap.size w (w.alloc (.cells (rd3V g A n c bad) 110)) := below_alloc (Below.refl _ _) _
  have HP1 := Lib.hid (rd3_at hblk1)
  have HBK1 := Lib.hid hblk1
  have HBE := Lib.hid hbel1
  obtain ⟨cs1, hcs1⟩ : ∃ cs, rd3V g A n c bad = cs := ⟨_, rfl⟩
  simp only [hcs1] at HBE HP1 HBK1 ⊢
  have HC1 := Lib.hid hcs1
  clear hcs1 hblk1 hbel1
  go_enter Tryd.func78, Tryd.ntmps78
  go_wp2_with fail
  go_end0
  exact ⟨rfl, HBE.out⟩
theorem need11_false (g : Nat) (A : Option Addr) (n c : Nat) (bad : Int) (w : World) :
    Calls Tryd.prog 78 #[.agg (rd3V g A n c bad), .bool false] w fun e w' => e = .panicked (wrg bad) ∧ Below w.heap.size w w' := by
  have hL : True := trivial
  have hblk1 := blk_new w (.cells (rd3V g A n c bad) 110)
  have hbel1 : Below w.heap.size w (w.alloc (.cells (rd3V g A n c bad) 110)) := below_alloc (Below.refl _ _) _
  have HP1 := Lib.hid (rd3_at hblk1)
  have HBK1 := Lib.hid hblk1
  have HBE := Lib.hid hbel1
  obtain ⟨cs1, hcs1⟩ : ∃ cs, rd3V g A n c bad = cs := ⟨_, rfl⟩
  simp only [hcs1] at HBE HP1 HBK1 ⊢
  have HC1 := Lib.hid hcs1
  clear hcs1 hblk1 hbel1
  go_enter Tryd.func78, Tryd.ntmps78
  go_wp2_with (first | ((with_reducible show wpList _ _ _ (Oper.mk _ (Op.load _ _) _ _ _ _ :: _) _ _); refine wpList_load_g ((HP1.out.all _ (Below.refl _ _)).err) _ rfl rfl (by go_simp) ?_))
  exact ⟨rfl, rfl, HBE.out⟩
end Go.Proofs.YtnpeedmicjeleaaDoor

/- The first place where something holds. -/
namespace Go.Proofs.YtnpeedmicjeleaaDoor
open Go.RowKit
set_option linter.unusedVariables false
set_option linter.unusedSimpArgs false
set_option maxRecDepth 4000
def idxE {α : Type} (q : α → Bool) (t : List α) : Int := match t.findIdx? q with | some i => i | none => -1
theorem idxE_at {α : Type} {S : Shape α} {q : α → Bool} {t : List α} {i : Nat} (hi : i < t.length) (h : q (S.at_ t i) = true) (hl : ∀ k, k < i → q (S.at_ t k) = false) : idxE q t = (i : Int) := by
  have : t.findIdx? q = some i := by
    rw [List.findIdx?_eq_some_iff_getElem]
    have hg : ∀ k (hk : k < t.length), t[k] = S.at_ t k := fun k hk => by
      have := Shape.at_get (S := S) hk
      rw [List.getElem?_eq_getElem hk] at this
      exact Option.some.inj this
    refine ⟨hi, by rw [hg i hi]; exact h, fun k hk => ?_⟩
    rw [hg k (by omega), hl k hk]
    simp
  unfold idxE
  rw [this]
theorem idxE_none {α : Type} {S : Shape α} {q : α → Bool} {t : List α} (hl : ∀ k, k < t.length → q (S.at_ t k) = false) : idxE q t = -1 := by
  have : t.findIdx? q = none := by
    rw [List.findIdx?_eq_none_iff]
    intro x hx
    obtain ⟨k, hk, e⟩ := List.getElem_of_mem hx
    have := Shape.at_get (S := S) hk
    rw [List.getElem?_eq_getElem hk, e] at this
    rw [Option.some.inj this]
    exact hl k hk
  unfold idxE
  rw [this]
theorem idxE_any {α : Type} (q : α → Bool) (t : List α) : decide (0 ≤ idxE q t) = t.any q := by
  unfold idxE
  cases h : t.findIdx? q with
  | none =>
    rw [List.findIdx?_eq_none_iff] at h
    have : t.any q = false := by
      rw [List.any_eq_false]
      intro x hx
      rw [h x hx]
      decide
    rw [this]
    decide
  | some i =>
    rw [List.findIdx?_eq_some_iff_getElem] at h
    obtain ⟨hi, h1, _⟩ := h
    have : t.any q = true := by
      rw [List.any_eq_true]
      exact ⟨_, List.getElem_mem hi, h1⟩
    rw [this]
    exact decide_eq_true (Int.natCast_nonneg i)
end Go.Proofs.YtnpeedmicjeleaaDoor
