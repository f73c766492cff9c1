/- Plain laws of prefixes (layer 5), second part: what contains what, and how two stand to one another. -/
import Derived.Test.YtcloepjeckbmoaaDoorPureP
import Derived.Test.YtcloepjeckbmoaaDoorCmp
namespace Go.Proofs.YtcloepjeckbmoaaDoor
set_option linter.unusedVariables false
set_option linter.unusedSimpArgs false

structure Pfx where
  v : Int
  l : List Int
  b : Int
def Pfx.right (p : Pfx) : Bool := rightP p.v p.l p.b
def Pfx.has (p : Pfx) (v : Int) (l : List Int) : Bool := p.right && rightA v l && decide (p.v = v) && decide (cutA l p.b = p.l)
def Pfx.holds (p q : Pfx) : Bool := q.right && decide (p.b ≤ q.b) && p.has q.v q.l
def Pfx.row (p : Pfx) : List Int := p.v :: (p.l ++ [p.b])
def Pfx.cmp (p q : Pfx) : Int := cmpI p.row q.row

theorem Pfx.right_iff (p : Pfx) : p.right = true ↔ rightA p.v p.l = true ∧ 0 ≤ p.b ∧ p.b ≤ widthA p.v ∧ ∀ i : Nat, p.b ≤ i → i < 128 → bitA p.l i = 0 := by
  unfold Pfx.right rightP
  simp only [Bool.and_eq_true, decide_eq_true_eq, clearA_iff]
  constructor
  · rintro ⟨⟨⟨h1, h2⟩, h3⟩, h4⟩
    exact ⟨h1, h2, h3, fun i hi => h4 i (by omega)⟩
  · rintro ⟨h1, h2, h3, h4⟩
    exact ⟨⟨⟨h1, h2⟩, h3⟩, fun i hi => h4 i (by omega)⟩
theorem Pfx.has_iff (p : Pfx) (v : Int) (l : List Int) (hp : B16 p.l) (hl : B16 l) : p.has v l = true ↔ p.right = true ∧ rightA v l = true ∧ p.v = v ∧ ∀ i : Nat, i < 128 → (i : Int) < p.b → bitA p.l i = bitA l i := by
  unfold Pfx.has
  simp only [Bool.and_eq_true, decide_eq_true_eq]
  constructor
  · rintro ⟨⟨⟨h1, h2⟩, h3⟩, h4⟩
    refine ⟨h1, h2, h3, fun i hi hb => ?_⟩
    rw [← h4, bitA_cut _ _ _ hi, if_pos hb]
  · rintro ⟨h1, h2, h3, h4⟩
    refine ⟨⟨⟨h1, h2⟩, h3⟩, ext16 (cutA_16 hl _) hp (fun i hi => ?_)⟩
    rw [bitA_cut _ _ _ hi]
    by_cases hb : (i : Int) < p.b
    · rw [if_pos hb, h4 i hi hb]
    · rw [if_neg hb, (p.right_iff.1 h1).2.2.2 i (by omega) hi]
theorem Pfx.holds_iff (p q : Pfx) (hp : B16 p.l) (hq : B16 q.l) : p.holds q = true ↔ p.right = true ∧ q.right = true ∧ p.b ≤ q.b ∧ p.v = q.v ∧ ∀ i : Nat, i < 128 → (i : Int) < p.b → bitA p.l i = bitA q.l i := by
  unfold Pfx.holds
  simp only [Bool.and_eq_true, decide_eq_true_eq, Pfx.has_iff p q.v q.l hp hq]
  constructor
  · rintro ⟨⟨h1, h2⟩, h3, h4, h5, h6⟩
    exact ⟨h3, h1, h2, h5, h6⟩
  · rintro ⟨h1, h2, h3, h4, h5⟩
    exact ⟨⟨h2, h3⟩, h1, (q.right_iff.1 h2).1, h4, h5⟩
theorem Pfx.holds_refl (p : Pfx) (hp : B16 p.l) (h : p.right = true) : p.holds p = true :=
  (p.holds_iff p hp hp).2 ⟨h, h, Int.le_refl _, rfl, fun _ _ _ => rfl⟩
theorem Pfx.holds_anti (p q : Pfx) (hp : B16 p.l) (hq : B16 q.l) (h : p.holds q = true) (k : q.holds p = true) : p = q := by
  obtain ⟨h1, h2, h3, h4, h5⟩ := (p.holds_iff q hp hq).1 h
  obtain ⟨k1, k2, k3, k4, k5⟩ := (q.holds_iff p hq hp).1 k
  have hb : p.b = q.b := by omega
  have hl : p.l = q.l := ext16 hp hq (fun i hi => by
    by_cases hlt : (i : Int) < p.b
    · exact h5 i hi hlt
    · rw [(p.right_iff.1 h1).2.2.2 i (by omega) hi, (q.right_iff.1 h2).2.2.2 i (by omega) hi])
  cases p
  cases q
  simp at h4 hb hl
  simp [h4, hb, hl]
theorem Pfx.holds_trans (p q r : Pfx) (hp : B16 p.l) (hq : B16 q.l) (hr : B16 r.l) (h : p.holds q = true) (k : q.holds r = true) : p.holds r = true := by
  obtain ⟨h1, h2, h3, h4, h5⟩ := (p.holds_iff q hp hq).1 h
  obtain ⟨k1, k2, k3, k4, k5⟩ := (q.holds_iff r hq hr).1 k
  exact (p.holds_iff r hp hr).2 ⟨h1, k2, by omega, h4.trans k4, fun i hi hlt => (h5 i hi hlt).trans (k5 i hi (by omega))⟩
theorem Pfx.has_total (p q : Pfx) (v : Int) (l : List Int) (hp : B16 p.l) (hq : B16 q.l) (hl : B16 l) (h : p.has v l = true) (k : q.has v l = true) : p.holds q = true ∨ q.holds p = true := by
  obtain ⟨h1, h2, h3, h4⟩ := (p.has_iff v l hp hl).1 h
  obtain ⟨k1, k2, k3, k4⟩ := (q.has_iff v l hq hl).1 k
  rcases Int.le_total p.b q.b with hb | hb
  · exact .inl ((p.holds_iff q hp hq).2 ⟨h1, k1, hb, h3.trans k3.symm, fun i hi hlt => (h4 i hi hlt).trans (k4 i hi (by omega)).symm⟩)
  · exact .inr ((q.holds_iff p hq hp).2 ⟨k1, h1, hb, k3.trans h3.symm, fun i hi hlt => (k4 i hi hlt).trans (h4 i hi (by omega)).symm⟩)

theorem cmpI_neg : ∀ xs ys : List Int, cmpI xs ys = - cmpI ys xs
  | [], [] => rfl
  | [], _ :: _ => rfl
  | _ :: _, [] => rfl
  | a :: u, b :: v => by
    have ih := cmpI_neg u v
    simp only [cmpI]
    by_cases h1 : a < b
    · rw [if_pos h1, if_neg (by omega), if_pos h1]
    · by_cases h2 : b < a
      · rw [if_neg h1, if_pos h2, if_pos h2]; rfl
      · rw [if_neg h1, if_neg h2, if_neg h2, if_neg h1, ih]
theorem cmpI_trans : ∀ xs ys zs : List Int, cmpI xs ys < 0 → cmpI ys zs < 0 → cmpI xs zs < 0
  | [], [], _, h, _ => by simp [cmpI] at h
  | _ :: _, [], _, h, _ => by simp [cmpI] at h
  | _, _ :: _, [], _, h => by simp [cmpI] at h
  | [], b :: v, c :: t, _, _ => by simp [cmpI]
  | a :: u, b :: v, c :: t, h, k => by
    have ih := cmpI_trans u v t
    simp only [cmpI] at h k ⊢
    by_cases h1 : a < b
    · by_cases k1 : b < c
      · rw [if_pos (by omega)]; omega
      · rw [if_neg k1] at k
        by_cases k2 : c < b
        · rw [if_pos k2] at k; omega
        · rw [if_pos (by omega)]; omega
    · rw [if_neg h1] at h
      by_cases h2 : b < a
      · rw [if_pos h2] at h; omega
      · rw [if_neg h2] at h
        by_cases k1 : b < c
        · rw [if_pos (by omega)]; omega
        · rw [if_neg k1] at k
          by_cases k2 : c < b
          · rw [if_pos k2] at k; omega
          · rw [if_neg k2] at k
            rw [if_neg (by omega), if_neg (by omega)]
            exact ih h k
theorem cmpI_le : ∀ xs ys : List Int, xs.length = ys.length → (∀ i : Nat, i < xs.length → rd xs (i : Int) ≤ rd ys (i : Int)) → cmpI xs ys ≤ 0
  | [], [], _, _ => by simp [cmpI]
  | [], _ :: _, h, _ => by simp at h
  | _ :: _, [], h, _ => by simp at h
  | a :: u, b :: v, hl, h => by
    have h0 := h 0 (by simp)
    simp [rd] at h0
    have ih := cmpI_le u v (by simpa using hl) (fun i hi => by
      have := h (i + 1) (by simpa using hi)
      simpa [rd] using this)
    simp only [cmpI]
    by_cases h1 : a < b
    · rw [if_pos h1]; omega
    · rw [if_neg h1, if_neg (by omega)]
      exact ih
theorem cmpI_one (a b : Int) : cmpI [a] [b] = cmpN a b := by simp [cmpI, cmpN]
theorem Pfx.cmp_eq (p q : Pfx) (hp : B16 p.l) (hq : B16 q.l) : p.cmp q = if cmpN p.v q.v ≠ 0 then cmpN p.v q.v else if cmpI p.l q.l ≠ 0 then cmpI p.l q.l else cmpN p.b q.b := by
  unfold Pfx.cmp Pfx.row
  simp only [cmpI]
  rw [cmpI_append _ _ _ _ (by rw [hp.len, hq.len]), cmpI_one]
  unfold cmpN
  by_cases h1 : p.v < q.v
  · simp [h1]
  · by_cases h2 : q.v < p.v
    · simp [h1, h2]
    · simp [h1, h2]
theorem Pfx.row_inj (p q : Pfx) (hp : B16 p.l) (hq : B16 q.l) (h : p.row = q.row) : p = q := by
  unfold Pfx.row at h
  simp only [List.cons.injEq] at h
  obtain ⟨h1, h2⟩ := h
  obtain ⟨h3, h4⟩ := List.append_inj h2 (by rw [hp.len, hq.len])
  cases p
  cases q
  simp at h1 h3 h4
  simp [h1, h3, h4]
theorem Pfx.cmp_zero (p q : Pfx) (hp : B16 p.l) (hq : B16 q.l) : p.cmp q = 0 ↔ p = q :=
  ⟨fun h => p.row_inj q hp hq (cmpI_zero _ _ h), fun h => by subst h; exact cmpI_refl _⟩
theorem Pfx.cmp_neg (p q : Pfx) : p.cmp q = - q.cmp p := cmpI_neg _ _
theorem Pfx.cmp_trans (p q r : Pfx) (h : p.cmp q < 0) (k : q.cmp r < 0) : p.cmp r < 0 := cmpI_trans _ _ _ h k
theorem cutB_le (x keep : Int) (h0 : 0 ≤ x) : cutB x keep ≤ x := by
  unfold cutB
  split
  · exact h0
  · split
    · have hp := pow_pos2 (8 - keep).toNat
      exact Int.ediv_mul_le x (show (2 : Int) ^ (8 - keep).toNat ≠ 0 by omega)
    · exact Int.le_refl _
theorem Pfx.holds_cmp (p q : Pfx) (hp : B16 p.l) (hq : B16 q.l) (h : p.holds q = true) : p.cmp q ≤ 0 := by
  have hh := (p.holds_iff q hp hq).1 h
  unfold Pfx.holds Pfx.has at h
  simp only [Bool.and_eq_true, decide_eq_true_eq] at h
  have hc := h.2.2
  have hle : cmpI p.l q.l ≤ 0 := by
    rw [← hc]
    refine cmpI_le _ _ (by rw [(cutA_16 hq _).len, hq.len]) (fun i hi => ?_)
    rw [(cutA_16 hq _).len] at hi
    unfold cutA
    rw [rd_map _ _ _ hi]
    exact cutB_le _ _ (hq.rd _).1
  rw [p.cmp_eq q hp hq]
  have hv : cmpN p.v q.v = 0 := by rw [hh.2.2.2.1]; simp [cmpN]
  rw [if_neg (by rw [hv]; simp)]
  split
  · exact hle
  · unfold cmpN
    have := hh.2.2.1
    split
    · omega
    · rw [if_neg (by omega)]; omega
end Go.Proofs.YtcloepjeckbmoaaDoor
