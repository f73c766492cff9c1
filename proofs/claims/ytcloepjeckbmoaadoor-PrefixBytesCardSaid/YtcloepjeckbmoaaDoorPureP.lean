/- Plain laws of addresses and prefixes (layer 5): no program in sight. -/
import Derived.Test.YtcloepjeckbmoaaDoorPureA
namespace Go.Proofs.YtcloepjeckbmoaaDoor
set_option linter.unusedVariables false
set_option linter.unusedSimpArgs false

/-- Sixteen bytes. -/
structure B16 (l : List Int) : Prop where
  len : l.length = 16
  rng : Bytes l
theorem B16.rd {l : List Int} (h : B16 l) (i : Int) : 0 ≤ rd l i ∧ rd l i < 256 := h.rng.getD _
/-- A bit of an address. -/
def bitA (l : List Int) (i : Nat) : Int := rd l ((i / 8 : Nat) : Int) / 2 ^ (7 - i % 8) % 2
theorem bitA_mk (l : List Int) (q r : Nat) (hr : r < 8) : bitA l (8 * q + r) = rd l (q : Int) / 2 ^ (7 - r) % 2 := by
  unfold bitA
  rw [show (8 * q + r) / 8 = q by omega, show (8 * q + r) % 8 = r by omega]
theorem bitA_range (l : List Int) (i : Nat) : bitA l i = 0 ∨ bitA l i = 1 := by unfold bitA; omega
def widthA (v : Int) : Nat := if v = 4 then 32 else if v = 6 then 128 else 0
theorem widthA_le (v : Int) : widthA v ≤ 128 := by unfold widthA; split <;> (try split) <;> omega
def clearA (l : List Int) (k : Nat) : Bool := (List.range 128).all fun i => decide (i < k) || bitA l i == 0
theorem clearA_iff (l : List Int) (k : Nat) : clearA l k = true ↔ ∀ i, k ≤ i → i < 128 → bitA l i = 0 := by
  simp only [clearA, List.all_eq_true, List.mem_range, Bool.or_eq_true, decide_eq_true_eq, beq_iff_eq]
  constructor
  · intro h i h1 h2
    rcases h i h2 with h3 | h3
    · omega
    · exact h3
  · intro h i h2
    by_cases h3 : i < k
    · exact .inl h3
    · exact .inr (h i (by omega) h2)
def rightA (v : Int) (l : List Int) : Bool := decide (widthA v ≠ 0) && clearA l (widthA v)
def rightP (v : Int) (l : List Int) (b : Int) : Bool := rightA v l && decide (0 ≤ b) && decide (b ≤ widthA v) && clearA l b.toNat
def cutB (x : Int) (keep : Int) : Int := if keep ≤ 0 then 0 else if keep < 8 then x / 2 ^ (8 - keep).toNat * 2 ^ (8 - keep).toNat else x
def cutA (l : List Int) (k : Int) : List Int := (List.range 16).map fun i => cutB (rd l (i : Nat)) (k - 8 * i)

theorem rd_map (f : Nat → Int) (n i : Nat) (h : i < n) : rd ((List.range n).map f) (i : Int) = f i := by simp [rd, List.getD_eq_getElem?_getD, h]
theorem cutB_range (x keep : Int) (h0 : 0 ≤ x) (h1 : x < 256) : 0 ≤ cutB x keep ∧ cutB x keep < 256 := by
  unfold cutB
  split
  · omega
  · split
    · have hp := pow_pos2 (8 - keep).toNat
      have h2 := Int.ediv_mul_le x (show (2 : Int) ^ (8 - keep).toNat ≠ 0 by omega)
      have h3 : 0 ≤ x / 2 ^ (8 - keep).toNat := Int.ediv_nonneg h0 (by omega)
      exact ⟨Int.mul_nonneg h3 (by omega), by omega⟩
    · exact ⟨h0, h1⟩
theorem cutA_16 {l : List Int} (h : B16 l) (k : Int) : B16 (cutA l k) :=
  ⟨by simp [cutA], fun y hy => by
    simp only [cutA, List.mem_map] at hy
    obtain ⟨i, -, rfl⟩ := hy
    exact cutB_range _ _ (h.rd _).1 (h.rd _).2⟩
theorem cutB_bit (x keep : Int) (r : Nat) (hr : r < 8) : cutB x keep / 2 ^ (7 - r) % 2 = if (r : Int) < keep then x / 2 ^ (7 - r) % 2 else 0 := by
  unfold cutB
  by_cases h1 : keep ≤ 0
  · rw [if_pos h1, if_neg (by omega)]
    simp
  · rw [if_neg h1]
    by_cases h2 : keep < 8
    · rw [if_pos h2]
      obtain ⟨s, hs⟩ : ∃ s : Nat, (8 - keep).toNat = s := ⟨_, rfl⟩
      have hk : keep = 8 - s := by omega
      rw [hs]
      subst hk
      have hs1 : s = 1 ∨ s = 2 ∨ s = 3 ∨ s = 4 ∨ s = 5 ∨ s = 6 ∨ s = 7 := by omega
      have hr1 : r = 0 ∨ r = 1 ∨ r = 2 ∨ r = 3 ∨ r = 4 ∨ r = 5 ∨ r = 6 ∨ r = 7 := by omega
      clear hs h1 h2 hr
      rcases hs1 with rfl | rfl | rfl | rfl | rfl | rfl | rfl <;> rcases hr1 with rfl | rfl | rfl | rfl | rfl | rfl | rfl | rfl <;> simp <;> omega
    · rw [if_neg h2, if_pos (by omega)]
theorem bitA_cut (l : List Int) (k : Int) (i : Nat) (hi : i < 128) : bitA (cutA l k) i = if (i : Int) < k then bitA l i else 0 := by
  obtain ⟨q, r, rfl, hr⟩ : ∃ q r, i = 8 * q + r ∧ r < 8 := ⟨i / 8, i % 8, by omega, by omega⟩
  rw [bitA_mk _ _ _ hr, bitA_mk _ _ _ hr]
  unfold cutA
  rw [rd_map _ _ _ (by omega), cutB_bit _ _ _ hr]
  by_cases h : (r : Int) < k - 8 * (q : Int)
  · rw [if_pos h, if_pos (by omega)]
  · rw [if_neg h, if_neg (by omega)]
theorem byte_ext (x y : Int) (hx0 : 0 ≤ x) (hx1 : x < 256) (hy0 : 0 ≤ y) (hy1 : y < 256) (h : ∀ j : Nat, j < 8 → x / 2 ^ j % 2 = y / 2 ^ j % 2) : x = y := by
  have h0 := h 0 (by omega)
  have h1 := h 1 (by omega)
  have h2 := h 2 (by omega)
  have h3 := h 3 (by omega)
  have h4 := h 4 (by omega)
  have h5 := h 5 (by omega)
  have h6 := h 6 (by omega)
  have h7 := h 7 (by omega)
  simp only [show (2 : Int) ^ 0 = 1 from rfl, show (2 : Int) ^ 1 = 2 from rfl, show (2 : Int) ^ 2 = 4 from rfl, show (2 : Int) ^ 3 = 8 from rfl, show (2 : Int) ^ 4 = 16 from rfl, show (2 : Int) ^ 5 = 32 from rfl, show (2 : Int) ^ 6 = 64 from rfl, show (2 : Int) ^ 7 = 128 from rfl] at h0 h1 h2 h3 h4 h5 h6 h7
  clear h
  omega
theorem ext16 {l m : List Int} (hl : B16 l) (hm : B16 m) (h : ∀ i, i < 128 → bitA l i = bitA m i) : l = m := by
  apply List.ext_getElem (by rw [hl.len, hm.len])
  intro q h1 h2
  have hq : q < 16 := by rw [← hl.len]; exact h1
  have e1 : rd l (q : Int) = l[q] := by simp [rd, List.getD_eq_getElem?_getD, h1]
  have e2 : rd m (q : Int) = m[q] := by simp [rd, List.getD_eq_getElem?_getD, h2]
  rw [← e1, ← e2]
  refine byte_ext _ _ (hl.rd _).1 (hl.rd _).2 (hm.rd _).1 (hm.rd _).2 (fun j hj => ?_)
  have h3 := h (8 * q + (7 - j)) (by omega)
  rw [bitA_mk _ _ _ (by omega), bitA_mk _ _ _ (by omega), show 7 - (7 - j) = j by omega] at h3
  exact h3
end Go.Proofs.YtcloepjeckbmoaaDoor
