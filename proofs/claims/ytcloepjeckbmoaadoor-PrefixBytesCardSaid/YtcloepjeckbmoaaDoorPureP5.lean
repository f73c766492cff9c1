/- Plain laws of layer 5, fifth part: the prefixes of an address. -/
import Derived.Test.YtcloepjeckbmoaaDoorPureP4
namespace Go.Proofs.YtcloepjeckbmoaaDoor
set_option linter.unusedVariables false
set_option linter.unusedSimpArgs false

theorem rightA_iff (v : Int) (l : List Int) : rightA v l = true ↔ widthA v ≠ 0 ∧ ∀ i, widthA v ≤ i → i < 128 → bitA l i = 0 := by
  unfold rightA
  simp only [Bool.and_eq_true, decide_eq_true_eq, clearA_iff]
theorem cut_rightA {v : Int} {l : List Int} (k : Int) (h : rightA v l = true) : rightA v (cutA l k) = true := by
  rw [rightA_iff] at *
  refine ⟨h.1, fun i h1 h2 => ?_⟩
  rw [bitA_cut _ _ _ h2]
  split
  · exact h.2 i h1 h2
  · rfl
theorem of_right {v : Int} {l : List Int} {k : Int} (h : rightA v l = true) (h0 : 0 ≤ k) (h1 : k ≤ widthA v) : Pfx.right ⟨v, cutA l k, k⟩ = true := by
  rw [Pfx.right_iff]
  refine ⟨cut_rightA k h, h0, h1, fun i h2 h3 => ?_⟩
  show bitA (cutA l k) i = 0
  rw [bitA_cut _ _ _ h3, if_neg (by have h2' : k ≤ (i : Int) := h2; omega)]
theorem of_has {v : Int} {l : List Int} {k : Int} (hl : B16 l) (h : rightA v l = true) (h0 : 0 ≤ k) (h1 : k ≤ widthA v) : Pfx.has ⟨v, cutA l k, k⟩ v l = true := by
  rw [Pfx.has_iff _ _ _ (cutA_16 hl k) hl]
  refine ⟨of_right h h0 h1, h, rfl, fun i h2 h3 => ?_⟩
  show bitA (cutA l k) i = bitA l i
  rw [bitA_cut _ _ _ h2, if_pos h3]
theorem of_bit {v : Int} {l : List Int} {k : Int} (i : Nat) (h : rightA v l = true) (hi : i < widthA v) : bitP v (cutA l k) i = if (i : Int) < k then bitP v l i else 0 := by
  have hw := widthA_le v
  rw [bitP_yes (cut_rightA k h) (by omega) (by omega), bitP_yes h (by omega) (by omega), Int.toNat_natCast, bitA_cut _ _ _ (by omega)]
theorem of_holds {v : Int} {l : List Int} {k m : Int} (hl : B16 l) (h : rightA v l = true) (h0 : 0 ≤ k) (h1 : k ≤ widthA v) (g0 : 0 ≤ m) (g1 : m ≤ widthA v) : Pfx.holds ⟨v, cutA l k, k⟩ ⟨v, cutA l m, m⟩ = decide (k ≤ m) := by
  rw [Bool.eq_iff_iff, Pfx.holds_iff _ _ (cutA_16 hl k) (cutA_16 hl m), decide_eq_true_eq]
  constructor
  · intro hh
    exact hh.2.2.1
  · intro hh
    refine ⟨of_right h h0 h1, of_right h g0 g1, hh, rfl, fun i h2 h3 => ?_⟩
    have h3' : (i : Int) < k := h3
    show bitA (cutA l k) i = bitA (cutA l m) i
    rw [bitA_cut _ _ _ h2, bitA_cut _ _ _ h2, if_pos h3', if_pos (by omega)]
theorem ofE_cases (v : Int) (l : List Int) (k : Int) : (ofE v l k = 0 ∧ rightA v l = true ∧ 0 ≤ k ∧ k ≤ widthA v ∧ ofP v l k = ⟨v, cutA l k, k⟩) ∨ (ofE v l k ≠ 0 ∧ (rightA v l = false ∨ rightA v l = true ∧ k < 0 ∨ rightA v l = true ∧ 0 ≤ k ∧ (widthA v : Int) < k) ∧ ofP v l k = ⟨0, List.replicate 16 0, 0⟩) := by
  cases h : rightA v l
  · obtain ⟨h1, h2⟩ := of_wrong (k := k) h
    exact .inr ⟨by rw [h1]; decide, .inl rfl, h2⟩
  · by_cases hk : 0 ≤ k ∧ k ≤ widthA v
    · obtain ⟨h1, h2⟩ := of_ok h hk.1 hk.2
      exact .inl ⟨h1, rfl, hk.1, hk.2, h2⟩
    · obtain ⟨h1, h2⟩ := of_arg h hk
      refine .inr ⟨by rw [h1]; decide, ?_, h2⟩
      by_cases h0 : k < 0
      · exact .inr (.inl ⟨rfl, h0⟩)
      · exact .inr (.inr ⟨rfl, by omega, by omega⟩)
end Go.Proofs.YtcloepjeckbmoaaDoor
