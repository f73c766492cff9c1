/- Plain laws of layer 5, third part: bits, nibbles, prefixes of an address. -/
import Derived.Test.YtcloepjeckbmoaaDoorPureP2
namespace Go.Proofs.YtcloepjeckbmoaaDoor
set_option linter.unusedVariables false
set_option linter.unusedSimpArgs false

def errA (v : Int) (l : List Int) : Int := if rightA v l then 0 else 150
def errP (v : Int) (l : List Int) (b : Int) : Int := if rightP v l b then 0 else 151
theorem errP_true {v : Int} {l : List Int} {b : Int} (h : rightP v l b = true) : errP v l b = 0 := by unfold errP; rw [h]; rfl
theorem errP_false {v : Int} {l : List Int} {b : Int} (h : rightP v l b = false) : errP v l b = 151 := by unfold errP; rw [h]; rfl
theorem errA_true {v : Int} {l : List Int} (h : rightA v l = true) : errA v l = 0 := by unfold errA; rw [h]; rfl
theorem errA_false {v : Int} {l : List Int} (h : rightA v l = false) : errA v l = 150 := by unfold errA; rw [h]; rfl

/-- A bit of an address; nought where there is none. -/
def bitP (v : Int) (l : List Int) (i : Int) : Int := if rightA v l = true ∧ 0 ≤ i ∧ i < widthA v then bitA l i.toNat else 0
theorem bitP_no {v : Int} {l : List Int} {i : Int} (h : ¬ (rightA v l = true ∧ 0 ≤ i ∧ i < widthA v)) : bitP v l i = 0 := if_neg h
theorem bitP_yes {v : Int} {l : List Int} {i : Int} (h : rightA v l = true) (h0 : 0 ≤ i) (h1 : i < widthA v) : bitP v l i = bitA l i.toNat := if_pos ⟨h, h0, h1⟩
theorem bitP_range (v : Int) (l : List Int) (i : Int) : 0 ≤ bitP v l i ∧ bitP v l i ≤ 1 := by
  unfold bitP
  split
  · have := bitA_range l i.toNat; omega
  · omega
/-- Four bits of an address, as the document has them. -/
def nibP (v : Int) (l : List Int) (i : Int) : Int := if i < 0 ∨ 31 < i then 0 else 8 * bitP v l (4 * i) + 4 * bitP v l (4 * i + 1) + 2 * bitP v l (4 * i + 2) + bitP v l (4 * i + 3)
theorem width_cases (v : Int) : widthA v = 0 ∨ widthA v = 32 ∨ widthA v = 128 := by
  unfold widthA; split
  · omega
  · split <;> omega
theorem nibP_no {v : Int} {l : List Int} {i : Int} (h : ¬ (rightA v l = true ∧ 0 ≤ i ∧ i < (widthA v / 4 : Nat))) : nibP v l i = 0 := by
  unfold nibP
  split
  · rfl
  · rename_i hi
    have hw := width_cases v
    rw [bitP_no, bitP_no, bitP_no, bitP_no]
    · rfl
    all_goals
      rintro ⟨h1, h2, h3⟩
      exact h ⟨h1, by omega, by omega⟩
theorem nib_byte (x : Int) (h0 : 0 ≤ x) (h1 : x < 256) (r : Nat) (hr : r < 2) : 8 * (x / 2 ^ (7 - (4 * r)) % 2) + 4 * (x / 2 ^ (7 - (4 * r + 1)) % 2) + 2 * (x / 2 ^ (7 - (4 * r + 2)) % 2) + x / 2 ^ (7 - (4 * r + 3)) % 2 = x / 2 ^ (4 - 4 * r) % 16 := by
  have : r = 0 ∨ r = 1 := by omega
  rcases this with rfl | rfl <;> simp <;> omega
theorem nibP_yes {v : Int} {l : List Int} {i : Int} (hl : B16 l) (h : rightA v l = true) (h0 : 0 ≤ i) (h1 : i < (widthA v / 4 : Nat)) : nibP v l i = rd l (i / 2) / 2 ^ (4 - 4 * (i % 2)).toNat % 16 := by
  have hw := width_cases v
  obtain ⟨k, rfl⟩ := Int.eq_ofNat_of_zero_le h0
  unfold nibP
  rw [if_neg (by omega), bitP_yes h (by omega) (by omega), bitP_yes h (by omega) (by omega), bitP_yes h (by omega) (by omega), bitP_yes h (by omega) (by omega)]
  obtain ⟨q, r, rfl, hr⟩ : ∃ q r, k = 2 * q + r ∧ r < 2 := ⟨k / 2, k % 2, by omega, by omega⟩
  rw [show (4 * ((2 * q + r : Nat) : Int)).toNat = 8 * q + 4 * r by omega, show (4 * ((2 * q + r : Nat) : Int) + 1).toNat = 8 * q + (4 * r + 1) by omega, show (4 * ((2 * q + r : Nat) : Int) + 2).toNat = 8 * q + (4 * r + 2) by omega, show (4 * ((2 * q + r : Nat) : Int) + 3).toNat = 8 * q + (4 * r + 3) by omega]
  rw [bitA_mk _ _ _ (by omega), bitA_mk _ _ _ (by omega), bitA_mk _ _ _ (by omega), bitA_mk _ _ _ (by omega)]
  rw [show ((2 * q + r : Nat) : Int) / 2 = q by omega, show (4 - 4 * (((2 * q + r : Nat) : Int) % 2)).toNat = 4 - 4 * r by omega]
  exact nib_byte _ (hl.rd _).1 (hl.rd _).2 r hr

/-- The prefix of so many bits of an address; the error. -/
def ofE (v : Int) (l : List Int) (k : Int) : Int := if rightA v l = true then (if 0 ≤ k ∧ k ≤ widthA v then 0 else 2) else 150
def ofP (v : Int) (l : List Int) (k : Int) : Pfx := if rightA v l = true ∧ 0 ≤ k ∧ k ≤ widthA v then ⟨v, cutA l k, k⟩ else ⟨0, List.replicate 16 0, 0⟩
theorem of_wrong {v : Int} {l : List Int} {k : Int} (h : rightA v l = false) : ofE v l k = 150 ∧ ofP v l k = ⟨0, List.replicate 16 0, 0⟩ := by
  unfold ofE ofP
  rw [if_neg (by rw [h]; simp), if_neg (by rw [h]; simp)]
  exact ⟨rfl, rfl⟩
theorem of_arg {v : Int} {l : List Int} {k : Int} (h : rightA v l = true) (hk : ¬ (0 ≤ k ∧ k ≤ widthA v)) : ofE v l k = 2 ∧ ofP v l k = ⟨0, List.replicate 16 0, 0⟩ := by
  unfold ofE ofP
  rw [if_pos h, if_neg hk, if_neg (fun h => hk h.2)]
  exact ⟨rfl, rfl⟩
theorem of_ok {v : Int} {l : List Int} {k : Int} (h : rightA v l = true) (h0 : 0 ≤ k) (h1 : k ≤ widthA v) : ofE v l k = 0 ∧ ofP v l k = ⟨v, cutA l k, k⟩ := by
  unfold ofE ofP
  rw [if_pos h, if_pos ⟨h0, h1⟩, if_pos ⟨h, h0, h1⟩]
  exact ⟨rfl, rfl⟩
theorem ofP_16 {v : Int} {l : List Int} (k : Int) (hl : B16 l) : B16 (ofP v l k).l := by
  unfold ofP
  split
  · exact cutA_16 hl k
  · exact ⟨rfl, fun x hx => by simp at hx; omega⟩
end Go.Proofs.YtcloepjeckbmoaaDoor
