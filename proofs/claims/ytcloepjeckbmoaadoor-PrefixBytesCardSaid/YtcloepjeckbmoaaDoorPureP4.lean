/- Plain laws of layer 5, fourth part: what bytes tell. -/
import Derived.Test.YtcloepjeckbmoaaDoorPureP3
namespace Go.Proofs.YtcloepjeckbmoaaDoor
set_option linter.unusedVariables false
set_option linter.unusedSimpArgs false

def fullB (b : Int) : Nat := ((b + 7) / 8).toNat
/-- Bytes, noughts behind them: sixteen. -/
def pad (l : List Int) : List Int := l ++ List.replicate (16 - l.length) 0
theorem pad_len {l : List Int} (h : l.length ≤ 16) : (pad l).length = 16 := by simp [pad]; omega
theorem pad_16 {l : List Int} (h : l.length ≤ 16) (hb : Bytes l) : B16 (pad l) :=
  ⟨pad_len h, hb.append (fun x hx => by have := List.eq_of_mem_replicate hx; omega)⟩
theorem pad_nil : pad [] = List.replicate 16 0 := rfl
theorem rd_pad (l : List Int) (i : Nat) : rd (pad l) (i : Int) = if i < l.length then rd l (i : Int) else 0 := by
  simp only [rd, pad, Int.toNat_natCast, List.getD_eq_getElem?_getD]
  by_cases h : i < l.length
  · rw [if_pos h, List.getElem?_append_left h]
  · rw [if_neg h, List.getElem?_append_right (by omega), List.getElem?_replicate]
    split <;> rfl
theorem rd_take (l : List Int) (k i : Nat) : rd (l.take k) (i : Int) = if i < k then rd l (i : Int) else 0 := by
  simp only [rd, Int.toNat_natCast, List.getD_eq_getElem?_getD, List.getElem?_take]
  split <;> rfl
theorem rd_beyond (l : List Int) (i : Nat) (h : l.length ≤ i) : rd l (i : Int) = 0 := by
  simp only [rd, Int.toNat_natCast, List.getD_eq_getElem?_getD]
  rw [List.getElem?_eq_none h]
  rfl
theorem rd_setN (l : List Int) (q i : Nat) (y : Int) (hq : q < l.length) : rd (l.set q y) (i : Int) = if i = q then y else rd l (i : Int) := by
  simp only [rd, Int.toNat_natCast, List.getD_eq_getElem?_getD, List.getElem?_set]
  by_cases h : i = q
  · subst h; simp [hq]
  · rw [if_neg (fun e => h e.symm), if_neg h]
theorem ext_rd {l m : List Int} (hlm : l.length = m.length) (h : ∀ i : Nat, i < l.length → rd l (i : Int) = rd m (i : Int)) : l = m := by
  apply List.ext_getElem hlm
  intro j h1 h2
  have := h j h1
  simpa [rd, List.getD_eq_getElem?_getD, h1, h2] using this
theorem pad_set (xs : List Int) (k : Nat) (hk : k < xs.length) (h16 : k < 16) : (pad (xs.take k)).set k (rd xs (k : Int)) = pad (xs.take (k + 1)) := by
  have h1 : (xs.take k).length = k := by rw [List.length_take]; omega
  have h2 : (xs.take (k + 1)).length = k + 1 := by rw [List.length_take]; omega
  refine ext_rd (by rw [List.length_set, pad_len (by omega), pad_len (by omega)]) (fun i hi => ?_)
  rw [rd_setN _ _ _ _ (by rw [pad_len (by omega)]; omega), rd_pad, rd_pad, h1, h2, rd_take, rd_take]
  by_cases h : i = k
  · subst h; rw [if_pos rfl, if_pos (by omega), if_pos (by omega)]
  · rw [if_neg h]
    by_cases h3 : i < k
    · rw [if_pos h3, if_pos h3, if_pos (by omega), if_pos (by omega)]
    · rw [if_neg h3, if_neg (by omega)]
theorem cut_clear {l : List Int} (hl : B16 l) (k : Nat) : cutA l k = l ↔ clearA l k = true := by
  rw [clearA_iff]
  constructor
  · intro h i h1 h2
    rw [← h, bitA_cut _ _ _ h2, if_neg (by omega)]
  · intro h
    refine ext16 (cutA_16 hl _) hl (fun i hi => ?_)
    rw [bitA_cut _ _ _ hi]
    by_cases h1 : i < k
    · rw [if_pos (by omega)]
    · rw [if_neg (by omega), h i (by omega) hi]
/-- A bit behind the last byte is nought. -/
theorem bit_pad (l : List Int) (i : Nat) (h : 8 * l.length ≤ i) : bitA (pad l) i = 0 := by
  unfold bitA
  rw [rd_pad, if_neg (by omega)]
  simp
theorem clear_pad (l : List Int) (k : Nat) (h : 8 * l.length ≤ k) : clearA (pad l) k = true := by
  rw [clearA_iff]
  intro i h1 h2
  exact bit_pad l i (by omega)

/-- What the bytes of an address are, of which so many bits may be set. -/
def someE (xs : List Int) (bits : Nat) (wrong : Int) : Int := if xs.length < fullB bits then 7 else if clearA (pad (xs.take (fullB bits))) bits then 0 else wrong
def someL (xs : List Int) (bits : Nat) (wrong : Int) : List Int := if someE xs bits wrong = 0 then pad (xs.take (fullB bits)) else List.replicate 16 0
theorem fullB_lt {bits i : Nat} (h : i + 1 < fullB bits) : 8 * (i + 1) ≤ bits := by unfold fullB at h; omega
theorem fullB_le {bits : Nat} (h : bits ≤ 128) : fullB bits ≤ 16 := by unfold fullB; omega
theorem some_short {xs : List Int} {bits : Nat} {wrong : Int} (h : xs.length < fullB bits) : someE xs bits wrong = 7 := if_pos h
theorem some_wrong {xs : List Int} {bits : Nat} {wrong : Int} (h : fullB bits ≤ xs.length) (hc : clearA (pad (xs.take (fullB bits))) bits = false) : someE xs bits wrong = wrong := by
  unfold someE
  rw [if_neg (by omega), if_neg (by rw [hc]; simp)]
theorem some_ok {xs : List Int} {bits : Nat} {wrong : Int} (h : fullB bits ≤ xs.length) (hc : clearA (pad (xs.take (fullB bits))) bits = true) : someE xs bits wrong = 0 := by
  unfold someE
  rw [if_neg (by omega), if_pos hc]
theorem someL_no {xs : List Int} {bits : Nat} {wrong : Int} (h : someE xs bits wrong ≠ 0) : someL xs bits wrong = List.replicate 16 0 := if_neg h
theorem someL_ok {xs : List Int} {bits : Nat} {wrong : Int} (h : someE xs bits wrong = 0) : someL xs bits wrong = pad (xs.take (fullB bits)) := if_pos h
theorem someL_16 {xs : List Int} {bits : Nat} {wrong : Int} (hx : Bytes xs) (hb : bits ≤ 128) : B16 (someL xs bits wrong) := by
  unfold someL
  split
  · exact pad_16 (by rw [List.length_take]; have := fullB_le hb; omega) (hx.take _)
  · exact ⟨rfl, fun x hx => by have := List.eq_of_mem_replicate hx; omega⟩

def verE (xs : List Int) (wrong : Int) : Int := if xs.length = 0 then 7 else if widthA (rd xs 0) = 0 then wrong else 0
def verV (xs : List Int) (wrong : Int) : Int := if verE xs wrong = 0 then rd xs 0 else 0
/-- An address with whose bytes others begin: the error, and what it is, how many. -/
def decAE (xs : List Int) : Int := if verE xs 150 ≠ 0 then verE xs 150 else someE (xs.drop 1) (widthA (rd xs 0)) 150
def decAV (xs : List Int) : Int := if decAE xs = 0 then rd xs 0 else 0
def decAL (xs : List Int) : List Int := if decAE xs = 0 then pad ((xs.drop 1).take (widthA (rd xs 0) / 8)) else List.replicate 16 0
def decAN (xs : List Int) : Int := if decAE xs = 0 then 1 + widthA (rd xs 0) / 8 else 0
/-- A prefix. -/
def decPE (xs : List Int) : Int := if verE xs 151 ≠ 0 then verE xs 151 else if xs.length < 2 then 7 else if (widthA (rd xs 0) : Int) < rd xs 1 then 151 else someE (xs.drop 2) (rd xs 1).toNat 151
def decP (xs : List Int) : Pfx := if decPE xs = 0 then ⟨rd xs 0, pad ((xs.drop 2).take (fullB (rd xs 1))), rd xs 1⟩ else ⟨0, List.replicate 16 0, 0⟩
def decPN (xs : List Int) : Int := if decPE xs = 0 then 2 + fullB (rd xs 1) else 0
theorem verE_nil (wrong : Int) : verE [] wrong = 7 := rfl
theorem verE_cons {xs : List Int} (h : 0 < xs.length) (wrong : Int) : verE xs wrong = if widthA (rd xs 0) = 0 then wrong else 0 := by
  unfold verE
  rw [if_neg (by omega)]
end Go.Proofs.YtcloepjeckbmoaaDoor
