/- Plain laws on lists of bytes and numbers (no program in sight). -/
import Derived.Test.YtcloepjeckbmoaaDoorOct
import Derived.Test.YtcloepjeckbmoaaDoorRdr
namespace Go.Proofs.YtcloepjeckbmoaaDoor
set_option linter.unusedVariables false
set_option linter.unusedSimpArgs false

theorem both_set (xs ys : List Int) (k t : Nat) (v : Int) (ht : xs.length + ys.length = t) (hk : k < t) (hv : (xs ++ ys)[k]? = some v) :
    ((xs ++ ys).take k ++ List.replicate (t - k) 0).set k v = (xs ++ ys).take (k + 1) ++ List.replicate (t - (k + 1)) 0 := by
  have hlen : (xs ++ ys).length = t := by rw [List.length_append]; exact ht
  rw [List.set_append_right _ _ (by rw [List.length_take]; omega), List.length_take, hlen, Nat.min_eq_left (Nat.le_of_lt hk), Nat.sub_self]
  obtain ⟨j, hj⟩ : ∃ j, t - k = j + 1 := ⟨t - k - 1, by omega⟩
  rw [hj, List.replicate_succ, List.set_cons_zero, show t - (k + 1) = j by omega]
  rw [List.take_succ_eq_append_getElem (by omega)]
  have : (xs ++ ys)[k] = v := by
    have := List.getElem?_eq_getElem (l := xs ++ ys) (i := k) (by omega)
    rw [hv] at this
    injection this with this
    exact this.symm
  simp [this]
theorem take_rd (xs : List Int) (k : Nat) (h : k < xs.length) : xs.take (k + 1) = xs.take k ++ [rd xs k] := by
  rw [List.take_succ_eq_append_getElem h]
  simp [rd, List.getD_eq_getElem?_getD, List.getElem?_eq_getElem h]
theorem highB_zero (n : Nat) : highB 0 n = List.replicate n 0 := by
  apply List.ext_getElem
  · simp [highB]
  · intro i h1 h2
    simp [highB]
theorem and1u64 (x : Int) (h : 0 ≤ x ∧ x < 18446744073709551616) : bits .and .u64 x 1 = x % 2 :=
  bits_mask .u64 64 (by decide) (fun n h0 h1 => by simp only [IntKind.wrap, IntKind.bits, IntKind.signed]; simp; omega) 1 (by decide) x h.1 h.2
theorem pow_pos2 (k : Nat) : (0 : Int) < 2 ^ k := Int.pow_pos (by omega)
theorem pow_le2 {i j : Nat} (h : i ≤ j) : (2 : Int) ^ i ≤ 2 ^ j := by
  have := Nat.pow_le_pow_right (n := 2) (by omega) h
  exact_mod_cast this
theorem emod_mul (x a b : Int) (ha : 0 < a) (hb : 0 < b) : x % (a * b) = x % a + a * (x / a % b) := by
  have h1 := Int.mul_ediv_add_emod x a
  have h2 := Int.mul_ediv_add_emod (x / a) b
  have e : x % a + a * (x / a % b) + a * b * (x / a / b) = x := by
    have h3 : a * (x / a) = a * (b * (x / a / b) + x / a % b) := by rw [h2]
    rw [Int.mul_add, ← Int.mul_assoc] at h3
    omega
  have r0 : 0 ≤ x % a := Int.emod_nonneg _ (by omega)
  have r1 : x % a < a := Int.emod_lt_of_pos _ ha
  have q0 : 0 ≤ x / a % b := Int.emod_nonneg _ (by omega)
  have q1 : x / a % b < b := Int.emod_lt_of_pos _ hb
  have m0 : 0 ≤ a * (x / a % b) := Int.mul_nonneg (by omega) q0
  have m1 : a * (x / a % b) ≤ a * (b - 1) := Int.mul_le_mul_of_nonneg_left (by omega) (by omega)
  rw [Int.mul_sub, Int.mul_one] at m1
  calc x % (a * b) = (x % a + a * (x / a % b) + a * b * (x / a / b)) % (a * b) := by rw [e]
    _ = (x % a + a * (x / a % b)) % (a * b) := Int.add_mul_emod_self_left _ _ _
    _ = x % a + a * (x / a % b) := Int.emod_eq_of_lt (by omega) (by omega)
theorem mod_succ (x : Int) (k : Nat) : x % 2 ^ (k + 1) = x % 2 ^ k + 2 ^ k * (x / 2 ^ k % 2) := by
  have h1 : x % 2 ^ (k + 1) = x % (2 ^ k * 2) := by rw [Int.pow_succ]
  rw [h1, emod_mul _ _ _ (pow_pos2 k) (by omega)]
theorem mod_succ_zero (x : Int) (k : Nat) (h : x / 2 ^ k % 2 = 0) : x % 2 ^ (k + 1) = x % 2 ^ k := by rw [mod_succ, h]; simp
theorem mod_succ_one (x : Int) (k : Nat) (h : x / 2 ^ k % 2 = 1) : x % 2 ^ (k + 1) = x % 2 ^ k + 2 ^ k := by rw [mod_succ, h]; simp
theorem pow_split (k i : Nat) (h : i ≤ k) : (2 : Int) ^ k = 2 ^ (k - i) * 2 ^ i := by rw [← Int.pow_add]; congr 1; omega
theorem highB_mod (x : Int) (n : Nat) : highB (x % 2 ^ (8 * n)) n = highB x n := by
  apply List.ext_getElem
  · simp [highB]
  · intro i h1 h2
    rw [highB_length] at h1
    simp only [highB, List.getElem_map, List.getElem_range]
    have e : (2 : Int) ^ (8 * n) = 2 ^ (8 * n - 8 - 8 * i) * (2 ^ (8 * i) * 256) := by
      rw [pow_split (8 * n) (8 * n - 8 - 8 * i) (by omega), show 8 * n - (8 * n - 8 - 8 * i) = 8 * i + 8 by omega, Int.pow_add, Int.mul_comm]
      rfl
    rw [e, emod_mul _ _ _ (pow_pos2 _) (by have := pow_pos2 (8 * i); omega), Int.add_mul_ediv_left _ _ (by have := pow_pos2 (8 * n - 8 - 8 * i); omega), Int.ediv_eq_zero_of_lt (Int.emod_nonneg _ (by have := pow_pos2 (8 * n - 8 - 8 * i); omega)) (Int.emod_lt_of_pos _ (pow_pos2 _)), Int.zero_add]
    rw [Int.emod_emod_of_dvd]
    exact ⟨2 ^ (8 * i), Int.mul_comm _ _⟩
theorem natAbs_pow (j : Nat) : ((2 : Int) ^ j).toNat = 2 ^ j := by
  have : (2 : Int) ^ j = ((2 ^ j : Nat) : Int) := by simp
  rw [this, Int.toNat_natCast]
theorem nat_or_low (a j : Nat) (h : a < 2 ^ j) : a ||| 2 ^ j = a + 2 ^ j := by
  rw [Nat.or_comm]
  have := Nat.two_pow_add_eq_or_of_lt h 1
  rw [Nat.mul_one] at this
  omega
theorem or_low8 (a : Int) (j : Nat) (h0 : 0 ≤ a) (h1 : a < 2 ^ j) (hj : j < 8) : bits .or .u8 a (2 ^ j % 256) = a + 2 ^ j := by
  have hp : (2 : Int) ^ j ≤ 2 ^ 7 := pow_le2 (by omega)
  have hq := pow_pos2 j
  rw [Int.emod_eq_of_lt (by omega) (by omega), u8_or _ _ h0 (by omega) (by omega) (by omega), natAbs_pow, nat_or_low _ _ (by have := natAbs_pow j; omega)]
  have := natAbs_pow j
  omega
theorem or_low64 (a : Int) (j : Nat) (h0 : 0 ≤ a) (h1 : a < 2 ^ j) (hj : j < 64) : bits .or .u64 a (IntKind.u64.wrap (2 ^ j)) = a + 2 ^ j := by
  have hw : ∀ y : Int, IntKind.u64.wrap y = y % 18446744073709551616 := fun y => by simp [IntKind.wrap, IntKind.bits, IntKind.signed]
  have hp : (2 : Int) ^ j ≤ 2 ^ 63 := pow_le2 (by omega)
  have hq := pow_pos2 j
  rw [hw, Int.emod_eq_of_lt (by omega) (by omega), u64_or _ _ h0 (by omega) (by omega) (by omega), natAbs_pow, nat_or_low _ _ (by have := natAbs_pow j; omega)]
  have := natAbs_pow j
  omega
theorem highB_get (x : Int) (n i : Nat) (h : i < n) : rd (highB x n) i = x / 2 ^ (8 * n - 8 - 8 * i) % 256 := by
  simp [rd, highB, List.getD_eq_getElem?_getD, List.getElem?_range h]
theorem highB_low (y : Int) (k n : Nat) (h0 : 0 ≤ y) (h1 : y < 2 ^ k) (hk : k < 8 * n) : 0 ≤ rd (highB y n) ((n : Int) - 1 - (k : Int) / 8) ∧ rd (highB y n) ((n : Int) - 1 - (k : Int) / 8) < 2 ^ (k % 8) := by
  have e : (n : Int) - 1 - (k : Int) / 8 = ((n - 1 - k / 8 : Nat) : Int) := by omega
  rw [e, highB_get y n _ (by omega), show 8 * n - 8 - 8 * (n - 1 - k / 8) = 8 * (k / 8) by omega]
  have hs := pow_split k (8 * (k / 8)) (by omega)
  rw [show k - 8 * (k / 8) = k % 8 by omega] at hs
  have h2 : y / 2 ^ (8 * (k / 8)) < 2 ^ (k % 8) := Int.ediv_lt_of_lt_mul (pow_pos2 _) (by rw [← hs]; exact h1)
  have h3 : 0 ≤ y / 2 ^ (8 * (k / 8)) := Int.ediv_nonneg h0 (by have := pow_pos2 (8 * (k / 8)); omega)
  have h4 : (2 : Int) ^ (k % 8) ≤ 2 ^ 7 := pow_le2 (by omega)
  omega
theorem highB_bit (y : Int) (k n : Nat) (h0 : 0 ≤ y) (h1 : y < 2 ^ k) (hk : k < 8 * n) :
    highB (y + 2 ^ k) n = (highB y n).set (n - 1 - k / 8) (rd (highB y n) ((n : Int) - 1 - (k : Int) / 8) + 2 ^ (k % 8)) := by
  have hlow := highB_low y k n h0 h1 hk
  have e : (n : Int) - 1 - (k : Int) / 8 = ((n - 1 - k / 8 : Nat) : Int) := by omega
  rw [e] at hlow ⊢
  apply List.ext_getElem
  · simp [highB]
  · intro i hi1 hi2
    rw [highB_length] at hi1
    rw [List.getElem_set]
    by_cases hi : n - 1 - k / 8 = i
    · subst hi
      rw [if_pos rfl]
      rw [highB_get y n _ (by omega), show 8 * n - 8 - 8 * (n - 1 - k / 8) = 8 * (k / 8) by omega] at hlow ⊢
      simp only [highB, List.getElem_map, List.getElem_range]
      rw [show 8 * n - 8 - 8 * (n - 1 - k / 8) = 8 * (k / 8) by omega]
      have hs := pow_split k (8 * (k / 8)) (by omega)
      rw [show k - 8 * (k / 8) = k % 8 by omega] at hs
      have h3 : 0 ≤ y / 2 ^ (8 * (k / 8)) := Int.ediv_nonneg h0 (by have := pow_pos2 (8 * (k / 8)); omega)
      have h2 : y / 2 ^ (8 * (k / 8)) < 2 ^ (k % 8) := Int.ediv_lt_of_lt_mul (pow_pos2 _) (by rw [← hs]; exact h1)
      have h4 : (2 : Int) ^ (k % 8) ≤ 2 ^ 7 := pow_le2 (by omega)
      rw [hs, Int.add_mul_ediv_right _ _ (by have := pow_pos2 (8 * (k / 8)); omega)]
      omega
    · rw [if_neg hi]
      simp only [highB, List.getElem_map, List.getElem_range]
      have hpos := pow_pos2 (8 * n - 8 - 8 * i)
      by_cases hr : k < 8 * n - 8 - 8 * i
      · have h5 : (2 : Int) ^ (k + 1) ≤ 2 ^ (8 * n - 8 - 8 * i) := pow_le2 (by omega)
        rw [Int.pow_succ] at h5
        have h6 := pow_pos2 k
        rw [Int.ediv_eq_zero_of_lt (by omega) (by omega), Int.ediv_eq_zero_of_lt (by omega) (by omega)]
      · have hs := pow_split k (8 * n - 8 - 8 * i) (by omega)
        rw [hs, Int.add_mul_ediv_right _ _ (by omega)]
        have hs2 := pow_split (k - (8 * n - 8 - 8 * i)) 8 (by omega)
        rw [hs2, show (2 : Int) ^ 8 = 256 by rfl, Int.add_mul_emod_self_right]
/-- The whole number that bytes make. -/
def fullN (l : List Int) : Int := l.foldl (fun a c => a * 256 + c) 0
theorem fullN_snoc (l : List Int) (c : Int) : fullN (l ++ [c]) = fullN l * 256 + c := by simp [fullN]
theorem snoc_ind {p : List Int → Prop} (h0 : p []) (h1 : ∀ l c, p l → p (l ++ [c])) (l : List Int) : p l := by
  have : ∀ m : List Int, p m.reverse := by
    intro m
    induction m with
    | nil => exact h0
    | cons c m ih => rw [List.reverse_cons]; exact h1 _ _ ih
  have := this l.reverse
  rwa [List.reverse_reverse] at this
theorem fullN_num (l : List Int) : fullN l % 18446744073709551616 = numOf 0 l := by
  refine snoc_ind (p := fun l => fullN l % 18446744073709551616 = numOf 0 l) (by rfl) (fun l c ih => ?_) l
  rw [fullN_snoc, numOf_snoc, ← ih]
  omega
theorem fullN_nonneg (l : List Int) (h : Bytes l) : 0 ≤ fullN l := by
  revert h
  refine snoc_ind (p := fun l => Bytes l → 0 ≤ fullN l) (fun _ => by simp [fullN]) (fun l c ih h => ?_) l
  rw [fullN_snoc]
  have h1 := ih (fun x hx => h x (List.mem_append_left _ hx))
  have h2 := h c (by simp)
  omega
theorem bitB_full (l : List Int) (h : Bytes l) : ∀ k : Nat, bitB l k = (fullN l / 2 ^ k % 2 == 1) := by
  revert h
  refine snoc_ind (p := fun l => Bytes l → ∀ k : Nat, bitB l k = (fullN l / 2 ^ k % 2 == 1)) (fun _ k => ?_) (fun l c ih h k => ?_) l
  · simp only [bitB, List.length_nil, fullN, List.foldl_nil, Int.zero_ediv]
    rw [if_neg (by omega), if_pos (by omega)]
    rfl
  · have hc := h c (by simp)
    have hl : Bytes l := fun x hx => h x (List.mem_append_left _ hx)
    rw [fullN_snoc]
    by_cases hk : k < 8
    · have e1 : bitB (l ++ [c]) k = (c / 2 ^ k % 2 == 1) := by
        simp only [bitB, List.length_append, List.length_singleton]
        rw [if_neg (by omega), if_neg (by omega)]
        have : rd (l ++ [c]) (((l.length + 1 : Nat) : Int) - 1 - (k : Int) / 8) = c := by
          rw [show (((l.length + 1 : Nat) : Int) - 1 - (k : Int) / 8) = (l.length : Int) by omega]
          simp [rd, List.getD_eq_getElem?_getD]
        rw [this, show ((k : Int) % 8).toNat = k by omega]
      rw [e1]
      have hs := pow_split 8 k (by omega)
      rw [show (256 : Int) = 2 ^ 8 by rfl, hs, ← Int.mul_assoc, Int.add_comm, Int.add_mul_ediv_right _ _ (by have := pow_pos2 k; omega)]
      have hs2 := pow_split (8 - k) 1 (by omega)
      rw [hs2, ← Int.mul_assoc, show (2 : Int) ^ 1 = 2 by rfl, Int.add_mul_emod_self_right]
    · have e1 : bitB (l ++ [c]) k = bitB l ((k - 8 : Nat) : Int) := by
        simp only [bitB, List.length_append, List.length_singleton]
        rw [if_neg (show ¬ (k : Int) < 0 by omega), if_neg (show ¬ ((k - 8 : Nat) : Int) < 0 by omega)]
        by_cases hb : (l.length : Int) ≤ ((k - 8 : Nat) : Int) / 8
        · rw [if_pos (by omega), if_pos hb]
        · rw [if_neg (by omega), if_neg hb]
          have e2 : (((l.length + 1 : Nat) : Int) - 1 - (k : Int) / 8).toNat = ((l.length : Int) - 1 - ((k - 8 : Nat) : Int) / 8).toNat := by omega
          have e3 : ((k : Int) % 8).toNat = (((k - 8 : Nat) : Int) % 8).toNat := by omega
          simp only [rd, e2, e3]
          rw [List.getD_eq_getElem?_getD, List.getElem?_append_left (by omega), ← List.getD_eq_getElem?_getD]
      rw [e1, ih hl]
      have hs := pow_split k 8 (by omega)
      rw [hs, show (2 : Int) ^ 8 = 256 by rfl, Int.mul_comm (2 ^ (k - 8)) 256, ← Int.ediv_ediv_of_nonneg (by omega)]
      rw [show (fullN l * 256 + c) / 256 = fullN l by omega]
theorem bitB_num (l : List Int) (k : Nat) (h : Bytes l) (hk : k < 64) : bitB l k = (numOf 0 l / 2 ^ k % 2 == 1) := by
  rw [bitB_full l h, ← fullN_num]
  have hs := pow_split 64 k (by omega)
  rw [show (18446744073709551616 : Int) = 2 ^ 64 by rfl, hs, Int.mul_comm (2 ^ (64 - k)) (2 ^ k), emod_mul _ _ _ (pow_pos2 k) (pow_pos2 _)]
  rw [Int.add_mul_ediv_left _ _ (by have := pow_pos2 k; omega), Int.ediv_eq_zero_of_lt (Int.emod_nonneg _ (by have := pow_pos2 k; omega)) (Int.emod_lt_of_pos _ (pow_pos2 _)), Int.zero_add]
  rw [Int.emod_emod_of_dvd]
  have hs2 := pow_split (64 - k) 1 (by omega)
  exact ⟨2 ^ (64 - k - 1), by rw [hs2, Int.mul_comm]; rfl⟩
theorem rd_append_right (ys zs : List Int) (i : Nat) (h : ys.length ≤ i) : (ys ++ zs).getD i 0 = zs.getD (i - ys.length) 0 := by
  rw [List.getD_eq_getElem?_getD, List.getElem?_append_right h, ← List.getD_eq_getElem?_getD]
theorem rd_append_left (ys zs : List Int) (i : Nat) (h : i < ys.length) : (ys ++ zs).getD i 0 = ys.getD i 0 := by
  rw [List.getD_eq_getElem?_getD, List.getElem?_append_left h, ← List.getD_eq_getElem?_getD]
theorem bitB_low (ys zs : List Int) (k : Nat) (h : k < 8 * zs.length) : bitB (ys ++ zs) k = bitB zs k := by
  simp only [bitB, List.length_append]
  rw [if_neg (show ¬ (k : Int) < 0 by omega), if_neg (by omega), if_neg (show ¬ (k : Int) < 0 by omega), if_neg (by omega)]
  simp only [rd]
  rw [rd_append_right _ _ _ (by omega)]
  congr 5
  omega
theorem bitB_above (ys zs : List Int) (k : Nat) : bitB (ys ++ zs) ((k + 8 * zs.length : Nat) : Int) = bitB ys k := by
  simp only [bitB, List.length_append]
  rw [if_neg (show ¬ ((k + 8 * zs.length : Nat) : Int) < 0 by omega), if_neg (show ¬ (k : Int) < 0 by omega)]
  by_cases hb : (ys.length : Int) ≤ (k : Int) / 8
  · rw [if_pos (by omega), if_pos hb]
  · rw [if_neg (by omega), if_neg hb]
    simp only [rd]
    rw [rd_append_left _ _ _ (by omega)]
    have e1 : (((ys.length + zs.length : Nat) : Int) - 1 - ((k + 8 * zs.length : Nat) : Int) / 8).toNat = ((ys.length : Int) - 1 - (k : Int) / 8).toNat := by omega
    have e2 : (((k + 8 * zs.length : Nat) : Int) % 8).toNat = ((k : Int) % 8).toNat := by omega
    rw [e1, e2]
theorem highB_succ (x : Int) (n : Nat) (h : 0 ≤ x) : highB x (n + 1) = highB (x / 256) n ++ [x % 256] := by
  simp only [highB, List.range_succ, List.map_append, List.map_cons, List.map_nil]
  congr 1
  · apply List.map_congr_left
    intro i hi
    rw [List.mem_range] at hi
    rw [show (256 : Int) = 2 ^ 8 by rfl, Int.ediv_ediv_of_nonneg (by omega), ← Int.pow_add, show 8 + (8 * n - 8 - 8 * i) = 8 * (n + 1) - 8 - 8 * i by omega]
  · rw [show 8 * (n + 1) - 8 - 8 * n = 0 by omega]
    simp
theorem fullN_high (ys : List Int) (n : Nat) : ∀ x : Int, 0 ≤ x → fullN (ys ++ highB x n) = fullN ys * 2 ^ (8 * n) + x % 2 ^ (8 * n) := by
  induction n with
  | zero => intro x h; simp [highB, Int.emod_one]
  | succ n ih =>
    intro x h
    rw [highB_succ x n h, ← List.append_assoc, fullN_snoc, ih _ (Int.ediv_nonneg h (by omega))]
    have e : (2 : Int) ^ (8 * (n + 1)) = 256 * 2 ^ (8 * n) := by rw [show 8 * (n + 1) = 8 + 8 * n by omega, Int.pow_add]; rfl
    rw [e, emod_mul _ _ _ (by omega) (pow_pos2 _), Int.add_mul, Int.mul_assoc, Int.mul_comm (2 ^ (8 * n)) 256, Int.mul_comm (x / 256 % 2 ^ (8 * n)) 256]
    omega
theorem bit_of_mod (x : Int) (k n : Nat) (h : k < n) : x % 2 ^ n / 2 ^ k % 2 = x / 2 ^ k % 2 := by
  have hs := pow_split n k (by omega)
  rw [hs, Int.mul_comm (2 ^ (n - k)) (2 ^ k), emod_mul _ _ _ (pow_pos2 k) (pow_pos2 _)]
  rw [Int.add_mul_ediv_left _ _ (by have := pow_pos2 k; omega), Int.ediv_eq_zero_of_lt (Int.emod_nonneg _ (by have := pow_pos2 k; omega)) (Int.emod_lt_of_pos _ (pow_pos2 _)), Int.zero_add]
  rw [Int.emod_emod_of_dvd]
  have hs2 := pow_split (n - k) 1 (by omega)
  exact ⟨2 ^ (n - k - 1), by rw [hs2, Int.mul_comm]; rfl⟩
theorem bitB_high (x : Int) (n k : Nat) (h0 : 0 ≤ x) (hk : k < 8 * n) (ys : List Int) : bitB (ys ++ highB x n) k = (x / 2 ^ k % 2 == 1) := by
  rw [bitB_low _ _ _ (by rw [highB_length]; exact hk), bitB_full _ (highB_bytes x n)]
  have h1 := fullN_high [] n x h0
  rw [List.nil_append] at h1
  rw [h1, show fullN [] = 0 by rfl, Int.zero_mul, Int.zero_add, bit_of_mod _ _ _ hk]
theorem bitB_neg (ys : List Int) (k : Int) (h : k < 0) : bitB ys k = false := by simp [bitB, h]
theorem bitB_over (ys : List Int) (k : Nat) (h : 8 * ys.length ≤ k) : bitB ys k = false := by
  simp only [bitB]
  rw [if_neg (show ¬ (k : Int) < 0 by omega), if_pos (by omega)]

end Go.Proofs.YtcloepjeckbmoaaDoor
