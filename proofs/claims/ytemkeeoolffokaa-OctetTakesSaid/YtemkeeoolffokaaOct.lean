/- Contracts of package octet. -/
import Derived.Test.YtemkeeoolffokaaLib
namespace Go.Proofs.Ytemkeeoolffokaa
open Go.RowKit
set_option linter.unusedVariables false
set_option linter.unusedSimpArgs false

def bitB (xs : List Int) (k : Int) : Bool := if k < 0 then false else if (xs.length : Int) ≤ k / 8 then false else (rd xs ((xs.length : Int) - 1 - k / 8)) / 2 ^ (k % 8).toNat % 2 == 1
theorem bits_and1 (x : Int) (h0 : 0 ≤ x) (h1 : x < 256) : bits .and .u8 x 1 = x % 2 := bits_mask .u8 8 (by decide) wraps_u8 1 (by decide) x h0 h1
theorem div_lt256 (x : Int) (k : Nat) (h0 : 0 ≤ x) (h1 : x < 256) : 0 ≤ x / 2 ^ k ∧ x / 2 ^ k < 256 :=
  ⟨Int.ediv_nonneg h0 (Int.pow_nonneg (by omega)), Int.lt_of_le_of_lt (Int.ediv_le_self _ h0) h1⟩

theorem bit_any (A : Option Addr) (n c : Nat) (xs : List Int) (k : Int) (w : World) (hr : RB w A n c xs) (hk : k ≤ 9223372036854775807) :
    Calls Try.prog 15 #[.slice A n c, .int .i64 k] w fun e w' => e = .returned (.bool (bitB xs k)) ∧ w = w' := by
  by_cases h0 : k < 0
  · go_enter Try.func15, Try.ntmps15
    go_wp2
    go_ret
    exact ⟨by simp [bitB, h0], rfl⟩
  · have h0' : 0 ≤ k := by omega
    have H0 := Lib.hid h0
    clear h0
    have HL := Lib.hid hr.len
    by_cases h1 : (n : Int) ≤ k / 8
    · go_enter Try.func15, Try.ntmps15
      go_wp2
      go_ret
      exact ⟨by simp [bitB, HL.out, h1], rfl⟩
    · have h1' : k / 8 < n := by omega
      have h1'' : 0 ≤ k / 8 := by omega
      have H1 := Lib.hid h1
      clear h1
      have hn := hr.small
      have HG := Lib.hid (hr.rng ((n : Int) - 1 - k / 8))
      obtain ⟨ad, rfl, hc⟩ := hr.at_ ((n : Int) - 1 - k / 8) (by omega) (by omega)
      go_enter Try.func15, Try.ntmps15
      go_wp2
      go_ret
      have hd := div_lt256 (rd xs ((n : Int) - 1 - k / 8)) (k % 8).toNat HG.out.1 HG.out.2
      have hb := bits_and1 _ hd.1 hd.2
      refine ⟨?_, rfl⟩
      simp only [bitB, HL.out, if_neg (show ¬ k < 0 by omega), if_neg (show ¬ (n : Int) ≤ k / 8 by omega), ← hb]
      simp

theorem clone_any (A : Option Addr) (n c : Nat) (xs : List Int) (w : World) (hr : RB w A n c xs) (hn : n ≤ 140737488355328) :
    Calls Try.prog 51 #[.slice A n c] w fun e w' => ∃ A' c', e = .returned (.slice A' n c') ∧ OB w' w.heap.size A' n c' xs ∧ Below w.heap.size w w' := by
  cases A with
  | none =>
    have h0 : n = 0 := by
      rcases Nat.eq_zero_or_pos n with h | h
      · exact h
      · obtain ⟨ad, e, _⟩ := hr.rv.cells h
        cases e
    subst h0
    obtain rfl : xs = [] := List.eq_nil_of_length_eq_zero hr.len
    go_enter Try.func51, Try.ntmps51
    go_wp2
    go_ret
    exact ⟨_, _, rfl, OB.nil _ _, Below.refl _ _⟩
  | some ad =>
    go_enter Try.func51, Try.ntmps51
    go_wp2_with (at_builtin; refine wpList_append_bytes rfl (.tmp 5) (.tmp 6) rfl rfl rfl (OB.empty w w.heap.size (Nat.le_refl _)) (hr.below (below_alloc (Below.refl _ _) _)) (by simp) (by omega) ?_; intro A' c' w' h1 h2 h3; rw [Nat.zero_add, List.nil_append] at h1; rw [Nat.zero_add])
    go_ret
    exact ⟨_, _, rfl, h1, below_own (below_alloc (Below.refl _ _) _) h2 (fun ad h => by injection h with h; subst h; exact Nat.le_refl _)⟩

/-- slices.Grow on bytes of the call's own. -/
theorem grow_any (base : Nat) (A : Option Addr) (n c : Nat) (xs : List Int) (k : Int) (w : World) (ho : OB w base A n c xs) (hb : base ≤ w.heap.size) (hk0 : 0 ≤ k) (hk1 : k ≤ 1000000) (hn : n ≤ 140737400000000) :
    Calls Try.prog 59 #[.slice A n c, .int .i64 k] w fun e w' => ∃ A' c', e = .returned (.slice A' n c') ∧ OB w' base A' n c' xs ∧ (A' = A ∨ ∀ ad, A' = some ad → w.heap.size ≤ ad.block) ∧ Below w.heap.size w w' := by
  have hcap := ho.cap
  have hmax : c ≤ 9223372036854775807 := ho.ov.capmax
  by_cases h1 : k ≤ (c : Int) - n
  · go_enter Try.func59, Try.ntmps59
    go_wp2
    go_ret
    exact ⟨_, _, rfl, ho, .inl rfl, Below.refl _ _⟩
  · have h1' : (c : Int) - n < k := by omega
    clear h1
    go_enter Try.func59, Try.ntmps59
    go_wp2_with (at_builtin; refine wpList_grow_bytes rfl (.tmp 20) (.tmp 21) rfl rfl rfl ho (by omega) hb (by omega) ?_; intro A' c' w' m h1 h2 h3 h4 h5)
    go_ret
    have h1f := h1.take n c' (Nat.le_refl _) h1.cap (Nat.le_refl _)
    rw [List.take_of_length_le (by rw [h1.len]; exact Nat.le_refl _)] at h1f
    exact ⟨_, _, by simp, h1f, .inr h3, h2⟩

theorem clip_any (A : Option Addr) (n c : Nat) (w : World) (hc : n ≤ c) :
    Calls Try.prog 60 #[.slice A n c] w fun e w' => e = .returned (.slice A n n) ∧ w = w' := by
  go_enter Try.func60, Try.ntmps60
  go_wp2
  go_ret
  exact ⟨by simp, rfl⟩

/-- A number's bytes, the highest first. -/
def highB (x : Int) (n : Nat) : List Int := (List.range n).map fun i => x / 2 ^ (8 * n - 8 - 8 * i) % 256
theorem highB_length (x : Int) (n : Nat) : (highB x n).length = n := by simp [highB]
theorem highB_bytes (x : Int) (n : Nat) : Bytes (highB x n) := by
  intro y hy
  simp only [highB, List.mem_map] at hy
  obtain ⟨i, _, rfl⟩ := hy
  omega
theorem highB_take (x : Int) (n k : Nat) (h : k < n) : (highB x n).take (k + 1) = (highB x n).take k ++ [x / 2 ^ (8 * n - 8 - 8 * k) % 256] := by
  rw [List.take_succ_eq_append_getElem (by rw [highB_length]; exact h)]
  simp [highB]

theorem and255 (x : Int) (h : 0 ≤ x ∧ x < 18446744073709551616) : bits .and .u64 x 255 % 256 = x % 256 := by
  rw [show bits .and .u64 x 255 = x % 256 from bits_mask .u64 64 (by decide) (fun n h0 h1 => by simp only [IntKind.wrap, IntKind.bits, IntKind.signed]; simp; omega) 8 (by decide) x h.1 h.2]
  omega
theorem div_ltu64 (x : Int) (k : Nat) (h0 : 0 ≤ x) (h1 : x < 18446744073709551616) : 0 ≤ x / 2 ^ k ∧ x / 2 ^ k < 18446744073709551616 :=
  ⟨Int.ediv_nonneg h0 (Int.pow_nonneg (by omega)), Int.lt_of_le_of_lt (Int.ediv_le_self _ h0) h1⟩
theorem goes_any (A : Option Addr) (n c : Nat) (xs : List Int) (x : Int) (m : Nat) (w : World) (hr : RB w A n c xs) (hn : n ≤ 140737300000000) (hx0 : 0 ≤ x) (hx1 : x < 18446744073709551616) (hm : m ≤ 8) :
    Calls Try.prog 48 #[.slice A n c, .int .u64 x, .int .i64 m] w fun e w' => ∃ A', e = .returned (.slice A' (n + m) (n + m)) ∧ OB w' w.heap.size A' (n + m) (n + m) (xs ++ highB x m) ∧ Below w.heap.size w w' := by
  go_enter Try.func48, Try.ntmps48
  go_wp2_with fail
  refine (clone_any A n c xs w hr (by omega)).mono ?_
  rintro e w1 ⟨A1, c1, rfl, h1, hb1⟩
  go_wp2_with fail
  have hb1s := hb1.size
  refine (grow_any w.heap.size A1 n c1 xs m w1 h1 hb1s (by omega) (by omega) (by omega)).mono ?_
  rintro e w2 ⟨A2, c2, rfl, h2, -, hb2⟩
  go_wp2
  have HB2 := Lib.hid (below_step hb1 hb2)
  have H2 := Lib.hid h2
  have HS := Lib.hid hb1s
  clear hb1 hb2 h2 h1 hb1s
  go_loopw [7, 14] (fun v i wr => ∃ (k : Nat) (A3 : Option Addr) (c3 : Nat), i = .int .i64 k ∧ v = .slice A3 (n + k) c3 ∧ Hid (k ≤ m ∧ OB wr w.heap.size A3 (n + k) c3 (xs ++ (highB x m).take k) ∧ Below w.heap.size w wr)) (fun _ i _ => m - (intOf i).toNat)
  case atStart => exact ⟨0, A2, c2, rfl, rfl, Nat.zero_le _, by simpa using H2.out, HB2.out⟩
  case round =>
    obtain ⟨k, A3, c3, rfl, rfl, HH⟩ := hrel
    have hkm := HH.out.1
    by_cases hlt : k < m
    · have hs0 : 0 ≤ 8 * (m : Int) - 8 - 8 * (k : Int) := by omega
      have hs1 : 8 * (m : Int) - 8 - 8 * (k : Int) < 64 := by omega
      have HV : bits .and .u64 (x / 2 ^ (8 * m - 8 - 8 * k)) 255 % 256 = x / 2 ^ (8 * m - 8 - 8 * k) % 256 := and255 _ (div_ltu64 x _ hx0 hx1)
      have hOB := HH.out.2.1
      have hBL := HH.out.2.2
      go_wp2_with (at_builtin; refine wpList_append_bytes rfl (.tmp 17) (.tmp 28) rfl rfl rfl (hOB.below (below_alloc (Below.refl _ _) _)) (RB.one _ _ (by omega) (by omega)) (by have := hBL.size; simp; omega) (by omega) ?_; intro A4 c4 w4 h1 h2 h3; have hn1 := Lib.hid (And.intro h1 h2); clear h1 h2 h3)
      go_roundw
      case rel =>
        refine ⟨k + 1, A4, c4, by go_num, by rw [Nat.add_assoc], by omega, ?_, ?_⟩
        · rw [highB_take x m k hlt, ← List.append_assoc, ← Nat.add_assoc]
          exact hn1.out.1
        · exact (hBL.alloc hBL.size _).grown hn1.out.2 (by have := hBL.size; simp; omega) (own_row hOB.base_)
      case measure => simp [intOf]; omega
    · obtain rfl : k = m := by omega
      clear hlt
      have hOB := HH.out.2.1
      have hBL := HH.out.2.2
      have hcp := hOB.cap
      go_wp2_with (go_at_call 60; refine (clip_any _ _ _ _ hcp).mono ?_; rintro e w' ⟨rfl, rfl⟩)
      go_ret
      rw [List.take_of_length_le (by rw [highB_length]; exact Nat.le_refl _)] at hOB
      have h1f := hOB.take (n + k) (n + k) (Nat.le_refl _) (Nat.le_refl _) hOB.cap
      rw [List.take_of_length_le (by rw [hOB.len]; exact Nat.le_refl _)] at h1f
      exact ⟨_, rfl, h1f, hBL⟩


theorem put64_any (A : Option Addr) (n c : Nat) (xs : List Int) (x : Int) (w : World) (hr : RB w A n c xs) (hn : n ≤ 140737300000000) (hx0 : 0 ≤ x) (hx1 : x < 18446744073709551616) :
    Calls Try.prog 17 #[.slice A n c, .int .u64 x] w fun e w' => ∃ A', e = .returned (.slice A' (n + 8) (n + 8)) ∧ OB w' w.heap.size A' (n + 8) (n + 8) (xs ++ highB x 8) ∧ Below w.heap.size w w' := by
  go_enter Try.func17, Try.ntmps17
  go_wp2_with fail
  refine (goes_any A n c xs x 8 w hr hn hx0 hx1 (by omega)).mono ?_
  rintro e w1 ⟨A1, rfl, h1, hb1⟩
  go_wp2
  go_ret
  exact ⟨_, rfl, h1, hb1⟩
theorem put32_any (A : Option Addr) (n c : Nat) (xs : List Int) (x : Int) (w : World) (hr : RB w A n c xs) (hn : n ≤ 140737300000000) (hx0 : 0 ≤ x) (hx1 : x < 4294967296) :
    Calls Try.prog 19 #[.slice A n c, .int .u32 x] w fun e w' => ∃ A', e = .returned (.slice A' (n + 4) (n + 4)) ∧ OB w' w.heap.size A' (n + 4) (n + 4) (xs ++ highB x 4) ∧ Below w.heap.size w w' := by
  go_enter Try.func19, Try.ntmps19
  go_wp2_with fail
  refine (goes_any A n c xs x 4 w hr hn hx0 (by omega) (by omega)).mono ?_
  rintro e w1 ⟨A1, rfl, h1, hb1⟩
  go_wp2
  go_ret
  exact ⟨_, rfl, h1, hb1⟩
theorem put16_any (A : Option Addr) (n c : Nat) (xs : List Int) (x : Int) (w : World) (hr : RB w A n c xs) (hn : n ≤ 140737300000000) (hx0 : 0 ≤ x) (hx1 : x < 65536) :
    Calls Try.prog 18 #[.slice A n c, .int .u16 x] w fun e w' => ∃ A', e = .returned (.slice A' (n + 2) (n + 2)) ∧ OB w' w.heap.size A' (n + 2) (n + 2) (xs ++ highB x 2) ∧ Below w.heap.size w w' := by
  go_enter Try.func18, Try.ntmps18
  go_wp2_with fail
  refine (goes_any A n c xs x 2 w hr hn hx0 (by omega) (by omega)).mono ?_
  rintro e w1 ⟨A1, rfl, h1, hb1⟩
  go_wp2
  go_ret
  exact ⟨_, rfl, h1, hb1⟩

end Go.Proofs.Ytemkeeoolffokaa
