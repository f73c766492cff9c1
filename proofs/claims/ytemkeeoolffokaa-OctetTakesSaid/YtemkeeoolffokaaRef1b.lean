/- The references High and Number. -/
import Derived.Test.YtemkeeoolffokaaRef1
namespace Go.Proofs.Ytemkeeoolffokaa
open Go.RowKit
set_option linter.unusedVariables false
set_option linter.unusedSimpArgs false

theorem high_any (x : Int) (m : Nat) (w : World) (hx0 : 0 ≤ x) (hx1 : x < 18446744073709551616) (hm : m ≤ 8) :
    Calls Try.prog 43 #[.int .u64 x, .int .i64 m] w fun e w' => ∃ A', e = .returned (.slice A' m m) ∧ OB w' w.heap.size A' m m (highB x m) ∧ Below w.heap.size w w' := by
  have hmk := make_bytes m (by omega)
  go_enter Try.func43, Try.ntmps43
  go_wp2
  clear hmk
  go_loopw [6] (fun i wr => ∃ k : Nat, i = .int .i64 k ∧ Hid (k ≤ 8 * m ∧ Blk wr w.heap.size (highB (x % 2 ^ k) m) ∧ Below w.heap.size w wr)) (fun i _ => 8 * m - (intOf i).toNat)
  case atStart => exact ⟨0, rfl, Nat.zero_le _, by rw [show x % 2 ^ 0 = 0 by simp, highB_zero]; exact Blk.new w m, below_alloc (Below.refl _ _) _⟩
  case round =>
    obtain ⟨k, rfl, HH⟩ := hrel
    have hkm : k ≤ 8 * m := HH.out.1
    by_cases hlt : k < 8 * m
    · have HLT := Lib.hid hlt
      have hk64 : k < 64 := by omega
      have hd := div_ltu64 x k hx0 hx1
      have hbit := and1u64 _ hd
      have hd0 := hd.1
      by_cases hone : x / 2 ^ k % 2 = 1
      · have hlen : (highB (x % 2 ^ k) m).length = m := highB_length _ _
        obtain ⟨hc, hf⟩ := HH.out.2.1.cell ((m : Int) - 1 - (k : Int) / 8) (by omega) (by omega)
        have hi : ((m : Int) - 1 - (k : Int) / 8).toNat = m - 1 - k / 8 := by omega
        rw [hi] at hc hf
        have q0 : 0 ≤ (m : Int) - 1 - (k : Int) / 8 := by omega
        have q1 : (m : Int) - 1 - (k : Int) / 8 < m := by omega
        clear hlen hi
        go_wp2
        go_region
        go_wp2
        go_roundw
        case measure => simp [intOf]; omega
        case rel =>
          refine ⟨k + 1, by go_num, by omega, ?_, ?_⟩
          · have hm0 : 0 ≤ x % 2 ^ k := Int.emod_nonneg _ (by have := pow_pos2 k; omega)
            have hm1 : x % 2 ^ k < 2 ^ k := Int.emod_lt_of_pos _ (pow_pos2 k)
            have hlow := highB_low _ k m hm0 hm1 HLT.out
            rw [or_low8 _ _ hlow.1 hlow.2 (by omega), mod_succ_one x k hone, highB_bit _ k m hm0 hm1 HLT.out]
            exact HH.out.2.1.set _ _
          · exact (HH.out.2.2.setCell (Nat.le_refl _) _).drew
      · have HNO := Lib.hid hone
        have hz : x / 2 ^ k % 2 = 0 := by omega
        clear hone
        go_wp2
        go_roundw
        case measure => simp [intOf]; omega
        case rel => 
          refine ⟨k + 1, by go_num, by omega, ?_, HH.out.2.2⟩
          rw [mod_succ_zero x k hz]
          exact HH.out.2.1
    · obtain rfl : k = 8 * m := by omega
      clear hlt
      go_wp2
      go_ret
      have hB := HH.out.2.1
      rw [highB_mod] at hB
      have hO := hB.ob (Nat.le_refl _) (highB_bytes x m) (by rw [highB_length]; omega)
      rw [highB_length] at hO
      exact ⟨_, rfl, hO, HH.out.2.2⟩

theorem refnumber_any (A : Option Addr) (n c : Nat) (xs : List Int) (w : World) (hr : RB w A n c xs) :
    Calls Try.prog 35 #[.slice A n c] w fun e w' => e = .returned (.int .u64 (numOf 0 xs)) ∧ w = w' := by
  have HN := Lib.hid (numOf_range xs 0 (by omega) (by omega))
  go_enter Try.func35, Try.ntmps35
  go_wp2
  go_loop [3, 4] (fun v i => ∃ k : Nat, k ≤ 64 ∧ i = .int .i64 k ∧ v = .int .u64 (numOf 0 xs % 2 ^ k)) (fun _ i => 64 - (intOf i).toNat)
  case atStart => exact ⟨0, by omega, rfl, by simp⟩
  case round =>
    obtain ⟨k, hk, rfl, rfl⟩ := hrel
    by_cases hlt : k < 64
    · have HLT := Lib.hid hlt
      have hm0 : 0 ≤ numOf 0 xs % 2 ^ k := Int.emod_nonneg _ (by have := pow_pos2 k; omega)
      have HM1 := Lib.hid (Int.emod_lt_of_pos (numOf 0 xs) (pow_pos2 k))
      have hb := bitB_num xs k hr.range hlt
      by_cases hone : numOf 0 xs / 2 ^ k % 2 = 1
      · have HONE := Lib.hid hone
        have hbt : bitB xs k = true := by rw [hb]; simp [hone]
        clear hb hone
        go_wp2_with (go_at_call 16; refine (refbit_any _ _ _ _ _ _ hr).mono ?_; rintro e w' ⟨rfl, rfl⟩)
        go_round
        case rel =>
          refine ⟨k + 1, by omega, by go_num, ?_⟩
          rw [mod_succ_one _ _ HONE.out]
          rw [or_low64 _ _ hm0 HM1.out HLT.out]
        case measure => simp [intOf]; omega
      · have HONE := Lib.hid (show numOf 0 xs / 2 ^ k % 2 = 0 by omega)
        have hbt : bitB xs k = false := by rw [hb]; simp; omega
        clear hb hone
        go_wp2_with (go_at_call 16; refine (refbit_any _ _ _ _ _ _ hr).mono ?_; rintro e w' ⟨rfl, rfl⟩)
        go_round
        case rel => exact ⟨k + 1, by omega, by go_num, by rw [mod_succ_zero _ _ HONE.out]⟩
        case measure => simp [intOf]; omega
    · obtain rfl : k = 64 := by omega
      clear hlt hk
      go_wp2
      go_ret
      refine ⟨?_, rfl⟩
      have := HN.out
      rw [Int.emod_eq_of_lt (by omega) (by omega)]
      rfl

end Go.Proofs.Ytemkeeoolffokaa
