/- OctetBits: the walk. -/
import Derived.Test.YtemkeeoolffokaaL01
namespace Go.Proofs.Ytemkeeoolffokaa
open Go.RowKit
set_option linter.unusedVariables false
set_option linter.unusedSimpArgs false

theorem wf_i64 {x : Int} (h : (Lit.int .i64 x).wf = true) : -9223372036854775808 ≤ x ∧ x ≤ 9223372036854775807 := by
  simp [Lit.wf, IntKind.min, IntKind.max, IntKind.bits, IntKind.signed] at h
  omega

theorem octetBits_walk (A0 : Option Addr) (n0 c0 : Nat) (l0 : List Int) (A1 : Option Addr) (n1 c1 : Nat) (l1 : List Int) (w : World) (h0 : RN w .u8 A0 n0 c0 l0) (y0 : n0 * 1 ≤ 140737488351232) (h1 : RN w .i64 A1 n1 c1 l1) (y1 : n1 * 8 ≤ 140737488351232) :
    Calls Try.prog 3 #[.slice A0 n0 c0, .slice A1 n1 c1] w fun e w' => e = .returned (.bool true) ∧ Below w.heap.size w w' := by
  have hn1 := h1.small
  by_cases hbig : 2000 < n0
  · have hb : decide ((2000 : Int) < (n0 : Int)) = true := decide_eq_true (by omega)
    go_enter Try.func3, Try.ntmps3
    go_wp2_with fail
    refine (wakes_any w).mono ?_
    rintro e w1 ⟨rfl, hb1⟩
    have HB := Lib.hid hb1
    clear hb1
    go_wp2
    go_ret
    exact ⟨rfl, HB.out⟩
  · by_cases hbig2 : 300 < n1
    · have hb0 : decide ((2000 : Int) < (n0 : Int)) = false := decide_eq_false (by omega)
      have hb2 : decide ((300 : Int) < (n1 : Int)) = true := decide_eq_true (by omega)
      go_enter Try.func3, Try.ntmps3
      go_wp2_with fail
      refine (wakes_any w).mono ?_
      rintro e w1 ⟨rfl, hb1⟩
      have HB := Lib.hid hb1
      clear hb1
      go_wp2
      go_ret
      exact ⟨rfl, HB.out⟩
    · have hb0 : decide ((2000 : Int) < (n0 : Int)) = false := decide_eq_false (by omega)
      have hb2 : decide ((300 : Int) < (n1 : Int)) = false := decide_eq_false (by omega)
      clear hbig hbig2
      go_enter Try.func3, Try.ntmps3
      go_wp2_with fail
      refine (wakes_any w).mono ?_
      rintro e w1 ⟨rfl, hb1⟩
      have H0 := Lib.hid (h0.below hb1)
      have H1 := Lib.hid (h1.below hb1)
      have HB := Lib.hid hb1
      clear hb1 h0 h1
      go_wp2
      clear hb0 hb2
      go_loop [19] (fun i => ∃ k : Nat, k ≤ n1 ∧ i = .int .i64 k) (fun i => n1 - (intOf i).toNat)
      case atStart => exact ⟨0, by omega, rfl⟩
      case round =>
        obtain ⟨k, hk, rfl⟩ := hrel
        by_cases hlt : k < n1
        · obtain ⟨ad, rfl, hc⟩ := H1.out.at_ k (by omega) (by omega)
          have hwf := wf_i64 (H1.out.wf_at k (by omega) (by omega))
          have hcell : w1.cell? (ad.add k) = some (.int .i64 (rd l1 k)) := hc
          clear hc
          go_wp2_with (first | (go_at_call 15; refine (bit_any _ _ _ _ _ _ H0.out.bytes (by omega)).mono ?_; rintro e w' ⟨rfl, rfl⟩) | (go_at_call 16; refine (refbit_any _ _ _ _ _ _ H0.out.bytes).mono ?_; rintro e w' ⟨rfl, rfl⟩))
          all_goals
            go_round
            case rel => exact ⟨k + 1, by omega, by go_num⟩
            case measure => simp [intOf]; omega
        · go_wp2
          go_ret
          exact ⟨rfl, HB.out⟩

end Go.Proofs.Ytemkeeoolffokaa
