/- OctetKeeps: the walk. -/
import Derived.Test.YtemkeeoolffokaaRef1b
import Derived.Test.YtemkeeoolffokaaMix
namespace Go.Proofs.Ytemkeeoolffokaa
open Go.RowKit
set_option linter.unusedVariables false
set_option linter.unusedSimpArgs false

theorem below_drew1 (w : World) : Below w.heap.size w w.drew := ⟨rfl, rfl, rfl, Nat.le_refl _, fun _ _ => rfl⟩
theorem div_ltu16 (x : Int) (k : Nat) (h0 : 0 ≤ x) (h1 : x < 65536) : 0 ≤ x / 2 ^ k ∧ x / 2 ^ k < 65536 :=
  ⟨Int.ediv_nonneg h0 (Int.pow_nonneg (by omega)), Int.lt_of_le_of_lt (Int.ediv_le_self _ h0) h1⟩
theorem and1u16 (x : Int) (h : 0 ≤ x ∧ x < 65536) : bits .and .u16 x 1 = x % 2 :=
  bits_mask .u16 16 (by decide) (fun n h0 h1 => by simp only [IntKind.wrap, IntKind.bits, IntKind.signed]; simp; omega) 1 (by decide) x h.1 h.2
set_option maxHeartbeats 2000000 in
theorem octetKeeps_walk (x y k : Int) (w : World) (hx : (Lit.int .u64 x).wf = true) (hy : (Lit.int .u16 y).wf = true) (hk : (Lit.int .i64 k).wf = true) :
    Calls Try.prog 4 #[.int .u64 x, .int .u16 y, .int .i64 k] w fun e w' => e = .returned (.bool true) ∧ Below w.heap.size w w' := by
  obtain ⟨hx0, hx1⟩ := wf_u64 hx
  obtain ⟨hy0, hy1⟩ := wf_u16 hy
  clear hx hy hk
  go_enter Try.func4, Try.ntmps4
  go_wp2_with fail
  refine (wakes_any w).mono ?_
  rintro e w1 ⟨rfl, hb1⟩
  have HB := Lib.hid hb1
  clear hb1
  obtain ⟨q, hq, hq64⟩ : ∃ q : Nat, wrap64 ((IntKind.u64.wrap k).tmod 64) = (q : Int) ∧ q < 64 := by
    have h1 : IntKind.u64.wrap k = k % 18446744073709551616 := by simp [IntKind.wrap, IntKind.bits, IntKind.signed]
    have h2 : (k % 18446744073709551616).tmod 64 = k % 18446744073709551616 % 64 := Int.tmod_eq_emod_of_nonneg (by omega)
    refine ⟨(k % 18446744073709551616 % 64).toNat, ?_, by omega⟩
    rw [h1, h2]
    unfold wrap64
    omega
  have hd := div_ltu64 x q hx0 hx1
  have hand := and1u64 _ hd
  go_wp2_with fail
  rw [hq]
  clear hq
  go_wp2_with fail
  refine (put64_any none 0 0 [] x w1 (RB.nil _ _ _) (by omega) hx0 hx1).mono ?_
  rintro e w2 ⟨A8, rfl, h8, hb2⟩
  have HB2 := Lib.hid (below_step HB.out hb2)
  clear HB hb2
  go_wp2_with fail
  refine (put16_any A8 8 8 _ y w2 h8.reads (by omega) hy0 hy1).mono ?_
  rintro e w3 ⟨A9, rfl, h9, hb3⟩
  have HB3 := Lib.hid (below_step HB2.out hb3)
  have H8 := Lib.hid (h8.reads.below hb3)
  have H9 := Lib.hid h9.reads
  clear HB2 hb3 h8 h9
  go_wp2_with fail
  refine (bit_any _ _ _ _ _ _ H8.out (by omega)).mono ?_
  rintro e w4 ⟨rfl, rfl⟩
  have e1 : bitB ([] ++ highB x 8) q = (x / 2 ^ q % 2 == 1) := bitB_high x 8 q hx0 (by omega) []
  have e2 : bitB ([] ++ highB x 8 ++ highB y 2) ((q : Int) + 16) = (x / 2 ^ q % 2 == 1) := by
    have h := bitB_above ([] ++ highB x 8) (highB y 2) q
    rw [highB_length, show ((q + 8 * 2 : Nat) : Int) = (q : Int) + 16 by omega] at h
    rw [h, e1]
  have e3 : bitB ([] ++ highB x 8) 64 = false := bitB_over _ 64 (by rw [List.nil_append, highB_length]; omega)
  have e4 : bitB ([] ++ highB x 8) (-1 - q) = false := bitB_neg _ _ (by omega)
  have hne : ((x / 2 ^ q % 2 == 1) != (x / 2 ^ q % 2 == 1)) = false := by simp
  rw [e1]
  go_wp2_with fail
  refine (bit_any A9 10 10 _ ((q : Int) + 16) w3 H9.out (by omega)).mono ?_
  rintro e w4 ⟨rfl, rfl⟩
  rw [e2]
  go_wp2_with fail
  refine (bit_any A8 8 8 _ 64 w3 H8.out (by omega)).mono ?_
  rintro e w4 ⟨rfl, rfl⟩
  rw [e3]
  go_wp2_with fail
  refine (bit_any A8 8 8 _ (-1 - (q : Int)) w3 H8.out (by omega)).mono ?_
  rintro e w4 ⟨rfl, rfl⟩
  rw [e4]
  go_wp2_with fail
  obtain ⟨r, hr, hr16, hrq⟩ : ∃ r : Nat, (q : Int).tmod 16 = (r : Int) ∧ r < 16 ∧ r = q % 16 := ⟨q % 16, by rw [Int.tmod_eq_emod_of_nonneg (by omega)]; omega, by omega, rfl⟩
  have HRQ := Lib.hid hrq
  clear hrq
  have hdy := div_ltu16 y r hy0 hy1
  have handy := and1u16 _ hdy
  have hw32 : IntKind.u32.wrap x = x % 4294967296 := by simp [IntKind.wrap, IntKind.bits, IntKind.signed]
  have e5 : bitB ([] ++ highB x 8 ++ highB y 2) r = (y / 2 ^ r % 2 == 1) := bitB_high y 2 r hy0 (by omega) _
  have e6 : bitB ([] ++ highB (x % 4294967296) 4) q = ((x / 2 ^ q % 2 == 1) && decide (q < 32)) := by
    by_cases h : q < 32
    · rw [bitB_high _ 4 q (by omega) (by omega), show (4294967296 : Int) = 2 ^ 32 by rfl, bit_of_mod _ _ _ h]
      simp [h]
    · rw [bitB_over _ q (by rw [List.nil_append, highB_length]; omega)]
      simp [h]
  have hm0 : 0 ≤ x % 4294967296 := by omega
  have hm1 : x % 4294967296 < 4294967296 := by omega
  refine wp_region_mix [(0, 0), (1, 0), (2, 0), (4, 0), (5, 0), (6, 0), (7, 0), (8, 0), (9, 0), (3, 2), (10, 0), (11, 0), (12, 0), (13, 0), (15, 0), (17, 0), (14, 2), (16, 2), (18, 0), (19, 0), (20, 0), (21, 0), (22, 0), (23, 0), (24, 0)] (by kernel_rfl) (by kernel_rfl) ?_
  simp only [List.map_cons, List.map_nil]
  repeat (refine wpO_step0 rfl rfl (fun K hK => ?_); go_simp; refine hK _ _ ?_; clear hK K)
  refine wpO_step2 rfl rfl (fun K hK => ?_)
  go_simp
  refine (bit_any A9 10 10 _ (r : Int) w3.drew (H9.out.below (below_drew1 _)) (by omega)).mono ?_
  rintro e w4 ⟨rfl, rfl⟩
  rw [e5]
  refine hK _ _ ?_
  clear hK K
  repeat (refine wpO_step0 rfl rfl (fun K hK => ?_); go_simp; refine hK _ _ ?_; clear hK K)
  refine wpO_step2 rfl rfl (fun K hK => ?_)
  go_simp
  refine (put32_any none 0 0 [] (x % 4294967296) w3.drew (RB.nil _ _ _) (by omega) hm0 hm1).mono ?_
  rintro e w4 ⟨A4, rfl, h4, hb4⟩
  have HB4 := Lib.hid (below_step HB3.out (below_step (below_drew1 w3) hb4))
  have H4 := Lib.hid h4.reads
  clear h4 hb4 HB3 H8 H9
  refine hK _ _ ?_
  clear hK K
  refine wpO_step2 rfl rfl (fun K hK => ?_)
  go_simp
  refine (bit_any A4 4 4 _ (q : Int) w4 H4.out (by omega)).mono ?_
  rintro e w5 ⟨rfl, rfl⟩
  rw [e6]
  refine hK _ _ ?_
  clear hK K
  repeat (refine wpO_step0 rfl rfl (fun K hK => ?_); go_simp; refine hK _ _ ?_; clear hK K)
  clear hne e1 e2 hand
  rcases Bool.eq_false_or_eq_true (x / 2 ^ q % 2 == 1) with hX | hX
  all_goals
    repeat (refine wpO_step0 rfl rfl (fun K hK => ?_); go_simp; refine hK _ _ ?_; clear hK K)
    refine wpO_nil ?_
    go_wp2
    go_ret
    exact ⟨by simp <;> omega, HB4.out⟩

end Go.Proofs.Ytemkeeoolffokaa
