/- SumGoes, SumBehind: the walks. -/
import Derived.Test.YtemkeeoolffokaaSumC
namespace Go.Proofs.Ytemkeeoolffokaa
open Go.RowKit
set_option linter.unusedVariables false
set_option linter.unusedSimpArgs false

theorem sumGoes_walk (s : Int) (A0 : Option Addr) (n0 c0 : Nat) (l0 : List Int) (w : World) (hs : (Lit.int .u32 s).wf = true) (h0 : RN w .u8 A0 n0 c0 l0) (y0 : n0 * 1 ≤ 140737488351232) :
    Calls Try.prog 5 #[.int .u32 s, .slice A0 n0 c0] w fun e w' => e = .returned (.bool true) ∧ Below w.heap.size w w' := by
  obtain ⟨hs0, hs1⟩ := wf_u32 hs
  clear hs
  by_cases hbig : 3000 < n0
  · have hb : decide ((3000 : Int) < (n0 : Int)) = true := decide_eq_true (by omega)
    go_enter Try.func5, Try.ntmps5
    go_wp2_with fail
    refine (wakes3_any w).mono ?_
    rintro e w1 ⟨rfl, hb1⟩
    have HB := Lib.hid hb1
    clear hb1
    go_wp2
    go_ret
    exact ⟨rfl, HB.out⟩
  · have hb0 : decide ((3000 : Int) < (n0 : Int)) = false := decide_eq_false (by omega)
    go_enter Try.func5, Try.ntmps5
    go_wp2_with fail
    refine (wakes3_any w).mono ?_
    rintro e w1 ⟨rfl, hb1⟩
    have HB := Lib.hid hb1
    have H0 := Lib.hid (h0.bytes.below hb1)
    clear hb1 h0
    go_wp2_with fail
    refine (both_any A0 n0 c0 l0 none 0 0 [] w1 H0.out (RB.nil _ _ _) (by omega)).mono ?_
    rintro e w2 ⟨A2, rfl, h2, hb2⟩
    rw [List.append_nil, Nat.add_zero] at h2
    rw [Nat.add_zero]
    have HB2 := Lib.hid (below_step HB.out hb2)
    have H02 := Lib.hid (H0.out.below hb2)
    have H2 := Lib.hid h2.reads
    clear hb2 h2 HB H0
    go_wp2_with fail
    refine (sum32_any A0 n0 c0 l0 w2 H02.out).mono ?_
    rintro e w3 ⟨rfl, hb3⟩
    have HB3 := Lib.hid (below_step HB2.out hb3)
    have H03 := Lib.hid (H02.out.below hb3)
    have H3 := Lib.hid (H2.out.below hb3)
    clear hb3 H02 H2 HB2
    go_wp2_with fail
    refine (refsum32_any A2 n0 n0 l0 w3 H3.out).mono ?_
    rintro e w4 ⟨rfl, rfl⟩
    go_wp2_with fail
    refine (on_any s A0 n0 c0 l0 w3 hs0 hs1 H03.out).mono ?_
    rintro e w4 ⟨rfl, hb4⟩
    have HB4 := Lib.hid (below_step HB3.out hb4)
    have H04 := Lib.hid (H03.out.below hb4)
    have H4 := Lib.hid (H3.out.below hb4)
    clear hb4 H03 H3 HB3
    go_wp2_with fail
    refine (refon_any s A2 n0 n0 l0 w4 hs0 hs1 H4.out).mono ?_
    rintro e w5 ⟨rfl, rfl⟩
    go_wp2_with fail
    refine (same_any A0 n0 c0 l0 A2 n0 n0 l0 w4 H04.out H4.out).mono ?_
    rintro e w5 ⟨rfl, hb5⟩
    have HB5 := Lib.hid (below_step HB4.out hb5)
    clear hb5
    go_wp2
    go_ret
    exact ⟨by simp, HB5.out⟩

theorem behind_big (A0 : Option Addr) (n0 c0 : Nat) (A1 : Option Addr) (n1 c1 : Nat) (A2 : Option Addr) (n2 c2 : Nat) (w : World) (hbig : 3000 < n0 ∨ 3000 < n1 ∨ 3000 < n2) :
    Calls Try.prog 8 #[.slice A0 n0 c0, .slice A1 n1 c1, .slice A2 n2 c2] w fun e w' => e = .returned (.bool true) ∧ Below w.heap.size w w' := by
  obtain ⟨b0, h0⟩ : ∃ b, decide ((3000 : Int) < (n0 : Int)) = b := ⟨_, rfl⟩
  obtain ⟨b1, h1⟩ : ∃ b, decide ((3000 : Int) < (n1 : Int)) = b := ⟨_, rfl⟩
  obtain ⟨b2, h2⟩ : ∃ b, decide ((3000 : Int) < (n2 : Int)) = b := ⟨_, rfl⟩
  have hor : (b0 || b2 || b1) = true := by
    subst h0; subst h1; subst h2
    simp
    omega
  clear hbig
  cases b0 <;> cases b1 <;> cases b2 <;> simp at hor <;>
  · go_enter Try.func8, Try.ntmps8
    go_wp2_with fail
    refine (wakes3_any w).mono ?_
    rintro e w1 ⟨rfl, hb1⟩
    have HB := Lib.hid hb1
    clear hb1
    go_wp2
    go_ret
    exact ⟨rfl, HB.out⟩

set_option maxHeartbeats 1000000 in
theorem sumBehind_walk (A0 : Option Addr) (n0 c0 : Nat) (l0 : List Int) (A1 : Option Addr) (n1 c1 : Nat) (l1 : List Int) (A2 : Option Addr) (n2 c2 : Nat) (l2 : List Int) (w : World)
    (h0 : RN w .u8 A0 n0 c0 l0) (y0 : n0 * 1 ≤ 140737488351232) (h1 : RN w .u8 A1 n1 c1 l1) (y1 : n1 * 1 ≤ 140737488351232) (h2 : RN w .u8 A2 n2 c2 l2) (y2 : n2 * 1 ≤ 140737488351232) :
    Calls Try.prog 8 #[.slice A0 n0 c0, .slice A1 n1 c1, .slice A2 n2 c2] w fun e w' => e = .returned (.bool true) ∧ Below w.heap.size w w' := by
  by_cases hbig : 3000 < n0 ∨ 3000 < n1 ∨ 3000 < n2
  · exact behind_big A0 n0 c0 A1 n1 c1 A2 n2 c2 w hbig
  · have hb0 : decide ((3000 : Int) < (n0 : Int)) = false := decide_eq_false (by omega)
    have hb1 : decide ((3000 : Int) < (n1 : Int)) = false := decide_eq_false (by omega)
    have hb2 : decide ((3000 : Int) < (n2 : Int)) = false := decide_eq_false (by omega)
    have hs0 : n0 ≤ 3000 := by omega
    have hs1 : n1 ≤ 3000 := by omega
    have hs2 : n2 ≤ 3000 := by omega
    clear hbig
    go_enter Try.func8, Try.ntmps8
    go_wp2_with fail
    refine (wakes3_any w).mono ?_
    rintro e w1 ⟨rfl, hbb1⟩
    have HB := Lib.hid hbb1
    have H0 := Lib.hid (h0.bytes.below hbb1)
    have H1 := Lib.hid (h1.bytes.below hbb1)
    have H2 := Lib.hid (h2.bytes.below hbb1)
    clear hbb1 h0 h1 h2
    have hx1 : (sumOn 1 (l0 ++ l2) == sumOn (sumOn 1 l0) l2) = true := by rw [sumOn_append]; simp
    have hx2 : ((sumOn 1 (l0 ++ l2) == sumOn 1 (l1 ++ l2)) == (sumOn 1 l0 == sumOn 1 l1)) = true := by
      rw [sumOn_append, sumOn_append]
      have h := sumOn_inj l2 (sumOn 1 l0) (sumOn 1 l1) (sumOn_range _ _) (sumOn_range _ _)
      by_cases e : sumOn 1 l0 = sumOn 1 l1
      · rw [e]; simp
      · have e2 : ¬ sumOn (sumOn 1 l0) l2 = sumOn (sumOn 1 l1) l2 := fun x => e (h.1 x)
        rw [beq_eq_false_iff_ne.2 e2, beq_eq_false_iff_ne.2 e]
        rfl
    have HX1 := Lib.hid hx1
    have HX2 := Lib.hid hx2
    clear hx1 hx2
    go_wp2_with fail
    refine (bclone_any A0 n0 c0 l0 w1 H0.out (by omega)).mono ?_
    rintro e w2 ⟨A3, c3, rfl, h3, hbb2⟩
    have B2 := Lib.hid hbb2
    have H3 := Lib.hid h3
    clear hbb2 h3
    go_wp2_with (at_builtin; refine wpList_append_bytes rfl (.tmp 25) (.tmp 26) rfl rfl rfl H3.out (H2.out.below B2.out) B2.out.size (by omega) ?_; intro A4 c4 w4 x1 x2 x3; have HX := Lib.hid (And.intro x1 (below_own B2.out x2 H3.out.base_)); clear x1 x2 x3)
    refine (sum32_any A4 (n0 + n2) c4 _ w4 HX.out.1.reads).mono ?_
    rintro e w5 ⟨rfl, hbb5⟩
    have B5 := Lib.hid (below_step HX.out.2 hbb5)
    clear hbb5 HX H3 B2
    go_wp2_with fail
    refine (bclone_any A1 n1 c1 l1 w5 (H1.out.below B5.out) (by omega)).mono ?_
    rintro e w6 ⟨A5, c5, rfl, h5, hbb6⟩
    have B6 := Lib.hid (below_step B5.out hbb6)
    have BZ := Lib.hid hbb6
    have H5 := Lib.hid h5
    clear hbb6 h5
    go_wp2_with (at_builtin; refine wpList_append_bytes rfl (.tmp 30) (.tmp 31) rfl rfl rfl H5.out (H2.out.below B6.out) BZ.out.size (by omega) ?_; intro A6 c6 w7 x1 x2 x3; have HX := Lib.hid (And.intro x1 (below_step B5.out (below_own BZ.out x2 H5.out.base_))); clear x1 x2 x3)
    refine (sum32_any A6 (n1 + n2) c6 _ w7 HX.out.1.reads).mono ?_
    rintro e w8 ⟨rfl, hbb8⟩
    have B8 := Lib.hid (below_step HX.out.2 hbb8)
    clear hbb8 HX H5 B6 BZ B5
    go_wp2_with fail
    refine (sum32_any A0 n0 c0 _ w8 (H0.out.below B8.out)).mono ?_
    rintro e w9 ⟨rfl, hbb9⟩
    have B9 := Lib.hid (below_step B8.out hbb9)
    clear hbb9 B8
    go_wp2_with fail
    refine (on_any (sumOn 1 l0) A2 n2 c2 _ w9 (sumOn_range _ _).1 (by have := (sumOn_range 1 l0).2; omega) (H2.out.below B9.out)).mono ?_
    rintro e w10 ⟨rfl, hbb10⟩
    have B10 := Lib.hid (below_step B9.out hbb10)
    have hx1 := HX1.out
    clear hbb10 B9 HX1
    go_wp2_with fail
    refine (sum32_any A0 n0 c0 _ w10 (H0.out.below B10.out)).mono ?_
    rintro e w11 ⟨rfl, hbb11⟩
    have B11 := Lib.hid (below_step B10.out hbb11)
    clear hbb11 B10
    go_wp2_with fail
    refine (sum32_any A1 n1 c1 _ w11 (H1.out.below B11.out)).mono ?_
    rintro e w12 ⟨rfl, hbb12⟩
    have B12 := Lib.hid (below_step B11.out hbb12)
    have hx2 := HX2.out
    clear hbb12 B11 HX2 hx1
    go_wp2
    go_ret
    exact ⟨by simp, below_step HB.out B12.out⟩
end Go.Proofs.Ytemkeeoolffokaa
