/- Layer 3 (sum), third part: Open32; the statements' wakes. -/
import Derived.Test.YtemkeeoolffokaaSumB
namespace Go.Proofs.Ytemkeeoolffokaa
open Go.RowKit
set_option linter.unusedVariables false
set_option linter.unusedSimpArgs false

set_option maxHeartbeats 1000000 in
theorem open32_any (A : Option Addr) (n c : Nat) (xs : List Int) (w : World) (hr : RB w A n c xs) (hn : n ≤ 140737300000000) :
    Calls Try.prog 28 #[.slice A n c] w fun e w' => ∃ A' m c', e = .returned (.tuple #[.slice A' m c', .int .i64 (openE xs)]) ∧ m = openM xs ∧ OB w' w.heap.size A' m c' (xs.take m) ∧ Below w.heap.size w w' := by
  have hl := hr.len
  have hcap := hr.cap
  by_cases h4 : n < 4
  · have e1 : openE xs = 7 := by unfold openE; rw [hl, if_pos h4]
    have e2 : openM xs = 0 := by unfold openM; rw [e1]; rfl
    rw [e1, e2]
    clear e1 e2
    go_enter Try.func28, Try.ntmps28
    go_wp2
    go_ret2
    exact ⟨none, 0, 0, rfl, rfl, OB.nil _ _, Below.refl _ _⟩
  · obtain ⟨q, rfl⟩ : ∃ q, n = q + 4 := ⟨n - 4, by omega⟩
    have HR := Lib.hid hr
    have HT := Lib.hid ((hr.take q (by omega)).capmono (Nat.le_refl q))
    obtain ⟨A1, hsl, hsr, -⟩ := cut_bytes A (q + 4) c q (by omega) (by omega)
    have hz : q + 4 - (q : Int).toNat = 4 := by omega
    have hz2 : (q : Int).toNat = q := by omega
    have hd := hsr w xs hr
    rw [hz2] at hsl hd
    rw [show q + 4 - q = 4 by omega] at hsl hd
    have HD := Lib.hid hd
    have HL := Lib.hid hl
    clear hr hsr hd hz hz2 h4 hl
    go_enter Try.func28, Try.ntmps28
    go_wp2_with fail
    refine wp_region_mix (fun _ => True) [(0, 0), (2, 0), (3, 0), (4, 0), (1, 2), (5, 2), (6, 2), (7, 0)] (by kernel_rfl) (by kernel_rfl) trivial ?_
    simp only [List.map_cons, List.map_nil]
    repeat (refine wpO_step0 rfl rfl (fun K hK => ?_); go_simp; refine hK _ _ ?_; clear hK K)
    refine wpO_step2 rfl rfl trivial (fun K hK => ?_)
    go_simp
    refine (sum32_any A q q _ w.drew (HT.out.below (below_drew1 _))).mono ?_
    rintro e w1 ⟨rfl, hb1⟩
    have HB1 := Lib.hid (below_step (below_drew1 w) hb1)
    clear hb1
    refine hK _ _ ⟨trivial, ?_⟩
    clear hK K
    repeat (refine wpO_step0 rfl rfl (fun K hK => ?_); go_simp; refine hK _ _ ?_; clear hK K)
    refine wpO_step2 rfl rfl trivial (fun K hK => ?_)
    go_simp
    refine (read_any A1 4 (c - q) _ w1 (HD.out.below HB1.out) (by omega)).mono ?_
    rintro e w2 ⟨g, rfl, hg, hr2, hb2⟩
    have HB2 := Lib.hid (below_step HB1.out hb2)
    have HG : Hid (w.heap.size ≤ g) := Nat.le_trans HB1.out.size hg
    have HR2 := Lib.hid hr2
    clear hb2 hg hr2
    refine hK _ _ ⟨trivial, ?_⟩
    clear hK K
    repeat (refine wpO_step0 rfl rfl (fun K hK => ?_); go_simp; refine hK _ _ ?_; clear hK K)
    refine wpO_step2 rfl rfl trivial (fun K hK => ?_)
    go_simp
    refine (u32_any g _ _ w2 HR2.out).mono ?_
    rintro e w3 ⟨rfl, hr3, hb3⟩
    have HB3 := Lib.hid (grown_below HB2.out hb3 HG.out)
    clear hb3 hr3
    have hnum := num4 (sumOn 1 (xs.take q)) (sumOn_range _ _).1 (by have := (sumOn_range 1 (xs.take q)).2; omega) (xs.drop q) (by rw [List.length_drop, HL.out]; omega) (HD.out.range)
    have hop : opensB xs = decide (highB (sumOn 1 (xs.take q)) 4 = xs.drop q) := by
      unfold opensB
      rw [HL.out, Nat.add_sub_cancel, decide_eq_true (by omega : 4 ≤ q + 4), Bool.true_and]
    have hoe : openE xs = if opensB xs then 0 else 130 := by unfold openE; rw [HL.out, if_neg (by omega)]
    have hom : openM xs = if openE xs = 0 then q else 0 := by unfold openM; rw [HL.out, Nat.add_sub_cancel]
    refine hK _ _ ⟨trivial, ?_⟩
    clear hK K
    by_cases hE : highB (sumOn 1 (xs.take q)) 4 = xs.drop q
    · have hne : (sumOn 1 (xs.take q) != numOf 0 (offT (xs.drop q) 0 4) % 4294967296) = false := by
        rw [hnum.2 hE]
        simp
      rw [decide_eq_true hE] at hop
      rw [hop] at hoe
      rw [if_pos rfl] at hoe
      rw [hoe, if_pos rfl] at hom
      have HOE := Lib.hid hoe
      have HOM := Lib.hid hom
      clear hop hoe hom hE hnum hsl
      repeat (refine wpO_step0 rfl rfl (fun K hK => ?_); go_simp; refine hK _ _ ?_; clear hK K)
      refine wpO_nil ?_
      go_wp2_with fail
      refine (clone_any A q q _ w3 (HT.out.below HB3.out) (by omega)).mono ?_
      rintro e w4 ⟨A4, c4, rfl, h4, hb4⟩
      have H4 := Lib.hid (h4.lower HB3.out.size)
      have HB4 := Lib.hid (below_step HB3.out hb4)
      clear h4 hb4
      go_wp2
      go_ret2
      rw [HOE.out, HOM.out]
      exact ⟨A4, q, c4, rfl, rfl, H4.out, HB4.out⟩
    · have hne : (sumOn 1 (xs.take q) != numOf 0 (offT (xs.drop q) 0 4) % 4294967296) = true := by
        have h5 : ¬ (numOf 0 (offT (xs.drop q) 0 4) % 4294967296 = sumOn 1 (xs.take q)) := fun h => hE (hnum.1 h)
        simp only [bne_iff_ne, ne_eq]
        exact fun h => h5 h.symm
      rw [decide_eq_false hE] at hop
      rw [hop] at hoe
      rw [if_neg (by simp)] at hoe
      rw [hoe, if_neg (by omega)] at hom
      have HOE := Lib.hid hoe
      have HOM := Lib.hid hom
      clear hop hoe hom hE hnum hsl
      repeat (refine wpO_step0 rfl rfl (fun K hK => ?_); go_simp; refine hK _ _ ?_; clear hK K)
      refine wpO_nil ?_
      go_wp2
      go_ret2
      rw [HOE.out, HOM.out]
      exact ⟨none, 0, 0, rfl, rfl, OB.nil _ _, HB3.out⟩

theorem bytes12 : Bytes [1, 2] := by intro x hx; simp at hx; omega
set_option maxHeartbeats 1000000 in
theorem wakes3_any (w : World) : Calls Try.prog 20 #[] w fun e w' => e = .returned (.bool true) ∧ Below w.heap.size w w' := by
  have q1 : sumOn 1 [1, 2] = 66308 := by decide
  have q2 : sumOn 4294967291 [7] = 7 := by decide
  have q3 : openE ([7] ++ highB (sumOn 1 [7]) 4) = 0 := by decide
  have q4 : openM ([7] ++ highB (sumOn 1 [7]) 4) = 1 := by decide
  go_enter Try.func20, Try.ntmps20
  go_wp2_with fail
  refine (seal32_any _ 1 1 [7] _ (lit_reads _ _ [7] (by simp) (by simp) bytes7) (by omega)).mono ?_
  rintro e w1 ⟨A1, rfl, h1, hb1⟩
  have HB := Lib.hid (below_step (below_alloc (Below.refl _ _) _) hb1)
  have H1 := Lib.hid h1.reads
  clear hb1 h1
  go_wp2_with fail
  refine (open32_any _ 5 5 _ _ H1.out (by omega)).mono ?_
  rintro e w2 ⟨A2, m, c2, rfl, hm, h2, hb2⟩
  rw [q4] at hm
  rw [q3]
  subst hm
  have HB2 := Lib.hid (below_step HB.out hb2)
  have H2 := Lib.hid h2.reads
  obtain ⟨ad, rfl, hcell⟩ := h2.reads.at_ 0 (by omega) (by omega)
  have HC := Lib.hid hcell
  clear h2 hb2 HB H1 q3 q4 hcell
  go_wp2_with fail
  refine (sum32_any _ 2 2 [1, 2] _ (lit_reads _ _ [1, 2] (by simp) (by simp) bytes12)).mono ?_
  rintro e w3 ⟨rfl, hb3⟩
  rw [q1]
  have HB3 := Lib.hid (below_step (below_alloc HB2.out _) hb3)
  have HC3 := Lib.hid (cell_below (below_step (below_alloc (Below.refl _ _) _) hb3) HC.out)
  clear HB2 hb3 q1 HC H2
  go_wp2_with fail
  refine (on_any _ _ 1 1 [7] _ (by omega) (by omega) (lit_reads _ _ [7] (by simp) (by simp) bytes7)).mono ?_
  rintro e w4 ⟨rfl, hb4⟩
  rw [q2]
  have HB4 := Lib.hid (below_step (below_alloc HB3.out _) hb4)
  have hc4 : w4.cell? ad = some (.int .u8 7) := by
    have e7 : rd [7] 0 = 7 := rfl
    rw [← e7]
    have := cell_below (below_step (below_alloc (Below.refl _ _) _) hb4) HC3.out
    simpa [Addr.add] using this
  clear HB3 HC3 hb4 q2
  go_wp2
  go_ret
  exact ⟨rfl, HB4.out⟩
end Go.Proofs.Ytemkeeoolffokaa
