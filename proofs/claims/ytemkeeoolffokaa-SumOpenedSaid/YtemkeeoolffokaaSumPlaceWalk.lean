/- SumPlace, SumOpened: the walks. -/
import Derived.Test.YtemkeeoolffokaaSumC
namespace Go.Proofs.Ytemkeeoolffokaa
open Go.RowKit
set_option linter.unusedVariables false
set_option linter.unusedSimpArgs false

theorem idx_u (k : Int) (n : Nat) (hn : 0 < n) (hn2 : n ≤ 140737488355328) : ∃ q : Nat, (IntKind.u64.wrap k).tmod (n : Int) = (q : Int) ∧ q < n := by
  have h1 : IntKind.u64.wrap k = k % 18446744073709551616 := by simp [IntKind.wrap, IntKind.bits, IntKind.signed]
  have h3 := Int.emod_nonneg k (show (18446744073709551616 : Int) ≠ 0 by omega)
  have h4 := Int.emod_nonneg (k % 18446744073709551616) (show (n : Int) ≠ 0 by omega)
  have h5 := Int.emod_lt_of_pos (k % 18446744073709551616) (show (0 : Int) < n by omega)
  refine ⟨(k % 18446744073709551616 % n).toNat, ?_, by omega⟩
  rw [h1, Int.tmod_eq_emod_of_nonneg h3]
  omega

theorem high4_inj {s t : Int} (hs0 : 0 ≤ s) (hs1 : s < 4294967296) (ht0 : 0 ≤ t) (ht1 : t < 4294967296) (h : highB s 4 = highB t 4) : s = t := by
  have h1 := (num4 s hs0 hs1 (highB t 4) (highB_length _ _) (highB_bytes _ _)).2 h
  have h2 := (num4 t ht0 ht1 (highB t 4) (highB_length _ _) (highB_bytes _ _)).2 rfl
  exact h1.symm.trans h2
theorem opens_changed (xs : List Int) (hx : Bytes xs) (q : Nat) (v : Int) (hq : q < xs.length + 4) (hv0 : 0 ≤ v) (hv1 : v < 256) (hne : v ≠ (xs ++ highB (sumOn 1 xs) 4).getD q 0) :
    opensB ((xs ++ highB (sumOn 1 xs) 4).set q v) = false := by
  have hlen : ((xs ++ highB (sumOn 1 xs) 4).set q v).length - 4 = xs.length := by rw [List.length_set, List.length_append, highB_length]; omega
  have hr := sumOn_range 1 xs
  unfold opensB
  rw [hlen]
  rw [Bool.and_eq_false_iff]
  right
  rw [decide_eq_false_iff_not]
  intro h
  by_cases hqx : q < xs.length
  · rw [List.set_append_left _ _ hqx] at h
    rw [List.take_left' (by simp), List.drop_left' (by simp)] at h
    have hr2 := sumOn_range 1 (xs.set q v)
    have h2 := high4_inj hr2.1 (by omega) hr.1 (by omega) h
    have h3 := (sumOn_place 1 xs q v hqx hx hv0 hv1).1 h2
    apply hne
    rw [h3, List.getD_eq_getElem?_getD, List.getD_eq_getElem?_getD, List.getElem?_append_left hqx]
  · have hqx' : xs.length ≤ q := by omega
    rw [List.set_append_right _ _ hqx'] at h
    rw [List.take_left' rfl, List.drop_left' rfl] at h
    have h3 := congrArg (fun l => l[q - xs.length]?) h
    simp only [List.getElem?_set_self (show q - xs.length < (highB (sumOn 1 xs) 4).length by rw [highB_length]; omega)] at h3
    apply hne
    rw [List.getD_eq_getElem?_getD, List.getElem?_append_right hqx', h3]
    rfl

set_option maxHeartbeats 1000000 in
theorem sumPlace_walk (A0 : Option Addr) (n0 c0 : Nat) (l0 : List Int) (k y : Int) (w : World) (h0 : RN w .u8 A0 n0 c0 l0) (y0 : n0 * 1 ≤ 140737488351232) (hk : (Lit.int .i64 k).wf = true) (hy : (Lit.int .u8 y).wf = true) :
    Calls Try.prog 9 #[.slice A0 n0 c0, .int .i64 k, .int .u8 y] w fun e w' => e = .returned (.bool true) ∧ Below w.heap.size w w' := by
  obtain ⟨hy0, hy1⟩ := wf_u8 hy
  clear hy hk
  by_cases hbig : 3000 < n0
  · have hb : decide ((3000 : Int) < (n0 : Int)) = true := decide_eq_true (by omega)
    go_enter Try.func9, Try.ntmps9
    go_wp2_with fail
    refine (wakes3_any w).mono ?_
    rintro e w1 ⟨rfl, hb1⟩
    have HB := Lib.hid hb1
    clear hb1
    go_wp2
    go_ret
    exact ⟨rfl, HB.out⟩
  · have hb0 : decide ((3000 : Int) < (n0 : Int)) = false := decide_eq_false (by omega)
    have hsr := sumOn_range 1 l0
    have hz := sumOn_snoc 1 l0 0
    have e1 : IntKind.u64.wrap (sumOn 1 l0) = sumOn 1 l0 := wrap_u64_id _ (by omega) (by omega)
    have e2 : IntKind.u64.wrap (sumOn 1 l0 * 257) = sumOn 1 l0 * 257 := wrap_u64_id _ (by omega) (by omega)
    have e3 : (sumOn 1 l0 * 257).tmod 4294967291 = sumOn 1 l0 * 257 % 4294967291 := Int.tmod_eq_emod_of_nonneg (by omega)
    have e4 : IntKind.u64.wrap (sumOn 1 l0 * 257 % 4294967291) = sumOn 1 l0 * 257 % 4294967291 := wrap_u64_id _ (by omega) (by omega)
    rw [Int.add_zero] at hz
    have HE := Lib.hid (And.intro e1 (And.intro e2 (And.intro e3 (And.intro e4 hz))))
    clear e1 e2 e3 e4 hz
    go_enter Try.func9, Try.ntmps9
    go_wp2_with fail
    refine (wakes3_any w).mono ?_
    rintro e w1 ⟨rfl, hb1⟩
    have HB := Lib.hid hb1
    have H0 := Lib.hid (h0.bytes.below hb1)
    clear hb1 h0
    go_wp2_with fail
    refine (sum32_any A0 n0 c0 l0 w1 H0.out).mono ?_
    rintro e w2 ⟨rfl, hbb2⟩
    have B2 := Lib.hid hbb2
    clear hbb2
    go_wp2_with fail
    refine (bclone_any A0 n0 c0 l0 w2 (H0.out.below B2.out) (by omega)).mono ?_
    rintro e w3 ⟨A3, c3, rfl, h3, hbb3⟩
    have B3 := Lib.hid (below_step B2.out hbb3)
    have BZ := Lib.hid hbb3
    have H3 := Lib.hid h3
    clear h3 hbb3
    go_wp2_with (at_builtin; refine wpList_append_bytes rfl (.tmp 17) (.tmp 18) rfl rfl rfl (H3.out.below (below_alloc (Below.refl _ _) _)) (RB.one _ _ (by omega) (by omega)) (by have := BZ.out.size; simp; omega) (by omega) ?_; intro A4 c4 w4 x1 x2 x3; have HX := Lib.hid (And.intro x1 (below_step B2.out (below_own (below_alloc BZ.out _) x2 H3.out.base_))); clear x1 x2 x3)
    have hz := HE.out.2.2.2.2
    refine (sum32_any A4 (n0 + 1) c4 _ w4 HX.out.1.reads).mono ?_
    rintro e w5 ⟨rfl, hbb5⟩
    rw [hz]
    have B5 := Lib.hid (below_step HX.out.2 hbb5)
    have e1 := HE.out.1
    have e2 := HE.out.2.1
    have e3 := HE.out.2.2.1
    have e4 := HE.out.2.2.2.1
    clear hbb5 HX H3 B3 BZ B2 hz HE
    by_cases hnil : n0 = 0
    · obtain rfl : l0 = [] := List.eq_nil_of_length_eq_zero (by rw [H0.out.len, hnil])
      subst hnil
      have hone : sumOn 1 [] = 1 := by decide
      go_wp2
      go_ret
      exact ⟨by simp, below_step HB.out B5.out⟩
    · have hpos : 0 < n0 := by omega
      have hnz : ((n0 : Int) == 0) = false := by simp; omega
      clear hnil
      go_wp2_with fail
      refine (bclone_any A0 n0 c0 l0 w5 (H0.out.below B5.out) (by omega)).mono ?_
      rintro e w6 ⟨A6, c6, rfl, h6, hbb6⟩
      have B6 := Lib.hid (below_step B5.out hbb6)
      clear e1 e2 e3 e4
      obtain ⟨q, hq, hqn⟩ := idx_u k n0 hpos (by omega)
      obtain ⟨ad, rfl, _⟩ := h6.reads.at_ q (by omega) (by omega)
      obtain ⟨hc6, hf6⟩ := h6.cellf q hqn
      have hg := h6.reads.rng q
      have hxn := xor_ne (rd l0 q) y hg.1 hg.2 hy0 hy1
      have HS := Lib.hid (h6.store q hqn (bits .xor .u8 (rd l0 q) y) hxn.1.1 hxn.1.2)
      have hpl := sumOn_place 1 l0 q (bits .xor .u8 (rd l0 q) y) (by rw [H0.out.len]; omega) H0.out.range hxn.1.1 hxn.1.2
      have hfin : ((sumOn 1 (l0.set q (bits .xor .u8 (rd l0 q) y)) == sumOn 1 l0) == (y == 0)) = true := by
        have e5 : (bits .xor .u8 (rd l0 q) y = l0.getD q 0) ↔ y = 0 := hxn.2
        by_cases hy : y = 0
        · rw [beq_iff_eq.2 (hpl.2 (e5.2 hy)), beq_iff_eq.2 hy]; rfl
        · rw [beq_eq_false_iff_ne.2 (fun h => hy (e5.1 (hpl.1 h))), beq_eq_false_iff_ne.2 hy]; rfl
      have hbd := h6.base_ ad rfl
      have hbs := (below_step HB.out B5.out).size
      have B7 : Hid (Below w.heap.size w (w6.setCell (ad.add q) (.int .u8 (bits .xor .u8 (rd l0 q) y)))) := (below_step HB.out B6.out).setCell (by rw [add_block]; omega) _
      have HF := Lib.hid hfin
      clear hpl hxn h6 hbb6 hfin hpos hnz hbd hbs
      go_wp2_with fail
      refine (sum32_any _ n0 c6 _ _ HS.out.reads).mono ?_
      rintro e w8 ⟨rfl, hbb8⟩
      have B8 := Lib.hid (below_step B7.out hbb8)
      have hfin := HF.out
      clear hbb8 HF
      go_wp2
      go_ret
      exact ⟨by simp, B8.out⟩

set_option maxHeartbeats 1000000 in
theorem sumOpened_walk (A0 : Option Addr) (n0 c0 : Nat) (l0 : List Int) (k y : Int) (w : World) (h0 : RN w .u8 A0 n0 c0 l0) (y0 : n0 * 1 ≤ 140737488351232) (hk : (Lit.int .i64 k).wf = true) (hy : (Lit.int .u8 y).wf = true) :
    Calls Try.prog 7 #[.slice A0 n0 c0, .int .i64 k, .int .u8 y] w fun e w' => e = .returned (.bool true) ∧ Below w.heap.size w w' := by
  obtain ⟨hy0, hy1⟩ := wf_u8 hy
  clear hy hk
  by_cases hbig : 3000 < n0
  · have hb : decide ((3000 : Int) < (n0 : Int)) = true := decide_eq_true (by omega)
    go_enter Try.func7, Try.ntmps7
    go_wp2_with fail
    refine (wakes3_any w).mono ?_
    rintro e w1 ⟨rfl, hb1⟩
    have HB := Lib.hid hb1
    clear hb1
    go_wp2
    go_ret
    exact ⟨rfl, HB.out⟩
  · have hb0 : decide ((3000 : Int) < (n0 : Int)) = false := decide_eq_false (by omega)
    have hlen : (l0 ++ highB (sumOn 1 l0) 4).length = n0 + 4 := by rw [List.length_append, highB_length, h0.bytes.len]
    have hop := opensB_seal l0
    have hoe : openE (l0 ++ highB (sumOn 1 l0) 4) = 0 := by unfold openE; rw [hlen, if_neg (by omega), hop]; rfl
    have hom : openM (l0 ++ highB (sumOn 1 l0) 4) = n0 := by unfold openM; rw [hoe, hlen, if_pos rfl]; omega
    have HOP := Lib.hid (And.intro hoe (And.intro hom hlen))
    clear hlen hop hoe hom
    go_enter Try.func7, Try.ntmps7
    go_wp2_with fail
    refine (wakes3_any w).mono ?_
    rintro e w1 ⟨rfl, hb1⟩
    have HB := Lib.hid hb1
    have H0 := Lib.hid (h0.bytes.below hb1)
    clear hb1 h0
    go_wp2_with fail
    refine (seal32_any A0 n0 c0 l0 w1 H0.out (by omega)).mono ?_
    rintro e w2 ⟨A2, rfl, h2, hbb2⟩
    have B2 := Lib.hid hbb2
    have H2 := Lib.hid h2
    clear hbb2 h2
    go_wp2_with fail
    refine (open32_any A2 (n0 + 4) (n0 + 4) _ w2 H2.out.reads (by omega)).mono ?_
    rintro e w3 ⟨A3, m, c3, rfl, hm, h3, hbb3⟩
    rw [HOP.out.2.1] at hm
    rw [HOP.out.1]
    subst hm
    have hrow : List.take m (l0 ++ highB (sumOn 1 l0) 4) = l0 := List.take_left' H0.out.len
    rw [hrow] at h3
    have B3 := Lib.hid (below_step B2.out hbb3)
    have H3 := Lib.hid h3
    have H23 := Lib.hid (H2.out.below hbb3)
    clear hbb3 h3 hrow
    have hmm : ((m : Int) + 4 != (m : Int) + 4) = false := by simp
    go_wp2_with fail
    refine (bequal_any A3 m c3 l0 A0 m c0 l0 w3 H3.out.reads (H0.out.below B3.out)).mono ?_
    rintro e w4 ⟨rfl, rfl⟩
    by_cases hyz : y = 0
    · have hyb : (y == 0) = true := by simp [hyz]
      clear hyz
      go_wp2
      go_ret
      exact ⟨rfl, below_step HB.out B3.out⟩
    · have hyb : (y == 0) = false := by simp [hyz]
      have HYZ := Lib.hid hyz
      clear hyz
      obtain ⟨q, hq, hqn⟩ := idx_u k (m + 4) (by omega) (by omega)
      obtain ⟨ad, rfl, _⟩ := H23.out.reads.at_ q (by omega) (by omega)
      obtain ⟨hc6, hf6⟩ := H23.out.cellf q hqn
      have hg := H23.out.reads.rng q
      have hxn := xor_ne (rd (l0 ++ highB (sumOn 1 l0) 4) q) y hg.1 hg.2 hy0 hy1
      have HS := Lib.hid (H23.out.store q hqn (bits .xor .u8 (rd (l0 ++ highB (sumOn 1 l0) 4) q) y) hxn.1.1 hxn.1.2)
      have hop := opens_changed l0 H0.out.range q (bits .xor .u8 (rd (l0 ++ highB (sumOn 1 l0) 4) q) y) (by rw [H0.out.len]; omega) hxn.1.1 hxn.1.2 (fun h => HYZ.out (hxn.2.1 h))
      have hoe : openE ((l0 ++ highB (sumOn 1 l0) 4).set q (bits .xor .u8 (rd (l0 ++ highB (sumOn 1 l0) 4) q) y)) = 130 := by
        unfold openE
        rw [List.length_set, HOP.out.2.2, if_neg (by omega), hop]
        rfl
      have hom : openM ((l0 ++ highB (sumOn 1 l0) 4).set q (bits .xor .u8 (rd (l0 ++ highB (sumOn 1 l0) 4) q) y)) = 0 := by
        unfold openM
        rw [hoe]
        rfl
      have HO2 := Lib.hid (And.intro hoe hom)
      have hbd := H2.out.base_ ad rfl
      have hbs := HB.out.size
      have B7 : Hid (Below w.heap.size w (w3.setCell (ad.add q) (.int .u8 (bits .xor .u8 (rd (l0 ++ highB (sumOn 1 l0) 4) q) y)))) := (below_step HB.out B3.out).setCell (by rw [add_block]; omega) _
      clear hxn hop hoe hom hbd hbs
      rw [show (((m + 4 : Nat)) : Int) = (m : Int) + 4 by omega] at hq
      go_wp2_with fail
      refine (open32_any _ (m + 4) (m + 4) _ _ HS.out.reads (by omega)).mono ?_
      rintro e w8 ⟨A8, m8, c8, rfl, hm8, h8, hbb8⟩
      rw [HO2.out.2] at hm8
      rw [HO2.out.1]
      subst hm8
      have B8 := Lib.hid (below_step B7.out hbb8)
      clear hbb8 h8
      go_wp2
      go_ret
      exact ⟨rfl, B8.out⟩
end Go.Proofs.Ytemkeeoolffokaa
