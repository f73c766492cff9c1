/- SumSeals: the walk. -/
import Derived.Test.YtemkeeoolffokaaSumC
namespace Go.Proofs.Ytemkeeoolffokaa
open Go.RowKit
set_option linter.unusedVariables false
set_option linter.unusedSimpArgs false

/-- What was sealed (s) and what was opened (x), over bytes that stay. -/
structure SSt (w2 cur : World) (b3 : Nat) (AS : Addr) (N : Nat) (AX : Option Addr) (m cx : Nat) (ys zs : List Int) : Prop where
  below : Below w2.heap.size w2 cur
  s : OB cur w2.heap.size (some AS) N N ys
  x : OB cur b3 AX m cx zs
  lt : AS.block < b3
  le : w2.heap.size ≤ b3
theorem SSt.step {w2 cur cur' : World} {b3 : Nat} {AS : Addr} {N : Nat} {AX : Option Addr} {m cx : Nat} {ys zs : List Int} (h : SSt w2 cur b3 AS N AX m cx ys zs) (hb : Below cur.heap.size cur cur') : SSt w2 cur' b3 AS N AX m cx ys zs :=
  ⟨below_step h.below hb, h.s.below hb, h.x.below hb, h.lt, h.le⟩
theorem SSt.stores {w2 cur : World} {b3 : Nat} {AS : Addr} {N : Nat} {AX : Option Addr} {m cx : Nat} {ys zs : List Int} (h : SSt w2 cur b3 AS N AX m cx ys zs) (i : Nat) (hi : i < N) :
    (cur.cell? (AS.add i) = some (.int .u8 (rd ys i)) ∧ cur.frozen? (AS.add i) = false) ∧ SSt w2 (cur.setCell (AS.add i) (.int .u8 9)) b3 AS N AX m cx (ys.set i 9) zs := by
  have k := add_block AS i
  have hs := h.s.base_ AS rfl
  refine ⟨h.s.cellf i hi, ⟨h.below.setCell (by omega) _, h.s.store i hi 9 (by omega) (by omega), h.x.far (p := AS.add i) (fun ad e => ?_) _, h.lt, h.le⟩⟩
  have := h.x.base_ ad e
  have := h.lt
  omega
theorem SSt.storex {w2 cur : World} {b3 : Nat} {AS ax : Addr} {N : Nat} {m cx : Nat} {ys zs : List Int} (h : SSt w2 cur b3 AS N (some ax) m cx ys zs) (i : Nat) (hi : i < m) :
    (cur.cell? (ax.add i) = some (.int .u8 (rd zs i)) ∧ cur.frozen? (ax.add i) = false) ∧ SSt w2 (cur.setCell (ax.add i) (.int .u8 9)) b3 AS N (some ax) m cx ys (zs.set i 9) := by
  have k := add_block ax i
  have hs := h.x.base_ ax rfl
  have hle := h.le
  refine ⟨h.x.cellf i hi, ⟨h.below.setCell (by omega) _, h.s.far (p := ax.add i) (fun ad e => ?_) _, h.x.store i hi 9 (by omega) (by omega), h.lt, h.le⟩⟩
  injection e with e
  subst e
  have := h.lt
  omega

set_option maxHeartbeats 2000000 in
theorem sumSeals_walk (A0 : Option Addr) (n0 c0 : Nat) (l0 : List Int) (w : World) (h0 : RN w .u8 A0 n0 c0 l0) (y0 : n0 * 1 ≤ 140737488351232) :
    Calls Try.prog 6 #[.slice A0 n0 c0] w fun e w' => e = .returned (.bool true) ∧ Below w.heap.size w w' := by
  by_cases hbig : 3000 < n0
  · have hb : decide ((3000 : Int) < (n0 : Int)) = true := decide_eq_true (by omega)
    go_enter Try.func6, Try.ntmps6
    go_wp2_with fail
    refine (wakes3_any w).mono ?_
    rintro e w1 ⟨rfl, hb1⟩
    have HB := Lib.hid hb1
    clear hb1
    go_wp2
    go_ret
    exact ⟨rfl, HB.out⟩
  · have hb0 : decide ((3000 : Int) < (n0 : Int)) = false := decide_eq_false (by omega)
    go_enter Try.func6, Try.ntmps6
    go_wp2_with fail
    refine (wakes3_any w).mono ?_
    rintro e w1 ⟨rfl, hb1⟩
    have HB := Lib.hid hb1
    have H0 := Lib.hid (h0.bytes.below hb1)
    clear hb1 h0
    go_wp2_with fail
    refine (both_any A0 n0 c0 l0 none 0 0 [] w1 H0.out (RB.nil _ _ _) (by omega)).mono ?_
    rintro e w2 ⟨A2, rfl, h2, hbb2⟩
    rw [List.append_nil, Nat.add_zero] at h2
    rw [Nat.add_zero]
    have HB2 := Lib.hid (below_step HB.out hbb2)
    have H02 := Lib.hid (H0.out.below hbb2)
    have H2 := Lib.hid h2.reads
    clear hbb2 h2 HB H0
    go_wp2_with fail
    refine (seal32_any A0 n0 c0 l0 w2 H02.out (by omega)).mono ?_
    rintro e w3 ⟨AS, rfl, h3, hbb3⟩
    obtain ⟨as_, rfl⟩ : ∃ ad, AS = some ad := by
      obtain ⟨ad, e, _⟩ := h3.reads.at_ 0 (by omega) (by omega)
      exact ⟨ad, e⟩
    have B3 := Lib.hid hbb3
    have H3 := Lib.hid h3
    clear hbb3 h3
    go_wp2_with fail
    refine (open32_any A0 n0 c0 l0 w3 (H02.out.below B3.out) (by omega)).mono ?_
    rintro e w4 ⟨AX, m, cx, rfl, hm, h4, hbb4⟩
    have HS : Hid (SSt w2 w4 w3.heap.size as_ (n0 + 4) AX m cx (l0 ++ highB (sumOn 1 l0) 4) (l0.take m)) :=
      ⟨below_step B3.out hbb4, H3.out.below hbb4, h4, H3.out.lt as_ rfl, B3.out.size⟩
    have HM := Lib.hid hm
    clear hbb4 h4 B3 H3 hm
    go_wp2_with fail
    refine (refseal_any A2 n0 n0 l0 w4 (H2.out.below HS.out.below) (by omega)).mono ?_
    rintro e w5 ⟨A5, rfl, h5, hbb5⟩
    have HS5 := Lib.hid (HS.out.step hbb5)
    have H5 := Lib.hid h5.reads
    clear hbb5 h5 HS
    go_wp2_with fail
    refine (same_any (some as_) (n0 + 4) (n0 + 4) _ A5 (n0 + 4) (n0 + 4) _ w5 HS5.out.s.reads H5.out).mono ?_
    rintro e w6 ⟨rfl, hbb6⟩
    have HS6 := Lib.hid (HS5.out.step hbb6)
    clear hbb6 HS5 H5
    have hdd : decide (l0 ++ highB (sumOn 1 l0) 4 = l0 ++ highB (sumOn 1 l0) 4) = true := by simp
    by_cases h4 : n0 < 4
    · have hoe : openE l0 = 7 := by unfold openE; rw [H02.out.len, if_pos h4]
      have hom : m = 0 := by rw [HM.out]; unfold openM; rw [hoe]; rfl
      subst hom
      rw [hoe]
      clear hoe
      go_wp2
      go_ret
      exact ⟨rfl, below_step HB2.out HS6.out.below⟩
    · have h4' : 4 ≤ n0 := by omega
      clear h4
      have hd4 : decide ((n0 : Int) < 4) = false := decide_eq_false (by omega)
      go_wp2_with fail
      refine (refopens_any A2 n0 n0 l0 w6 (H2.out.below HS6.out.below) (by omega)).mono ?_
      rintro e w7 ⟨rfl, hbb7⟩
      have HS7 := Lib.hid (HS6.out.step hbb7)
      clear hbb7 HS6
      cases hop : opensB l0 with
      | false =>
        have hoe : openE l0 = 130 := by unfold openE; rw [H02.out.len, if_neg (by omega), hop]; rfl
        have hom : m = 0 := by rw [HM.out]; unfold openM; rw [hoe]; rfl
        subst hom
        rw [hoe]
        clear hoe hop
        go_wp2
        go_ret
        exact ⟨rfl, below_step HB2.out HS7.out.below⟩
      | true =>
        have hoe : openE l0 = 0 := by unfold openE; rw [H02.out.len, if_neg (by omega), hop]; rfl
        have hom : n0 = m + 4 := by
          have h1 : m = n0 - 4 := by rw [HM.out]; unfold openM; rw [hoe, H02.out.len]; rfl
          omega
        subst hom
        rw [hoe]
        have HT : Hid (RB w2 A2 m (m + 4) (l0.take m)) := H2.out.take m (by omega)
        clear hoe hop hd4 h4' hdd
        go_wp2_with fail
        refine (same_any AX m cx (l0.take m) A2 m (m + 4) (l0.take m) w7 HS7.out.x.reads (HT.out.below HS7.out.below)).mono ?_
        rintro e w8 ⟨rfl, hbb8⟩
        have HS8 := Lib.hid (HS7.out.step hbb8)
        clear hbb8 HS7 HT
        have hdd : decide (l0.take m = l0.take m) = true := by simp
        go_wp2_with fail
        go_loopw [61] (fun i wr => ∃ (k : Nat) (ys : List Int), i = .int .i64 k ∧ Hid (k ≤ m + 4 + 4) ∧ Hid (SSt w2 wr w3.heap.size as_ (m + 4 + 4) AX m cx ys (l0.take m))) (fun i _ => m + 4 + 4 - (intOf i).toNat)
        case atStart => exact ⟨0, _, rfl, Nat.zero_le _, HS8.out⟩
        case round =>
          obtain ⟨k, ys, rfl, HK, HH⟩ := hrel
          clear HS8 hdd
          have hk := HK.out
          by_cases hlt : k < m + 4 + 4
          · have HLT := Lib.hid hlt
            obtain ⟨⟨x1, x2⟩, hnext⟩ := HH.out.stores k hlt
            have HN := Lib.hid hnext
            clear hnext
            have hk1 : (k : Int) < (m : Int) + 4 + 4 := by omega
            go_wp2_with fail
            go_roundw
            case measure => simp [intOf]; omega
            case rel => exact ⟨k + 1, _, by go_num, (show k + 1 ≤ m + 4 + 4 by omega), HN.out⟩
          · obtain rfl : k = m + 4 + 4 := by omega
            clear hlt
            go_wp2_with fail
            have HN := Lib.hid HH.out
            clear HH HK hk
            go_loopw [70] (fun i wr2 => ∃ (j : Nat) (zs : List Int), i = .int .i64 j ∧ Hid (j ≤ m) ∧ Hid (SSt w2 wr2 w3.heap.size as_ (m + 4 + 4) AX m cx ys zs)) (fun i _ => m - (intOf i).toNat)
            case atStart => exact ⟨0, _, rfl, Nat.zero_le _, HN.out⟩
            case round =>
              obtain ⟨j, zs, rfl, HJ, HX⟩ := hrel
              clear HN
              have hj := HJ.out
              by_cases hlt : j < m
              · have HLT := Lib.hid hlt
                obtain ⟨ax, rfl, _⟩ := HX.out.x.reads.at_ j (by omega) (by omega)
                obtain ⟨⟨x1, x2⟩, hnext⟩ := HX.out.storex j hlt
                have HN := Lib.hid hnext
                clear hnext
                have hj1 : (j : Int) < (m : Int) := by omega
                go_wp2_with fail
                go_roundw
                case measure => simp [intOf]; omega
                case rel => exact ⟨j + 1, _, by go_num, (show j + 1 ≤ m by omega), HN.out⟩
              · obtain rfl : j = m := by omega
                clear hlt
                go_wp2_with fail
                refine (same_any A0 _ c0 l0 A2 _ _ l0 _ (H02.out.below HX.out.below) (H2.out.below HX.out.below)).mono ?_
                rintro e w9 ⟨rfl, hbb9⟩
                have HB9 := Lib.hid (below_step HX.out.below hbb9)
                clear hbb9
                go_wp2
                go_ret
                exact ⟨by simp, below_step HB2.out HB9.out⟩
end Go.Proofs.Ytemkeeoolffokaa
