/- The document's answer for layer 5: some. -/
import Derived.Test.YtcloepjeckbmoaaDoorPfxDecP
namespace Go.Proofs.YtcloepjeckbmoaaDoor
open Go.RowKit
set_option linter.unusedVariables false
set_option linter.unusedSimpArgs false

/-- What the document's reading holds: the result's cell, the bytes read so far. -/
structure RefS (w : World) (l : List Int) (w0 : World) : Prop where
  below : Below w.heap.size w w0
  zero : w0.heap[w.heap.size]? = some (.cells (arrV zero16) 22 (0, 0))
  x : w0.heap[w.heap.size + 1]? = some (.cells (arrV l) 22 (0, 0))
theorem RefS.step {w w0 w1 : World} {l : List Int} (h : RefS w l w0) (hb : Below w0.heap.size w0 w1) : RefS w l w1 := ⟨below_step h.below hb, blk_below h.zero hb, blk_below h.x hb⟩

set_option maxHeartbeats 4000000 in
theorem refsome_any (A : Option Addr) (n c : Nat) (xs : List Int) (fm bits : Nat) (wrong : Int) (w : World) (hr : RB w A n c xs) (hfm : fm ≤ 1000) (hwr : wrong ≠ 0) (hbits : bits ≤ 128) :
    Calls Tryd.prog 50 #[.slice A n c, .int .i64 fm, .int .i64 bits, .int .i64 wrong] w fun e w' => e = .returned (.tuple #[.agg (arrV (someL (xs.drop fm) bits wrong)), .int .i64 (someE (xs.drop fm) bits wrong)]) ∧ Below w.heap.size w w' := by
  have hsm := hr.small
  have hlen := hr.len
  have hxb := hr.range
  have HR := Lib.hid hr
  have HLEN := Lib.hid hlen
  obtain ⟨ys, hys⟩ : ∃ ys, xs.drop fm = ys := ⟨_, rfl⟩
  have hyl : ys.length = n - fm := by rw [← hys, List.length_drop, hlen]
  have hyb : Bytes ys := by rw [← hys]; exact hxb.drop fm
  have HYR : Hid (∀ k : Nat, rd ys (k : Int) = rd xs ((fm : Int) + k)) := fun k => by
    rw [← hys]
    simp only [rd, Int.toNat_natCast, List.getD_eq_getElem?_getD, List.getElem?_drop]
    rw [show ((fm : Int) + k).toNat = fm + k by omega]
  rw [hys]
  have HYL := Lib.hid hyl
  clear hys hr hlen hxb hyl
  have hst2 := blk_new (w.alloc (.cells (arrV zero16) 22)) (.cells (arrV zero16) 22)
  rw [show (w.alloc (.cells (arrV zero16) 22)).heap.size = w.heap.size + 1 by simp] at hst2
  have HS : Hid (RefS w (pad (ys.take 0)) ((w.alloc (.cells (arrV zero16) 22)).alloc (.cells (arrV zero16) 22))) :=
    ⟨below_alloc (below_alloc (Below.refl _ _) _) _, blk_below (blk_new w _) (below_alloc (Below.refl _ _) _), hst2⟩
  clear hst2
  obtain ⟨nb, hnb⟩ : ∃ nb, fullB (bits : Int) = nb := ⟨_, rfl⟩
  have hnn : 8 * nb ≤ bits + 7 ∧ bits ≤ 8 * nb := by rw [← hnb]; unfold fullB; omega
  have hn16 : nb ≤ 16 := by omega
  have HNB := Lib.hid hnb
  clear hnb
  go_enter Tryd.func50, Tryd.ntmps50
  go_wp2_with fail
  go_loopw [11] (fun i wr => ∃ k : Nat, i = .int .i64 k ∧ Hid (k ≤ nb ∧ k ≤ ys.length ∧ RefS w (pad (ys.take k)) wr ∧ (k = nb → 0 < nb → clearA (pad (ys.take nb)) bits = true))) (fun i _ => 16 - (intOf i).toNat)
  case atStart => exact ⟨0, rfl, Nat.zero_le _, Nat.zero_le _, HS.out, fun h h0 => by omega⟩
  case round =>
    obtain ⟨k, rfl, HH⟩ := hrel
    clear HS
    have hk := HH.out.1
    by_cases hlt2 : k < nb
    · have hlt' : 8 * (k : Int) < bits := by omega
      have hlp : (pad (ys.take k)).length = 16 := pad_len (by rw [List.length_take]; omega)
      by_cases hkx : k < ys.length
      · have hkn : (fm : Int) + k < n := by have := HYL.out; omega
        have hd0 : decide ((n : Int) ≤ (fm : Int) + k) = false := decide_eq_false (by omega)
        have hf0 : 0 ≤ (fm : Int) + k := by omega
        obtain ⟨ad, rfl, hc⟩ := (HR.out.below HH.out.2.2.1.below).at_ ((fm : Int) + k) (by omega) (by omega)
        rw [← HYR.out k, show ((fm : Int) + k).toNat = fm + k by omega] at hc
        have hrk : 0 ≤ rd ys (k : Int) ∧ rd ys (k : Int) < 256 := hyb.getD _
        have hcy := arr_cell HH.out.2.2.1.x k (by rw [hlp]; omega)
        have hfy : wr.frozen? ⟨w.heap.size + 1, k, none⟩ = false := blk_frozen HH.out.2.2.1.x k
        have hk16 : (k : Int) < 16 := by omega
        have hk0 : (0 : Int) ≤ k := by omega
        have H2 : Hid (RefS w (pad (ys.take (k + 1))) (wr.setCell ⟨w.heap.size + 1, k, none⟩ (.int .u8 (rd ys (k : Int))))) := by
          refine ⟨HH.out.2.2.1.below.setCell (by simp) _, blk_set_far HH.out.2.2.1.zero (by simp) _, ?_⟩
          have := arr_set HH.out.2.2.1.x k (rd ys (k : Int))
          rw [pad_set ys k hkx (by omega)] at this
          exact this
        have HKX := Lib.hid hkx
        clear hkx
        go_wp2_with fail
        clear hc hcy hfy hf0 hkn hd0
        go_loopw [12] (fun v wr3 => ∃ m : Nat, v = .int .i64 m ∧ Hid (bits ≤ m ∧ (∀ j : Nat, bits ≤ j → j < m → bitA (pad (ys.take (k + 1))) j = 0) ∧ RefS w (pad (ys.take (k + 1))) wr3)) (fun v _ => 128 - (intOf v).toNat)
        case atStart => exact ⟨bits, rfl, Nat.le_refl _, fun j h1 h2 => by omega, H2.out⟩
        case round =>
          obtain ⟨m, rfl, HM⟩ := hrel
          have hmb := HM.out.1
          have hp16 : B16 (pad (ys.take (k + 1))) := pad_16 (by rw [List.length_take]; omega) (hyb.take _)
          by_cases hlt3 : m < 8 * k + 8
          · have hlt4 : (m : Int) < 8 * (k : Int) + 8 := by omega
            have hm0 : (0 : Int) ≤ m := by omega
            have hm1 : (m : Int) < 128 := by omega
            have hlx := load_arr0 hp16 HM.out.2.2.x
            go_wp2_with (refine wpList_load_g hlx _ rfl rfl (by go_simp) ?_)
            refine (refat_any _ m _ hp16 hm0 hm1).mono ?_
            rintro e w3 ⟨rfl, hbb3⟩
            rw [show (m : Int).toNat = m by omega]
            have H3 := Lib.hid (HM.out.2.2.step hbb3)
            clear hbb3 hlx
            by_cases hbit : bitA (pad (ys.take (k + 1))) m = 1
            · have hbt : (bitA (pad (ys.take (k + 1))) m == 1) = true := by simpa using hbit
              have hcf : clearA (pad (ys.take (k + 1))) bits = false := by
                rw [Bool.eq_false_iff]
                intro h
                have := (clearA_iff _ bits).1 h m hmb (by omega)
                omega
              have hk1 : k + 1 = nb := by omega
              have HE := Lib.hid (some_wrong (xs := ys) (bits := bits) (wrong := wrong) (by rw [HNB.out]; have := HKX.out; omega) (by rw [HNB.out, ← hk1]; exact hcf))
              have HE2 := Lib.hid (someL_no (xs := ys) (bits := bits) (wrong := wrong) (by rw [HE.out]; exact hwr))
              have hbn := run_build_arr_nil
              clear hbit hcf hk1
              go_wp2_with (refine wpList_store_blk H3.out.zero 22 0 (arrV zero16) (by rw [arr_size rfl]; exact Nat.le_refl _) (info_arr rfl) (arr_one _) _ _ rfl rfl rfl rfl ?_; intro w9 hg9 hs9 hb9; rw [splice_arr0 _ zero16 rfl rfl] at hb9; have H9 := Lib.hid (And.intro hg9 hb9); clear hg9 hs9 hb9)
              have hld := load_arr0 zero16_B H9.out.2
              refine bodyPost_ret (results_c2 rfl rfl hld) rfl ?_
              rw [HE.out, HE2.out]
              exact ⟨rfl, below_grown H3.out.below H9.out.1 (by omega)⟩
            · have hbt : (bitA (pad (ys.take (k + 1))) m == 1) = false := by simpa using hbit
              have HZ : Hid (bitA (pad (ys.take (k + 1))) m = 0) := (bitA_range _ m).resolve_right hbit
              clear hbit
              go_wp2_with fail
              go_roundw
              case measure => simp [intOf]; omega
              case rel =>
                refine ⟨m + 1, by go_num, by omega, fun j h1 h2 => ?_, H3.out⟩
                by_cases hj : j < m
                · exact HM.out.2.1 j h1 hj
                · rw [show j = m by omega]; exact HZ.out
          · have hge : decide ((m : Int) < 8 * (k : Int) + 8) = false := decide_eq_false (by omega)
            have HC : Hid (clearA (pad (ys.take (k + 1))) bits = true) := (clearA_iff _ bits).2 (fun j h1 h2 => by
              by_cases hj : j < m
              · exact HM.out.2.1 j h1 hj
              · exact bit_pad _ j (by rw [List.length_take]; omega))
            clear hlt3
            go_wp2_with fail
            go_roundw
            case measure => simp [intOf]; omega
            case rel =>
              refine ⟨k + 1, by go_num, by omega, by have := HKX.out; omega, HM.out.2.2, fun h _ => by rw [← h]; exact HC.out⟩
      · have hkx' : k = ys.length := by have := HH.out.2.1; omega
        have hd0 : decide ((n : Int) ≤ (fm : Int) + k) = true := decide_eq_true (by have := HYL.out; omega)
        have HE := Lib.hid (some_short (xs := ys) (bits := bits) (wrong := wrong) (by rw [HNB.out]; omega))
        have HE2 := Lib.hid (someL_no (xs := ys) (bits := bits) (wrong := wrong) (by rw [HE.out]; decide))
        have hbn := run_build_arr_nil
        clear hkx hkx'
        go_wp2_with (refine wpList_store_blk HH.out.2.2.1.zero 22 0 (arrV zero16) (by rw [arr_size rfl]; exact Nat.le_refl _) (info_arr rfl) (arr_one _) _ _ rfl rfl rfl rfl ?_; intro w9 hg9 hs9 hb9; rw [splice_arr0 _ zero16 rfl rfl] at hb9; have H9 := Lib.hid (And.intro hg9 hb9); clear hg9 hs9 hb9)
        have hld := load_arr0 zero16_B H9.out.2
        refine bodyPost_ret (results_c2 rfl rfl hld) rfl ?_
        rw [HE.out, HE2.out]
        exact ⟨rfl, below_grown HH.out.2.2.1.below H9.out.1 (by omega)⟩
    · obtain rfl : k = nb := by omega
      have hm1 : decide (8 * (k : Int) < bits) = false := decide_eq_false (by omega)
      have hp16 : B16 (pad (ys.take k)) := pad_16 (by rw [List.length_take]; omega) (hyb.take _)
      have hcl : clearA (pad (ys.take k)) bits = true := by
        rcases Nat.eq_zero_or_pos k with h | h
        · subst h
          exact clear_pad _ _ (by simp)
        · exact HH.out.2.2.2 rfl h
      have HE := Lib.hid (some_ok (xs := ys) (bits := bits) (wrong := wrong) (by rw [HNB.out]; exact HH.out.2.1) (by rw [HNB.out]; exact hcl))
      have HE2 := Lib.hid ((someL_ok HE.out).trans (by rw [HNB.out]))
      have hld0 := load_arr0 hp16 HH.out.2.2.1.x
      clear hlt2 hcl hk
      go_wp2_with (first | (refine wpList_load_g hld0 _ rfl rfl (by go_simp) ?_) | (refine wpList_store_blk HH.out.2.2.1.zero 22 0 (arrV (pad (ys.take k))) (by rw [arr_size hp16.len, arr_size rfl]; exact Nat.le_refl _) (info_arr hp16.len) (arr_one _) _ _ rfl rfl rfl rfl ?_; intro w4 hg hs hb; rw [splice_arr0 _ (pad (ys.take k)) hp16.len rfl] at hb; have H4 := Lib.hid (And.intro hg hb); clear hg hs hb))
      have hld := load_arr0 hp16 H4.out.2
      refine bodyPost_ret (results_c2 rfl rfl hld) rfl ?_
      rw [HE.out, HE2.out]
      exact ⟨rfl, below_grown HH.out.2.2.1.below H4.out.1 (by omega)⟩
end Go.Proofs.YtcloepjeckbmoaaDoor
