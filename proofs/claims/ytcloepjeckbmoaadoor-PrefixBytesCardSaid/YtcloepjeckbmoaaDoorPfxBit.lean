/- Layer 5 (prefix): Bit; the document's Bit. -/
import Derived.Test.YtcloepjeckbmoaaDoorPfx4
namespace Go.Proofs.YtcloepjeckbmoaaDoor
open Go.RowKit
set_option linter.unusedVariables false
set_option linter.unusedSimpArgs false

set_option maxHeartbeats 2000000 in
theorem bit5_any (v : Int) (l : List Int) (i : Int) (w : World) (hL : Laid w) (hl : B16 l) : Calls Tryd.prog 22 #[.agg (adrV v l), .int .i64 i] w fun e w' => e = .returned (.int .i64 (bitP v l i)) ∧ Below w.heap.size w w' := by
  have hblk1 := blk_new w (.cells (adrV v l) 24)
  have hbel1 : Below w.heap.size w (w.alloc (.cells (adrV v l) 24)) := below_alloc (Below.refl _ _) _
  have HP1 := Lib.hid (adr_at hl hblk1)
  have HBK1 := Lib.hid hblk1
  have HBE := Lib.hid hbel1
  have HL := Lib.hid (hL.below HBE.out)
  obtain ⟨cs1, hcs1⟩ : ∃ cs, adrV v l = cs := ⟨_, rfl⟩
  simp only [hcs1] at HBE HL HP1 HBK1 ⊢
  have HC1 := Lib.hid hcs1
  clear hL hcs1 hblk1 hbel1
  have hla := (HP1.out.all _ (Below.refl _ _)).1
  go_enter Tryd.func22, Tryd.ntmps22
  go_wp2_with (refine wpList_load_g hla _ rfl rfl (by go_simp) ?_)
  refine (checkAddr_any v l _ HL.out hl).mono ?_
  rintro e w1 ⟨rfl, hbb1⟩
  have HB1 := Lib.hid hbb1
  clear hbb1 hla
  cases hR : rightA v l with
  | false =>
    have HE : Hid (bitP v l i = 0) := bitP_no (by rw [hR]; simp)
    rw [errA_false hR]
    clear hR
    go_wp2
    go_ret
    rw [HE.out]
    exact ⟨rfl, below_step HBE.out HB1.out⟩
  | true =>
    rw [errA_true hR]
    by_cases h0 : i < 0
    · have HE : Hid (bitP v l i = 0) := bitP_no (by omega)
      clear hR
      go_wp2
      go_ret
      rw [HE.out]
      exact ⟨rfl, below_step HBE.out HB1.out⟩
    · have h0' : 0 ≤ i := by omega
      clear h0
      have hlv := (HP1.out.all w1 HB1.out).2.1
      go_wp2_with (refine wpList_load_g hlv _ rfl rfl (by go_simp) ?_)
      refine (width_any v w1 (HL.out.below HB1.out)).mono ?_
      rintro e w2 ⟨rfl, rfl⟩
      have hwl := widthA_le v
      by_cases hw : (widthA v : Int) ≤ i
      · have HE : Hid (bitP v l i = 0) := bitP_no (by omega)
        clear hR
        go_wp2
        go_ret
        rw [HE.out]
        exact ⟨rfl, below_step HBE.out HB1.out⟩
      · have hw' : i < (widthA v : Int) := by omega
        have HE : Hid (bitP v l i = bitA l i.toNat) := bitP_yes hR h0' hw'
        clear hR hw
        have hb := blk_below HBK1.out HB1.out
        rw [← HC1.out] at hb
        have hc := adr_b hb (i / 8).toNat (by rw [hl.len]; omega)
        rw [show (((i / 8).toNat : Nat) : Int) = i / 8 by omega] at hc
        have hx8 : i / 8 < 16 := by omega
        have hx80 : 0 ≤ i / 8 := by omega
        have hx7 : i % 8 < 8 := by omega
        have hx70 : 0 ≤ i % 8 := by omega
        have hr := hl.rd (i / 8)
        have hd := div_lt256 (rd l (i / 8)) (7 - i % 8).toNat hr.1 hr.2
        have hand := bits_and1 _ hd.1 hd.2
        have hbi : bitA l i.toNat = rd l (i / 8) / 2 ^ (7 - i % 8).toNat % 2 := by
          unfold bitA
          rw [show ((i.toNat / 8 : Nat) : Int) = i / 8 by omega, show 7 - i.toNat % 8 = (7 - i % 8).toNat by omega]
        have HBI := Lib.hid hbi
        clear hb hwl hbi
        go_wp2
        go_ret
        rw [HE.out, HBI.out]
        exact ⟨by simp, below_step HBE.out HB1.out⟩

set_option maxHeartbeats 2000000 in
theorem refbit5_any (v : Int) (l : List Int) (i : Int) (w : World) (hl : B16 l) : Calls Tryd.prog 23 #[.agg (adrV v l), .int .i64 i] w fun e w' => e = .returned (.int .i64 (bitP v l i)) ∧ Below w.heap.size w w' := by
  have hblk1 := blk_new w (.cells (adrV v l) 24)
  have hbel1 : Below w.heap.size w (w.alloc (.cells (adrV v l) 24)) := below_alloc (Below.refl _ _) _
  have HP1 := Lib.hid (adr_at hl hblk1)
  have HBK1 := Lib.hid hblk1
  have HBE := Lib.hid hbel1
  obtain ⟨cs1, hcs1⟩ : ∃ cs, adrV v l = cs := ⟨_, rfl⟩
  simp only [hcs1] at HBE HP1 HBK1 ⊢
  have HC1 := Lib.hid hcs1
  clear hcs1 hblk1 hbel1
  have hla := (HP1.out.all _ (Below.refl _ _)).1
  go_enter Tryd.func23, Tryd.ntmps23
  go_wp2_with (refine wpList_load_g hla _ rfl rfl (by go_simp) ?_)
  refine (rightAddr_any v l _ hl).mono ?_
  rintro e w1 ⟨rfl, hbb1⟩
  have HB1 := Lib.hid hbb1
  clear hbb1 hla
  cases hR : rightA v l with
  | false =>
    have HE : Hid (bitP v l i = 0) := bitP_no (by rw [hR]; simp)
    clear hR
    go_wp2
    go_ret
    rw [HE.out]
    exact ⟨rfl, below_step HBE.out HB1.out⟩
  | true =>
    by_cases h0 : i < 0
    · have HE : Hid (bitP v l i = 0) := bitP_no (by omega)
      clear hR
      go_wp2
      go_ret
      rw [HE.out]
      exact ⟨rfl, below_step HBE.out HB1.out⟩
    · have h0' : 0 ≤ i := by omega
      clear h0
      have hlv := (HP1.out.all w1 HB1.out).2.1
      go_wp2_with (refine wpList_load_g hlv _ rfl rfl (by go_simp) ?_)
      refine (refwidth_any v w1).mono ?_
      rintro e w2 ⟨rfl, rfl⟩
      have hwl := widthA_le v
      by_cases hw : (widthA v : Int) ≤ i
      · have HE : Hid (bitP v l i = 0) := bitP_no (by omega)
        clear hR
        go_wp2
        go_ret
        rw [HE.out]
        exact ⟨rfl, below_step HBE.out HB1.out⟩
      · have hw' : i < (widthA v : Int) := by omega
        have HE : Hid (bitP v l i = bitA l i.toNat) := bitP_yes hR h0' hw'
        have hi128 : i < 128 := by omega
        clear hR hw
        have hlb := (HP1.out.all w1 HB1.out).2.2
        go_wp2_with (first | (refine wpList_load_g hlb _ rfl rfl (by go_simp) ?_))
        refine (refat_any l i w1 hl h0' hi128).mono ?_
        rintro e w2 ⟨rfl, hbb2⟩
        have HB2 := Lib.hid (below_step HB1.out hbb2)
        clear hbb2
        go_wp2
        go_ret
        rw [HE.out]
        exact ⟨rfl, below_step HBE.out HB2.out⟩
end Go.Proofs.YtcloepjeckbmoaaDoor
