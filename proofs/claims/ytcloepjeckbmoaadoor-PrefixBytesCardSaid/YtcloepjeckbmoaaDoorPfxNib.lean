/- Layer 5 (prefix): Nibble; the document's Nibble. -/
import Derived.Test.YtcloepjeckbmoaaDoorPfxBit
import Derived.IntWalk
namespace Go.Proofs.YtcloepjeckbmoaaDoor
open Go.RowKit
set_option linter.unusedVariables false
set_option linter.unusedSimpArgs false

theorem bits_and15 (x : Int) (h0 : 0 ≤ x) (h1 : x < 256) : bits .and .u8 x 15 = x % 16 := bits_mask .u8 8 (by decide) wraps_u8 4 (by decide) x h0 h1
set_option maxHeartbeats 2000000 in
theorem nib5_any (v : Int) (l : List Int) (i : Int) (w : World) (hL : Laid w) (hl : B16 l) : Calls Tryd.prog 24 #[.agg (adrV v l), .int .i64 i] w fun e w' => e = .returned (.int .i64 (nibP v l i)) ∧ Below w.heap.size w w' := by
  have hblk1 := blk_new w (.cells (adrV v l) 24)
  have hbel1 : Below w.heap.size w (w.alloc (.cells (adrV v l) 24)) := below_alloc (Below.refl _ _) _
  have HP1 := Lib.hid (adr_at hl hblk1)
  have HBK1 := Lib.hid hblk1
  have HBE := Lib.hid hbel1
  have HL := Lib.hid (hL.below HBE.out)
  obtain ⟨cs1, hcs1⟩ : ∃ cs, adrV v l = cs := ⟨_, rfl⟩
  simp only [hcs1] at HBE HL HP1 HBK1 ⊢
  have HC1 := Lib.hid hcs1
  clear hL hcs1 hblk1 hbel1
  have hla := (HP1.out.all _ (Below.refl _ _)).1
  go_enter Tryd.func24, Tryd.ntmps24
  go_wp2_with (refine wpList_load_g hla _ rfl rfl (by go_simp) ?_)
  refine (checkAddr_any v l _ HL.out hl).mono ?_
  rintro e w1 ⟨rfl, hbb1⟩
  have HB1 := Lib.hid hbb1
  clear hbb1 hla
  cases hR : rightA v l with
  | false =>
    have HE : Hid (nibP v l i = 0) := nibP_no (by rw [hR]; simp)
    rw [errA_false hR]
    clear hR
    go_wp2
    go_ret
    rw [HE.out]
    exact ⟨rfl, below_step HBE.out HB1.out⟩
  | true =>
    rw [errA_true hR]
    by_cases h0 : i < 0
    · have HE : Hid (nibP v l i = 0) := nibP_no (by omega)
      clear hR
      go_wp2
      go_ret
      rw [HE.out]
      exact ⟨rfl, below_step HBE.out HB1.out⟩
    · have h0' : 0 ≤ i := by omega
      clear h0
      have hlv := (HP1.out.all w1 HB1.out).2.1
      go_wp2_with (refine wpList_load_g hlv _ rfl rfl (by go_simp) ?_)
      refine (width_any v w1 (HL.out.below HB1.out)).mono ?_
      rintro e w2 ⟨rfl, rfl⟩
      have hwl := widthA_le v
      by_cases hw : ((widthA v / 4 : Nat) : Int) ≤ i
      · have HE : Hid (nibP v l i = 0) := nibP_no (by omega)
        have hw4 : (widthA v : Int) / 4 ≤ i := by omega
        clear hR hw
        go_wp2
        go_ret
        rw [HE.out]
        exact ⟨rfl, below_step HBE.out HB1.out⟩
      · have hw' : i < ((widthA v / 4 : Nat) : Int) := by omega
        have hw4 : i < (widthA v : Int) / 4 := by omega
        have HE : Hid (nibP v l i = rd l (i / 2) / 2 ^ (4 - 4 * (i % 2)).toNat % 16) := nibP_yes hl hR h0' hw'
        clear hR hw
        have hb := blk_below HBK1.out HB1.out
        rw [← HC1.out] at hb
        have hc := adr_b hb (i / 2).toNat (by rw [hl.len]; omega)
        rw [show (((i / 2).toNat : Nat) : Int) = i / 2 by omega] at hc
        have hx8 : i / 2 < 16 := by omega
        have hx80 : 0 ≤ i / 2 := by omega
        have hx7 : i % 2 < 2 := by omega
        have hx70 : 0 ≤ i % 2 := by omega
        have hr := hl.rd (i / 2)
        have hd := div_lt256 (rd l (i / 2)) (4 - 4 * (i % 2)).toNat hr.1 hr.2
        have hand := bits_and15 _ hd.1 hd.2
        clear hb hw'
        go_wp2
        go_ret
        rw [HE.out]
        exact ⟨by simp, below_step HBE.out HB1.out⟩

set_option maxHeartbeats 2000000 in
theorem refnib5_any (v : Int) (l : List Int) (i : Int) (w : World) (hl : B16 l) : Calls Tryd.prog 25 #[.agg (adrV v l), .int .i64 i] w fun e w' => e = .returned (.int .i64 (nibP v l i)) ∧ Below w.heap.size w w' := by
  have hblk1 := blk_new w (.cells (adrV v l) 24)
  have hbel1 : Below w.heap.size w (w.alloc (.cells (adrV v l) 24)) := below_alloc (Below.refl _ _) _
  have HP1 := Lib.hid (adr_at hl hblk1)
  have HBK1 := Lib.hid hblk1
  have HBE := Lib.hid hbel1
  obtain ⟨cs1, hcs1⟩ : ∃ cs, adrV v l = cs := ⟨_, rfl⟩
  simp only [hcs1] at HBE HP1 HBK1 ⊢
  have HC1 := Lib.hid hcs1
  clear hcs1 hblk1 hbel1
  by_cases h0 : i < 0
  · have HE := Lib.hid (show nibP v l i = 0 from by unfold nibP; rw [if_pos (.inl h0)])
    go_enter Tryd.func25, Tryd.ntmps25
    go_wp2
    go_ret
    rw [HE.out]
    exact ⟨rfl, HBE.out⟩
  · have h0' : 0 ≤ i := by omega
    clear h0
    by_cases h1 : 31 < i
    · have HE := Lib.hid (show nibP v l i = 0 from by unfold nibP; rw [if_pos (.inr h1)])
      go_enter Tryd.func25, Tryd.ntmps25
      go_wp2
      go_ret
      rw [HE.out]
      exact ⟨rfl, HBE.out⟩
    · have h1' : i ≤ 31 := by omega
      have HE := Lib.hid (show nibP v l i = 8 * bitP v l (4 * i) + 4 * bitP v l (4 * i + 1) + 2 * bitP v l (4 * i + 2) + bitP v l (4 * i + 3) from by unfold nibP; rw [if_neg (by omega)])
      clear h1
      have g0 := bitP_range v l (4 * i)
      have g1 := bitP_range v l (4 * i + 1)
      have g2 := bitP_range v l (4 * i + 2)
      have g3 := bitP_range v l (4 * i + 3)
      obtain ⟨b0, hb0⟩ : ∃ x, bitP v l (4 * i) = x := ⟨_, rfl⟩
      obtain ⟨b1, hb1⟩ : ∃ x, bitP v l (4 * i + 1) = x := ⟨_, rfl⟩
      obtain ⟨b2, hb2⟩ : ∃ x, bitP v l (4 * i + 2) = x := ⟨_, rfl⟩
      obtain ⟨b3, hb3⟩ : ∃ x, bitP v l (4 * i + 3) = x := ⟨_, rfl⟩
      rw [hb0, hb1, hb2, hb3] at HE
      rw [hb0] at g0
      rw [hb1] at g1
      rw [hb2] at g2
      rw [hb3] at g3
      have HBS := Lib.hid (And.intro hb0 (And.intro hb1 (And.intro hb2 hb3)))
      clear hb0 hb1 hb2 hb3
      have s0 : IntKind.i64.wrap (4 * i) = 4 * i := IntWalk.i64_in _ (by omega)
      have s1 : IntKind.i64.wrap (4 * i + 1) = 4 * i + 1 := IntWalk.i64_in _ (by omega)
      have s2 : IntKind.i64.wrap (4 * i + 2) = 4 * i + 2 := IntWalk.i64_in _ (by omega)
      have s3 : IntKind.i64.wrap (4 * i + 3) = 4 * i + 3 := IntWalk.i64_in _ (by omega)
      have s4 : IntKind.i64.wrap (8 * b0) = 8 * b0 := IntWalk.i64_in _ (by omega)
      have s5 : IntKind.i64.wrap (4 * b1) = 4 * b1 := IntWalk.i64_in _ (by omega)
      have s6 : IntKind.i64.wrap (8 * b0 + 4 * b1) = 8 * b0 + 4 * b1 := IntWalk.i64_in _ (by omega)
      have s7 : IntKind.i64.wrap (2 * b2) = 2 * b2 := IntWalk.i64_in _ (by omega)
      have s8 : IntKind.i64.wrap (8 * b0 + 4 * b1 + 2 * b2) = 8 * b0 + 4 * b1 + 2 * b2 := IntWalk.i64_in _ (by omega)
      have s9 : IntKind.i64.wrap (8 * b0 + 4 * b1 + 2 * b2 + b3) = 8 * b0 + 4 * b1 + 2 * b2 + b3 := IntWalk.i64_in _ (by omega)
      go_enter Tryd.func25, Tryd.ntmps25
      go_wp2_with fail
      refine wp_region_mix (fun w0 => Below (w.alloc (.cells cs1 24)).heap.size (w.alloc (.cells cs1 24)) w0) [(0, 0), (1, 0), (2, 0), (5, 0), (6, 0), (7, 0), (8, 0), (12, 0), (13, 0), (14, 0), (15, 0), (19, 0), (20, 0), (21, 0), (22, 0), (3, 2), (4, 0), (9, 2), (10, 0), (11, 0), (16, 2), (17, 0), (18, 0), (23, 2), (24, 0), (25, 0)] (by kernel_rfl) (by kernel_rfl) (below_drew1 _) ?_
      simp only [List.map_cons, List.map_nil]
      refine wpO_loadW (t := 24) (ad := ⟨w.heap.size, 0, none⟩) rfl rfl ?hw rfl rfl ((fun w0 hS => (HP1.out.all w0 hS).1)) ?_
      case hw => go_simp
      iterate 2 (refine wpO_step0 rfl rfl (fun K hK => ?_); go_simp; refine hK _ _ ?_; clear hK K)
      refine wpO_loadW (t := 24) (ad := ⟨w.heap.size, 0, none⟩) rfl rfl ?hw rfl rfl ((fun w0 hS => (HP1.out.all w0 hS).1)) ?_
      case hw => go_simp
      iterate 3 (refine wpO_step0 rfl rfl (fun K hK => ?_); go_simp; refine hK _ _ ?_; clear hK K)
      refine wpO_loadW (t := 24) (ad := ⟨w.heap.size, 0, none⟩) rfl rfl ?hw rfl rfl ((fun w0 hS => (HP1.out.all w0 hS).1)) ?_
      case hw => go_simp
      iterate 3 (refine wpO_step0 rfl rfl (fun K hK => ?_); go_simp; refine hK _ _ ?_; clear hK K)
      refine wpO_loadW (t := 24) (ad := ⟨w.heap.size, 0, none⟩) rfl rfl ?hw rfl rfl ((fun w0 hS => (HP1.out.all w0 hS).1)) ?_
      case hw => go_simp
      iterate 3 (refine wpO_step0 rfl rfl (fun K hK => ?_); go_simp; refine hK _ _ ?_; clear hK K)
      refine wpO_step2 rfl rfl (below_drew1 _) (fun K hK => ?_)
      go_simp
      refine (refbit5_any v l (4 * i) _ hl).mono ?_
      rintro e w1 ⟨rfl, hbb1⟩
      rw [HBS.out.1]
      have HB1 := Lib.hid (below_step (below_drew1 _) hbb1)
      clear hbb1
      refine hK _ _ ⟨HB1.out, ?_⟩
      clear hK K
      iterate 1 (refine wpO_step0 rfl rfl (fun K hK => ?_); go_simp; refine hK _ _ ?_; clear hK K)
      refine wpO_step2 rfl rfl (HB1.out) (fun K hK => ?_)
      go_simp
      refine (refbit5_any v l (4 * i + 1) _ hl).mono ?_
      rintro e w2 ⟨rfl, hbb1⟩
      rw [HBS.out.2.1]
      have HB2 := Lib.hid (below_step HB1.out hbb1)
      clear hbb1
      refine hK _ _ ⟨HB2.out, ?_⟩
      clear hK K
      iterate 2 (refine wpO_step0 rfl rfl (fun K hK => ?_); go_simp; refine hK _ _ ?_; clear hK K)
      refine wpO_step2 rfl rfl (HB2.out) (fun K hK => ?_)
      go_simp
      refine (refbit5_any v l (4 * i + 2) _ hl).mono ?_
      rintro e w3 ⟨rfl, hbb1⟩
      rw [HBS.out.2.2.1]
      have HB3 := Lib.hid (below_step HB2.out hbb1)
      clear hbb1
      refine hK _ _ ⟨HB3.out, ?_⟩
      clear hK K
      iterate 2 (refine wpO_step0 rfl rfl (fun K hK => ?_); go_simp; refine hK _ _ ?_; clear hK K)
      refine wpO_step2 rfl rfl (HB3.out) (fun K hK => ?_)
      go_simp
      refine (refbit5_any v l (4 * i + 3) _ hl).mono ?_
      rintro e w4 ⟨rfl, hbb1⟩
      rw [HBS.out.2.2.2]
      have HB4 := Lib.hid (below_step HB3.out hbb1)
      clear hbb1
      refine hK _ _ ⟨HB4.out, ?_⟩
      clear hK K
      iterate 2 (refine wpO_step0 rfl rfl (fun K hK => ?_); go_simp; refine hK _ _ ?_; clear hK K)
      refine wpO_nil ?_
      go_wp2
      go_ret
      rw [HE.out]
      exact ⟨rfl, below_step HBE.out HB4.out⟩
end Go.Proofs.YtcloepjeckbmoaaDoor
