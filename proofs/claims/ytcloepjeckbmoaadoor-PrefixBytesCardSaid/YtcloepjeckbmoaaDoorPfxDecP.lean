/- Layer 5 (prefix): Decode. -/
import Derived.Test.YtcloepjeckbmoaaDoorPfxDecA
namespace Go.Proofs.YtcloepjeckbmoaaDoor
open Go.RowKit
set_option linter.unusedVariables false
set_option linter.unusedSimpArgs false

theorem decP_no {xs : List Int} (h : decPE xs ≠ 0) : decP xs = ⟨0, zero16, 0⟩ ∧ decPN xs = 0 := by
  refine ⟨?_, ?_⟩
  · unfold decP; rw [if_neg h]
  · unfold decPN; rw [if_neg h]
theorem decP_ver {xs : List Int} (h : verE xs 151 ≠ 0) : decPE xs = verE xs 151 := by unfold decPE; rw [if_pos h]
theorem decP_short {xs : List Int} (h : verE xs 151 = 0) (hs : xs.length < 2) : decPE xs = 7 := by unfold decPE; rw [if_neg (by rw [h]; simp), if_pos hs]
theorem decP_wide {xs : List Int} (h : verE xs 151 = 0) (hs : 2 ≤ xs.length) (hw : (widthA (rd xs 0) : Int) < rd xs 1) : decPE xs = 151 := by
  unfold decPE; rw [if_neg (by rw [h]; simp), if_neg (by omega), if_pos hw]
theorem decP_some {xs : List Int} {b : Nat} (h : verE xs 151 = 0) (hs : 2 ≤ xs.length) (hb : rd xs 1 = b) (hw : b ≤ widthA (rd xs 0)) : decPE xs = someE (xs.drop 2) b 151 := by
  unfold decPE; rw [if_neg (by rw [h]; simp), if_neg (by omega), if_neg (by omega), hb]; rfl
theorem decP_ok {xs : List Int} {b : Nat} (h : decPE xs = 0) (he : decPE xs = someE (xs.drop 2) b 151) (hs : 2 ≤ xs.length) (hb : rd xs 1 = b) :
    decP xs = ⟨rd xs 0, someL (xs.drop 2) b 151, b⟩ ∧ decPN xs = 2 + fullB b ∧ xs.length - ((xs.drop 2).drop (fullB b)).length = 2 + fullB b ∧ 2 + fullB b ≤ xs.length := by
  have hse := he.symm.trans h
  have hlen : fullB b ≤ (xs.drop 2).length := by
    rcases Nat.lt_or_ge (xs.drop 2).length (fullB b) with hh | hh
    · rw [some_short hh] at hse; cases hse
    · exact hh
  rw [List.length_drop] at hlen
  refine ⟨?_, ?_, ?_, by omega⟩
  · unfold decP; rw [if_pos h, someL_ok hse, hb]
  · unfold decPN; rw [if_pos h, hb]
  · rw [List.length_drop, List.length_drop]; omega

set_option maxHeartbeats 8000000 in
theorem decode_any (A : Option Addr) (n c : Nat) (xs : List Int) (w : World) (hL : Laid w) (hr : RB w A n c xs) (hn : n ≤ 140737488355328) :
    Calls Tryd.prog 17 #[.slice A n c] w fun e w' => e = .returned (.tuple #[.agg (pfxV (decP xs).v (decP xs).l (decP xs).b), .int .i64 (decPN xs), .int .i64 (decPE xs)]) ∧ Below w.heap.size w w' := by
  have hlen := hr.len
  have hsm := hr.small
  have HZ := Lib.hid (blk_new w (.cells (pfxV 0 zero16 0) 26))
  have HBZ : Hid (Below w.heap.size w (w.alloc (.cells (pfxV 0 zero16 0) 26))) := below_alloc (Below.refl _ _) _
  have HR := Lib.hid (hr.below HBZ.out)
  have HL := Lib.hid hL
  have HLEN := Lib.hid hlen
  clear hr hL hlen
  go_enter Tryd.func17, Tryd.ntmps17
  go_wp2_with fail
  refine (read_any A n c xs _ HR.out hn).mono ?_
  rintro e w1 ⟨g, rfl, hg, hrd, hb1⟩
  simp at hg
  have hglt := hrd.lt
  have hby := Lib.hid hrd.byte
  have HR1 := Lib.hid (hrd.below (below_alloc (Below.refl _ _) (.cells (rdV g) 65)))
  have HD1 : Hid (DecS w w1.heap.size w.heap.size g (.cells (pfxV 0 zero16 0) 26) (w1.alloc (.cells (rdV g) 65))) :=
    ⟨below_alloc (below_step HBZ.out hb1) _, blk_new _ _, blk_below (blk_below HZ.out hb1) (below_alloc (Below.refl _ _) _)⟩
  clear hrd hb1 HR HZ HBZ
  go_wp2_with fail
  refine (version_any g xs 151 _ (HL.out.below HD1.out.below) (by omega) HR1.out (by decide)).mono ?_
  rintro e w2 ⟨rfl, hr2, hg2⟩
  have HD2 := Lib.hid (HD1.out.grow hg2 (by omega) (by omega) (by omega))
  have HR2 := Lib.hid hr2
  clear hr2 hg2 HD1 HR1
  by_cases hve : verE xs 151 = 0
  · have hvv : verV xs 151 = rd xs 0 := by unfold verV; rw [if_pos hve]
    have hpos : xs.length ≠ 0 := fun h => by unfold verE at hve; rw [if_pos h] at hve; cases hve
    have HVE := Lib.hid hve
    have hr2 := HR2.out
    rw [if_neg hpos] at hr2
    rw [hve, hvv]
    have hcx : w2.cell? ⟨w1.heap.size, 0, none⟩ = some (.pointer (some ⟨g, 0, none⟩)) := by rw [blk_cell HD2.out.box]; rfl
    clear hve hvv HR2
    by_cases h2 : xs.length < 2
    · have HE := Lib.hid (decP_short HVE.out h2)
      have HN0 := Lib.hid (decP_no (by rw [HE.out]; decide))
      rw [List.drop_of_length_le (by omega)] at hr2
      have HR3 := Lib.hid hr2
      clear hr2 h2 hpos
      go_wp2_with fail
      refine (u8_none g w2 HR3.out).mono ?_
      rintro e w3 ⟨rfl, hr3, hg3⟩
      have HD3 := Lib.hid (HD2.out.grow hg3 (by omega) (by omega) (by omega))
      have HR4 := Lib.hid hr3
      have hcy : w3.cell? ⟨w1.heap.size, 0, none⟩ = some (.pointer (some ⟨g, 0, none⟩)) := by rw [blk_cell HD3.out.box]; rfl
      have hbn := run_build_pfx_nil
      clear hr3 hg3 hcx
      go_wp2_with fail
      refine (err_any g _ _ w3 HR4.out).mono ?_
      rintro e w4 ⟨rfl, rfl⟩
      go_wp2_with (refine wpList_store_blk HD3.out.zero 26 0 (pfxV 0 zero16 0) (store_pfx_fit rfl rfl) (info_pfx rfl) (pfx_one _ _ _) _ _ rfl rfl rfl rfl ?_; intro w9 hg9 hs9 hb9; rw [splice_pfx _ 0 0 zero16 rfl rfl] at hb9; have H9 := Lib.hid (And.intro hg9 hb9); clear hg9 hs9 hb9)
      have hld := load_pfx zero16_B H9.out.2
      refine bodyPost_ret (results_c3 rfl rfl hld) rfl ?_
      rw [HN0.out.1, HN0.out.2, HE.out]
      exact ⟨rfl, below_grown HD3.out.below H9.out.1 (by omega)⟩
    · have h2' : 2 ≤ xs.length := by omega
      rw [drop_rd xs 1 (by omega)] at hr2
      have hbr : 0 ≤ rd xs 1 ∧ rd xs 1 < 256 := hby.out.getD 1
      obtain ⟨b, hb⟩ := Int.eq_ofNat_of_zero_le hbr.1
      have hr2' : Rdr w2 (w.alloc (.cells (pfxV 0 zero16 0) 26)).heap.size g ((b : Int) :: xs.drop 2) 0 := by rw [← hb]; exact hr2
      rw [hb] at hbr
      have HBQ := Lib.hid hb
      have HR3 := Lib.hid hr2'
      clear hr2 hr2' h2 hpos hb
      go_wp2_with fail
      refine (u8_some g (b : Int) (xs.drop 2) w2 HR3.out).mono ?_
      rintro e w3 ⟨rfl, hr3, hg3⟩
      have HD3 := Lib.hid (HD2.out.grow hg3 (by omega) (by omega) (by omega))
      have HR4 := Lib.hid hr3
      have hcy : w3.cell? ⟨w1.heap.size, 0, none⟩ = some (.pointer (some ⟨g, 0, none⟩)) := by rw [blk_cell HD3.out.box]; rfl
      clear hr3 hg3 hcx
      go_wp2_with fail
      refine (err_any g _ _ w3 HR4.out).mono ?_
      rintro e w4 ⟨rfl, rfl⟩
      clear hcy
      go_wp2_with fail
      refine (width_any (rd xs 0) w3 (HL.out.below HD3.out.below)).mono ?_
      rintro e w4 ⟨rfl, rfl⟩
      have hwl := widthA_le (rd xs 0)
      by_cases hw : (widthA (rd xs 0) : Int) < b
      · have HE := Lib.hid (decP_wide HVE.out h2' (by rw [HBQ.out]; exact hw))
        have HN0 := Lib.hid (decP_no (by rw [HE.out]; decide))
        have hbn := run_build_pfx_nil
        go_wp2_with (refine wpList_store_blk HD3.out.zero 26 0 (pfxV 0 zero16 0) (store_pfx_fit rfl rfl) (info_pfx rfl) (pfx_one _ _ _) _ _ rfl rfl rfl rfl ?_; intro w9 hg9 hs9 hb9; rw [splice_pfx _ 0 0 zero16 rfl rfl] at hb9; have H9 := Lib.hid (And.intro hg9 hb9); clear hg9 hs9 hb9)
        have hld := load_pfx zero16_B H9.out.2
        refine bodyPost_ret (results_c3 rfl rfl hld) rfl ?_
        rw [HN0.out.1, HN0.out.2, HE.out]
        exact ⟨rfl, below_grown HD3.out.below H9.out.1 (by omega)⟩
      · have hw' : b ≤ widthA (rd xs 0) := by omega
        have hd1 : decide ((widthA (rd xs 0) : Int) < b) = false := decide_eq_false hw
        have HPE := Lib.hid (decP_some HVE.out h2' HBQ.out hw')
        have hb128 : b ≤ 128 := by omega
        have hsomeB : B16 (someL (xs.drop 2) b 151) := someL_16 (hby.out.drop 2) hb128
        obtain ⟨sl, hsl⟩ : ∃ sl, someL (xs.drop 2) b 151 = sl := ⟨_, rfl⟩
        obtain ⟨se, hse⟩ : ∃ se, someE (xs.drop 2) b 151 = se := ⟨_, rfl⟩
        rw [hsl] at hsomeB
        have HSL := Lib.hid (And.intro hsl hse)
        have hlr := load_rd HD3.out.box
        clear hsl hse hw
        go_wp2_with (refine wpList_load_g hlr _ rfl rfl (by go_simp) ?_)
        clear hlr hd1
        refine (some_any g (xs.drop 2) b 151 w3 HR4.out (by decide) hb128).mono ?_
        rw [HSL.out.1, HSL.out.2]
        rintro e w4 ⟨rfl, hrest, hg4⟩
        have HD4 := Lib.hid (HD3.out.grow hg4 (by omega) (by omega) (by omega))
        have HREST := Lib.hid hrest
        have hnew := blk_new w4 (.cells (arrV zero16) 22)
        have HN : Hid (DecR w w1.heap.size w.heap.size g w4.heap.size (w.alloc (.cells (pfxV 0 zero16 0) 26)).heap.size (.cells (pfxV 0 zero16 0) 26) zero16 (xs.drop 2) b 151 (w4.alloc (.cells (arrV zero16) 22))) :=
          ⟨HD4.out.step (below_alloc (Below.refl _ _) _), hnew, HREST.out.below (below_alloc (Below.refl _ _) _)⟩
        have hl4 := blk_lt HD4.out.box
        have hz4 := blk_lt HD4.out.zero
        clear hrest hg4 hnew
        by_cases hse : se = 0
        · have hpe : decPE xs = 0 := HPE.out.trans (HSL.out.2.trans hse)
          have HE := Lib.hid (And.intro hpe (decP_ok hpe HPE.out h2' HBQ.out))
          subst hse
          go_wp2_with (refine wpList_store_blk HN.out.arr 22 0 (arrV sl) (by rw [arr_size hsomeB.len, arr_size rfl]; exact Nat.le_refl _) (info_arr hsomeB.len) (arr_one _) _ _ rfl rfl rfl rfl ?_; intro w5 hg5 hs5 hb5; rw [splice_arr0 _ sl hsomeB.len rfl] at hb5; have H5 : Hid (DecR w w1.heap.size w.heap.size g w4.heap.size (w.alloc (.cells (pfxV 0 zero16 0) 26)).heap.size (.cells (pfxV 0 zero16 0) 26) sl (xs.drop 2) b 151 w5) := ⟨HN.out.s.grow hg5 (by omega) (by omega) (by omega), hb5, HN.out.rest.grown hg5 (by omega)⟩; clear hg5 hs5 hb5)
          obtain ⟨rest, er, hrr, hrw⟩ := H5.out.rest
          obtain ⟨rfl, rfl⟩ := hrw HSL.out.2
          have HRR := Lib.hid hrr
          have hwv := HE.out.2.2.2
          clear hrr hrw hpe
          obtain ⟨lf, hlf⟩ : ∃ lf, ((xs.drop 2).drop (fullB b)).length = lf := ⟨_, rfl⟩
          obtain ⟨wq, hwq⟩ : ∃ wq, fullB b = wq := ⟨_, rfl⟩
          rw [hlf, hwq, HLEN.out] at hwv
          have hsub : IntKind.i64.wrap ((n : Int) - (lf : Int)) = 2 + wq := by rw [IntWalk.i64_in _ (by omega)]; omega
          have HWQ := Lib.hid (And.intro hlf hwq)
          clear hwv hlf hwq
          refine wp_region_mix ((DecT w w1.heap.size g w4.heap.size sl)) [(0, 0), (1, 0), (2, 0), (3, 0), (4, 0), (5, 0), (6, 0), (7, 0), (8, 0), (9, 2), (10, 0), (11, 2), (12, 0), (13, 0)] (by kernel_rfl) (by kernel_rfl) ((H5.out.drew.t)) ?_
          simp only [List.map_cons, List.map_nil]
          iterate 1 (refine wpO_step0 rfl rfl (fun K hK => ?_); go_simp; refine hK _ _ ?_; clear hK K)
          refine wpO_loadW (t := 22) (ad := ⟨w4.heap.size, 0, none⟩) rfl rfl ?hw rfl rfl ((fun w0 hS => load_arr0 hsomeB hS.arr)) ?_
          case hw => go_simp
          refine wpO_step0 rfl rfl (fun K hK => ?_)
          rw [if_pos (show Region.wanted _ _ = true from rfl)]
          refine ⟨_, fun w0 => exec_build_adr rfl rfl rfl hsomeB.len w0, hK _ _ ?_⟩
          clear hK K
          iterate 1 (refine wpO_step0 rfl rfl (fun K hK => ?_); go_simp; refine hK _ _ ?_; clear hK K)
          refine wpO_step0 rfl rfl (fun K hK => ?_)
          rw [if_pos (show Region.wanted _ _ = true from rfl)]
          refine ⟨_, fun w0 => exec_build_pfx rfl rfl rfl hsomeB.len w0, hK _ _ ?_⟩
          clear hK K
          iterate 3 (refine wpO_step0 rfl rfl (fun K hK => ?_); go_simp; refine hK _ _ ?_; clear hK K)
          refine wpO_loadW (t := 62) (ad := ⟨w1.heap.size, 0, none⟩) rfl rfl ?hw rfl rfl ((fun w0 hS => load_rp hS.box)) ?_
          case hw => go_simp
          refine wpO_step2 rfl rfl (H5.out.drew.t) (fun K hK => ?_)
          go_simp
          refine (left_any g _ _ _ (HRR.out.below (below_drew1 _))).mono ?_
          rintro e w6 ⟨rfl, rfl⟩
          rw [HWQ.out.1]
          refine hK _ _ ⟨H5.out.drew.t, ?_⟩
          clear hK K
          iterate 1 (refine wpO_step0 rfl rfl (fun K hK => ?_); go_simp; refine hK _ _ ?_; clear hK K)
          refine wpO_step2 rfl rfl (H5.out.drew.t) (fun K hK => ?_)
          rw [if_pos (show Region.wanted _ _ = true from rfl)]
          refine oper_store_blk H5.out.drew.s.zero 26 0 (pfxV (rd xs 0) sl b) (store_pfx_fit hsomeB.len rfl) (info_pfx hsomeB.len) (pfx_one _ _ _) _ _ rfl rfl rfl ?_
          intro w6 hg6 hs6 hb6
          rw [splice_pfx _ _ _ sl hsomeB.len rfl] at hb6
          have H6 := Lib.hid (And.intro (H5.out.drew.t.grow hg6 (by omega) (by omega) (by omega)) hb6)
          clear hg6 hs6 hb6
          refine hK _ _ ⟨H6.out.1, ?_⟩
          clear hK K
          iterate 2 (refine wpO_step0 rfl rfl (fun K hK => ?_); go_simp; refine hK _ _ ?_; clear hK K)
          refine wpO_nil ?_
          go_wp2
          have hld := load_pfx hsomeB H6.out.2
          refine bodyPost_ret (results_c3 rfl rfl hld) rfl ?_
          rw [HE.out.1, HE.out.2.1, HE.out.2.2.1, HSL.out.1, HWQ.out.2]
          exact ⟨rfl, H6.out.1.below⟩
        · have HE := Lib.hid (HPE.out.trans HSL.out.2)
          have HN0 := Lib.hid (decP_no (by rw [HE.out]; exact hse))
          have hsb : (se != 0) = true := by simpa using hse
          have hbn := run_build_pfx_nil
          clear hse
          go_wp2_with (first | (refine wpList_store_blk HN.out.arr 22 0 (arrV sl) (by rw [arr_size hsomeB.len, arr_size rfl]; exact Nat.le_refl _) (info_arr hsomeB.len) (arr_one _) _ _ rfl rfl rfl rfl ?_; intro w5 hg5 hs5 hb5; have H5 := Lib.hid (HN.out.s.grow hg5 (by omega) (by omega) (by omega)); clear hg5 hs5 hb5) | (refine wpList_store_blk H5.out.zero 26 0 (pfxV 0 zero16 0) (store_pfx_fit rfl rfl) (info_pfx rfl) (pfx_one _ _ _) _ _ rfl rfl rfl rfl ?_; intro w9 hg9 hs9 hb9; rw [splice_pfx _ 0 0 zero16 rfl rfl] at hb9; have H9 := Lib.hid (And.intro hg9 hb9); clear hg9 hs9 hb9))
          have hld := load_pfx zero16_B H9.out.2
          refine bodyPost_ret (results_c3 rfl rfl hld) rfl ?_
          rw [HN0.out.1, HN0.out.2, HE.out]
          exact ⟨rfl, below_grown H5.out.below H9.out.1 (by omega)⟩
  · have HE := Lib.hid (decP_ver hve)
    have HN0 := Lib.hid (decP_no (by rw [HE.out]; exact hve))
    obtain ⟨ve, hv⟩ : ∃ ve, verE xs 151 = ve := ⟨_, rfl⟩
    rw [hv] at hve HE
    rw [hv]
    have hsb : (ve != 0) = true := by simpa using hve
    have hbn := run_build_pfx_nil
    clear hve hv
    go_wp2_with (refine wpList_store_blk HD2.out.zero 26 0 (pfxV 0 zero16 0) (store_pfx_fit rfl rfl) (info_pfx rfl) (pfx_one _ _ _) _ _ rfl rfl rfl rfl ?_; intro w9 hg9 hs9 hb9; rw [splice_pfx _ 0 0 zero16 rfl rfl] at hb9; have H9 := Lib.hid (And.intro hg9 hb9); clear hg9 hs9 hb9)
    have hld := load_pfx zero16_B H9.out.2
    refine bodyPost_ret (results_c3 rfl rfl hld) rfl ?_
    rw [HN0.out.1, HN0.out.2, HE.out]
    exact ⟨rfl, below_grown HD2.out.below H9.out.1 (by omega)⟩
end Go.Proofs.YtcloepjeckbmoaaDoor
