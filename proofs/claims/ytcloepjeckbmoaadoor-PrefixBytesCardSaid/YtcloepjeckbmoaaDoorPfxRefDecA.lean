/- The document's answer for layer 5: DecodeAddr, Decode. -/
import Derived.Test.YtcloepjeckbmoaaDoorPfxRefDec
namespace Go.Proofs.YtcloepjeckbmoaaDoor
open Go.RowKit
set_option linter.unusedVariables false
set_option linter.unusedSimpArgs false

theorem load_u8 {w : World} {ad : Addr} {v : Value} (h : w.cell? ad = some v) : (Instr.loadAt 5 (.pointer (some ad))).run Tryd.prog w = .ok v w := by
  go_simp
structure RefT (w : World) (gb : Nat) (l : List Int) (w0 : World) : Prop where
  below : Below w.heap.size w w0
  arr : w0.heap[gb]? = some (.cells (arrV l) 22 (0, 0))
theorem RefT.step {w w0 w1 : World} {gb : Nat} {l : List Int} (h : RefT w gb l w0) (hb : Below w0.heap.size w0 w1) : RefT w gb l w1 := ⟨below_step h.below hb, blk_below h.arr hb⟩
theorem RefT.grow {w w0 w1 : World} {gb c : Nat} {l : List Int} (h : RefT w gb l w0) (hg : w0.grownBy w1 (some c)) (h1 : w.heap.size ≤ c) (h2 : gb ≠ c) : RefT w gb l w1 :=
  ⟨below_grown h.below hg h1, blk_grown h.arr hg (fun e => by injection e with e; exact h2 e)⟩
theorem RB.first {w : World} {A : Option Addr} {n c : Nat} {xs : List Int} (h : RB w A n c xs) (hn : 0 < n) : ∃ ad, A = some ad ∧ ∀ w0, Below w.heap.size w w0 → w0.cell? ad = some (.int .u8 (rd xs 0)) := by
  obtain ⟨ad, e, -⟩ := h.at_ 0 (by omega) (by omega)
  refine ⟨ad, e, fun w0 hb => ?_⟩
  obtain ⟨ad2, e2, hc⟩ := (h.below hb).at_ 0 (by omega) (by omega)
  rw [e] at e2
  injection e2 with e2
  subst e2
  simpa [Addr.add] using hc

set_option maxHeartbeats 4000000 in
theorem refdecodeAddr_any (A : Option Addr) (n c : Nat) (xs : List Int) (w : World) (hr : RB w A n c xs) :
    Calls Tryd.prog 29 #[.slice A n c] w fun e w' => e = .returned (.tuple #[.agg (adrV (decAV xs) (decAL xs)), .int .i64 (decAN xs), .int .i64 (decAE xs)]) ∧ Below w.heap.size w w' := by
  have hsm := hr.small
  have hlen := hr.len
  have HR := Lib.hid hr
  have HLEN := Lib.hid hlen
  have HZ := Lib.hid (blk_new w (.cells (adrV 0 zero16) 24))
  have HBZ : Hid (Below w.heap.size w (w.alloc (.cells (adrV 0 zero16) 24))) := below_alloc (Below.refl _ _) _
  by_cases hn0 : n = 0
  · have hv : verE xs 150 = 7 := by unfold verE; rw [if_pos (by omega)]
    have HE := Lib.hid (decA_ver (xs := xs) (by rw [hv]; decide))
    rw [hv] at HE
    have hbn := run_build_adr_nil
    subst hn0
    clear hr hlen hv
    go_enter Tryd.func29, Tryd.ntmps29
    go_wp2_with (refine wpList_store_blk HZ.out 24 0 (adrV 0 zero16) (by rw [adr_size rfl]; exact Nat.le_refl _) (info_adr rfl) (adr_one _ _) _ _ rfl rfl rfl rfl ?_; intro w9 hg9 hs9 hb9; rw [splice_adr0 _ 0 zero16 rfl rfl] at hb9; have H9 := Lib.hid (And.intro hg9 hb9); clear hg9 hs9 hb9)
    have hld := load_adr0 zero16_B H9.out.2
    refine bodyPost_ret (results_c3 rfl rfl hld) rfl ?_
    rw [HE.out.1, HE.out.2.1, HE.out.2.2.1, HE.out.2.2.2]
    exact ⟨rfl, below_grown HBZ.out H9.out.1 (by omega)⟩
  · have hpos : 0 < n := by omega
    have hn1 : decide (n < 1) = false := decide_eq_false (by omega)
    have hn2 : decide ((n : Int) < 1) = false := decide_eq_false (by omega)
    obtain ⟨ad, rfl, hcell⟩ := hr.first hpos
    have hxr := hr.range.getD 0
    have hlc := load_u8 (hcell _ HBZ.out)
    have HC := Lib.hid hcell
    have hrd : 0 ≤ rd xs 0 ∧ rd xs 0 < 256 := hxr
    have hver := verE_cons (xs := xs) (by omega) 150
    have hxb := hr.range
    clear hn0 hr hlen hcell hxr
    go_enter Tryd.func29, Tryd.ntmps29
    go_wp2_with (refine wpList_load_g hlc _ rfl rfl (by go_simp) ?_)
    refine (refwidth_any (rd xs 0) _).mono ?_
    rintro e w1' ⟨rfl, rfl⟩
    have hwl := widthA_le (rd xs 0)
    by_cases hw : widthA (rd xs 0) = 0
    · rw [if_pos hw] at hver
      have HE := Lib.hid (decA_ver (xs := xs) (by rw [hver]; decide))
      rw [hver] at HE
      have hbn := run_build_adr_nil
      rw [hw]
      clear hver hw hwl
      go_wp2_with (refine wpList_store_blk HZ.out 24 0 (adrV 0 zero16) (by rw [adr_size rfl]; exact Nat.le_refl _) (info_adr rfl) (adr_one _ _) _ _ rfl rfl rfl rfl ?_; intro w9 hg9 hs9 hb9; rw [splice_adr0 _ 0 zero16 rfl rfl] at hb9; have H9 := Lib.hid (And.intro hg9 hb9); clear hg9 hs9 hb9)
      have hld := load_adr0 zero16_B H9.out.2
      refine bodyPost_ret (results_c3 rfl rfl hld) rfl ?_
      rw [HE.out.1, HE.out.2.1, HE.out.2.2.1, HE.out.2.2.2]
      exact ⟨rfl, below_grown HBZ.out H9.out.1 (by omega)⟩
    · rw [if_neg hw] at hver
      have HVE := Lib.hid hver
      have hw0 : ((widthA (rd xs 0) : Int) == 0) = false := by simp; omega
      have hw1 : ((widthA (rd xs 0)) == 0) = false := by simp; omega
      have hsomeB : B16 (someL (xs.drop 1) (widthA (rd xs 0)) 150) := someL_16 (hxb.drop 1) hwl
      obtain ⟨sl, hsl⟩ : ∃ sl, someL (xs.drop 1) (widthA (rd xs 0)) 150 = sl := ⟨_, rfl⟩
      obtain ⟨se, hse⟩ : ∃ se, someE (xs.drop 1) (widthA (rd xs 0)) 150 = se := ⟨_, rfl⟩
      rw [hsl] at hsomeB
      have HSL := Lib.hid (And.intro hsl hse)
      clear hver hw hsl hse hn1 hn2
      go_wp2_with fail
      refine (refsome_any (some ad) n c xs 1 (widthA (rd xs 0)) 150 _ (HR.out.below HBZ.out) (by omega) (by decide) hwl).mono ?_
      rw [HSL.out.1, HSL.out.2]
      rintro e w1 ⟨rfl, hb1⟩
      have HB1 := Lib.hid (below_step HBZ.out hb1)
      have HZ1 := Lib.hid (blk_below HZ.out hb1)
      have HN := Lib.hid (blk_new w1 (.cells (arrV zero16) 22))
      have hlt1 := blk_lt HZ1.out
      clear hb1 hlc hw0 hw1
      by_cases hse : se = 0
      · have HE := Lib.hid (decA_ok HVE.out (HSL.out.2.trans hse))
        subst hse
        go_wp2_with (refine wpList_store_blk HN.out 22 0 (arrV sl) (by rw [arr_size hsomeB.len, arr_size rfl]; exact Nat.le_refl _) (info_arr hsomeB.len) (arr_one _) _ _ rfl rfl rfl rfl ?_; intro w5 hg5 hs5 hb5; rw [splice_arr0 _ sl hsomeB.len rfl] at hb5; have H5 : Hid (RefT w w1.heap.size sl w5 ∧ w5.heap[w.heap.size]? = some (.cells (adrV 0 zero16) 24 (0, 0))) := ⟨⟨below_grown (below_alloc HB1.out _) hg5 HB1.out.size, hb5⟩, blk_grown (blk_below HZ1.out (below_alloc (Below.refl _ _) _)) hg5 (fun e => by injection e with e; omega)⟩; clear hg5 hs5 hb5)
        obtain ⟨wq, hwq⟩ : ∃ wq, widthA (rd xs 0) / 8 = wq := ⟨_, rfl⟩
        have hq1 : IntKind.i64.wrap ((widthA (rd xs 0) : Int) / 8) = wq := by rw [IntWalk.i64_in _ (by omega)]; omega
        have hq2 : IntKind.i64.wrap (1 + (wq : Int)) = 1 + wq := IntWalk.i64_in _ (by omega)
        have hwrd : IntKind.i64.wrap (rd xs 0) = rd xs 0 := IntWalk.i64_in _ (by omega)
        have HWQ := Lib.hid hwq
        clear hwq
        refine wp_region_mix ((RefT w w1.heap.size sl)) [(0, 0), (1, 0), (2, 0), (3, 0), (4, 0), (5, 0), (6, 0), (7, 0), (8, 0), (9, 2), (10, 0), (11, 0)] (by kernel_rfl) (by kernel_rfl) ((H5.out.1.step (below_drew1 _))) ?_
        simp only [List.map_cons, List.map_nil]
        iterate 2 (refine wpO_step0 rfl rfl (fun K hK => ?_); go_simp; refine hK _ _ ?_; clear hK K)
        refine wpO_loadW (t := 5) (ad := ad) rfl rfl ?hw rfl rfl ((fun w0 hS => load_u8 (HC.out w0 hS.below))) ?_
        case hw => go_simp
        iterate 1 (refine wpO_step0 rfl rfl (fun K hK => ?_); go_simp; refine hK _ _ ?_; clear hK K)
        refine wpO_loadW (t := 22) (ad := ⟨w1.heap.size, 0, none⟩) rfl rfl ?hw rfl rfl ((fun w0 hS => load_arr0 hsomeB hS.arr)) ?_
        case hw => go_simp
        refine wpO_step0 rfl rfl (fun K hK => ?_)
        rw [if_pos (show Region.wanted _ _ = true from rfl)]
        refine ⟨_, fun w0 => exec_build_adr rfl rfl rfl hsomeB.len w0, hK _ _ ?_⟩
        clear hK K
        iterate 3 (refine wpO_step0 rfl rfl (fun K hK => ?_); go_simp; refine hK _ _ ?_; clear hK K)
        refine wpO_step2 rfl rfl (H5.out.1.step (below_drew1 _)) (fun K hK => ?_)
        rw [if_pos (show Region.wanted _ _ = true from rfl)]
        refine oper_store_blk (blk_below H5.out.2 (below_drew1 _)) 24 0 (adrV (rd xs 0) sl) (by rw [adr_size hsomeB.len, adr_size rfl]; exact Nat.le_refl _) (info_adr hsomeB.len) (adr_one _ _) _ _ rfl rfl rfl ?_
        intro w6 hg6 hs6 hb6
        rw [splice_adr0 _ _ sl hsomeB.len rfl] at hb6
        have H6 := Lib.hid (And.intro ((H5.out.1.step (below_drew1 _)).grow hg6 (by omega) (by omega)) hb6)
        clear hg6 hs6 hb6
        refine hK _ _ ⟨H6.out.1, ?_⟩
        clear hK K
        iterate 2 (refine wpO_step0 rfl rfl (fun K hK => ?_); go_simp; refine hK _ _ ?_; clear hK K)
        refine wpO_nil ?_
        go_wp2
        have hld := load_adr0 hsomeB H6.out.2
        refine bodyPost_ret (results_c3 rfl rfl hld) rfl ?_
        rw [HE.out.1, HE.out.2.1, HE.out.2.2.1, HE.out.2.2.2.1, HSL.out.1]
        refine ⟨?_, H6.out.1.below⟩
        have hq3 := HWQ.out
        rw [show (widthA (rd xs 0) : Int) / 8 = (wq : Int) by omega]
        rfl
      · have HE := Lib.hid (decA_some HVE.out (by rw [HSL.out.2]; exact hse))
        rw [HSL.out.2] at HE
        have hsb : (se != 0) = true := by simpa using hse
        have hbn := run_build_adr_nil
        clear hse
        go_wp2_with (first | (refine wpList_store_blk HN.out 22 0 (arrV sl) (by rw [arr_size hsomeB.len, arr_size rfl]; exact Nat.le_refl _) (info_arr hsomeB.len) (arr_one _) _ _ rfl rfl rfl rfl ?_; intro w5 hg5 hs5 hb5; rw [splice_arr0 _ sl hsomeB.len rfl] at hb5; have H5 : Hid (RefT w w1.heap.size sl w5 ∧ w5.heap[w.heap.size]? = some (.cells (adrV 0 zero16) 24 (0, 0))) := ⟨⟨below_grown (below_alloc HB1.out _) hg5 HB1.out.size, hb5⟩, blk_grown (blk_below HZ1.out (below_alloc (Below.refl _ _) _)) hg5 (fun e => by injection e with e; omega)⟩; clear hg5 hs5 hb5) | (refine wpList_store_blk H5.out.2 24 0 (adrV 0 zero16) (by rw [adr_size rfl]; exact Nat.le_refl _) (info_adr rfl) (adr_one _ _) _ _ rfl rfl rfl rfl ?_; intro w9 hg9 hs9 hb9; rw [splice_adr0 _ 0 zero16 rfl rfl] at hb9; have H9 := Lib.hid (And.intro hg9 hb9); clear hg9 hs9 hb9))
        have hld := load_adr0 zero16_B H9.out.2
        refine bodyPost_ret (results_c3 rfl rfl hld) rfl ?_
        rw [HE.out.1, HE.out.2.1, HE.out.2.2.1, HE.out.2.2.2]
        exact ⟨rfl, below_grown H5.out.1.below H9.out.1 (by omega)⟩

theorem RB.second {w : World} {A : Option Addr} {n c : Nat} {xs : List Int} (h : RB w A n c xs) (ad : Addr) (he : A = some ad) (hn : 1 < n) : ∀ w0, Below w.heap.size w w0 → w0.cell? (ad.add 1) = some (.int .u8 (rd xs 1)) := by
  intro w0 hb
  obtain ⟨ad2, e2, hc⟩ := (h.below hb).at_ 1 (by omega) (by omega)
  rw [he] at e2
  injection e2 with e2
  subst e2
  exact hc
set_option maxHeartbeats 4000000 in
theorem refdecode_any (A : Option Addr) (n c : Nat) (xs : List Int) (w : World) (hr : RB w A n c xs) :
    Calls Tryd.prog 30 #[.slice A n c] w fun e w' => e = .returned (.tuple #[.agg (pfxV (decP xs).v (decP xs).l (decP xs).b), .int .i64 (decPN xs), .int .i64 (decPE xs)]) ∧ Below w.heap.size w w' := by
  have hsm := hr.small
  have hlen := hr.len
  have HR := Lib.hid hr
  have HLEN := Lib.hid hlen
  have HZ := Lib.hid (blk_new w (.cells (pfxV 0 zero16 0) 26))
  have HBZ : Hid (Below w.heap.size w (w.alloc (.cells (pfxV 0 zero16 0) 26))) := below_alloc (Below.refl _ _) _
  by_cases hn0 : n = 0
  · have hv : verE xs 151 = 7 := by unfold verE; rw [if_pos (by omega)]
    have HE := Lib.hid ((decP_ver (xs := xs) (by rw [hv]; decide)).trans hv)
    have HN0 := Lib.hid (decP_no (xs := xs) (by rw [HE.out]; decide))
    have hbn := run_build_pfx_nil
    subst hn0
    clear hr hlen hv
    go_enter Tryd.func30, Tryd.ntmps30
    go_wp2_with (refine wpList_store_blk HZ.out 26 0 (pfxV 0 zero16 0) (store_pfx_fit rfl rfl) (info_pfx rfl) (pfx_one _ _ _) _ _ rfl rfl rfl rfl ?_; intro w9 hg9 hs9 hb9; rw [splice_pfx _ 0 0 zero16 rfl rfl] at hb9; have H9 := Lib.hid (And.intro hg9 hb9); clear hg9 hs9 hb9)
    have hld := load_pfx zero16_B H9.out.2
    refine bodyPost_ret (results_c3 rfl rfl hld) rfl ?_
    rw [HN0.out.1, HN0.out.2, HE.out]
    exact ⟨rfl, below_grown HBZ.out H9.out.1 (by omega)⟩
  · have hpos : 0 < n := by omega
    have hn1 : decide (n < 1) = false := decide_eq_false (by omega)
    have hn2 : decide ((n : Int) < 1) = false := decide_eq_false (by omega)
    obtain ⟨ad, rfl, hcell⟩ := hr.first hpos
    have hrd : 0 ≤ rd xs 0 ∧ rd xs 0 < 256 := hr.range.getD 0
    have hrd1 : 0 ≤ rd xs 1 ∧ rd xs 1 < 256 := hr.range.getD 1
    have hlc := load_u8 (hcell _ HBZ.out)
    have HC := Lib.hid hcell
    have hver := verE_cons (xs := xs) (by omega) 151
    have hxb := hr.range
    clear hn0 hr hlen hcell
    go_enter Tryd.func30, Tryd.ntmps30
    go_wp2_with (refine wpList_load_g hlc _ rfl rfl (by go_simp) ?_)
    refine (refwidth_any (rd xs 0) _).mono ?_
    rintro e w1' ⟨rfl, rfl⟩
    have hwl := widthA_le (rd xs 0)
    by_cases hw : widthA (rd xs 0) = 0
    · rw [if_pos hw] at hver
      have HE := Lib.hid ((decP_ver (xs := xs) (by rw [hver]; decide)).trans hver)
      have HN0 := Lib.hid (decP_no (xs := xs) (by rw [HE.out]; decide))
      have hbn := run_build_pfx_nil
      rw [hw]
      clear hver hw hwl
      go_wp2_with (refine wpList_store_blk HZ.out 26 0 (pfxV 0 zero16 0) (store_pfx_fit rfl rfl) (info_pfx rfl) (pfx_one _ _ _) _ _ rfl rfl rfl rfl ?_; intro w9 hg9 hs9 hb9; rw [splice_pfx _ 0 0 zero16 rfl rfl] at hb9; have H9 := Lib.hid (And.intro hg9 hb9); clear hg9 hs9 hb9)
      have hld := load_pfx zero16_B H9.out.2
      refine bodyPost_ret (results_c3 rfl rfl hld) rfl ?_
      rw [HN0.out.1, HN0.out.2, HE.out]
      exact ⟨rfl, below_grown HBZ.out H9.out.1 (by omega)⟩
    · rw [if_neg hw] at hver
      have HVE := Lib.hid hver
      have hw0 : ((widthA (rd xs 0) : Int) == 0) = false := by simp; omega
      have hw1 : ((widthA (rd xs 0)) == 0) = false := by simp; omega
      clear hver hw hlc
      by_cases h2 : n < 2
      · have HE := Lib.hid (decP_short HVE.out (by rw [HLEN.out]; exact h2))
        have HN0 := Lib.hid (decP_no (xs := xs) (by rw [HE.out]; decide))
        have hd2 : decide ((n : Int) < 2) = true := decide_eq_true (by omega)
        have hbn := run_build_pfx_nil
        go_wp2_with (refine wpList_store_blk HZ.out 26 0 (pfxV 0 zero16 0) (store_pfx_fit rfl rfl) (info_pfx rfl) (pfx_one _ _ _) _ _ rfl rfl rfl rfl ?_; intro w9 hg9 hs9 hb9; rw [splice_pfx _ 0 0 zero16 rfl rfl] at hb9; have H9 := Lib.hid (And.intro hg9 hb9); clear hg9 hs9 hb9)
        have hld := load_pfx zero16_B H9.out.2
        refine bodyPost_ret (results_c3 rfl rfl hld) rfl ?_
        rw [HN0.out.1, HN0.out.2, HE.out]
        exact ⟨rfl, below_grown HBZ.out H9.out.1 (by omega)⟩
      · have h2' : 2 ≤ xs.length := by rw [HLEN.out]; omega
        have hd2 : decide ((n : Int) < 2) = false := decide_eq_false (by omega)
        have hn2 : (1 : Int) < n := by omega
        obtain ⟨b, hb⟩ := Int.eq_ofNat_of_zero_le hrd1.1
        have hlc1 := load_u8 (HR.out.second ad rfl (by omega) _ HBZ.out)
        rw [hb] at hlc1 hrd1
        have HBQ := Lib.hid hb
        clear hb h2
        by_cases hwb : (widthA (rd xs 0) : Int) < b
        · have HE := Lib.hid (decP_wide HVE.out h2' (by rw [HBQ.out]; exact hwb))
          have HN0 := Lib.hid (decP_no (xs := xs) (by rw [HE.out]; decide))
          have hbn := run_build_pfx_nil
          clear h2'
          go_wp2_with (first | (refine wpList_load_g hlc1 _ rfl rfl (by go_simp) ?_) | (refine wpList_store_blk HZ.out 26 0 (pfxV 0 zero16 0) (store_pfx_fit rfl rfl) (info_pfx rfl) (pfx_one _ _ _) _ _ rfl rfl rfl rfl ?_; intro w9 hg9 hs9 hb9; rw [splice_pfx _ 0 0 zero16 rfl rfl] at hb9; have H9 := Lib.hid (And.intro hg9 hb9); clear hg9 hs9 hb9))
          have hld := load_pfx zero16_B H9.out.2
          refine bodyPost_ret (results_c3 rfl rfl hld) rfl ?_
          rw [HN0.out.1, HN0.out.2, HE.out]
          exact ⟨rfl, below_grown HBZ.out H9.out.1 (by omega)⟩
        · have hw' : b ≤ widthA (rd xs 0) := by omega
          have hd1 : decide ((widthA (rd xs 0) : Int) < b) = false := decide_eq_false hwb
          have HPE := Lib.hid (decP_some HVE.out h2' HBQ.out hw')
          have H2 := Lib.hid h2'
          have hb128 : b ≤ 128 := by omega
          have hsomeB : B16 (someL (xs.drop 2) b 151) := someL_16 (hxb.drop 2) hb128
          obtain ⟨sl, hsl⟩ : ∃ sl, someL (xs.drop 2) b 151 = sl := ⟨_, rfl⟩
          obtain ⟨se, hse⟩ : ∃ se, someE (xs.drop 2) b 151 = se := ⟨_, rfl⟩
          rw [hsl] at hsomeB
          have HSL := Lib.hid (And.intro hsl hse)
          clear hsl hse hwb h2'
          go_wp2_with (refine wpList_load_g hlc1 _ rfl rfl (by go_simp) ?_)
          clear hd1 hd2 hw0 hw1 hlc1
          refine (refsome_any (some ad) n c xs 2 b 151 _ (HR.out.below HBZ.out) (by omega) (by decide) hb128).mono ?_
          rw [HSL.out.1, HSL.out.2]
          rintro e w1 ⟨rfl, hb1⟩
          have HB1 := Lib.hid (below_step HBZ.out hb1)
          have HZ1 := Lib.hid (blk_below HZ.out hb1)
          have HN := Lib.hid (blk_new w1 (.cells (arrV zero16) 22))
          have hlt1 := blk_lt HZ1.out
          clear hb1
          by_cases hse : se = 0
          · have hpe : decPE xs = 0 := HPE.out.trans (HSL.out.2.trans hse)
            have HE := Lib.hid (And.intro hpe (decP_ok hpe HPE.out H2.out HBQ.out))
            subst hse
            clear hpe
            go_wp2_with (refine wpList_store_blk HN.out 22 0 (arrV sl) (by rw [arr_size hsomeB.len, arr_size rfl]; exact Nat.le_refl _) (info_arr hsomeB.len) (arr_one _) _ _ rfl rfl rfl rfl ?_; intro w5 hg5 hs5 hb5; rw [splice_arr0 _ sl hsomeB.len rfl] at hb5; have H5 : Hid (RefT w w1.heap.size sl w5 ∧ w5.heap[w.heap.size]? = some (.cells (pfxV 0 zero16 0) 26 (0, 0))) := ⟨⟨below_grown (below_alloc HB1.out _) hg5 HB1.out.size, hb5⟩, blk_grown (blk_below HZ1.out (below_alloc (Below.refl _ _) _)) hg5 (fun e => by injection e with e; omega)⟩; clear hg5 hs5 hb5)
            obtain ⟨wq, hwq⟩ : ∃ wq, fullB b = wq := ⟨_, rfl⟩
            have hqq : ((b : Int) + 7) / 8 = wq := by rw [← hwq]; unfold fullB; omega
            have hqt : ((b : Int) + 7).tdiv 8 = wq := by rw [Int.tdiv_eq_ediv_of_nonneg (by omega)]; exact hqq
            have hqw : IntKind.i64.wrap (wq : Int) = wq := IntWalk.i64_in _ (by omega)
            have hq0 : IntKind.i64.wrap ((b : Int) + 7) = b + 7 := IntWalk.i64_in _ (by omega)
            have hq1 : IntKind.i64.wrap (((b : Int) + 7) / 8) = wq := by rw [IntWalk.i64_in _ (by omega)]; omega
            have hq2 : IntKind.i64.wrap (2 + (wq : Int)) = 2 + wq := IntWalk.i64_in _ (by omega)
            have hwrd : IntKind.i64.wrap (rd xs 0) = rd xs 0 := IntWalk.i64_in _ (by omega)
            have HWQ := Lib.hid hwq
            clear hwq hqq
            refine wp_region_mix ((RefT w w1.heap.size sl)) [(0, 0), (1, 0), (2, 0), (3, 0), (4, 0), (5, 0), (6, 0), (7, 0), (8, 0), (9, 0), (10, 0), (11, 0), (12, 2), (13, 0), (14, 0)] (by kernel_rfl) (by kernel_rfl) ((H5.out.1.step (below_drew1 _))) ?_
            simp only [List.map_cons, List.map_nil]
            iterate 2 (refine wpO_step0 rfl rfl (fun K hK => ?_); go_simp; refine hK _ _ ?_; clear hK K)
            refine wpO_loadW (t := 5) (ad := ad) rfl rfl ?hw rfl rfl ((fun w0 hS => load_u8 (HC.out w0 hS.below))) ?_
            case hw => go_simp
            iterate 1 (refine wpO_step0 rfl rfl (fun K hK => ?_); go_simp; refine hK _ _ ?_; clear hK K)
            refine wpO_loadW (t := 22) (ad := ⟨w1.heap.size, 0, none⟩) rfl rfl ?hw rfl rfl ((fun w0 hS => load_arr0 hsomeB hS.arr)) ?_
            case hw => go_simp
            refine wpO_step0 rfl rfl (fun K hK => ?_)
            rw [if_pos (show Region.wanted _ _ = true from rfl)]
            refine ⟨_, fun w0 => exec_build_adr rfl rfl rfl hsomeB.len w0, hK _ _ ?_⟩
            clear hK K
            iterate 1 (refine wpO_step0 rfl rfl (fun K hK => ?_); go_simp; refine hK _ _ ?_; clear hK K)
            refine wpO_step0 rfl rfl (fun K hK => ?_)
            rw [if_pos (show Region.wanted _ _ = true from rfl)]
            refine ⟨_, fun w0 => exec_build_pfx rfl rfl rfl hsomeB.len w0, hK _ _ ?_⟩
            clear hK K
            iterate 4 (refine wpO_step0 rfl rfl (fun K hK => ?_); go_simp; refine hK _ _ ?_; clear hK K)
            refine wpO_step2 rfl rfl (H5.out.1.step (below_drew1 _)) (fun K hK => ?_)
            rw [if_pos (show Region.wanted _ _ = true from rfl)]
            refine oper_store_blk (blk_below H5.out.2 (below_drew1 _)) 26 0 (pfxV (rd xs 0) sl b) (store_pfx_fit hsomeB.len rfl) (info_pfx hsomeB.len) (pfx_one _ _ _) _ _ rfl rfl rfl ?_
            intro w6 hg6 hs6 hb6
            rw [splice_pfx _ _ _ sl hsomeB.len rfl] at hb6
            have H6 := Lib.hid (And.intro ((H5.out.1.step (below_drew1 _)).grow hg6 (by omega) (by omega)) hb6)
            clear hg6 hs6 hb6
            refine hK _ _ ⟨H6.out.1, ?_⟩
            clear hK K
            iterate 2 (refine wpO_step0 rfl rfl (fun K hK => ?_); go_simp; refine hK _ _ ?_; clear hK K)
            refine wpO_nil ?_
            go_wp2
            have hld := load_pfx hsomeB H6.out.2
            refine bodyPost_ret (results_c3 rfl rfl hld) rfl ?_
            rw [HE.out.1, HE.out.2.1, HE.out.2.2.1, HSL.out.1, HWQ.out]
            exact ⟨rfl, H6.out.1.below⟩
          · have HE := Lib.hid (HPE.out.trans HSL.out.2)
            have HN0 := Lib.hid (decP_no (by rw [HE.out]; exact hse))
            have hsb : (se != 0) = true := by simpa using hse
            have hbn := run_build_pfx_nil
            clear hse
            go_wp2_with (first | (refine wpList_store_blk HN.out 22 0 (arrV sl) (by rw [arr_size hsomeB.len, arr_size rfl]; exact Nat.le_refl _) (info_arr hsomeB.len) (arr_one _) _ _ rfl rfl rfl rfl ?_; intro w5 hg5 hs5 hb5; rw [splice_arr0 _ sl hsomeB.len rfl] at hb5; have H5 : Hid (RefT w w1.heap.size sl w5 ∧ w5.heap[w.heap.size]? = some (.cells (pfxV 0 zero16 0) 26 (0, 0))) := ⟨⟨below_grown (below_alloc HB1.out _) hg5 HB1.out.size, hb5⟩, blk_grown (blk_below HZ1.out (below_alloc (Below.refl _ _) _)) hg5 (fun e => by injection e with e; omega)⟩; clear hg5 hs5 hb5) | (refine wpList_store_blk H5.out.2 26 0 (pfxV 0 zero16 0) (store_pfx_fit rfl rfl) (info_pfx rfl) (pfx_one _ _ _) _ _ rfl rfl rfl rfl ?_; intro w9 hg9 hs9 hb9; rw [splice_pfx _ 0 0 zero16 rfl rfl] at hb9; have H9 := Lib.hid (And.intro hg9 hb9); clear hg9 hs9 hb9))
            have hld := load_pfx zero16_B H9.out.2
            refine bodyPost_ret (results_c3 rfl rfl hld) rfl ?_
            rw [HN0.out.1, HN0.out.2, HE.out]
            exact ⟨rfl, below_grown H5.out.1.below H9.out.1 (by omega)⟩
end Go.Proofs.YtcloepjeckbmoaaDoor
