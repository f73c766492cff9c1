/- Layer 5 (prefix): Of. -/
import Derived.Test.YtcloepjeckbmoaaDoorPfx6
import Derived.Test.YtcloepjeckbmoaaDoorPfx4
import Derived.Test.YtcloepjeckbmoaaDoorAggP
namespace Go.Proofs.YtcloepjeckbmoaaDoor
open Go.RowKit
set_option linter.unusedVariables false
set_option linter.unusedSimpArgs false

/-- A store of a whole prefix; a load of one, as a result. -/
theorem store_pfx_fit {c : Array Value} {v x : Int} {l : List Int} (hl : l.length = 16) (hc : c.size = 18) : 0 + (pfxV v l x).size ≤ c.size := by rw [pfx_size hl, hc]; exact Nat.le_refl _
theorem store_arr_fit {v : Int} {l m : List Int} (hl : l.length = 16) (hm : m.length = 16) : 1 + (arrV m).size ≤ (adrV v l).size := by rw [arr_size hm, adr_size hl]; exact Nat.le_refl _
set_option maxHeartbeats 2000000 in
theorem of_any (v : Int) (l : List Int) (k : Int) (w : World) (hL : Laid w) (hl : B16 l) : Calls Tryd.prog 20 #[.agg (adrV v l), .int .i64 k] w fun e w' => e = .returned (.tuple #[.agg (pfxV (ofP v l k).v (ofP v l k).l (ofP v l k).b), .int .i64 (ofE v l k)]) ∧ Below w.heap.size w w' := by
  have hblk1 := blk_new w (.cells (adrV v l) 24)
  have hbel1 : Below w.heap.size w (w.alloc (.cells (adrV v l) 24)) := below_alloc (Below.refl _ _) _
  have HP1 := Lib.hid (adr_at hl hblk1)
  have HBK1 := Lib.hid hblk1
  have HBE := Lib.hid hbel1
  have HL := Lib.hid (hL.below HBE.out)
  obtain ⟨cs1, hcs1⟩ : ∃ cs, adrV v l = cs := ⟨_, rfl⟩
  simp only [hcs1] at HBE HL HP1 HBK1 ⊢
  have HC1 := Lib.hid hcs1
  clear hL hcs1 hblk1 hbel1
  have hsz1 : (w.alloc (.cells cs1 24)).heap.size = w.heap.size + 1 := by simp
  have hz := blk_new (w.alloc (.cells cs1 24)) (.cells (pfxV 0 zero16 0) 26)
  rw [hsz1] at hz
  have HZ := Lib.hid hz
  clear hz hsz1
  go_enter Tryd.func20, Tryd.ntmps20
  go_wp2_with (refine wpList_load_g (HP1.out.all _ (below_alloc (Below.refl _ _) _)).1 _ rfl rfl (by go_simp) ?_)
  refine (checkAddr_any v l _ (HL.out.below (below_alloc (Below.refl _ _) _)) hl).mono ?_
  rintro e w1 ⟨rfl, hbb1⟩
  have HZ1 := Lib.hid (blk_below HZ.out hbb1)
  have HB1 := Lib.hid (below_step (below_alloc (Below.refl _ _) _) hbb1)
  clear hbb1 HZ
  cases hR : rightA v l with
  | false =>
    have HE := Lib.hid (of_wrong (k := k) hR)
    rw [errA_false hR]
    clear hR
    have hbn := run_build_pfx_nil
    go_wp2_with (first | (refine wpList_store_blk HZ1.out 26 0 (pfxV 0 zero16 0) (store_pfx_fit rfl rfl) (info_pfx rfl) (pfx_one _ _ _) _ _ rfl rfl rfl rfl ?_; intro w2 hg hs hb; rw [splice_pfx _ 0 0 zero16 rfl rfl] at hb; have H2 := Lib.hid (And.intro hg hb); clear hg hs hb))
    have hld := load_pfx zero16_B H2.out.2
    refine bodyPost_ret (results_c2 rfl rfl hld) rfl ?_
    rw [HE.out.1, HE.out.2]
    exact ⟨rfl, below_grown (below_step HBE.out HB1.out) H2.out.1 (by omega)⟩
  | true =>
    rw [errA_true hR]
    have hbn := run_build_pfx_nil
    by_cases h0 : k < 0
    · have HE := Lib.hid (of_arg (k := k) hR (by omega))
      clear hR
      go_wp2_with (first | (refine wpList_store_blk HZ1.out 26 0 (pfxV 0 zero16 0) (store_pfx_fit rfl rfl) (info_pfx rfl) (pfx_one _ _ _) _ _ rfl rfl rfl rfl ?_; intro w2 hg hs hb; rw [splice_pfx _ 0 0 zero16 rfl rfl] at hb; have H2 := Lib.hid (And.intro hg hb); clear hg hs hb))
      have hld := load_pfx zero16_B H2.out.2
      refine bodyPost_ret (results_c2 rfl rfl hld) rfl ?_
      rw [HE.out.1, HE.out.2]
      exact ⟨rfl, below_grown (below_step HBE.out HB1.out) H2.out.1 (by omega)⟩
    · have h0' : 0 ≤ k := by omega
      clear h0
      have hlv := (HP1.out.all w1 HB1.out).2.1
      go_wp2_with (refine wpList_load_g hlv _ rfl rfl (by go_simp) ?_)
      refine (width_any v w1 (HL.out.below HB1.out)).mono ?_
      rintro e w2 ⟨rfl, rfl⟩
      have hwl := widthA_le v
      by_cases hw : (widthA v : Int) < k
      · have HE := Lib.hid (of_arg (k := k) hR (by omega))
        clear hR
        go_wp2_with (first | (refine wpList_store_blk HZ1.out 26 0 (pfxV 0 zero16 0) (store_pfx_fit rfl rfl) (info_pfx rfl) (pfx_one _ _ _) _ _ rfl rfl rfl rfl ?_; intro w2 hg hs hb; rw [splice_pfx _ 0 0 zero16 rfl rfl] at hb; have H2 := Lib.hid (And.intro hg hb); clear hg hs hb))
        have hld := load_pfx zero16_B H2.out.2
        refine bodyPost_ret (results_c2 rfl rfl hld) rfl ?_
        rw [HE.out.1, HE.out.2]
        exact ⟨rfl, below_grown (below_step HBE.out HB1.out) H2.out.1 (by omega)⟩
      · have hw' : k ≤ (widthA v : Int) := by omega
        have hk128 : k ≤ 128 := by omega
        have HE := Lib.hid (of_ok hR h0' hw')
        clear hR hw
        have hlb := (HP1.out.all w1 HB1.out).2.2
        go_wp2_with (first | (refine wpList_load_g hlb _ rfl rfl (by go_simp) ?_))
        refine (cut_any l k w1 hl h0' hk128).mono ?_
        rintro e w2 ⟨rfl, hbb2⟩
        have hka := blk_below (blk_below HBK1.out HB1.out) hbb2
        rw [← HC1.out] at hka
        have HKA := Lib.hid hka
        have HZ2 := Lib.hid (blk_below HZ1.out hbb2)
        have HB2 := Lib.hid (below_step HB1.out hbb2)
        clear hbb2 hka hlb hlv hbn
        have h16 := (cutA_16 hl k).len
        obtain ⟨m, hm⟩ : ∃ m, cutA l k = m := ⟨_, rfl⟩
        have hm16 : B16 m := hm ▸ cutA_16 hl k
        rw [hm] at h16 HE
        rw [hm]
        clear hm
        go_wp2_with (first | (refine wpList_store_blk HKA.out 22 1 (arrV m) (store_arr_fit hl.len h16) (info_arr h16) (arr_one _) _ _ rfl rfl rfl rfl ?_; intro w3 hg3 hs3 hb3; rw [splice_adr v l m hl.len h16] at hb3; have hz3 := blk_grown HZ2.out hg3 (by simp); have H3 := Lib.hid (And.intro hg3 hz3); have hla3 := ((adr_at hm16 hb3).all w3 (Below.refl _ _)).1; clear hg3 hs3 hz3 hb3) | (refine wpList_load_g hla3 _ rfl rfl (by go_simp) ?_) | (refine wpList_build_pfx rfl rfl rfl rfl h16 ?_) | (refine wpList_store_blk H3.out.2 26 0 (pfxV v m k) (store_pfx_fit h16 rfl) (info_pfx h16) (pfx_one _ _ _) _ _ rfl rfl rfl rfl ?_; intro w4 hg4 hs4 hb4; rw [splice_pfx _ v k m h16 rfl] at hb4; have H4 := Lib.hid (And.intro hg4 hb4); clear hg4 hs4 hb4))
        have hld := load_pfx hm16 H4.out.2
        refine bodyPost_ret (results_c2 rfl rfl hld) rfl ?_
        rw [HE.out.1, HE.out.2]
        exact ⟨rfl, below_grown (below_grown (below_step HBE.out HB2.out) H3.out.1 (by omega)) H4.out.1 (by omega)⟩
end Go.Proofs.YtcloepjeckbmoaaDoor
