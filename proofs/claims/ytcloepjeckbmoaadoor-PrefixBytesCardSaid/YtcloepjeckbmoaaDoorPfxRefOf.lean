/- The document's answer for layer 5: Of. -/
import Derived.Test.YtcloepjeckbmoaaDoorPfxOf
import Derived.IntWalk
namespace Go.Proofs.YtcloepjeckbmoaaDoor
open Go.RowKit
set_option linter.unusedVariables false
set_option linter.unusedSimpArgs false

/-- One bit more is kept. -/
theorem cutB_more (x : Int) (h0 : 0 ≤ x) (h1 : x < 256) (r : Nat) (hr : r < 8) : cutB x ((r : Int) + 1) = cutB x r + x / 2 ^ (7 - r) % 2 * (128 / 2 ^ r) := by
  have : r = 0 ∨ r = 1 ∨ r = 2 ∨ r = 3 ∨ r = 4 ∨ r = 5 ∨ r = 6 ∨ r = 7 := by omega
  rcases this with rfl | rfl | rfl | rfl | rfl | rfl | rfl | rfl <;> simp [cutB] <;> omega
theorem cutA_rd (l : List Int) (k : Int) (i : Nat) (hi : i < 16) : rd (cutA l k) (i : Int) = cutB (rd l (i : Int)) (k - 8 * i) := by
  unfold cutA
  rw [rd_map _ _ _ hi]
theorem rd_set (l : List Int) (q i : Nat) (y : Int) (hq : q < l.length) : rd (l.set q y) (i : Int) = if i = q then y else rd l (i : Int) := by
  simp only [rd, Int.toNat_natCast, List.getD_eq_getElem?_getD, List.getElem?_set]
  by_cases h : i = q
  · subst h; simp [hq]
  · rw [if_neg (fun e => h e.symm), if_neg h]
theorem ext16r {l m : List Int} (hl : l.length = 16) (hm : m.length = 16) (h : ∀ i : Nat, i < 16 → rd l (i : Int) = rd m (i : Int)) : l = m := by
  apply List.ext_getElem (by rw [hl, hm])
  intro j h1 h2
  have := h j (by omega)
  simpa [rd, List.getD_eq_getElem?_getD, h1, h2] using this
theorem cutA_more (l : List Int) (hl : B16 l) (m : Nat) (hm : m < 128) : cutA l ((m : Int) + 1) = (cutA l m).set (m / 8) (rd (cutA l m) ((m / 8 : Nat) : Int) + bitA l m * (128 / 2 ^ (m % 8))) := by
  refine ext16r (cutA_16 hl _).len (by rw [List.length_set]; exact (cutA_16 hl _).len) (fun i hi => ?_)
  rw [rd_set _ _ _ _ (by rw [(cutA_16 hl _).len]; omega), cutA_rd _ _ _ hi]
  by_cases h : i = m / 8
  · subst h
    rw [if_pos rfl, cutA_rd _ _ _ hi]
    have := cutB_more (rd l ((m / 8 : Nat) : Int)) (hl.rd _).1 (hl.rd _).2 (m % 8) (by omega)
    rw [show (m : Int) + 1 - 8 * ((m / 8 : Nat) : Int) = ((m % 8 : Nat) : Int) + 1 by omega, show (m : Int) - 8 * ((m / 8 : Nat) : Int) = ((m % 8 : Nat) : Int) by omega]
    exact this
  · rw [if_neg h, cutA_rd _ _ _ hi]
    have hr := hl.rd (i : Int)
    unfold cutB
    by_cases h1 : i < m / 8
    · rw [if_neg (by omega), if_neg (by omega), if_neg (by omega), if_neg (by omega)]
    · rw [if_pos (by omega), if_pos (by omega)]
theorem cutA_same (l : List Int) (hl : B16 l) (m : Nat) (hm : m < 128) (hb : bitA l m = 0) : cutA l ((m : Int) + 1) = cutA l m := by
  rw [cutA_more l hl m hm, hb, Int.zero_mul, Int.add_zero]
  refine ext16r (by rw [List.length_set]; exact (cutA_16 hl _).len) (cutA_16 hl _).len (fun i hi => ?_)
  rw [rd_set _ _ _ _ (by rw [(cutA_16 hl _).len]; omega)]
  by_cases h : i = m / 8
  · subst h; rw [if_pos rfl]
  · rw [if_neg h]
theorem cutA_none (l : List Int) : cutA l 0 = zero16 := by
  refine ext16r (by simp [cutA]) rfl (fun i hi => ?_)
  rw [cutA_rd _ _ _ hi]
  unfold cutB
  rw [if_pos (by omega)]
  have : i = 0 ∨ i = 1 ∨ i = 2 ∨ i = 3 ∨ i = 4 ∨ i = 5 ∨ i = 6 ∨ i = 7 ∨ i = 8 ∨ i = 9 ∨ i = 10 ∨ i = 11 ∨ i = 12 ∨ i = 13 ∨ i = 14 ∨ i = 15 := by omega
  rcases this with rfl | rfl | rfl | rfl | rfl | rfl | rfl | rfl | rfl | rfl | rfl | rfl | rfl | rfl | rfl | rfl <;> rfl
theorem pfx_byte {w : World} {g : Nat} {t : TypeId} {v b : Int} {l : List Int} (hl : B16 l) (h : w.heap[g]? = some (.cells (pfxV v l b) t (0, 0))) (i : Nat) (hi : i < 16) : w.cell? ⟨g, 1 + i, none⟩ = some (.int .u8 (rd l (i : Int))) := by
  rw [blk_cell h, Nat.add_comm]
  unfold pfxV
  rw [List.getElem?_toArray, List.getElem?_cons_succ, List.getElem?_append_left (by simp [nums, hl.len]; exact hi)]
  exact nums_get .u8 l i (by rw [hl.len]; exact hi)
theorem pfx_set {w : World} {g : Nat} {t : TypeId} {v b : Int} {l : List Int} (hl : l.length = 16) (h : w.heap[g]? = some (.cells (pfxV v l b) t (0, 0))) (i : Nat) (hi : i < 16) (y : Int) : (w.setCell ⟨g, 1 + i, none⟩ (.int .u8 y)).heap[g]? = some (.cells (pfxV v (l.set i y) b) t (0, 0)) := by
  have := blk_set h (1 + i) (.int .u8 y)
  rw [this]
  congr 2
  unfold pfxV
  rw [List.setIfInBounds_toArray, Nat.add_comm, List.set_cons_succ, List.set_append_left _ _ (by simp [nums, hl]; exact hi), nums_set]

set_option maxHeartbeats 4000000 in
theorem refof_any (v : Int) (l : List Int) (k : Int) (w : World) (hl : B16 l) : Calls Tryd.prog 21 #[.agg (adrV v l), .int .i64 k] w fun e w' => e = .returned (.tuple #[.agg (pfxV (ofP v l k).v (ofP v l k).l (ofP v l k).b), .int .i64 (ofE v l k)]) ∧ Below w.heap.size w w' := by
  have hblk1 := blk_new w (.cells (adrV v l) 24)
  have hbel1 : Below w.heap.size w (w.alloc (.cells (adrV v l) 24)) := below_alloc (Below.refl _ _) _
  have HP1 := Lib.hid (adr_at hl hblk1)
  have HBK1 := Lib.hid hblk1
  have HBE := Lib.hid hbel1
  obtain ⟨cs1, hcs1⟩ : ∃ cs, adrV v l = cs := ⟨_, rfl⟩
  simp only [hcs1] at HBE HP1 HBK1 ⊢
  have HC1 := Lib.hid hcs1
  clear hcs1 hblk1 hbel1
  have hsz1 : (w.alloc (.cells cs1 24)).heap.size = w.heap.size + 1 := by simp
  have hz := blk_new (w.alloc (.cells cs1 24)) (.cells (pfxV 0 zero16 0) 26)
  rw [hsz1] at hz
  have HZ := Lib.hid hz
  clear hz hsz1
  go_enter Tryd.func21, Tryd.ntmps21
  go_wp2_with (refine wpList_load_g (HP1.out.all _ (below_alloc (Below.refl _ _) _)).1 _ rfl rfl (by go_simp) ?_)
  refine (rightAddr_any v l _ hl).mono ?_
  rintro e w1 ⟨rfl, hbb1⟩
  have HZ1 := Lib.hid (blk_below HZ.out hbb1)
  have HB1 := Lib.hid (below_step (below_alloc (Below.refl _ _) _) hbb1)
  clear hbb1 HZ
  have hbn := run_build_pfx_nil
  cases hR : rightA v l with
  | false =>
    have HE := Lib.hid (of_wrong (k := k) hR)
    clear hR
    go_wp2_with (first | (refine wpList_store_blk HZ1.out 26 0 (pfxV 0 zero16 0) (store_pfx_fit rfl rfl) (info_pfx rfl) (pfx_one _ _ _) _ _ rfl rfl rfl rfl ?_; intro w2 hg hs hb; rw [splice_pfx _ 0 0 zero16 rfl rfl] at hb; have H2 := Lib.hid (And.intro hg hb); clear hg hs hb))
    have hld := load_pfx zero16_B H2.out.2
    refine bodyPost_ret (results_c2 rfl rfl hld) rfl ?_
    rw [HE.out.1, HE.out.2]
    exact ⟨rfl, below_grown (below_step HBE.out HB1.out) H2.out.1 (by omega)⟩
  | true =>
    by_cases h0 : k < 0
    · have HE := Lib.hid (of_arg (k := k) hR (by omega))
      clear hR
      go_wp2_with (first | (refine wpList_store_blk HZ1.out 26 0 (pfxV 0 zero16 0) (store_pfx_fit rfl rfl) (info_pfx rfl) (pfx_one _ _ _) _ _ rfl rfl rfl rfl ?_; intro w2 hg hs hb; rw [splice_pfx _ 0 0 zero16 rfl rfl] at hb; have H2 := Lib.hid (And.intro hg hb); clear hg hs hb))
      have hld := load_pfx zero16_B H2.out.2
      refine bodyPost_ret (results_c2 rfl rfl hld) rfl ?_
      rw [HE.out.1, HE.out.2]
      exact ⟨rfl, below_grown (below_step HBE.out HB1.out) H2.out.1 (by omega)⟩
    · have h0' : 0 ≤ k := by omega
      have hd0 : decide (k < 0) = false := decide_eq_false h0
      clear h0
      have hlv := (HP1.out.all w1 HB1.out).2.1
      go_wp2_with (refine wpList_load_g hlv _ rfl rfl (by go_simp) ?_)
      refine (refwidth_any v w1).mono ?_
      rintro e w2 ⟨rfl, rfl⟩
      have hwl := widthA_le v
      by_cases hw : (widthA v : Int) < k
      · have HE := Lib.hid (of_arg (k := k) hR (by omega))
        clear hR
        go_wp2_with (first | (refine wpList_store_blk HZ1.out 26 0 (pfxV 0 zero16 0) (store_pfx_fit rfl rfl) (info_pfx rfl) (pfx_one _ _ _) _ _ rfl rfl rfl rfl ?_; intro w2 hg hs hb; rw [splice_pfx _ 0 0 zero16 rfl rfl] at hb; have H2 := Lib.hid (And.intro hg hb); clear hg hs hb))
        have hld := load_pfx zero16_B H2.out.2
        refine bodyPost_ret (results_c2 rfl rfl hld) rfl ?_
        rw [HE.out.1, HE.out.2]
        exact ⟨rfl, below_grown (below_step HBE.out HB1.out) H2.out.1 (by omega)⟩
      · have hw' : k ≤ (widthA v : Int) := by omega
        have hk128 : k ≤ 128 := by omega
        have HE := Lib.hid (of_ok hR h0' hw')
        have hd1 : decide ((widthA v : Int) < k) = false := decide_eq_false hw
        clear hR hw hbn
        go_wp2_with (first | (refine wpList_load_g hlv _ rfl rfl (by go_simp) ?_))
        clear hd0 hd1
        have hk0 := Lib.hid (And.intro h0' hw')
        have hs1 : w.heap.size + 2 ≤ w1.heap.size := by
          have h := blk_lt HZ1.out
          omega
        have hnew := blk_new w1 (.cells (pfxV v zero16 k) 26)
        have HN : Hid (Below (w.alloc (.cells cs1 24)).heap.size (w.alloc (.cells cs1 24)) (w1.alloc (.cells (pfxV v zero16 k) 26)) ∧ (w1.alloc (.cells (pfxV v zero16 k) 26)).heap[w.heap.size + 1]? = some (.cells (pfxV 0 zero16 0) 26 (0, 0)) ∧ (w1.alloc (.cells (pfxV v zero16 k) 26)).heap[w1.heap.size]? = some (.cells (pfxV v (cutA l (0 : Nat)) k) 26 (0, 0))) :=
          ⟨below_alloc HB1.out _, blk_below HZ1.out (below_alloc (Below.refl _ _) _), by rw [show ((0 : Nat) : Int) = 0 from rfl, cutA_none]; exact hnew⟩
        clear hnew hlv hwl
        obtain ⟨q, hq⟩ := Int.eq_ofNat_of_zero_le h0'
        subst hq
        clear h0' hw'
        go_loopw [7] (fun i wr => ∃ m : Nat, i = .int .i64 m ∧ Hid (m ≤ q ∧ Below (w.alloc (.cells cs1 24)).heap.size (w.alloc (.cells cs1 24)) wr ∧ wr.heap[w.heap.size + 1]? = some (.cells (pfxV 0 zero16 0) 26 (0, 0)) ∧ wr.heap[w1.heap.size]? = some (.cells (pfxV v (cutA l m) q) 26 (0, 0)))) (fun i _ => 128 - (intOf i).toNat)
        case atStart => exact ⟨0, rfl, Nat.zero_le _, HN.out⟩
        case round =>
          obtain ⟨m, rfl, HH⟩ := hrel
          clear HN
          by_cases hlt : m < q
          · have hlb := (HP1.out.all wr HH.out.2.1).2.2
            have hm0 : (0 : Int) ≤ m := by omega
            have hm1 : (m : Int) < 128 := by omega
            have hlt' : (m : Int) < q := by omega
            go_wp2_with (refine wpList_load_g hlb _ rfl rfl (by go_simp) ?_)
            refine (refat_any l m wr hl hm0 hm1).mono ?_
            rintro e w2 ⟨rfl, hbb2⟩
            rw [show (m : Int).toNat = m by omega]
            have HH2 : Hid (Below (w.alloc (.cells cs1 24)).heap.size (w.alloc (.cells cs1 24)) w2 ∧ w2.heap[w.heap.size + 1]? = some (.cells (pfxV 0 zero16 0) 26 (0, 0)) ∧ w2.heap[w1.heap.size]? = some (.cells (pfxV v (cutA l m) q) 26 (0, 0))) :=
              ⟨below_step HH.out.2.1 hbb2, blk_below HH.out.2.2.1 hbb2, blk_below HH.out.2.2.2 hbb2⟩
            clear hbb2 hlb
            by_cases hbit : bitA l m = 1
            · have hbt : (bitA l m == 1) = true := by simpa using hbit
              have h16 := cutA_16 hl m
              have hcm := cutA_more l hl m (by omega)
              have h16m := (cutA_16 hl ((m : Int) + 1)).rd ((m / 8 : Nat) : Int)
              rw [hcm, rd_set _ _ _ _ (by rw [h16.len]; omega), if_pos rfl, hbit, Int.one_mul] at h16m
              rw [hbit, Int.one_mul] at hcm
              have HCM := Lib.hid hcm
              have hc := pfx_byte h16 HH2.out.2.2 (m / 8) (by omega)
              have hf : w2.frozen? ⟨w1.heap.size, 1 + m / 8, none⟩ = false := blk_frozen HH2.out.2.2 _
              have hr := h16.rd ((m / 8 : Nat) : Int)
              have hset := pfx_set h16.len HH2.out.2.2 (m / 8) (by omega)
              have HSET := Lib.hid hset
              clear hset hbit hcm
              have HM := Lib.hid (Int.emod_eq_of_lt h16m.1 h16m.2)
              clear h16m
              go_wp2
              go_roundw
              case measure => simp [intOf]; omega
              case rel =>
                refine ⟨m + 1, by go_num, by omega, HH2.out.1.setCell (by simp; omega) _, blk_set_far HH2.out.2.1 (by simp; omega) _, ?_⟩
                have e := HM.out
                rw [show ((m / 8 : Nat) : Int) = (m : Int) / 8 by omega] at e
                rw [show ((m + 1 : Nat) : Int) = (m : Int) + 1 by omega, HCM.out, e, HSET.out]
                congr 4
            · have hbt : (bitA l m == 1) = false := by simpa using hbit
              have HC := Lib.hid (cutA_same l hl m (by omega) ((bitA_range l m).resolve_right hbit))
              clear hbit
              go_wp2_with fail
              go_roundw
              case measure => simp [intOf]; omega
              case rel =>
                refine ⟨m + 1, by go_num, by omega, HH2.out.1, HH2.out.2.1, ?_⟩
                rw [show ((m + 1 : Nat) : Int) = (m : Int) + 1 by omega, HC.out]
                exact HH2.out.2.2
          · obtain rfl : m = q := by have := HH.out.1; omega
            have hm1 : decide ((m : Int) < m) = false := decide_eq_false (by omega)
            have h16 := cutA_16 hl m
            have hld := load_pfx h16 HH.out.2.2.2
            clear hlt
            go_wp2_with (first | (refine wpList_load_g hld _ rfl rfl (by go_simp) ?_) | (refine wpList_store_blk HH.out.2.2.1 26 0 (pfxV v (cutA l m) m) (store_pfx_fit h16.len rfl) (info_pfx h16.len) (pfx_one _ _ _) _ _ rfl rfl rfl rfl ?_; intro w3 hg hs hb; rw [splice_pfx _ v m _ h16.len rfl] at hb; have H3 := Lib.hid (And.intro hg hb); clear hg hs hb))
            have hld3 := load_pfx h16 H3.out.2
            refine bodyPost_ret (results_c2 rfl rfl hld3) rfl ?_
            rw [HE.out.1, HE.out.2]
            exact ⟨rfl, below_grown (below_step HBE.out HH.out.2.1) H3.out.1 (by omega)⟩
end Go.Proofs.YtcloepjeckbmoaaDoor
