/- The document's answer for layer 5: Has, Holds. -/
import Derived.Test.YtcloepjeckbmoaaDoorPfx5
import Derived.IntWalk
namespace Go.Proofs.YtcloepjeckbmoaaDoor
open Go.RowKit
set_option linter.unusedVariables false
set_option linter.unusedSimpArgs false

set_option maxHeartbeats 2000000 in
theorem refhas_any (p : Pfx) (v : Int) (l : List Int) (w : World) (hp : B16 p.l) (hl : B16 l) (hb1 : p.b ≤ 9223372036854775807) : Calls Tryd.prog 35 #[.agg (pfxV p.v p.l p.b), .agg (adrV v l)] w fun e w' => e = .returned (.bool (p.has v l)) ∧ Below w.heap.size w w' := by
  have hblk1 := blk_new w (.cells (pfxV p.v p.l p.b) 26)
  have hbel1 : Below w.heap.size w (w.alloc (.cells (pfxV p.v p.l p.b) 26)) := below_alloc (Below.refl _ _) _
  have hblk2 := blk_new (w.alloc (.cells (pfxV p.v p.l p.b) 26)) (.cells (adrV v l) 24)
  have hbel2 : Below w.heap.size w ((w.alloc (.cells (pfxV p.v p.l p.b) 26)).alloc (.cells (adrV v l) 24)) := below_alloc (hbel1) _
  rw [show (w.alloc (.cells (pfxV p.v p.l p.b) 26)).heap.size = w.heap.size + 1 by simp] at hblk2
  replace hblk1 := blk_below hblk1 (below_alloc (Below.refl _ _) (.cells (adrV v l) 24))
  have HP1 := Lib.hid (pfx_at hp hblk1)
  have HBK1 := Lib.hid hblk1
  have HP2 := Lib.hid (adr_at hl hblk2)
  have HBK2 := Lib.hid hblk2
  have HBE := Lib.hid hbel2
  obtain ⟨cs1, hcs1⟩ : ∃ cs, pfxV p.v p.l p.b = cs := ⟨_, rfl⟩
  obtain ⟨cs2, hcs2⟩ : ∃ cs, adrV v l = cs := ⟨_, rfl⟩
  simp only [hcs1, hcs2] at HBE HP1 HP2 HBK1 HBK2 ⊢
  have HC1 := Lib.hid hcs1
  have HC2 := Lib.hid hcs2
  clear hcs1 hblk1 hbel1 hcs2 hblk2 hbel2
  have hl1 := (HP1.out.all _ (Below.refl _ _)).2.2.2.2
  go_enter Tryd.func35, Tryd.ntmps35
  go_wp2_with (refine wpList_load_g hl1 _ rfl rfl (by go_simp) ?_)
  refine (right_any p.v p.l p.b _ hp hb1).mono ?_
  rintro e w1 ⟨rfl, hbb1⟩
  have HB1 := Lib.hid hbb1
  clear hbb1 hl1
  cases hR : rightP p.v p.l p.b with
  | false =>
    have HE := Lib.hid (show p.has v l = false by unfold Pfx.has Pfx.right; rw [hR]; rfl)
    clear hR
    go_wp2
    go_ret
    rw [HE.out]
    exact ⟨rfl, below_step HBE.out HB1.out⟩
  | true =>
    have hla := (HP2.out.all w1 HB1.out).1
    go_wp2_with (refine wpList_load_g hla _ rfl rfl (by go_simp) ?_)
    refine (rightAddr_any v l w1 hl).mono ?_
    rintro e w2 ⟨rfl, hbb2⟩
    have HB2 := Lib.hid (below_step HB1.out hbb2)
    clear hbb2 hla
    cases hA : rightA v l with
    | false =>
      have HE := Lib.hid (show p.has v l = false by unfold Pfx.has; rw [hA]; cases p.right <;> rfl)
      clear hR hA
      go_wp2
      go_ret
      rw [HE.out]
      exact ⟨rfl, below_step HBE.out HB2.out⟩
    | true =>
      have hlv := (HP1.out.all w2 HB2.out).2.2.1
      have hlw := (HP2.out.all w2 HB2.out).2.1
      by_cases hv : p.v = v
      · have hne : (p.v != v) = false := by simp [hv]
        have HIF := Lib.hid (p.has_iff v l hp hl)
        have HRA := Lib.hid (And.intro (show p.right = true from hR) (And.intro hA hv))
        have hwl := widthA_le p.v
        have hb128 : p.b ≤ 128 := by have := (p.right_iff.1 hR).2.2.1; omega
        have hb0 := (p.right_iff.1 hR).2.1
        clear hR hA hv hwl hb1
        obtain ⟨k, hk⟩ := Int.eq_ofNat_of_zero_le hb0
        have HK := Lib.hid hk
        go_wp2_with (first | (refine wpList_load_g hlv _ rfl rfl (by go_simp) ?_) | (refine wpList_load_g hlw _ rfl rfl (by go_simp) ?_))
        clear hlv hlw hk
        go_loopw [5] (fun i wr => ∃ m : Nat, i = .int .i64 m ∧ Hid ((∀ j : Nat, j < m → bitA p.l j = bitA l j) ∧ Below ((w.alloc (.cells cs1 26)).alloc (.cells cs2 24)).heap.size ((w.alloc (.cells cs1 26)).alloc (.cells cs2 24)) wr)) (fun i _ => 128 - (intOf i).toNat)
        case atStart => exact ⟨0, rfl, fun j h => by omega, HB2.out⟩
        case round =>
          obtain ⟨m, rfl, HH⟩ := hrel
          have hlb := (HP1.out.all wr HH.out.2).2.1
          by_cases hlt : (m : Int) < p.b
          · have hm0 : (0 : Int) ≤ m := by omega
            have hm1 : (m : Int) < 128 := by omega
            go_wp2_with (refine wpList_load_g hlb _ rfl rfl (by go_simp) ?_)
            refine wp_region_mix (fun w0 => Below (wr).heap.size (wr) w0) [(0, 0), (1, 0), (2, 0), (3, 0), (5, 0), (6, 0), (7, 0), (4, 2), (8, 2), (9, 0)] (by kernel_rfl) (by kernel_rfl) (below_drew1 _) ?_
            simp only [List.map_cons, List.map_nil]
            iterate 2 (refine wpO_step0 rfl rfl (fun K hK => ?_); go_simp; refine hK _ _ ?_; clear hK K)
            refine wpO_loadW (t := 22) (ad := ⟨w.heap.size, 1, none⟩) rfl rfl ?hw rfl rfl ((fun w0 hS => (HP1.out.all w0 (below_step HH.out.2 hS)).2.2.2.1)) ?_
            case hw => go_simp
            iterate 2 (refine wpO_step0 rfl rfl (fun K hK => ?_); go_simp; refine hK _ _ ?_; clear hK K)
            refine wpO_loadW (t := 22) (ad := ⟨(w.heap.size + 1), 1, none⟩) rfl rfl ?hw rfl rfl ((fun w0 hS => (HP2.out.all w0 (below_step HH.out.2 hS)).2.2)) ?_
            case hw => go_simp
            iterate 1 (refine wpO_step0 rfl rfl (fun K hK => ?_); go_simp; refine hK _ _ ?_; clear hK K)
            refine wpO_step2 rfl rfl (below_drew1 _) (fun K hK => ?_)
            go_simp
            refine (refat_any p.l m _ hp hm0 hm1).mono ?_
            rintro e w3 ⟨rfl, hbb3⟩
            rw [show (m : Int).toNat = m by omega]
            have HB3 := Lib.hid (below_step (below_drew1 _) hbb3)
            clear hbb3
            refine hK _ _ ⟨HB3.out, ?_⟩
            clear hK K
            refine wpO_step2 rfl rfl (HB3.out) (fun K hK => ?_)
            go_simp
            refine (refat_any l m _ hl hm0 hm1).mono ?_
            rintro e w4 ⟨rfl, hbb4⟩
            rw [show (m : Int).toNat = m by omega]
            have HB4 := Lib.hid (below_step HB3.out hbb4)
            clear hbb4
            refine hK _ _ ⟨HB4.out, ?_⟩
            clear hK K
            by_cases hq : bitA p.l m = bitA l m
            · have hqb : (bitA p.l m != bitA l m) = false := by simp [hq]
              have HQ := Lib.hid hq
              clear hq hlb
              iterate 1 (refine wpO_step0 rfl rfl (fun K hK => ?_); go_simp; refine hK _ _ ?_; clear hK K)
              refine wpO_nil ?_
              go_wp2
              go_roundw
              case measure => simp [intOf]; omega
              case rel =>
                refine ⟨m + 1, by go_num, fun j hj => ?_, below_step HH.out.2 HB4.out⟩
                by_cases hj' : j < m
                · exact HH.out.1 j hj'
                · rw [show j = m by omega]
                  exact HQ.out
            · have hqb : (bitA p.l m != bitA l m) = true := by simpa using hq
              have HE := Lib.hid (show p.has v l = false by
                rw [Bool.eq_false_iff]
                intro h
                exact hq ((HIF.out.1 h).2.2.2 m (by omega) hlt))
              clear hq hlb
              iterate 1 (refine wpO_step0 rfl rfl (fun K hK => ?_); go_simp; refine hK _ _ ?_; clear hK K)
              refine wpO_nil ?_
              go_wp2
              go_ret
              rw [HE.out]
              exact ⟨rfl, below_step HBE.out (below_step HH.out.2 HB4.out)⟩
          · have hm1 : decide ((m : Int) < p.b) = false := decide_eq_false hlt
            have HE := Lib.hid (show p.has v l = true from HIF.out.2 ⟨HRA.out.1, HRA.out.2.1, HRA.out.2.2, fun j _ hj => HH.out.1 j (by omega)⟩)
            clear hlt
            go_wp2_with (refine wpList_load_g hlb _ rfl rfl (by go_simp) ?_)
            go_ret
            rw [HE.out]
            exact ⟨rfl, below_step HBE.out HH.out.2⟩
      · have hne : (p.v != v) = true := by simpa using hv
        have HE := Lib.hid (show p.has v l = false by unfold Pfx.has; rw [decide_eq_false hv]; cases p.right <;> cases rightA v l <;> rfl)
        clear hR hA hv
        go_wp2_with (first | (refine wpList_load_g hlv _ rfl rfl (by go_simp) ?_) | (refine wpList_load_g hlw _ rfl rfl (by go_simp) ?_))
        go_ret
        rw [HE.out]
        exact ⟨rfl, below_step HBE.out HB2.out⟩

set_option maxHeartbeats 2000000 in
theorem refholds_any (p q : Pfx) (w : World) (hp : B16 p.l) (hq : B16 q.l) (hb1 : p.b ≤ 9223372036854775807) (hb2 : q.b ≤ 9223372036854775807) : Calls Tryd.prog 36 #[.agg (pfxV p.v p.l p.b), .agg (pfxV q.v q.l q.b)] w fun e w' => e = .returned (.bool (p.holds q)) ∧ Below w.heap.size w w' := by
  have hblk1 := blk_new w (.cells (pfxV p.v p.l p.b) 26)
  have hbel1 : Below w.heap.size w (w.alloc (.cells (pfxV p.v p.l p.b) 26)) := below_alloc (Below.refl _ _) _
  have hblk2 := blk_new (w.alloc (.cells (pfxV p.v p.l p.b) 26)) (.cells (pfxV q.v q.l q.b) 26)
  have hbel2 : Below w.heap.size w ((w.alloc (.cells (pfxV p.v p.l p.b) 26)).alloc (.cells (pfxV q.v q.l q.b) 26)) := below_alloc (hbel1) _
  rw [show (w.alloc (.cells (pfxV p.v p.l p.b) 26)).heap.size = w.heap.size + 1 by simp] at hblk2
  replace hblk1 := blk_below hblk1 (below_alloc (Below.refl _ _) (.cells (pfxV q.v q.l q.b) 26))
  have HP1 := Lib.hid (pfx_at hp hblk1)
  have HBK1 := Lib.hid hblk1
  have HP2 := Lib.hid (pfx_at hq hblk2)
  have HBK2 := Lib.hid hblk2
  have HBE := Lib.hid hbel2
  obtain ⟨cs1, hcs1⟩ : ∃ cs, pfxV p.v p.l p.b = cs := ⟨_, rfl⟩
  obtain ⟨cs2, hcs2⟩ : ∃ cs, pfxV q.v q.l q.b = cs := ⟨_, rfl⟩
  simp only [hcs1, hcs2] at HBE HP1 HP2 HBK1 HBK2 ⊢
  have HC1 := Lib.hid hcs1
  have HC2 := Lib.hid hcs2
  clear hcs1 hblk1 hbel1 hcs2 hblk2 hbel2
  have hl2 := (HP2.out.all _ (Below.refl _ _)).2.2.2.2
  go_enter Tryd.func36, Tryd.ntmps36
  go_wp2_with (refine wpList_load_g hl2 _ rfl rfl (by go_simp) ?_)
  refine (right_any q.v q.l q.b _ hq hb2).mono ?_
  rintro e w1 ⟨rfl, hbb1⟩
  have HB1 := Lib.hid hbb1
  clear hbb1 hl2
  cases hR : rightP q.v q.l q.b with
  | false =>
    have HE := Lib.hid (show p.holds q = false by unfold Pfx.holds Pfx.right; rw [hR]; rfl)
    clear hR
    go_wp2
    go_ret
    rw [HE.out]
    exact ⟨rfl, below_step HBE.out HB1.out⟩
  | true =>
    have hb1' := (HP1.out.all w1 HB1.out).2.1
    have hb2' := (HP2.out.all w1 HB1.out).2.1
    by_cases hle : p.b ≤ q.b
    · have HE := Lib.hid (show p.holds q = p.has q.v q.l by unfold Pfx.holds Pfx.right; rw [hR, decide_eq_true hle]; rfl)
      have hl1 := (HP1.out.all w1 HB1.out).2.2.2.2
      have hla := (HP2.out.all w1 HB1.out).1
      clear hR hb2
      go_wp2_with (first | (refine wpList_load_g hb1' _ rfl rfl (by go_simp) ?_) | (refine wpList_load_g hb2' _ rfl rfl (by go_simp) ?_) | (refine wpList_load_g hl1 _ rfl rfl (by go_simp) ?_) | (refine wpList_load_g hla _ rfl rfl (by go_simp) ?_))
      refine (refhas_any p q.v q.l w1 hp hq hb1).mono ?_
      rintro e w2 ⟨rfl, hbb2⟩
      have HB2 := Lib.hid (below_step HB1.out hbb2)
      clear hbb2
      go_wp2
      go_ret
      rw [HE.out]
      exact ⟨rfl, below_step HBE.out HB2.out⟩
    · have HE := Lib.hid (show p.holds q = false by unfold Pfx.holds; rw [decide_eq_false hle]; cases q.right <;> rfl)
      clear hR
      go_wp2_with (first | (refine wpList_load_g hb1' _ rfl rfl (by go_simp) ?_) | (refine wpList_load_g hb2' _ rfl rfl (by go_simp) ?_))
      go_ret
      rw [HE.out]
      exact ⟨rfl, below_step HBE.out HB1.out⟩
end Go.Proofs.YtcloepjeckbmoaaDoor
