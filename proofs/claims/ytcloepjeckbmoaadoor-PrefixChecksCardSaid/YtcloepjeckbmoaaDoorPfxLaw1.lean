/- Layer 5: the walks of PrefixChecks, PrefixBits, PrefixHolds. -/
import Derived.Test.YtcloepjeckbmoaaDoorPfxWakes
import Derived.Test.YtcloepjeckbmoaaDoorPfxRefCmp
import Derived.Test.YtcloepjeckbmoaaDoorPfxRefOf
import Derived.Test.YtcloepjeckbmoaaDoorPfxRef
namespace Go.Proofs.YtcloepjeckbmoaaDoor
open Go.RowKit
set_option linter.unusedVariables false
set_option linter.unusedSimpArgs false

set_option maxHeartbeats 4000000 in
theorem prefixChecks_any (v : Int) (l : List Int) (p : Pfx) (vs : Int) (w : World) (hL : Laid w) (hl : B16 l) (hp : B16 p.l) (hb1 : p.b ≤ 9223372036854775807) :
    Calls Tryd.prog 3 #[.agg (adrV v l), .agg (pfxV p.v p.l p.b), .int .i64 vs] w fun e w' => e = .returned (.bool true) ∧ Below w.heap.size w w' := by
  have hblk1 := blk_new w (.cells (adrV v l) 24)
  have hbel1 : Below w.heap.size w (w.alloc (.cells (adrV v l) 24)) := below_alloc (Below.refl _ _) _
  have hblk2 := blk_new (w.alloc (.cells (adrV v l) 24)) (.cells (pfxV p.v p.l p.b) 26)
  have hbel2 : Below w.heap.size w ((w.alloc (.cells (adrV v l) 24)).alloc (.cells (pfxV p.v p.l p.b) 26)) := below_alloc (hbel1) _
  rw [show (w.alloc (.cells (adrV v l) 24)).heap.size = w.heap.size + 1 by simp] at hblk2
  replace hblk1 := blk_below hblk1 (below_alloc (Below.refl _ _) (.cells (pfxV p.v p.l p.b) 26))
  have HP1 := Lib.hid (adr_at hl hblk1)
  have HBK1 := Lib.hid hblk1
  have HP2 := Lib.hid (pfx_at hp hblk2)
  have HBK2 := Lib.hid hblk2
  have HBE := Lib.hid hbel2
  have HL := Lib.hid (hL.below HBE.out)
  obtain ⟨cs1, hcs1⟩ : ∃ cs, adrV v l = cs := ⟨_, rfl⟩
  obtain ⟨cs2, hcs2⟩ : ∃ cs, pfxV p.v p.l p.b = cs := ⟨_, rfl⟩
  simp only [hcs1, hcs2] at HBE HL HP1 HP2 HBK1 HBK2 ⊢
  have HC1 := Lib.hid hcs1
  have HC2 := Lib.hid hcs2
  clear hL hcs1 hblk1 hbel1 hcs2 hblk2 hbel2
  go_enter Tryd.func3, Tryd.ntmps3
  go_wp2_with fail
  refine (wakes05_any _ HL.out).mono ?_
  rintro e w1 ⟨rfl, hbb1⟩
  have HB1 := Lib.hid hbb1
  clear hbb1
  go_wp2_with fail
  refine wp_region_mix ((fun w0 => Below w1.heap.size w1 w0)) [(0, 0), (2, 0), (1, 2), (3, 2), (4, 0), (5, 0)] (by kernel_rfl) (by kernel_rfl) ((below_drew1 _)) ?_
  simp only [List.map_cons, List.map_nil]
  refine wpO_loadW (t := 24) (ad := ⟨w.heap.size, 0, none⟩) rfl rfl ?hw rfl rfl ((fun w0 hS => (HP1.out.all w0 (below_step HB1.out hS)).1)) ?_
  case hw => go_simp
  refine wpO_loadW (t := 26) (ad := ⟨(w.heap.size+1), 0, none⟩) rfl rfl ?hw rfl rfl ((fun w0 hS => (HP2.out.all w0 (below_step HB1.out hS)).2.2.2.2)) ?_
  case hw => go_simp
  refine wpO_step2 rfl rfl (below_drew1 _) (fun K hK => ?_)
  go_simp
  refine (checkAddr_any v l _ (HL.out.below (below_step HB1.out (below_drew1 _))) hl).mono ?_
  rintro e w2 ⟨rfl, hbb⟩
  have HB2 := Lib.hid (below_step (below_drew1 _) hbb)
  clear hbb
  refine hK _ _ ⟨HB2.out, ?_⟩
  clear hK K
  refine wpO_step2 rfl rfl (HB2.out) (fun K hK => ?_)
  go_simp
  refine (check_any p.v p.l p.b _ (HL.out.below (below_step HB1.out HB2.out)) hp).mono ?_
  rintro e w3 ⟨rfl, hbb⟩
  have HB3 := Lib.hid (below_step HB2.out hbb)
  clear hbb
  refine hK _ _ ⟨HB3.out, ?_⟩
  clear hK K
  iterate 2 (refine wpO_step0 rfl rfl (fun K hK => ?_); go_simp; refine hK _ _ ?_; clear hK K)
  refine wpO_nil ?_
  have HW3 := Lib.hid (below_step HB1.out HB3.out)
  have hla := (HP1.out.all w3 HW3.out).1
  go_wp2_with (refine wpList_load_g hla _ rfl rfl (by go_simp) ?_)
  refine (rightAddr_any v l w3 hl).mono ?_
  rintro e w4 ⟨rfl, hbb⟩
  have HW4 := Lib.hid (below_step HW3.out hbb)
  have hlb := (HP2.out.all w4 HW4.out).2.2.2.2
  clear hbb hla
  cases hR : rightA v l
  all_goals
    have hEA : errA v l = (if rightA v l then 0 else 150) := rfl
    rw [hR] at hEA
    simp only [Bool.false_eq_true, if_false, if_true] at hEA
    rw [hEA]
    clear hEA
    go_wp2_with (refine wpList_load_g hlb _ rfl rfl (by go_simp) ?_)
    refine (right_any p.v p.l p.b w4 hp hb1).mono ?_
    rintro e w5 ⟨rfl, hbb⟩
    have HW5 := Lib.hid (below_step HW4.out hbb)
    clear hbb
    cases hQ : rightP p.v p.l p.b
    all_goals
      have hEP : errP p.v p.l p.b = (if rightP p.v p.l p.b then 0 else 151) := rfl
      rw [hQ] at hEP
      simp only [Bool.false_eq_true, if_false, if_true] at hEP
      rw [hEP]
      clear hEP hQ
      go_wp2_with fail
      refine (width_any vs w5 (HL.out.below HW5.out)).mono ?_
      rintro e w6 ⟨rfl, rfl⟩
      go_wp2_with fail
      refine (refwidth_any vs w5).mono ?_
      rintro e w6 ⟨rfl, rfl⟩
      go_wp2
      go_ret
      exact ⟨by simp, below_step HBE.out HW5.out⟩
end Go.Proofs.YtcloepjeckbmoaaDoor
