/- Layer 5 (prefix): Holds. -/
import Derived.Test.YtcloepjeckbmoaaDoorPfx8
namespace Go.Proofs.YtcloepjeckbmoaaDoor
open Go.RowKit
set_option linter.unusedVariables false
set_option linter.unusedSimpArgs false

set_option maxHeartbeats 2000000 in
theorem holds_any (p q : Pfx) (w : World) (hL : Laid w) (hp : B16 p.l) (hq : B16 q.l) : Calls Tryd.prog 27 #[.agg (pfxV p.v p.l p.b), .agg (pfxV q.v q.l q.b)] w fun e w' => e = .returned (.bool (p.holds q)) ∧ Below w.heap.size w w' := by
  have hblk1 := blk_new w (.cells (pfxV p.v p.l p.b) 26)
  have hbel1 : Below w.heap.size w (w.alloc (.cells (pfxV p.v p.l p.b) 26)) := below_alloc (Below.refl _ _) _
  have hblk2 := blk_new (w.alloc (.cells (pfxV p.v p.l p.b) 26)) (.cells (pfxV q.v q.l q.b) 26)
  have hbel2 : Below w.heap.size w ((w.alloc (.cells (pfxV p.v p.l p.b) 26)).alloc (.cells (pfxV q.v q.l q.b) 26)) := below_alloc (hbel1) _
  rw [show (w.alloc (.cells (pfxV p.v p.l p.b) 26)).heap.size = w.heap.size + 1 by simp] at hblk2
  replace hblk1 := blk_below hblk1 (below_alloc (Below.refl _ _) (.cells (pfxV q.v q.l q.b) 26))
  have HP1 := Lib.hid (pfx_at hp hblk1)
  have HBK1 := Lib.hid hblk1
  have HP2 := Lib.hid (pfx_at hq hblk2)
  have HBK2 := Lib.hid hblk2
  have HBE := Lib.hid hbel2
  have HL := Lib.hid (hL.below HBE.out)
  obtain ⟨cs1, hcs1⟩ : ∃ cs, pfxV p.v p.l p.b = cs := ⟨_, rfl⟩
  obtain ⟨cs2, hcs2⟩ : ∃ cs, pfxV q.v q.l q.b = cs := ⟨_, rfl⟩
  simp only [hcs1, hcs2] at HBE HL HP1 HP2 HBK1 HBK2 ⊢
  have HC1 := Lib.hid hcs1
  have HC2 := Lib.hid hcs2
  clear hL hcs1 hblk1 hbel1 hcs2 hblk2 hbel2
  have hl2 := (HP2.out.all _ (Below.refl _ _)).2.2.2.2
  go_enter Tryd.func27, Tryd.ntmps27
  go_wp2_with (refine wpList_load_g hl2 _ rfl rfl (by go_simp) ?_)
  refine (check_any q.v q.l q.b _ HL.out hq).mono ?_
  rintro e w1 ⟨rfl, hbb1⟩
  have HB1 := Lib.hid hbb1
  clear hbb1 hl2
  cases hR : rightP q.v q.l q.b with
  | false =>
    have HE : Hid (p.holds q = false) := by unfold Pfx.holds Pfx.right; rw [hR]; rfl
    rw [errP_false hR]
    clear hR
    go_wp2
    go_ret
    rw [HE.out]
    exact ⟨rfl, below_step HBE.out HB1.out⟩
  | true =>
    rw [errP_true hR]
    have hb1 := (HP1.out.all w1 HB1.out).2.1
    have hb2 := (HP2.out.all w1 HB1.out).2.1
    by_cases hle : p.b ≤ q.b
    · have hd : decide (q.b < p.b) = false := decide_eq_false (by omega)
      have HE : Hid (p.holds q = p.has q.v q.l) := by unfold Pfx.holds Pfx.right; rw [hR, decide_eq_true hle]; rfl
      have hl1 := (HP1.out.all w1 HB1.out).2.2.2.2
      have hla := (HP2.out.all w1 HB1.out).1
      clear hR
      go_wp2_with (first | (refine wpList_load_g hb1 _ rfl rfl (by go_simp) ?_) | (refine wpList_load_g hb2 _ rfl rfl (by go_simp) ?_) | (refine wpList_load_g hl1 _ rfl rfl (by go_simp) ?_) | (refine wpList_load_g hla _ rfl rfl (by go_simp) ?_))
      refine (has_any p q.v q.l w1 (HL.out.below HB1.out) hp hq).mono ?_
      rintro e w2 ⟨rfl, hbb2⟩
      have HB2 := Lib.hid (below_step HB1.out hbb2)
      clear hbb2
      go_wp2
      go_ret
      rw [HE.out]
      exact ⟨rfl, below_step HBE.out HB2.out⟩
    · have HE : Hid (p.holds q = false) := by unfold Pfx.holds; rw [decide_eq_false hle]; cases q.right <;> rfl
      clear hR
      go_wp2_with (first | (refine wpList_load_g hb1 _ rfl rfl (by go_simp) ?_) | (refine wpList_load_g hb2 _ rfl rfl (by go_simp) ?_))
      go_ret
      rw [HE.out]
      exact ⟨rfl, below_step HBE.out HB1.out⟩
end Go.Proofs.YtcloepjeckbmoaaDoor
