/- Layer 5 (prefix): Has. -/
import Derived.Test.YtcloepjeckbmoaaDoorPfx4
import Derived.Test.YtcloepjeckbmoaaDoorPfx7
import Derived.Test.YtcloepjeckbmoaaDoorArrEq2
namespace Go.Proofs.YtcloepjeckbmoaaDoor
open Go.RowKit
set_option linter.unusedVariables false
set_option linter.unusedSimpArgs false

set_option maxHeartbeats 2000000 in
theorem has_any (p : Pfx) (v : Int) (l : List Int) (w : World) (hL : Laid w) (hp : B16 p.l) (hl : B16 l) : Calls Tryd.prog 26 #[.agg (pfxV p.v p.l p.b), .agg (adrV v l)] w fun e w' => e = .returned (.bool (p.has v l)) ∧ Below w.heap.size w w' := by
  have hb1 := blk_new w (.cells (pfxV p.v p.l p.b) 26)
  have hbe1 : Below w.heap.size w (w.alloc (.cells (pfxV p.v p.l p.b) 26)) := below_alloc (Below.refl _ _) _
  have hsz : (w.alloc (.cells (pfxV p.v p.l p.b) 26)).heap.size = w.heap.size + 1 := by simp
  have hb2 := blk_new (w.alloc (.cells (pfxV p.v p.l p.b) 26)) (.cells (adrV v l) 24)
  rw [hsz] at hb2
  have hb1' := blk_below hb1 (below_alloc (Below.refl _ _) (.cells (adrV v l) 24))
  have HPA := Lib.hid (pfx_at hp hb1')
  have HAA := Lib.hid (adr_at hl hb2)
  have HLP := Lib.hid (load_pfx hp hb1')
  have HBE := Lib.hid (below_alloc hbe1 (.cells (adrV v l) 24))
  have HL := Lib.hid (hL.below HBE.out)
  obtain ⟨cs, hcs⟩ : ∃ cs, pfxV p.v p.l p.b = cs := ⟨_, rfl⟩
  obtain ⟨ds, hds⟩ : ∃ ds, adrV v l = ds := ⟨_, rfl⟩
  have hlp := HLP.out
  rw [hcs, hds] at HPA HAA HBE HL
  rw [hcs, hds]
  have hlp : (Instr.loadAt 26 (.pointer (some ⟨w.heap.size, 0, none⟩))).run Tryd.prog ((w.alloc (.cells cs 26)).alloc (.cells ds 24)) = .ok (.agg cs) ((w.alloc (.cells cs 26)).alloc (.cells ds 24)) := by
    have := HLP.out
    rw [hcs, hds] at this
    exact this
  have HCS := Lib.hid (And.intro hcs hds)
  clear hcs hds hb1 hb2 hb1' hbe1 hsz hL HLP
  go_enter Tryd.func26, Tryd.ntmps26
  go_wp2_with (refine wpList_load_g hlp _ rfl rfl (by go_simp) ?_)
  rw [← HCS.out.1]
  refine (check_any p.v p.l p.b _ (by rw [HCS.out.1]; exact HL.out) hp).mono ?_
  rintro e w1 ⟨rfl, hbb1⟩
  rw [HCS.out.1] at hbb1 ⊢
  have HB1 := Lib.hid hbb1
  clear hbb1 hlp
  cases hR : rightP p.v p.l p.b with
  | false =>
    have HE : Hid (p.has v l = false) := by unfold Pfx.has Pfx.right; rw [hR]; rfl
    have hE : errP p.v p.l p.b = 151 := by unfold errP; rw [hR]; rfl
    rw [hE]
    clear hR hE
    go_wp2
    go_ret
    rw [HE.out]
    exact ⟨rfl, below_step HBE.out HB1.out⟩
  | true =>
    have hE : errP p.v p.l p.b = 0 := by unfold errP; rw [hR]; rfl
    rw [hE]
    clear hE
    have hla := (HAA.out.all w1 HB1.out).1
    go_wp2_with (refine wpList_load_g hla _ rfl rfl (by go_simp) ?_)
    refine (checkAddr_any v l w1 (HL.out.below HB1.out) hl).mono ?_
    rintro e w2 ⟨rfl, hbb2⟩
    have HB2 := Lib.hid (below_step HB1.out hbb2)
    clear hbb2 hla
    cases hA : rightA v l with
    | false =>
      have HE : Hid (p.has v l = false) := by unfold Pfx.has; rw [hA]; cases p.right <;> rfl
      have hE : errA v l = 150 := by unfold errA; rw [hA]; rfl
      rw [hE]
      clear hR hA hE
      go_wp2
      go_ret
      rw [HE.out]
      exact ⟨rfl, below_step HBE.out HB2.out⟩
    | true =>
      have hE : errA v l = 0 := by unfold errA; rw [hA]; rfl
      rw [hE]
      clear hE
      have hlv := (HPA.out.all w2 HB2.out).2.2.1
      have hlw := (HAA.out.all w2 HB2.out).2.1
      by_cases hv : p.v = v
      · have hne : (p.v != v) = false := by simp [hv]
        have HE : Hid (p.has v l = decide (cutA l p.b = p.l)) := by unfold Pfx.has Pfx.right; rw [hR, hA, decide_eq_true hv]; rfl
        have hpb := ((p.right_iff).1 hR)
        have hwl := widthA_le p.v
        have hb128 : p.b ≤ 128 := by omega
        have hb0 := hpb.2.1
        clear hR hA hv hpb hwl
        go_wp2_with (first | (refine wpList_load_g hlv _ rfl rfl (by go_simp) ?_) | (refine wpList_load_g hlw _ rfl rfl (by go_simp) ?_))
        refine wp_region_mix (fun w0 => Below w2.heap.size w2 w0) [(0, 0), (1, 0), (2, 0), (3, 0), (5, 0), (6, 0), (7, 0), (4, 2), (8, 0), (9, 0)] (by kernel_rfl) (by kernel_rfl) (below_drew1 _) ?_
        simp only [List.map_cons, List.map_nil]
        iterate 1 (refine wpO_step0 rfl rfl (fun K hK => ?_); go_simp; refine hK _ _ ?_; clear hK K)
        refine wpO_loadW (t := 22) (ad := ⟨w.heap.size + 1, 1, none⟩) rfl rfl ?hw rfl rfl (fun w0 hS => (HAA.out.all w0 (below_step HB2.out hS)).2.2) ?_
        case hw => go_simp
        iterate 1 (refine wpO_step0 rfl rfl (fun K hK => ?_); go_simp; refine hK _ _ ?_; clear hK K)
        refine wpO_loadW (t := 3) (ad := ⟨w.heap.size, 17, none⟩) rfl rfl ?hw rfl rfl (fun w0 hS => (HPA.out.all w0 (below_step HB2.out hS)).2.1) ?_
        case hw => go_simp
        iterate 2 (refine wpO_step0 rfl rfl (fun K hK => ?_); go_simp; refine hK _ _ ?_; clear hK K)
        refine wpO_loadW (t := 22) (ad := ⟨w.heap.size, 1, none⟩) rfl rfl ?hw rfl rfl (fun w0 hS => (HPA.out.all w0 (below_step HB2.out hS)).2.2.2.1) ?_
        case hw => go_simp
        refine wpO_step2 rfl rfl (below_drew1 _) (fun K hK => ?_)
        go_simp
        refine (cut_any l p.b _ hl hb0 hb128).mono ?_
        rintro e w3 ⟨rfl, hbb3⟩
        have HB3 := Lib.hid (below_step (below_drew1 _) hbb3)
        clear hbb3
        refine hK _ _ ⟨HB3.out, ?_⟩
        clear hK K
        refine wpO_step0 rfl rfl (fun K hK => ?_)
        rw [if_pos (show Region.wanted _ _ = true from rfl)]
        refine ⟨_, fun w0 => arr_eql_exec rfl (cutA l p.b) p.l rfl rfl (cutA_16 hl _) hp w0, hK _ _ ?_⟩
        clear hK K
        iterate 1 (refine wpO_step0 rfl rfl (fun K hK => ?_); go_simp; refine hK _ _ ?_; clear hK K)
        refine wpO_nil ?_
        go_wp2
        go_ret
        rw [HE.out]
        exact ⟨rfl, below_step HBE.out (below_step HB2.out HB3.out)⟩
      · have hne : (p.v != v) = true := by simpa using hv
        have HE : Hid (p.has v l = false) := by
          unfold Pfx.has
          rw [decide_eq_false hv]
          cases p.right <;> cases rightA v l <;> rfl
        clear hR hA hv
        go_wp2_with (first | (refine wpList_load_g hlv _ rfl rfl (by go_simp) ?_) | (refine wpList_load_g hlw _ rfl rfl (by go_simp) ?_))
        go_ret
        rw [HE.out]
        exact ⟨rfl, below_step HBE.out HB2.out⟩
end Go.Proofs.YtcloepjeckbmoaaDoor
