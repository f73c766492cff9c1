/- Layer 5 (prefix): DecodeAddr. -/
import Derived.Test.YtcloepjeckbmoaaDoorPfxDec
import Derived.Test.YtcloepjeckbmoaaDoorFork
namespace Go.Proofs.YtcloepjeckbmoaaDoor
open Go.RowKit
set_option linter.unusedVariables false
set_option linter.unusedSimpArgs false

theorem load_rd {w : World} {b g : Nat} (h : w.heap[b]? = some (.cells (rdV g) 65 (0, 0))) : (Instr.loadAt 65 (.pointer (some ⟨b, 0, none⟩))).run Tryd.prog w = .ok (.agg (rdV g)) w := by
  refine run_loadAt_mid w b 0 65 [.pointer (some ⟨g, 0, none⟩)] _ (fun j v hv => ?_) Tryd.underlying65 rfl (by kernel_rfl)
  rw [Nat.zero_add, blk_cell h]
  simpa using hv
theorem load_rp {w : World} {b g : Nat} (h : w.heap[b]? = some (.cells (rdV g) 65 (0, 0))) : (Instr.loadAt 62 (.pointer (some ⟨b, 0, none⟩))).run Tryd.prog w = .ok (.pointer (some ⟨g, 0, none⟩)) w := by
  have hc : w.cell? ⟨b, 0, none⟩ = some (.pointer (some ⟨g, 0, none⟩)) := by rw [blk_cell h]; rfl
  clear h
  go_simp
theorem load_arr0 {w : World} {b : Nat} {l : List Int} (hl : B16 l) (h : w.heap[b]? = some (.cells (arrV l) 22 (0, 0))) : (Instr.loadAt 22 (.pointer (some ⟨b, 0, none⟩))).run Tryd.prog w = .ok (.agg (arrV l)) w :=
  load_arr hl (fun i hi => by rw [Nat.zero_add]; exact arr_cell h i (by rw [hl.len]; exact hi))
theorem load_adr0 {w : World} {b : Nat} {v : Int} {l : List Int} (hl : B16 l) (h : w.heap[b]? = some (.cells (adrV v l) 24 (0, 0))) : (Instr.loadAt 24 (.pointer (some ⟨b, 0, none⟩))).run Tryd.prog w = .ok (.agg (adrV v l)) w :=
  ((adr_at hl h).all w (Below.refl _ _)).1
/-- What holds while the bytes are read: the reader's box, the result's cell. -/
structure DecS (w : World) (rb zb g : Nat) (z : Obj) (w0 : World) : Prop where
  below : Below w.heap.size w w0
  box : w0.heap[rb]? = some (.cells (rdV g) 65 (0, 0))
  zero : w0.heap[zb]? = some z
theorem DecS.step {w w0 w1 : World} {rb zb g : Nat} {z : Obj} (h : DecS w rb zb g z w0) (hb : Below w0.heap.size w0 w1) : DecS w rb zb g z w1 := ⟨below_step h.below hb, blk_below h.box hb, blk_below h.zero hb⟩
theorem DecS.grow {w w0 w1 : World} {rb zb g c : Nat} {z : Obj} (h : DecS w rb zb g z w0) (hg : w0.grownBy w1 (some c)) (h1 : w.heap.size ≤ c) (h2 : rb ≠ c) (h3 : zb ≠ c) : DecS w rb zb g z w1 :=
  ⟨below_grown h.below hg h1, blk_grown h.box hg (fun e => by injection e with e; exact h2 e), blk_grown h.zero hg (fun e => by injection e with e; exact h3 e)⟩

theorem SomeRest.below {lo g : Nat} {xs : List Int} {bits : Nat} {wrong : Int} {w w1 : World} (h : SomeRest lo g xs bits wrong w) (hb : Below w.heap.size w w1) : SomeRest lo g xs bits wrong w1 := by
  obtain ⟨r, e, h1, h2⟩ := h
  exact ⟨r, e, h1.below hb, h2⟩
theorem SomeRest.grown {lo g c : Nat} {xs : List Int} {bits : Nat} {wrong : Int} {w w1 : World} (h : SomeRest lo g xs bits wrong w) (hg : w.grownBy w1 (some c)) (hc : g < c) : SomeRest lo g xs bits wrong w1 := by
  obtain ⟨r, e, h1, h2⟩ := h
  exact ⟨r, e, h1.grown hg (fun b hb => by injection hb with hb; omega), h2⟩
/-- What the reading has left: the bytes in a block of their own, the reader behind them. -/
structure DecR (w : World) (rb zb g gb lo : Nat) (z : Obj) (sl : List Int) (ys : List Int) (bits : Nat) (wrong : Int) (w0 : World) : Prop where
  s : DecS w rb zb g z w0
  arr : w0.heap[gb]? = some (.cells (arrV sl) 22 (0, 0))
  rest : SomeRest lo g ys bits wrong w0
theorem DecR.drew {w w0 : World} {rb zb g gb lo : Nat} {z : Obj} {sl ys : List Int} {bits : Nat} {wrong : Int} (h : DecR w rb zb g gb lo z sl ys bits wrong w0) : DecR w rb zb g gb lo z sl ys bits wrong w0.drew :=
  ⟨h.s.step (below_drew1 _), h.arr, h.rest.below (below_drew1 _)⟩
structure DecT (w : World) (rb g gb : Nat) (sl : List Int) (w0 : World) : Prop where
  below : Below w.heap.size w w0
  box : w0.heap[rb]? = some (.cells (rdV g) 65 (0, 0))
  arr : w0.heap[gb]? = some (.cells (arrV sl) 22 (0, 0))
theorem DecR.t {w w0 : World} {rb zb g gb lo : Nat} {z : Obj} {sl ys : List Int} {bits : Nat} {wrong : Int} (h : DecR w rb zb g gb lo z sl ys bits wrong w0) : DecT w rb g gb sl w0 := ⟨h.s.below, h.s.box, h.arr⟩
theorem DecT.grow {w w0 w1 : World} {rb g gb c : Nat} {sl : List Int} (h : DecT w rb g gb sl w0) (hg : w0.grownBy w1 (some c)) (h1 : w.heap.size ≤ c) (h2 : rb ≠ c) (h3 : gb ≠ c) : DecT w rb g gb sl w1 :=
  ⟨below_grown h.below hg h1, blk_grown h.box hg (fun e => by injection e with e; exact h2 e), blk_grown h.arr hg (fun e => by injection e with e; exact h3 e)⟩

theorem decA_ver {xs : List Int} (h : verE xs 150 ≠ 0) : decAE xs = verE xs 150 ∧ decAV xs = 0 ∧ decAL xs = zero16 ∧ decAN xs = 0 := by
  have e : decAE xs = verE xs 150 := by unfold decAE; rw [if_pos h]
  refine ⟨e, ?_, ?_, ?_⟩
  · unfold decAV; rw [e, if_neg h]
  · unfold decAL; rw [e, if_neg h]
  · unfold decAN; rw [e, if_neg h]
theorem decA_some {xs : List Int} (h : verE xs 150 = 0) (hs : someE (xs.drop 1) (widthA (rd xs 0)) 150 ≠ 0) : decAE xs = someE (xs.drop 1) (widthA (rd xs 0)) 150 ∧ decAV xs = 0 ∧ decAL xs = zero16 ∧ decAN xs = 0 := by
  have e : decAE xs = someE (xs.drop 1) (widthA (rd xs 0)) 150 := by unfold decAE; rw [if_neg (by rw [h]; simp)]
  refine ⟨e, ?_, ?_, ?_⟩
  · unfold decAV; rw [e, if_neg hs]
  · unfold decAL; rw [e, if_neg hs]
  · unfold decAN; rw [e, if_neg hs]
theorem full_width (v : Int) : fullB (widthA v) = widthA v / 8 := by
  rcases width_cases v with h | h | h <;> rw [h] <;> rfl
theorem decA_ok {xs : List Int} (h : verE xs 150 = 0) (hs : someE (xs.drop 1) (widthA (rd xs 0)) 150 = 0) : decAE xs = 0 ∧ decAV xs = rd xs 0 ∧ decAL xs = someL (xs.drop 1) (widthA (rd xs 0)) 150 ∧ decAN xs = 1 + widthA (rd xs 0) / 8 ∧ xs.length - ((xs.drop 1).drop (fullB (widthA (rd xs 0)))).length = 1 + widthA (rd xs 0) / 8 ∧ 1 + widthA (rd xs 0) / 8 ≤ xs.length := by
  have e : decAE xs = 0 := by unfold decAE; rw [if_neg (by rw [h]; simp), hs]
  have hf := full_width (rd xs 0)
  have hlen : fullB (widthA (rd xs 0)) ≤ (xs.drop 1).length := by
    rcases Nat.lt_or_ge (xs.drop 1).length (fullB (widthA (rd xs 0))) with hh | hh
    · rw [some_short hh] at hs; cases hs
    · exact hh
  have hpos : 0 < xs.length := by
    rcases Nat.eq_zero_or_pos xs.length with hh | hh
    · unfold verE at h; rw [if_pos hh] at h; cases h
    · exact hh
  rw [List.length_drop] at hlen
  refine ⟨e, ?_, ?_, ?_, ?_, by omega⟩
  · unfold decAV; rw [e, if_pos rfl]
  · unfold decAL; rw [e, if_pos rfl, someL_ok hs, hf]
  · unfold decAN; rw [e, if_pos rfl]
  · rw [List.length_drop, List.length_drop]
    omega

set_option maxHeartbeats 4000000 in
theorem decodeAddr_any (A : Option Addr) (n c : Nat) (xs : List Int) (w : World) (hL : Laid w) (hr : RB w A n c xs) (hn : n ≤ 140737488355328) :
    Calls Tryd.prog 28 #[.slice A n c] w fun e w' => e = .returned (.tuple #[.agg (adrV (decAV xs) (decAL xs)), .int .i64 (decAN xs), .int .i64 (decAE xs)]) ∧ Below w.heap.size w w' := by
  have hlen := hr.len
  have hsm := hr.small
  have HZ := Lib.hid (blk_new w (.cells (adrV 0 zero16) 24))
  have HBZ : Hid (Below w.heap.size w (w.alloc (.cells (adrV 0 zero16) 24))) := below_alloc (Below.refl _ _) _
  have HR := Lib.hid (hr.below HBZ.out)
  have HL := Lib.hid hL
  have HLEN := Lib.hid hlen
  clear hr hL hlen
  go_enter Tryd.func28, Tryd.ntmps28
  go_wp2_with fail
  refine (read_any A n c xs _ HR.out hn).mono ?_
  rintro e w1 ⟨g, rfl, hg, hrd, hb1⟩
  simp at hg
  have hglt := hrd.lt
  have hby := Lib.hid hrd.byte
  have HR1 := Lib.hid (hrd.below (below_alloc (Below.refl _ _) (.cells (rdV g) 65)))
  have HD1 : Hid (DecS w w1.heap.size w.heap.size g (.cells (adrV 0 zero16) 24) (w1.alloc (.cells (rdV g) 65))) :=
    ⟨below_alloc (below_step HBZ.out hb1) _, blk_new _ _, blk_below (blk_below HZ.out hb1) (below_alloc (Below.refl _ _) _)⟩
  clear hrd hb1 HR HZ HBZ
  go_wp2_with fail
  refine (version_any g xs 150 _ (HL.out.below HD1.out.below) (by omega) HR1.out (by decide)).mono ?_
  rintro e w2 ⟨rfl, hr2, hg2⟩
  have HD2 := Lib.hid (HD1.out.grow hg2 (by omega) (by omega) (by omega))
  have HR2 := Lib.hid hr2
  clear hr2 hg2 HD1 HR1
  by_cases hve : verE xs 150 = 0
  · have hvv : verV xs 150 = rd xs 0 := by unfold verV; rw [if_pos hve]
    have hpos : xs.length ≠ 0 := fun h => by unfold verE at hve; rw [if_pos h] at hve; cases hve
    have HVE := Lib.hid hve
    have hr2 := HR2.out
    rw [if_neg hpos] at hr2
    have HR3 := Lib.hid hr2
    rw [hve, hvv]
    clear hve hvv hpos hr2 HR2
    have hwl := widthA_le (rd xs 0)
    have hsomeB : B16 (someL (xs.drop 1) (widthA (rd xs 0)) 150) := someL_16 (hby.out.drop 1) hwl
    obtain ⟨sl, hsl⟩ : ∃ sl, someL (xs.drop 1) (widthA (rd xs 0)) 150 = sl := ⟨_, rfl⟩
    obtain ⟨se, hse⟩ : ∃ se, someE (xs.drop 1) (widthA (rd xs 0)) 150 = se := ⟨_, rfl⟩
    rw [hsl] at hsomeB
    have HSL := Lib.hid (And.intro hsl hse)
    clear hsl hse
    go_wp2_with fail
    refine wp_region_fork ((DecS w w1.heap.size w.heap.size g (.cells (adrV 0 zero16) 24))) (OrdT.fork [0, 1, 2] 3 7 (OrdT.lin [4, 5, 6, 7, 8, 9]) (OrdT.lin [3, 4, 5, 6, 8, 9])) [(0, 0), (1, 0), (2, 0), (3, 2), (4, 0), (5, 0), (6, 0), (7, 2), (8, 2), (9, 0)] (by kernel_rfl) (by kernel_rfl) ((HD2.out.step (below_drew1 _))) ?_
    simp only [wpF]
    refine wpO_loadW (t := 65) (ad := ⟨w1.heap.size, 0, none⟩) rfl rfl ?hw rfl rfl ((fun w0 hS => load_rd hS.box)) ?_
    case hw => go_simp
    iterate 1 (refine wpO_step0 rfl rfl (fun K hK => ?_); go_simp; refine hK _ _ ?_; clear hK K)
    refine wpO_quiet rfl rfl ?hw Tryd.func15 (by kernel_rfl) (by kernel_rfl) rfl rfl (fun w0 hS => width_any (rd xs 0) w0 (HL.out.below hS.below)) ?_
    case hw => go_simp
    refine wpO_nil ⟨?_, ?_⟩
    · refine wpO_step2 rfl rfl (HD2.out.step (below_drew1 _)) (fun K hK => ?_)
      go_simp
      refine (some_any g (xs.drop 1) (widthA (rd xs 0)) 150 _ (HR3.out.below (below_drew1 _)) (by decide) hwl).mono ?_
      rw [HSL.out.1, HSL.out.2]
      rintro e w3 ⟨rfl, hrest, hg3⟩
      have HD3 := Lib.hid ((HD2.out.step (below_drew1 _)).grow hg3 (by omega) (by omega) (by omega))
      have HREST := Lib.hid hrest
      clear hrest hg3
      refine hK _ _ ⟨HD3.out, ?_⟩
      clear hK K
      refine wpO_nil ?_
      iterate 3 (refine wpO_step0 rfl rfl (fun K hK => ?_); go_simp; refine hK _ _ ?_; clear hK K)
      refine wpO_step2 rfl rfl (HD3.out) (fun K hK => ?_)
      go_simp
      have hnew := blk_new w3 (.cells (arrV zero16) 22)
      have HN : Hid (DecR w w1.heap.size w.heap.size g w3.heap.size (w.alloc (.cells (adrV 0 zero16) 24)).heap.size (.cells (adrV 0 zero16) 24) zero16 (xs.drop 1) (widthA (rd xs 0)) 150 (w3.alloc (.cells (arrV zero16) 22))) :=
        ⟨HD3.out.step (below_alloc (Below.refl _ _) _), hnew, HREST.out.below (below_alloc (Below.refl _ _) _)⟩
      have hl3 := blk_lt HD3.out.box
      have hz3 := blk_lt HD3.out.zero
      clear hnew
      refine hK _ _ ⟨HN.out.s, ?_⟩
      clear hK K
      refine wpO_step2 rfl rfl (HN.out.s) (fun K hK => ?_)
      rw [if_pos (show Region.wanted _ _ = true from rfl)]
      refine oper_store_blk HN.out.arr 22 0 (arrV sl) (by rw [arr_size hsomeB.len, arr_size rfl]; exact Nat.le_refl _) (info_arr hsomeB.len) (arr_one _) _ _ rfl rfl rfl ?_
      intro w4 hg4 hs4 hb4
      rw [splice_arr0 _ sl hsomeB.len rfl] at hb4
      have H4 : Hid (DecR w w1.heap.size w.heap.size g w3.heap.size (w.alloc (.cells (adrV 0 zero16) 24)).heap.size (.cells (adrV 0 zero16) 24) sl (xs.drop 1) (widthA (rd xs 0)) 150 w4) :=
        ⟨HN.out.s.grow hg4 (by omega) (by omega) (by omega), hb4, HN.out.rest.grown hg4 (by omega)⟩
      clear hg4 hs4 hb4
      refine hK _ _ ⟨H4.out.s, ?_⟩
      clear hK K
      iterate 1 (refine wpO_step0 rfl rfl (fun K hK => ?_); go_simp; refine hK _ _ ?_; clear hK K)
      refine wpO_nil ?_
      by_cases hse : se = 0
      · have HE := Lib.hid (decA_ok HVE.out (HSL.out.2.trans hse))
        obtain ⟨rest, er, hrr, hrw⟩ := H4.out.rest
        obtain ⟨rfl, rfl⟩ := hrw (HSL.out.2.trans hse)
        have HRR := Lib.hid hrr
        have hwv := HE.out.2.2.2.2
        subst hse
        clear hrr hrw
        obtain ⟨lf, hlf⟩ : ∃ lf, ((xs.drop 1).drop (fullB (widthA (rd xs 0)))).length = lf := ⟨_, rfl⟩
        obtain ⟨wq, hwq⟩ : ∃ wq, widthA (rd xs 0) / 8 = wq := ⟨_, rfl⟩
        rw [hlf, hwq, HLEN.out] at hwv
        have hsub : IntKind.i64.wrap ((n : Int) - (lf : Int)) = 1 + wq := by rw [IntWalk.i64_in _ (by omega)]; omega
        have HWQ := Lib.hid (And.intro hlf hwq)
        clear hwv hlf hwq
        go_wp2_with fail
        refine wp_region_mix ((DecT w w1.heap.size g w3.heap.size sl)) [(0, 0), (1, 0), (2, 0), (3, 0), (4, 0), (5, 0), (6, 0), (7, 2), (8, 0), (9, 2), (10, 0), (11, 0)] (by kernel_rfl) (by kernel_rfl) ((H4.out.drew.t)) ?_
        simp only [List.map_cons, List.map_nil]
        iterate 1 (refine wpO_step0 rfl rfl (fun K hK => ?_); go_simp; refine hK _ _ ?_; clear hK K)
        refine wpO_loadW (t := 22) (ad := ⟨w3.heap.size, 0, none⟩) rfl rfl ?hw rfl rfl ((fun w0 hS => load_arr0 hsomeB hS.arr)) ?_
        case hw => go_simp
        refine wpO_step0 rfl rfl (fun K hK => ?_)
        rw [if_pos (show Region.wanted _ _ = true from rfl)]
        refine ⟨_, fun w0 => exec_build_adr rfl rfl rfl hsomeB.len w0, hK _ _ ?_⟩
        clear hK K
        iterate 3 (refine wpO_step0 rfl rfl (fun K hK => ?_); go_simp; refine hK _ _ ?_; clear hK K)
        refine wpO_loadW (t := 62) (ad := ⟨w1.heap.size, 0, none⟩) rfl rfl ?hw rfl rfl ((fun w0 hS => load_rp hS.box)) ?_
        case hw => go_simp
        refine wpO_step2 rfl rfl (H4.out.drew.t) (fun K hK => ?_)
        go_simp
        refine (left_any g _ _ _ (HRR.out.below (below_drew1 _))).mono ?_
        rintro e w5 ⟨rfl, rfl⟩
        rw [HWQ.out.1]
        refine hK _ _ ⟨H4.out.drew.t, ?_⟩
        clear hK K
        iterate 1 (refine wpO_step0 rfl rfl (fun K hK => ?_); go_simp; refine hK _ _ ?_; clear hK K)
        refine wpO_step2 rfl rfl (H4.out.drew.t) (fun K hK => ?_)
        rw [if_pos (show Region.wanted _ _ = true from rfl)]
        refine oper_store_blk H4.out.drew.s.zero 24 0 (adrV (rd xs 0) sl) (by rw [adr_size hsomeB.len, adr_size rfl]; exact Nat.le_refl _) (info_adr hsomeB.len) (adr_one _ _) _ _ rfl rfl rfl ?_
        intro w6 hg6 hs6 hb6
        rw [splice_adr0 _ _ sl hsomeB.len rfl] at hb6
        have H6 := Lib.hid (And.intro (H4.out.drew.t.grow hg6 (by omega) (by omega) (by omega)) hb6)
        clear hg6 hs6 hb6
        refine hK _ _ ⟨H6.out.1, ?_⟩
        clear hK K
        iterate 2 (refine wpO_step0 rfl rfl (fun K hK => ?_); go_simp; refine hK _ _ ?_; clear hK K)
        refine wpO_nil ?_
        go_wp2
        have hld := load_adr0 hsomeB H6.out.2
        refine bodyPost_ret (results_c3 rfl rfl hld) rfl ?_
        rw [HE.out.1, HE.out.2.1, HE.out.2.2.1, HE.out.2.2.2.1, HSL.out.1]
        refine ⟨?_, H6.out.1.below⟩
        have hq2 := HWQ.out.2
        rw [show (widthA (rd xs 0) : Int) / 8 = (wq : Int) by omega]
        rfl
      · have HE := Lib.hid (decA_some HVE.out (by rw [HSL.out.2]; exact hse))
        have hsb : (se != 0) = true := by simpa using hse
        have hbn := run_build_adr_nil
        clear hse
        go_wp2_with (refine wpList_store_blk H4.out.s.zero 24 0 (adrV 0 zero16) (by rw [adr_size rfl]; exact Nat.le_refl _) (info_adr rfl) (adr_one _ _) _ _ rfl rfl rfl rfl ?_; intro w9 hg9 hs9 hb9; rw [splice_adr0 _ 0 zero16 rfl rfl] at hb9; have H9 := Lib.hid (And.intro hg9 hb9); clear hg9 hs9 hb9)
        have hld := load_adr0 zero16_B H9.out.2
        refine bodyPost_ret (results_c3 rfl rfl hld) rfl ?_
        rw [HE.out.1, HE.out.2.1, HE.out.2.2.1, HE.out.2.2.2, HSL.out.2]
        exact ⟨rfl, below_grown H4.out.s.below H9.out.1 (by omega)⟩
    · refine wpO_step2 rfl rfl (HD2.out.step (below_drew1 _)) (fun K hK => ?_)
      go_simp
      have hnew := blk_new w2 (.cells (arrV zero16) 22)
      have hl3 := blk_lt HD2.out.box
      have hz3 := blk_lt HD2.out.zero
      have HD3 := Lib.hid ((HD2.out.step (below_alloc (Below.refl _ _) (.cells (arrV zero16) 22))).step (below_drew1 _))
      have HNW : Hid (((w2.alloc (.cells (arrV zero16) 22)).drew).heap[w2.heap.size]? = some (.cells (arrV zero16) 22 (0, 0))) := hnew
      clear hnew
      refine hK _ _ ⟨HD3.out, ?_⟩
      clear hK K
      refine wpO_nil ?_
      refine wpO_step2 rfl rfl (HD3.out) (fun K hK => ?_)
      go_simp
      refine (some_any g (xs.drop 1) (widthA (rd xs 0)) 150 _ (HR3.out.below (below_step (below_alloc (Below.refl _ _) (.cells (arrV zero16) 22)) (below_drew1 _))) (by decide) hwl).mono ?_
      rw [HSL.out.1, HSL.out.2]
      rintro e w3 ⟨rfl, hrest, hg3⟩
      have HN : Hid (DecR w w1.heap.size w.heap.size g w2.heap.size (w.alloc (.cells (adrV 0 zero16) 24)).heap.size (.cells (adrV 0 zero16) 24) zero16 (xs.drop 1) (widthA (rd xs 0)) 150 w3) :=
        ⟨HD3.out.grow hg3 (by omega) (by omega) (by omega), blk_grown HNW.out hg3 (fun e => by injection e with e; omega), hrest⟩
      clear hrest hg3
      refine hK _ _ ⟨HN.out.s, ?_⟩
      clear hK K
      iterate 3 (refine wpO_step0 rfl rfl (fun K hK => ?_); go_simp; refine hK _ _ ?_; clear hK K)
      refine wpO_step2 rfl rfl (HN.out.s) (fun K hK => ?_)
      rw [if_pos (show Region.wanted _ _ = true from rfl)]
      refine oper_store_blk HN.out.arr 22 0 (arrV sl) (by rw [arr_size hsomeB.len, arr_size rfl]; exact Nat.le_refl _) (info_arr hsomeB.len) (arr_one _) _ _ rfl rfl rfl ?_
      intro w4 hg4 hs4 hb4
      rw [splice_arr0 _ sl hsomeB.len rfl] at hb4
      have H4 : Hid (DecR w w1.heap.size w.heap.size g w2.heap.size (w.alloc (.cells (adrV 0 zero16) 24)).heap.size (.cells (adrV 0 zero16) 24) sl (xs.drop 1) (widthA (rd xs 0)) 150 w4) :=
        ⟨HN.out.s.grow hg4 (by omega) (by omega) (by omega), hb4, HN.out.rest.grown hg4 (by omega)⟩
      clear hg4 hs4 hb4
      refine hK _ _ ⟨H4.out.s, ?_⟩
      clear hK K
      iterate 1 (refine wpO_step0 rfl rfl (fun K hK => ?_); go_simp; refine hK _ _ ?_; clear hK K)
      refine wpO_nil ?_
      by_cases hse : se = 0
      · have HE := Lib.hid (decA_ok HVE.out (HSL.out.2.trans hse))
        obtain ⟨rest, er, hrr, hrw⟩ := H4.out.rest
        obtain ⟨rfl, rfl⟩ := hrw (HSL.out.2.trans hse)
        have HRR := Lib.hid hrr
        have hwv := HE.out.2.2.2.2
        subst hse
        clear hrr hrw
        obtain ⟨lf, hlf⟩ : ∃ lf, ((xs.drop 1).drop (fullB (widthA (rd xs 0)))).length = lf := ⟨_, rfl⟩
        obtain ⟨wq, hwq⟩ : ∃ wq, widthA (rd xs 0) / 8 = wq := ⟨_, rfl⟩
        rw [hlf, hwq, HLEN.out] at hwv
        have hsub : IntKind.i64.wrap ((n : Int) - (lf : Int)) = 1 + wq := by rw [IntWalk.i64_in _ (by omega)]; omega
        have HWQ := Lib.hid (And.intro hlf hwq)
        clear hwv hlf hwq
        go_wp2_with fail
        refine wp_region_mix ((DecT w w1.heap.size g w2.heap.size sl)) [(0, 0), (1, 0), (2, 0), (3, 0), (4, 0), (5, 0), (6, 0), (7, 2), (8, 0), (9, 2), (10, 0), (11, 0)] (by kernel_rfl) (by kernel_rfl) ((H4.out.drew.t)) ?_
        simp only [List.map_cons, List.map_nil]
        iterate 1 (refine wpO_step0 rfl rfl (fun K hK => ?_); go_simp; refine hK _ _ ?_; clear hK K)
        refine wpO_loadW (t := 22) (ad := ⟨w2.heap.size, 0, none⟩) rfl rfl ?hw rfl rfl ((fun w0 hS => load_arr0 hsomeB hS.arr)) ?_
        case hw => go_simp
        refine wpO_step0 rfl rfl (fun K hK => ?_)
        rw [if_pos (show Region.wanted _ _ = true from rfl)]
        refine ⟨_, fun w0 => exec_build_adr rfl rfl rfl hsomeB.len w0, hK _ _ ?_⟩
        clear hK K
        iterate 3 (refine wpO_step0 rfl rfl (fun K hK => ?_); go_simp; refine hK _ _ ?_; clear hK K)
        refine wpO_loadW (t := 62) (ad := ⟨w1.heap.size, 0, none⟩) rfl rfl ?hw rfl rfl ((fun w0 hS => load_rp hS.box)) ?_
        case hw => go_simp
        refine wpO_step2 rfl rfl (H4.out.drew.t) (fun K hK => ?_)
        go_simp
        refine (left_any g _ _ _ (HRR.out.below (below_drew1 _))).mono ?_
        rintro e w5 ⟨rfl, rfl⟩
        rw [HWQ.out.1]
        refine hK _ _ ⟨H4.out.drew.t, ?_⟩
        clear hK K
        iterate 1 (refine wpO_step0 rfl rfl (fun K hK => ?_); go_simp; refine hK _ _ ?_; clear hK K)
        refine wpO_step2 rfl rfl (H4.out.drew.t) (fun K hK => ?_)
        rw [if_pos (show Region.wanted _ _ = true from rfl)]
        refine oper_store_blk H4.out.drew.s.zero 24 0 (adrV (rd xs 0) sl) (by rw [adr_size hsomeB.len, adr_size rfl]; exact Nat.le_refl _) (info_adr hsomeB.len) (adr_one _ _) _ _ rfl rfl rfl ?_
        intro w6 hg6 hs6 hb6
        rw [splice_adr0 _ _ sl hsomeB.len rfl] at hb6
        have H6 := Lib.hid (And.intro (H4.out.drew.t.grow hg6 (by omega) (by omega) (by omega)) hb6)
        clear hg6 hs6 hb6
        refine hK _ _ ⟨H6.out.1, ?_⟩
        clear hK K
        iterate 2 (refine wpO_step0 rfl rfl (fun K hK => ?_); go_simp; refine hK _ _ ?_; clear hK K)
        refine wpO_nil ?_
        go_wp2
        have hld := load_adr0 hsomeB H6.out.2
        refine bodyPost_ret (results_c3 rfl rfl hld) rfl ?_
        rw [HE.out.1, HE.out.2.1, HE.out.2.2.1, HE.out.2.2.2.1, HSL.out.1]
        refine ⟨?_, H6.out.1.below⟩
        have hq2 := HWQ.out.2
        rw [show (widthA (rd xs 0) : Int) / 8 = (wq : Int) by omega]
        rfl
      · have HE := Lib.hid (decA_some HVE.out (by rw [HSL.out.2]; exact hse))
        have hsb : (se != 0) = true := by simpa using hse
        have hbn := run_build_adr_nil
        clear hse
        go_wp2_with (refine wpList_store_blk H4.out.s.zero 24 0 (adrV 0 zero16) (by rw [adr_size rfl]; exact Nat.le_refl _) (info_adr rfl) (adr_one _ _) _ _ rfl rfl rfl rfl ?_; intro w9 hg9 hs9 hb9; rw [splice_adr0 _ 0 zero16 rfl rfl] at hb9; have H9 := Lib.hid (And.intro hg9 hb9); clear hg9 hs9 hb9)
        have hld := load_adr0 zero16_B H9.out.2
        refine bodyPost_ret (results_c3 rfl rfl hld) rfl ?_
        rw [HE.out.1, HE.out.2.1, HE.out.2.2.1, HE.out.2.2.2, HSL.out.2]
        exact ⟨rfl, below_grown H4.out.s.below H9.out.1 (by omega)⟩
  · have HE := Lib.hid (decA_ver hve)
    obtain ⟨ve, hv⟩ : ∃ ve, verE xs 150 = ve := ⟨_, rfl⟩
    rw [hv] at hve HE
    rw [hv]
    have hsb : (ve != 0) = true := by simpa using hve
    have hbn := run_build_adr_nil
    clear hve hv
    go_wp2_with (refine wpList_store_blk HD2.out.zero 24 0 (adrV 0 zero16) (by rw [adr_size rfl]; exact Nat.le_refl _) (info_adr rfl) (adr_one _ _) _ _ rfl rfl rfl rfl ?_; intro w9 hg9 hs9 hb9; rw [splice_adr0 _ 0 zero16 rfl rfl] at hb9; have H9 := Lib.hid (And.intro hg9 hb9); clear hg9 hs9 hb9)
    have hld := load_adr0 zero16_B H9.out.2
    refine bodyPost_ret (results_c3 rfl rfl hld) rfl ?_
    rw [HE.out.1, HE.out.2.1, HE.out.2.2.1, HE.out.2.2.2]
    exact ⟨rfl, below_grown HD2.out.below H9.out.1 (by omega)⟩
end Go.Proofs.YtcloepjeckbmoaaDoor
