/- Layer 5 (prefix): Check. -/
import Derived.Test.YtcloepjeckbmoaaDoorPfx2
namespace Go.Proofs.YtcloepjeckbmoaaDoor
open Go.RowKit
set_option linter.unusedVariables false
set_option linter.unusedSimpArgs false

theorem pfx_cells (v : Int) (l : List Int) (b : Int) (hl : B16 l) : (pfxV v l b).toList.length = 18 := by simp [pfxV, nums, hl.len]
theorem load_pfx {w : World} {g : Nat} {v : Int} {l : List Int} {b : Int} (hl : B16 l) (h : w.heap[g]? = some (.cells (pfxV v l b) 26 (0, 0))) :
    (Instr.loadAt 26 (.pointer (some ⟨g, 0, none⟩))).run Tryd.prog w = .ok (.agg (pfxV v l b)) w := by
  refine run_loadAt_mid w g 0 26 (pfxV v l b).toList _ (fun j u hv => ?_) Tryd.underlying26 rfl ?_
  · rw [Nat.zero_add, blk_cell h]
    simpa using hv
  · rw [pfx_cells v l b hl]
    kernel_rfl
/-- What lies in a block that holds a prefix, in every world that goes on from one. -/
structure PfxAt (w : World) (g : Nat) (v : Int) (l : List Int) (b : Int) : Prop where
  all : ∀ w0, Below w.heap.size w w0 →
    (Instr.loadAt 24 (.pointer (some ⟨g, 0, none⟩))).run Tryd.prog w0 = .ok (.agg (adrV v l)) w0 ∧
    (Instr.loadAt 3 (.pointer (some ⟨g, 17, none⟩))).run Tryd.prog w0 = .ok (.int .i64 b) w0 ∧
    (Instr.loadAt 3 (.pointer (some ⟨g, 0, none⟩))).run Tryd.prog w0 = .ok (.int .i64 v) w0 ∧
    (Instr.loadAt 22 (.pointer (some ⟨g, 1, none⟩))).run Tryd.prog w0 = .ok (.agg (arrV l)) w0 ∧
    (Instr.loadAt 26 (.pointer (some ⟨g, 0, none⟩))).run Tryd.prog w0 = .ok (.agg (pfxV v l b)) w0
theorem load_int {w : World} {ad : Addr} {v : Value} (h : w.cell? ad = some v) : (Instr.loadAt 3 (.pointer (some ad))).run Tryd.prog w = .ok v w := by
  go_simp
theorem pfx_at {w : World} {g : Nat} {v : Int} {l : List Int} {b : Int} (hl : B16 l) (h : w.heap[g]? = some (.cells (pfxV v l b) 26 (0, 0))) : PfxAt w g v l b := by
  refine ⟨fun w0 hb => ?_⟩
  have h0 := blk_below h hb
  have c0 : w0.cell? ⟨g, 0, none⟩ = some (.int .i64 v) := by rw [blk_cell h0]; rfl
  have c1 : ∀ i, i < 16 → w0.cell? ⟨g, 1 + i, none⟩ = some (.int .u8 (rd l (i : Int))) := fun i hi => by
    rw [blk_cell h0, Nat.add_comm]
    unfold pfxV
    rw [List.getElem?_toArray, List.getElem?_cons_succ, List.getElem?_append_left (by simp [nums, hl.len]; exact hi)]
    exact nums_get .u8 l i (by rw [hl.len]; exact hi)
  have c2 : w0.cell? ⟨g, 17, none⟩ = some (.int .i64 b) := by
    rw [blk_cell h0]
    unfold pfxV
    rw [List.getElem?_toArray, List.getElem?_cons_succ, List.getElem?_append_right (by simp [nums, hl.len])]
    simp [nums, hl.len]
  exact ⟨load_adr hl c0 (fun i hi => by rw [show 0 + 1 + i = 1 + i by omega]; exact c1 i hi), load_int c2, load_int c0, load_arr hl c1, load_pfx hl h0⟩

set_option maxHeartbeats 2000000 in
theorem check_any (v : Int) (l : List Int) (b : Int) (w : World) (hL : Laid w) (hl : B16 l) : Calls Tryd.prog 12 #[.agg (pfxV v l b)] w fun e w' => e = .returned (.int .i64 (errP v l b)) ∧ Below w.heap.size w w' := by
  have hpa := pfx_at hl (blk_new w (.cells (pfxV v l b) 26))
  have hbe : Below w.heap.size w (w.alloc (.cells (pfxV v l b) 26)) := below_alloc (Below.refl _ _) _
  have HL := Lib.hid (hL.below hbe)
  have HBE := Lib.hid hbe
  obtain ⟨cs, hcs⟩ : ∃ cs, pfxV v l b = cs := ⟨_, rfl⟩
  rw [hcs] at hpa HL HBE ⊢
  have HP := Lib.hid hpa
  clear hcs hbe hL hpa
  go_enter Tryd.func12, Tryd.ntmps12
  go_wp2_with fail
  refine wp_region_mix (fun w0 => Below (w.alloc (.cells cs 26)).heap.size (w.alloc (.cells cs 26)) w0) [(0, 0), (1, 0), (2, 2), (3, 0), (4, 0), (5, 0), (6, 0), (7, 0), (8, 0), (9, 0), (10, 0), (11, 0), (12, 0), (13, 0), (14, 0), (15, 2), (16, 0), (17, 0), (18, 0), (19, 0), (20, 0), (21, 0), (22, 0), (23, 0), (24, 2), (25, 0), (26, 0)] (by kernel_rfl) (by kernel_rfl) (below_drew1 _) ?_
  simp only [List.map_cons, List.map_nil]
  iterate 1 (refine wpO_step0 rfl rfl (fun K hK => ?_); go_simp; refine hK _ _ ?_; clear hK K)
  refine wpO_loadW (t := 24) (ad := ⟨w.heap.size, 0, none⟩) rfl rfl ?hw rfl rfl (fun w0 hS => (HP.out.all w0 hS).1) ?_
  case hw => go_simp
  refine wpO_step2 rfl rfl (below_drew1 _) (fun K hK => ?_)
  go_simp
  refine (checkAddr_any v l _ (HL.out.below (below_drew1 _)) hl).mono ?_
  rintro e w1 ⟨rfl, hb1⟩
  have HS1 := Lib.hid (below_step (below_drew1 _) hb1)
  clear hb1
  refine hK _ _ ⟨HS1.out, ?_⟩
  clear hK K
  cases hA : rightA v l with
  | false =>
    have HE : Hid (errP v l b = 151) := by unfold errP rightP; rw [hA]; rfl
    have hEA : errA v l = 150 := by unfold errA; rw [hA]; rfl
    rw [hEA]
    clear hA hEA
    repeat first | (refine wpO_step0 rfl rfl (fun K hK => ?_); go_simp; refine hK _ _ ?_; clear hK K) | (refine wpO_step2 rfl rfl HS1.out (fun K hK => ?_); go_simp; refine hK _ _ ⟨HS1.out, ?_⟩; clear hK K)
    refine wpO_nil ?_
    go_wp2
    go_ret
    rw [HE.out]
    exact ⟨rfl, below_step HBE.out HS1.out⟩
  | true =>
    have hEA : errA v l = 0 := by unfold errA; rw [hA]; rfl
    rw [hEA]
    clear hEA
    iterate 3 (refine wpO_step0 rfl rfl (fun K hK => ?_); go_simp; refine hK _ _ ?_; clear hK K)
    refine wpO_loadW (t := 3) (ad := ⟨w.heap.size, 17, none⟩) rfl rfl ?hw rfl rfl (fun w0 hS => (HP.out.all w0 hS).2.1) ?_
    case hw => go_simp
    by_cases hb0 : b < 0
    · have HE : Hid (errP v l b = 151) := by
        have h1 : rightP v l b = false := by
          unfold rightP
          rw [decide_eq_false (show ¬ 0 ≤ b by omega)]
          cases rightA v l <;> rfl
        unfold errP
        rw [h1]
        rfl
      clear hA
      repeat first | (refine wpO_step0 rfl rfl (fun K hK => ?_); go_simp; refine hK _ _ ?_; clear hK K) | (refine wpO_step2 rfl rfl HS1.out (fun K hK => ?_); go_simp; refine hK _ _ ⟨HS1.out, ?_⟩; clear hK K)
      refine wpO_nil ?_
      go_wp2
      go_ret
      rw [HE.out]
      exact ⟨rfl, below_step HBE.out HS1.out⟩
    · have hb0' : 0 ≤ b := by omega
      clear hb0
      iterate 4 (refine wpO_step0 rfl rfl (fun K hK => ?_); go_simp; refine hK _ _ ?_; clear hK K)
      refine wpO_loadW (t := 3) (ad := ⟨w.heap.size, 17, none⟩) rfl rfl ?hw rfl rfl (fun w0 hS => (HP.out.all w0 hS).2.1) ?_
      case hw => go_simp
      iterate 2 (refine wpO_step0 rfl rfl (fun K hK => ?_); go_simp; refine hK _ _ ?_; clear hK K)
      refine wpO_loadW (t := 3) (ad := ⟨w.heap.size, 0, none⟩) rfl rfl ?hw rfl rfl (fun w0 hS => (HP.out.all w0 hS).2.2.1) ?_
      case hw => go_simp
      refine wpO_step2 rfl rfl HS1.out (fun K hK => ?_)
      go_simp
      refine (width_any v _ (HL.out.below HS1.out)).mono ?_
      rintro e w2 ⟨rfl, rfl⟩
      refine hK _ _ ⟨HS1.out, ?_⟩
      clear hK K
      have hwl := widthA_le v
      by_cases hbw : (widthA v : Int) < b
      · have HE : Hid (errP v l b = 151) := by
          have h1 : rightP v l b = false := by
            unfold rightP
            rw [decide_eq_false (show ¬ b ≤ widthA v by omega)]
            cases rightA v l <;> cases decide (0 ≤ b) <;> rfl
          unfold errP
          rw [h1]
          rfl
        clear hA
        repeat first | (refine wpO_step0 rfl rfl (fun K hK => ?_); go_simp; refine hK _ _ ?_; clear hK K) | (refine wpO_step2 rfl rfl HS1.out (fun K hK => ?_); go_simp; refine hK _ _ ⟨HS1.out, ?_⟩; clear hK K)
        refine wpO_nil ?_
        go_wp2
        go_ret
        rw [HE.out]
        exact ⟨rfl, below_step HBE.out HS1.out⟩
      · have hbw' : b ≤ (widthA v : Int) := by omega
        clear hbw
        obtain ⟨k, rfl⟩ := Int.eq_ofNat_of_zero_le hb0'
        have hbn : k ≤ widthA v := by omega
        iterate 5 (refine wpO_step0 rfl rfl (fun K hK => ?_); go_simp; refine hK _ _ ?_; clear hK K)
        refine wpO_loadW (t := 22) (ad := ⟨w.heap.size, 1, none⟩) rfl rfl ?hw rfl rfl (fun w0 hS => (HP.out.all w0 hS).2.2.2.1) ?_
        case hw => go_simp
        iterate 1 (refine wpO_step0 rfl rfl (fun K hK => ?_); go_simp; refine hK _ _ ?_; clear hK K)
        refine wpO_loadW (t := 3) (ad := ⟨w.heap.size, 17, none⟩) rfl rfl ?hw rfl rfl (fun w0 hS => (HP.out.all w0 hS).2.1) ?_
        case hw => go_simp
        refine wpO_step2 rfl rfl HS1.out (fun K hK => ?_)
        go_simp
        refine (clear_any l k _ hl).mono ?_
        rintro e w3 ⟨rfl, hb3⟩
        have HS3 := Lib.hid (below_step HS1.out hb3)
        clear hb3
        refine hK _ _ ⟨HS3.out, ?_⟩
        clear hK K
        cases hC : clearA l k with
        | false =>
          have HE : Hid (errP v l k = 151) := by
            have h1 : rightP v l k = false := by
              unfold rightP
              rw [show (k : Int).toNat = k by omega, hC]
              exact Bool.and_false _
            unfold errP
            rw [h1]
            rfl
          clear hA hC
          repeat first | (refine wpO_step0 rfl rfl (fun K hK => ?_); go_simp; refine hK _ _ ?_; clear hK K) | (refine wpO_step2 rfl rfl HS3.out (fun K hK => ?_); go_simp; refine hK _ _ ⟨HS3.out, ?_⟩; clear hK K)
          refine wpO_nil ?_
          go_wp2
          go_ret
          rw [HE.out]
          exact ⟨rfl, below_step HBE.out HS3.out⟩
        | true =>
          have HE : Hid (errP v l k = 0) := by
            unfold errP rightP
            rw [show (k : Int).toNat = k by omega, hC, hA, decide_eq_true hb0', decide_eq_true hbw']
            rfl
          clear hA hC
          repeat first | (refine wpO_step0 rfl rfl (fun K hK => ?_); go_simp; refine hK _ _ ?_; clear hK K) | (refine wpO_step2 rfl rfl HS3.out (fun K hK => ?_); go_simp; refine hK _ _ ⟨HS3.out, ?_⟩; clear hK K)
          refine wpO_nil ?_
          go_wp2
          go_ret
          rw [HE.out]
          exact ⟨rfl, below_step HBE.out HS3.out⟩
end Go.Proofs.YtcloepjeckbmoaaDoor
