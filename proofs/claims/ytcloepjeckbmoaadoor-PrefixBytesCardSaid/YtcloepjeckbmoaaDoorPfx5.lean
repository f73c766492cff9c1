/- The document's answer for layer 5 (junctionboxref05): Right. -/
import Derived.Test.YtcloepjeckbmoaaDoorPfx4
namespace Go.Proofs.YtcloepjeckbmoaaDoor
open Go.RowKit
set_option linter.unusedVariables false
set_option linter.unusedSimpArgs false

set_option maxHeartbeats 2000000 in
theorem right_any (v : Int) (l : List Int) (b : Int) (w : World) (hl : B16 l) (hb1 : b ≤ 9223372036854775807) : Calls Tryd.prog 14 #[.agg (pfxV v l b)] w fun e w' => e = .returned (.bool (rightP v l b)) ∧ Below w.heap.size w w' := by
  have hpa := pfx_at hl (blk_new w (.cells (pfxV v l b) 26))
  have hbe : Below w.heap.size w (w.alloc (.cells (pfxV v l b) 26)) := below_alloc (Below.refl _ _) _
  have HBE := Lib.hid hbe
  obtain ⟨cs, hcs⟩ : ∃ cs, pfxV v l b = cs := ⟨_, rfl⟩
  rw [hcs] at hpa HBE ⊢
  have HP := Lib.hid hpa
  clear hcs hbe hpa
  go_enter Tryd.func14, Tryd.ntmps14
  go_wp2_with fail
  refine wp_region_mix (fun w0 => Below (w.alloc (.cells cs 26)).heap.size (w.alloc (.cells cs 26)) w0) [(0, 0), (1, 0), (2, 2), (3, 0), (4, 0), (5, 0), (6, 0), (7, 0), (8, 0), (9, 0), (10, 0), (11, 0), (12, 0), (13, 0), (14, 0), (15, 2), (16, 0), (17, 0)] (by kernel_rfl) (by kernel_rfl) (below_drew1 _) ?_
  simp only [List.map_cons, List.map_nil]
  iterate 1 (refine wpO_step0 rfl rfl (fun K hK => ?_); go_simp; refine hK _ _ ?_; clear hK K)
  refine wpO_loadW (t := 24) (ad := ⟨w.heap.size, 0, none⟩) rfl rfl ?hw rfl rfl (fun w0 hS => (HP.out.all w0 hS).1) ?_
  case hw => go_simp
  refine wpO_step2 rfl rfl (below_drew1 _) (fun K hK => ?_)
  go_simp
  refine (rightAddr_any v l _ hl).mono ?_
  rintro e w1 ⟨rfl, hbb1⟩
  have HS1 := Lib.hid (below_step (below_drew1 _) hbb1)
  clear hbb1
  refine hK _ _ ⟨HS1.out, ?_⟩
  clear hK K
  cases hA : rightA v l with
  | false =>
    have HE : Hid (rightP v l b = false) := by unfold rightP; rw [hA]; rfl
    clear hA
    repeat first | (refine wpO_step0 rfl rfl (fun K hK => ?_); go_simp; refine hK _ _ ?_; clear hK K) | (refine wpO_step2 rfl rfl HS1.out (fun K hK => ?_); go_simp; refine hK _ _ ⟨HS1.out, ?_⟩; clear hK K)
    refine wpO_nil ?_
    go_wp2
    go_ret
    rw [HE.out]
    exact ⟨rfl, below_step HBE.out HS1.out⟩
  | true =>
    iterate 3 (refine wpO_step0 rfl rfl (fun K hK => ?_); go_simp; refine hK _ _ ?_; clear hK K)
    refine wpO_loadW (t := 3) (ad := ⟨w.heap.size, 17, none⟩) rfl rfl ?hw rfl rfl (fun w0 hS => (HP.out.all w0 hS).2.1) ?_
    case hw => go_simp
    by_cases hb0 : b < 0
    · have HE : Hid (rightP v l b = false) := by
        unfold rightP
        rw [decide_eq_false (show ¬ 0 ≤ b by omega)]
        cases rightA v l <;> rfl
      clear hA
      repeat first | (refine wpO_step0 rfl rfl (fun K hK => ?_); go_simp; refine hK _ _ ?_; clear hK K) | (refine wpO_step2 rfl rfl HS1.out (fun K hK => ?_); go_simp; refine hK _ _ ⟨HS1.out, ?_⟩; clear hK K)
      refine wpO_nil ?_
      go_wp2
      go_ret
      rw [HE.out]
      exact ⟨rfl, below_step HBE.out HS1.out⟩
    · have hb0' : 0 ≤ b := by omega
      clear hb0
      iterate 4 (refine wpO_step0 rfl rfl (fun K hK => ?_); go_simp; refine hK _ _ ?_; clear hK K)
      refine wpO_loadW (t := 3) (ad := ⟨w.heap.size, 17, none⟩) rfl rfl ?hw rfl rfl (fun w0 hS => (HP.out.all w0 hS).2.1) ?_
      case hw => go_simp
      iterate 2 (refine wpO_step0 rfl rfl (fun K hK => ?_); go_simp; refine hK _ _ ?_; clear hK K)
      refine wpO_loadW (t := 3) (ad := ⟨w.heap.size, 0, none⟩) rfl rfl ?hw rfl rfl (fun w0 hS => (HP.out.all w0 hS).2.2.1) ?_
      case hw => go_simp
      refine wpO_step2 rfl rfl HS1.out (fun K hK => ?_)
      go_simp
      refine (refwidth_any v _).mono ?_
      rintro e w2 ⟨rfl, rfl⟩
      refine hK _ _ ⟨HS1.out, ?_⟩
      clear hK K
      have hwl := widthA_le v
      by_cases hbw : (widthA v : Int) < b
      · have HE : Hid (rightP v l b = false) := by
          unfold rightP
          rw [decide_eq_false (show ¬ b ≤ widthA v by omega)]
          cases rightA v l <;> cases decide (0 ≤ b) <;> rfl
        clear hA
        repeat first | (refine wpO_step0 rfl rfl (fun K hK => ?_); go_simp; refine hK _ _ ?_; clear hK K) | (refine wpO_step2 rfl rfl HS1.out (fun K hK => ?_); go_simp; refine hK _ _ ⟨HS1.out, ?_⟩; clear hK K)
        refine wpO_nil ?_
        go_wp2
        go_ret
        rw [HE.out]
        exact ⟨rfl, below_step HBE.out HS1.out⟩
      · have hbw' : b ≤ (widthA v : Int) := by omega
        clear hbw
        obtain ⟨k, rfl⟩ := Int.eq_ofNat_of_zero_le hb0'
        have hbn : k ≤ widthA v := by omega
        have hrp : rightP v l k = clearA l k := by
          unfold rightP
          rw [show (k : Int).toNat = k by omega, hA, decide_eq_true hb0', decide_eq_true hbw']
          rfl
        have HRP := Lib.hid hrp
        have hk128 : k ≤ 128 := by omega
        clear hrp hA
        repeat (refine wpO_step0 rfl rfl (fun K hK => ?_); go_simp; refine hK _ _ ?_; clear hK K)
        refine wpO_nil ?_
        have hldb := (HP.out.all w1 HS1.out).2.1
        go_wp2_with (refine wpList_load_g hldb _ rfl rfl (by go_simp) ?_)
        clear hbn hbw' hwl hb0'
        go_loopw [3] (fun i wr => ∃ m : Nat, i = .int .i64 m ∧ Hid (k ≤ m ∧ ∀ j, k ≤ j → j < m → j < 128 → bitA l j = 0) ∧ Hid (Below (w.alloc (.cells cs 26)).heap.size (w.alloc (.cells cs 26)) wr)) (fun i _ => 128 - (intOf i).toNat)
        case atStart => exact ⟨k, rfl, ⟨Nat.le_refl _, fun j h1 h2 => by omega⟩, HS1.out⟩
        case round =>
          obtain ⟨m, rfl, HH, HW⟩ := hrel
          by_cases hlt : m < 128
          · have hld := (HP.out.all wr HW.out).2.2.2.1
            have hlt' : (m : Int) < 128 := by omega
            have HLT := Lib.hid hlt
            clear hlt hldb
            go_wp2_with (refine wpList_load_g hld _ rfl rfl (by go_simp) ?_)
            refine (refat_any l m wr hl (by omega) (by omega)).mono ?_
            rintro e w2 ⟨rfl, hb2⟩
            rw [show (m : Int).toNat = m by omega]
            have HW2 := Lib.hid (below_step HW.out hb2)
            clear hb2 hld
            by_cases hbit : bitA l m = 1
            · have hbt : (bitA l m == 1) = true := by simpa using hbit
              have hr : clearA l k = false := by
                rw [Bool.eq_false_iff]
                intro h
                have := (clearA_iff l k).1 h m HH.out.1 HLT.out
                omega
              have HR := Lib.hid hr
              clear hbit hr
              go_wp2
              go_ret
              rw [HRP.out, HR.out]
              exact ⟨rfl, below_step HBE.out HW2.out⟩
            · have hbt : (bitA l m == 1) = false := by simpa using hbit
              have HZ : Hid (bitA l m = 0) := (bitA_range l m).resolve_right hbit
              clear hbit
              go_wp2_with fail
              go_roundw
              case measure => simp [intOf]; omega
              case rel =>
                refine ⟨m + 1, by go_num, ⟨by have := HH.out.1; omega, fun j h1 h2 h3 => ?_⟩, HW2.out⟩
                by_cases hj : j < m
                · exact HH.out.2 j h1 hj h3
                · rw [show j = m by omega]
                  exact HZ.out
          · have hm1 : decide ((m : Int) < 128) = false := decide_eq_false (by omega)
            have hr : clearA l k = true := (clearA_iff l k).2 (fun j h1 h2 => HH.out.2 j h1 (by omega) h2)
            have HR := Lib.hid hr
            clear hr hlt
            go_wp2_with fail
            go_ret
            rw [HRP.out, HR.out]
            exact ⟨rfl, below_step HBE.out HW.out⟩
end Go.Proofs.YtcloepjeckbmoaaDoor
