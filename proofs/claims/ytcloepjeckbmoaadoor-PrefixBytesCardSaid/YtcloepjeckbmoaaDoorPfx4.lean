/- The document's answer for layer 5 (junctionboxref05): Width, at, RightAddr. -/
import Derived.Test.YtcloepjeckbmoaaDoorPfx3
namespace Go.Proofs.YtcloepjeckbmoaaDoor
open Go.RowKit
set_option linter.unusedVariables false
set_option linter.unusedSimpArgs false

theorem refwidth_any (v : Int) (w : World) : Calls Tryd.prog 16 #[.int .i64 v] w fun e w' => e = .returned (.int .i64 (widthA v)) ∧ w = w' := by
  by_cases h4 : v = 4
  · subst h4
    go_enter Tryd.func16, Tryd.ntmps16
    go_wp2
    go_ret
    exact ⟨rfl, rfl⟩
  · have h4' : (v == 4) = false := by simpa using h4
    by_cases h6 : v = 6
    · subst h6
      go_enter Tryd.func16, Tryd.ntmps16
      go_wp2
      go_ret
      exact ⟨rfl, rfl⟩
    · have h6' : (v == 6) = false := by simpa using h6
      have hw : widthA v = 0 := by unfold widthA; rw [if_neg h4, if_neg h6]
      rw [hw]
      clear h4 h6 hw
      go_enter Tryd.func16, Tryd.ntmps16
      go_wp2
      go_ret
      exact ⟨rfl, rfl⟩

theorem refat_any (l : List Int) (x : Int) (w : World) (hl : B16 l) (hx0 : 0 ≤ x) (hx1 : x < 128) : Calls Tryd.prog 41 #[.agg (arrV l), .int .i64 x] w fun e w' => e = .returned (.int .i64 (bitA l x.toNat)) ∧ Below w.heap.size w w' := by
  have hb := blk_new w (.cells (arrV l) 22)
  have hc := arr_cell hb (x / 8).toNat (by rw [hl.len]; omega)
  rw [show (((x / 8).toNat : Nat) : Int) = x / 8 by omega] at hc
  have hbe : Below w.heap.size w (w.alloc (.cells (arrV l) 22)) := below_alloc (Below.refl _ _) _
  obtain ⟨cs, hcs⟩ : ∃ cs, arrV l = cs := ⟨_, rfl⟩
  rw [hcs] at hc hbe ⊢
  have HBE := Lib.hid hbe
  clear hb hcs hbe
  have hx8 : x / 8 < 16 := by omega
  have hx80 : 0 ≤ x / 8 := by omega
  have hx7 : x % 8 < 8 := by omega
  have hx70 : 0 ≤ x % 8 := by omega
  have hr := hl.rd (x / 8)
  have hd := div_lt256 (rd l (x / 8)) (7 - x % 8).toNat hr.1 hr.2
  have hbt : bitA l x.toNat = rd l (x / 8) / 2 ^ (7 - x % 8).toNat % 2 := by
    unfold bitA
    rw [show ((x.toNat / 8 : Nat) : Int) = x / 8 by omega, show 7 - x.toNat % 8 = (7 - x % 8).toNat by omega]
  rw [hbt]
  clear hbt
  go_enter Tryd.func41, Tryd.ntmps41
  go_wp2
  go_ret
  refine ⟨?_, HBE.out⟩
  simp

/-- What lies in a block that holds an address, in every world that goes on from one. -/
structure AdrAt (w : World) (g : Nat) (v : Int) (l : List Int) : Prop where
  all : ∀ w0, Below w.heap.size w w0 →
    (Instr.loadAt 24 (.pointer (some ⟨g, 0, none⟩))).run Tryd.prog w0 = .ok (.agg (adrV v l)) w0 ∧
    (Instr.loadAt 3 (.pointer (some ⟨g, 0, none⟩))).run Tryd.prog w0 = .ok (.int .i64 v) w0 ∧
    (Instr.loadAt 22 (.pointer (some ⟨g, 1, none⟩))).run Tryd.prog w0 = .ok (.agg (arrV l)) w0
theorem adr_at {w : World} {g : Nat} {v : Int} {l : List Int} (hl : B16 l) (h : w.heap[g]? = some (.cells (adrV v l) 24 (0, 0))) : AdrAt w g v l := by
  refine ⟨fun w0 hb => ?_⟩
  have h0 := blk_below h hb
  have c1 : ∀ i, i < 16 → w0.cell? ⟨g, 1 + i, none⟩ = some (.int .u8 (rd l (i : Int))) := fun i hi => adr_b h0 i (by rw [hl.len]; exact hi)
  exact ⟨load_adr hl (adr_v h0) (fun i hi => by rw [show 0 + 1 + i = 1 + i by omega]; exact c1 i hi), load_int (adr_v h0), load_arr hl c1⟩

set_option maxHeartbeats 1000000 in
theorem rightAddr_any (v : Int) (l : List Int) (w : World) (hl : B16 l) : Calls Tryd.prog 13 #[.agg (adrV v l)] w fun e w' => e = .returned (.bool (rightA v l)) ∧ Below w.heap.size w w' := by
  have hb := blk_new w (.cells (adrV v l) 24)
  have hv := adr_v hb
  have hbe : Below w.heap.size w (w.alloc (.cells (adrV v l) 24)) := below_alloc (Below.refl _ _) _
  have HA := Lib.hid (adr_at hl hb)
  have HBE := Lib.hid hbe
  obtain ⟨cs, hcs⟩ : ∃ cs, adrV v l = cs := ⟨_, rfl⟩
  rw [hcs] at hv HA HBE ⊢
  clear hb hcs hbe
  go_enter Tryd.func13, Tryd.ntmps13
  go_wp2_with fail
  refine (refwidth_any v _).mono ?_
  rintro e w1 ⟨rfl, rfl⟩
  go_wp2_with fail
  clear hv
  have hwl := widthA_le v
  go_loopw [4] (fun i wr => ∃ m : Nat, i = .int .i64 m ∧ Hid (widthA v ≤ m ∧ ∀ j, widthA v ≤ j → j < m → j < 128 → bitA l j = 0) ∧ Hid (Below (w.alloc (.cells cs 24)).heap.size (w.alloc (.cells cs 24)) wr)) (fun i _ => 128 - (intOf i).toNat)
  case atStart => exact ⟨widthA v, rfl, ⟨Nat.le_refl _, fun j h1 h2 => by omega⟩, Below.refl _ _⟩
  case round =>
    obtain ⟨m, rfl, HH, HW⟩ := hrel
    by_cases hlt : m < 128
    · have hld := (HA.out.all wr HW.out).2.2
      have hlt' : (m : Int) < 128 := by omega
      have HLT := Lib.hid hlt
      clear hlt
      go_wp2_with (refine wpList_load_g hld _ rfl rfl (by go_simp) ?_)
      refine (refat_any l m wr hl (by omega) (by omega)).mono ?_
      rintro e w2 ⟨rfl, hb2⟩
      rw [show (m : Int).toNat = m by omega]
      have HW2 := Lib.hid (below_step HW.out hb2)
      clear hb2 hld
      by_cases hbit : bitA l m = 1
      · have hbt : (bitA l m == 1) = true := by simpa using hbit
        have hr : rightA v l = false := by
          unfold rightA
          have : clearA l (widthA v) = false := by
            rw [Bool.eq_false_iff]
            intro h
            have := (clearA_iff l (widthA v)).1 h m HH.out.1 HLT.out
            omega
          rw [this, Bool.and_false]
        have HR := Lib.hid hr
        clear hbit hr
        go_wp2
        go_ret
        rw [HR.out]
        exact ⟨rfl, below_step HBE.out HW2.out⟩
      · have hbt : (bitA l m == 1) = false := by simpa using hbit
        have HZ : Hid (bitA l m = 0) := (bitA_range l m).resolve_right hbit
        clear hbit
        go_wp2_with fail
        go_roundw
        case measure => simp [intOf]; omega
        case rel =>
          refine ⟨m + 1, by go_num, ⟨by have := HH.out.1; omega, fun j h1 h2 h3 => ?_⟩, HW2.out⟩
          by_cases hj : j < m
          · exact HH.out.2 j h1 hj h3
          · rw [show j = m by omega]
            exact HZ.out
    · have hm1 : decide ((m : Int) < 128) = false := decide_eq_false (by omega)
      have hr : rightA v l = decide (0 < widthA v) := by
        unfold rightA
        rw [(clearA_iff l (widthA v)).2 (fun j h1 h2 => HH.out.2 j h1 (by omega) h2), Bool.and_true]
        exact decide_eq_decide.2 ⟨fun h => Nat.pos_of_ne_zero h, fun h => Nat.ne_of_gt h⟩
      have HR := Lib.hid hr
      obtain ⟨n, hn⟩ : ∃ n, widthA v = n := ⟨_, rfl⟩
      rw [hn] at HR
      rw [hn]
      clear hr hlt hwl HH hn
      rcases Nat.eq_zero_or_pos n with h0 | h0
      · subst h0
        go_wp2_with fail
        go_ret
        rw [HR.out]
        exact ⟨rfl, below_step HBE.out HW.out⟩
      · have hd : decide ((0 : Int) < (n : Int)) = true := decide_eq_true (by omega)
        have hd2 : decide (0 < n) = true := decide_eq_true h0
        have HD2 := Lib.hid hd2
        clear hd2 h0
        go_wp2_with fail
        go_ret
        rw [HR.out, HD2.out]
        exact ⟨by simp, below_step HBE.out HW.out⟩
end Go.Proofs.YtcloepjeckbmoaaDoor
