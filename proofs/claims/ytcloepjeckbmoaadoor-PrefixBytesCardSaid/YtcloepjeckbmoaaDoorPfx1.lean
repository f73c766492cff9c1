/- Layer 5 (prefix): Width, clear, CheckAddr, Check. -/
import Derived.Test.YtcloepjeckbmoaaDoorOct
import Derived.Test.YtcloepjeckbmoaaDoorL01
import Derived.Test.YtcloepjeckbmoaaDoorMix
import Derived.Test.YtcloepjeckbmoaaDoorPureP3
namespace Go.Proofs.YtcloepjeckbmoaaDoor
open Go.RowKit
set_option linter.unusedVariables false
set_option linter.unusedSimpArgs false

/-- What the table of widths holds. -/
structure Laid (w : World) : Prop where
  at_ : ∀ i : Nat, i < 7 → w.cell? ⟨0, i, none⟩ = some (.int .i64 (widthA i))
theorem Laid.below {w w1 : World} (h : Laid w) (hb : Below w.heap.size w w1) : Laid w1 := ⟨fun i hi => cell_below hb (h.at_ i hi)⟩
def arrV (l : List Int) : Array Value := (nums .u8 l).toArray
def adrV (v : Int) (l : List Int) : Array Value := (.int .i64 v :: nums .u8 l).toArray
def pfxV (v : Int) (l : List Int) (b : Int) : Array Value := (.int .i64 v :: (nums .u8 l ++ [.int .i64 b])).toArray

theorem width_any (v : Int) (w : World) (hL : Laid w) : Calls Tryd.prog 15 #[.int .i64 v] w fun e w' => e = .returned (.int .i64 (widthA v)) ∧ w = w' := by
  by_cases h0 : v < 0
  · have hw : widthA v = 0 := by unfold widthA; rw [if_neg (by omega), if_neg (by omega)]
    rw [hw]
    clear hL hw
    go_enter Tryd.func15, Tryd.ntmps15
    go_wp2
    go_ret
    exact ⟨rfl, rfl⟩
  · have h0' : 0 ≤ v := by omega
    clear h0
    by_cases h7 : 7 ≤ v
    · have hw : widthA v = 0 := by unfold widthA; rw [if_neg (by omega), if_neg (by omega)]
      rw [hw]
      clear hL hw
      go_enter Tryd.func15, Tryd.ntmps15
      go_wp2
      go_ret
      exact ⟨rfl, rfl⟩
    · have h7' : v < 7 := by omega
      clear h7
      obtain ⟨k, rfl⟩ := Int.eq_ofNat_of_zero_le h0'
      have hc := hL.at_ k (by omega)
      clear hL
      go_enter Tryd.func15, Tryd.ntmps15
      go_wp2
      go_ret
      exact ⟨rfl, rfl⟩

theorem arr_cell {w : World} {g : Nat} {t : TypeId} {l : List Int} (h : w.heap[g]? = some (.cells (arrV l) t (0, 0))) (i : Nat) (hi : i < l.length) : w.cell? ⟨g, i, none⟩ = some (.int .u8 (rd l (i : Int))) := by
  rw [blk_cell h]
  unfold arrV
  rw [List.getElem?_toArray]
  exact nums_get .u8 l i hi

set_option maxHeartbeats 1000000 in
theorem clear_any (l : List Int) (k : Nat) (w : World) (hl : B16 l) : Calls Tryd.prog 40 #[.agg (arrV l), .int .i64 k] w fun e w' => e = .returned (.bool (clearA l k)) ∧ Below w.heap.size w w' := by
  have hb := blk_new w (.cells (arrV l) 22)
  obtain ⟨cs, hcs⟩ : ∃ cs, arrV l = cs := ⟨_, rfl⟩
  rw [hcs] at hb ⊢
  have hbe : Below w.heap.size w (w.alloc (.cells cs 22)) := below_alloc (Below.refl _ _) _
  have HB := Lib.hid hb
  have HBE := Lib.hid hbe
  have HCS := Lib.hid hcs
  clear hb hbe hcs
  go_enter Tryd.func40, Tryd.ntmps40
  go_wp2_with fail
  go_loop [5] (fun v => ∃ x : Int, v = .int .i64 x ∧ Hid ((k : Int) ≤ x ∧ ∀ j : Nat, k ≤ j → (j : Int) < x → j < 128 → bitA l j = 0)) (fun v => 128 - (intOf v).toNat)
  case atStart => exact ⟨k, rfl, Int.le_refl _, fun j h1 h2 => by omega⟩
  case round =>
    obtain ⟨x, rfl, HH⟩ := hrel
    have hx0 : 0 ≤ x := by have := HH.out.1; omega
    by_cases hlt : x < 128
    · have hc := arr_cell (by rw [HCS.out]; exact HB.out) (l := l) (x / 8).toNat (by rw [hl.len]; omega)
      rw [show (((x / 8).toNat : Nat) : Int) = x / 8 by omega] at hc
      have hx8 : x / 8 < 16 := by omega
      have hx80 : 0 ≤ x / 8 := by omega
      have hx7 : x % 8 < 8 := by omega
      have hx70 : 0 ≤ x % 8 := by omega
      have hr := hl.rd (x / 8)
      have hd := div_lt256 (rd l (x / 8)) (7 - x % 8).toNat hr.1 hr.2
      have hand := bits_and1 _ hd.1 hd.2
      have hbe : bitA l x.toNat = rd l (x / 8) / 2 ^ (7 - x % 8).toNat % 2 := by
        unfold bitA
        rw [show ((x.toNat / 8 : Nat) : Int) = x / 8 by omega, show 7 - x.toNat % 8 = (7 - x % 8).toNat by omega]
      have HBI := Lib.hid hbe
      clear hbe
      by_cases hbit : rd l (x / 8) / 2 ^ (7 - x % 8).toNat % 2 = 1
      · have hfin : clearA l k = false := by
          rw [Bool.eq_false_iff]
          intro h
          have := (clearA_iff l k).1 h x.toNat (by have := HH.out.1; omega) (by omega)
          rw [HBI.out] at this
          omega
        have HF := Lib.hid hfin
        clear hfin
        go_wp2_with fail
        go_ret
        rw [HF.out]
        exact ⟨rfl, HBE.out⟩
      · have hb1 : (rd l (x / 8) / 2 ^ (7 - x % 8).toNat % 2 == 1) = false := by simpa using hbit
        have HZ := Lib.hid hbit
        clear hbit
        go_wp2_with fail
        go_round
        case measure => simp [intOf]; omega
        case rel =>
          refine ⟨x + 1, by go_num, by have := HH.out.1; omega, fun j h1 h2 h3 => ?_⟩
          by_cases hj : (j : Int) < x
          · exact HH.out.2 j h1 hj h3
          · rw [show j = x.toNat by omega, HBI.out]
            have := HZ.out
            omega
    · have hfin : clearA l k = true := (clearA_iff l k).2 (fun j h1 h2 => HH.out.2 j h1 (by omega) h2)
      have HF := Lib.hid hfin
      have hlt' : 128 ≤ x := by omega
      clear hfin hlt
      go_wp2
      go_ret
      rw [HF.out]
      exact ⟨rfl, HBE.out⟩
end Go.Proofs.YtcloepjeckbmoaaDoor
