/- The document's answer for layer 5 (junctionboxref05): Width, at, RightAddr. -/
import Derived.IntWalk
import Derived.Test.YtifejiclenpfoaaDoorClientTellsA
namespace Go.Proofs.YtifejiclenpfoaaDoor
open Go.RowKit
set_option linter.unusedVariables false
set_option linter.unusedSimpArgs false
set_option maxRecDepth 4000

theorem refwidth_any (v : Int) (w : World) : Calls Tryd.prog 117 #[.int .i64 v] w fun e w' => e = .returned (.int .i64 (widthA v)) ∧ w = w' := by
  by_cases h4 : v = 4
  · subst h4
    go_enter Tryd.func117, Tryd.ntmps117
    go_wp2
    go_ret
    exact ⟨rfl, rfl⟩
  · have h4' : (v == 4) = false := by simpa using h4
    by_cases h6 : v = 6
    · subst h6
      go_enter Tryd.func117, Tryd.ntmps117
      go_wp2
      go_ret
      exact ⟨rfl, rfl⟩
    · have h6' : (v == 6) = false := by simpa using h6
      have hw : widthA v = 0 := by unfold widthA; rw [if_neg h4, if_neg h6]
      rw [hw]
      clear h4 h6 hw
      go_enter Tryd.func117, Tryd.ntmps117
      go_wp2
      go_ret
      exact ⟨rfl, rfl⟩

theorem refat_any (l : List Int) (x : Int) (w : World) (hl : B16 l) (hx0 : 0 ≤ x) (hx1 : x < 128) : Calls Tryd.prog 118 #[.agg (arrV l), .int .i64 x] w fun e w' => e = .returned (.int .i64 (bitA l x.toNat)) ∧ Below w.heap.size w w' := by
  have hb := blk_new w (.cells (arrV l) 98)
  have hc := arr_cell hb (x / 8).toNat (by rw [hl.len]; omega)
  rw [show (((x / 8).toNat : Nat) : Int) = x / 8 by omega] at hc
  have hbe : Below w.heap.size w (w.alloc (.cells (arrV l) 98)) := below_alloc (Below.refl _ _) _
  obtain ⟨cs, hcs⟩ : ∃ cs, arrV l = cs := ⟨_, rfl⟩
  rw [hcs] at hc hbe ⊢
  have HBE := Lib.hid hbe
  clear hb hcs hbe
  have hx8 : x / 8 < 16 := by omega
  have hx80 : 0 ≤ x / 8 := by omega
  have hx7 : x % 8 < 8 := by omega
  have hx70 : 0 ≤ x % 8 := by omega
  have hr := hl.rd (x / 8)
  have hd := div_lt256 (rd l (x / 8)) (7 - x % 8).toNat hr.1 hr.2
  have hbt : bitA l x.toNat = rd l (x / 8) / 2 ^ (7 - x % 8).toNat % 2 := by
    unfold bitA
    rw [show ((x.toNat / 8 : Nat) : Int) = x / 8 by omega, show 7 - x.toNat % 8 = (7 - x % 8).toNat by omega]
  rw [hbt]
  clear hbt
  go_enter Tryd.func118, Tryd.ntmps118
  go_wp2
  go_ret
  refine ⟨?_, HBE.out⟩
  simp

/-- What lies in a block that holds an address, in every world that goes on from one. -/
structure AdrAt (w : World) (g : Nat) (v : Int) (l : List Int) : Prop where
  all : ∀ w0, Below w.heap.size w w0 →
    (Instr.loadAt 100 (.pointer (some ⟨g, 0, none⟩))).run Tryd.prog w0 = .ok (.agg (adrV v l)) w0 ∧
    (Instr.loadAt 3 (.pointer (some ⟨g, 0, none⟩))).run Tryd.prog w0 = .ok (.int .i64 v) w0 ∧
    (Instr.loadAt 98 (.pointer (some ⟨g, 1, none⟩))).run Tryd.prog w0 = .ok (.agg (arrV l)) w0
theorem adr_at {w : World} {g : Nat} {v : Int} {l : List Int} (hl : B16 l) (h : w.heap[g]? = some (.cells (adrV v l) 100 (0, 0))) : AdrAt w g v l := by
  refine ⟨fun w0 hb => ?_⟩
  have h0 := blk_below h hb
  have c1 : ∀ i, i < 16 → w0.cell? ⟨g, 1 + i, none⟩ = some (.int .u8 (rd l (i : Int))) := fun i hi => adr_b h0 i (by rw [hl.len]; exact hi)
  exact ⟨load_adr hl (adr_v h0) (fun i hi => by rw [show 0 + 1 + i = 1 + i by omega]; exact c1 i hi), load_int (adr_v h0), load_arr hl c1⟩

set_option maxHeartbeats 1000000 in
theorem rightAddr_any (v : Int) (l : List Int) (w : World) (hl : B16 l) : Calls Tryd.prog 116 #[.agg (adrV v l)] w fun e w' => e = .returned (.bool (rightA v l)) ∧ Below w.heap.size w w' := by
  have hb := blk_new w (.cells (adrV v l) 100)
  have hv := adr_v hb
  have hbe : Below w.heap.size w (w.alloc (.cells (adrV v l) 100)) := below_alloc (Below.refl _ _) _
  have HA := Lib.hid (adr_at hl hb)
  have HBE := Lib.hid hbe
  obtain ⟨cs, hcs⟩ : ∃ cs, adrV v l = cs := ⟨_, rfl⟩
  rw [hcs] at hv HA HBE ⊢
  clear hb hcs hbe
  go_enter Tryd.func116, Tryd.ntmps116
  go_wp2_with fail
  refine (refwidth_any v _).mono ?_
  rintro e w1 ⟨rfl, rfl⟩
  go_wp2_with fail
  clear hv
  have hwl := widthA_le v
  go_loopw [4] (fun i wr => ∃ m : Nat, i = .int .i64 m ∧ Hid (widthA v ≤ m ∧ ∀ j, widthA v ≤ j → j < m → j < 128 → bitA l j = 0) ∧ Hid (Below (w.alloc (.cells cs 100)).heap.size (w.alloc (.cells cs 100)) wr)) (fun i _ => 128 - (intOf i).toNat)
  case atStart => exact ⟨widthA v, rfl, ⟨Nat.le_refl _, fun j h1 h2 => by omega⟩, Below.refl _ _⟩
  case round =>
    obtain ⟨m, rfl, HH, HW⟩ := hrel
    by_cases hlt : m < 128
    · have hld := (HA.out.all wr HW.out).2.2
      have hlt' : (m : Int) < 128 := by omega
      have HLT := Lib.hid hlt
      clear hlt
      go_wp2_with (refine wpList_load_g hld _ rfl rfl (by go_simp) ?_)
      refine (refat_any l m wr hl (by omega) (by omega)).mono ?_
      rintro e w2 ⟨rfl, hb2⟩
      rw [show (m : Int).toNat = m by omega]
      have HW2 := Lib.hid (below_step HW.out hb2)
      clear hb2 hld
      by_cases hbit : bitA l m = 1
      · have hbt : (bitA l m == 1) = true := by simpa using hbit
        have hr : rightA v l = false := by
          unfold rightA
          have : clearA l (widthA v) = false := by
            rw [Bool.eq_false_iff]
            intro h
            have := (clearA_iff l (widthA v)).1 h m HH.out.1 HLT.out
            omega
          rw [this, Bool.and_false]
        have HR := Lib.hid hr
        clear hbit hr
        go_wp2
        go_ret
        rw [HR.out]
        exact ⟨rfl, below_step HBE.out HW2.out⟩
      · have hbt : (bitA l m == 1) = false := by simpa using hbit
        have HZ : Hid (bitA l m = 0) := (bitA_range l m).resolve_right hbit
        clear hbit
        go_wp2_with fail
        go_roundw
        case measure => simp [intOf]; omega
        case rel =>
          refine ⟨m + 1, by go_num, ⟨by have := HH.out.1; omega, fun j h1 h2 h3 => ?_⟩, HW2.out⟩
          by_cases hj : j < m
          · exact HH.out.2 j h1 hj h3
          · rw [show j = m by omega]
            exact HZ.out
    · have hm1 : decide ((m : Int) < 128) = false := decide_eq_false (by omega)
      have hr : rightA v l = decide (0 < widthA v) := by
        unfold rightA
        rw [(clearA_iff l (widthA v)).2 (fun j h1 h2 => HH.out.2 j h1 (by omega) h2), Bool.and_true]
        exact decide_eq_decide.2 ⟨fun h => Nat.pos_of_ne_zero h, fun h => Nat.ne_of_gt h⟩
      have HR := Lib.hid hr
      obtain ⟨n, hn⟩ : ∃ n, widthA v = n := ⟨_, rfl⟩
      rw [hn] at HR
      rw [hn]
      clear hr hlt hwl HH hn
      rcases Nat.eq_zero_or_pos n with h0 | h0
      · subst h0
        go_wp2_with fail
        go_ret
        rw [HR.out]
        exact ⟨rfl, below_step HBE.out HW.out⟩
      · have hd : decide ((0 : Int) < (n : Int)) = true := decide_eq_true (by omega)
        have hd2 : decide (0 < n) = true := decide_eq_true h0
        have HD2 := Lib.hid hd2
        clear hd2 h0
        go_wp2_with fail
        go_ret
        rw [HR.out, HD2.out]
        exact ⟨by simp, below_step HBE.out HW.out⟩
end Go.Proofs.YtifejiclenpfoaaDoor

/- Layer 5 (prefix): Of. -/
namespace Go.Proofs.YtifejiclenpfoaaDoor
open Go.RowKit
set_option linter.unusedVariables false
set_option linter.unusedSimpArgs false
set_option maxRecDepth 4000

end Go.Proofs.YtifejiclenpfoaaDoor

/- The document's answer for layer 5: Of. -/
namespace Go.Proofs.YtifejiclenpfoaaDoor
open Go.RowKit
set_option linter.unusedVariables false
set_option linter.unusedSimpArgs false
set_option maxRecDepth 4000

theorem pfx_byte {w : World} {g : Nat} {t : TypeId} {v b : Int} {l : List Int} (hl : B16 l) (h : w.heap[g]? = some (.cells (pfxV v l b) t (0, 0))) (i : Nat) (hi : i < 16) : w.cell? ⟨g, 1 + i, none⟩ = some (.int .u8 (rd l (i : Int))) := by
  rw [blk_cell h, Nat.add_comm]
  unfold pfxV
  rw [List.getElem?_toArray, List.getElem?_cons_succ, List.getElem?_append_left (by simp [nums, hl.len]; exact hi)]
  exact nums_get .u8 l i (by rw [hl.len]; exact hi)
end Go.Proofs.YtifejiclenpfoaaDoor

/- Slices of int of the call's own. -/
namespace Go.Proofs.YtifejiclenpfoaaDoor
open Go.RowKit
set_option linter.unusedVariables false
set_option linter.unusedSimpArgs false
set_option maxRecDepth 4000

structure RI (w : World) (A : Option Addr) (n c : Nat) (xs : List Int) : Prop where
  rv : RV w 1 A n c (nums .i64 xs)
structure OI (w : World) (base : Nat) (A : Option Addr) (n c : Nat) (xs : List Int) : Prop where
  ov : OV w base 3 1 A n c (nums .i64 xs)
section
variable {w w1 : World} {base base' : Nat} {A : Option Addr} {n c : Nat} {xs : List Int}
theorem RI.len (h : RI w A n c xs) : xs.length = n := by have := h.rv.len; simpa [nums] using this
theorem RI.cap (h : RI w A n c xs) : n ≤ c := h.rv.cap
theorem RI.small (h : RI w A n c xs) : n ≤ 281474976710656 := h.rv.small
theorem RI.at_ (h : RI w A n c xs) (i : Int) (h0 : 0 ≤ i) (h1 : i < n) : ∃ ad, A = some ad ∧ w.cell? (ad.add i.toNat) = some (.int .i64 (rd xs i)) := by
  obtain ⟨ad, e, hc⟩ := h.rv.cells (by omega)
  exact ⟨ad, e, hc _ _ (nums_get _ _ _ (by have := h.len; omega))⟩
theorem RI.below (h : RI w A n c xs) (hb : Below w.heap.size w w1) : RI w1 A n c xs := ⟨h.rv.below hb⟩
theorem RI.grown (h : RI w A n c xs) {row : Option Nat} (hg : w.grownBy w1 row) (hne : ∀ ad, A = some ad → some ad.block ≠ row) : RI w1 A n c xs := ⟨h.rv.grown hg hne⟩
theorem OI.len (h : OI w base A n c xs) : xs.length = n := by have := h.ov.len; simpa [nums] using this
theorem OI.cap (h : OI w base A n c xs) : n ≤ c := h.ov.cap
theorem OI.small (h : OI w base A n c xs) : n ≤ 281474976710656 := h.ov.small
theorem OI.base_ (h : OI w base A n c xs) : ∀ ad, A = some ad → base ≤ ad.block := h.ov.base_
theorem OI.lt (h : OI w base A n c xs) : ∀ ad, A = some ad → ad.block < w.heap.size := h.ov.lt
theorem OI.reads (h : OI w base A n c xs) : RI w A n c xs := ⟨h.ov.reads⟩
theorem OI.lower (h : OI w base A n c xs) (hb : base' ≤ base) : OI w base' A n c xs := ⟨h.ov.lower hb⟩
theorem OI.grown (h : OI w base A n c xs) {row : Option Nat} (hg : w.grownBy w1 row) (hne : ∀ ad, A = some ad → some ad.block ≠ row) : OI w1 base A n c xs := ⟨h.ov.grown hg hne⟩
theorem OI.below (h : OI w base A n c xs) (hb : Below w.heap.size w w1) : OI w1 base A n c xs := ⟨h.ov.below hb⟩
end
theorem OI.new (W : World) (base : Nat) (xs : List Int) (hb : base ≤ W.heap.size) (hn : xs.length ≤ 281474976710656) :
    OI (W.alloc (.cells (nums .i64 xs).toArray 3)) base (some ⟨W.heap.size, 0, none⟩) xs.length xs.length xs :=
  ⟨by have := OV.new W base 3 1 (nums .i64 xs).toArray xs.length hb (by simp [nums]) hn; simpa using this⟩
theorem RI.one (W : World) (y : Int) : RI (W.alloc (.cells #[.int .i64 y] 3)) (some ⟨W.heap.size, 0, none⟩) 1 1 [y] := (OI.new W 0 [y] (by omega) (by simp)).reads
end Go.Proofs.YtifejiclenpfoaaDoor

/- Layer 5 (prefix): Compare. -/
namespace Go.Proofs.YtifejiclenpfoaaDoor
open Go.RowKit
set_option linter.unusedVariables false
set_option linter.unusedSimpArgs false
set_option maxRecDepth 4000

theorem rb_pfx {w : World} {g : Nat} {t : TypeId} {v b : Int} {l : List Int} (hl : B16 l) (h : w.heap[g]? = some (.cells (pfxV v l b) t (0, 0))) : RB w (some ⟨g, 1, none⟩) 16 16 l :=
  ⟨⟨by simp [nums, hl.len], Nat.le_refl _, by omega, fun _ => ⟨_, rfl, fun j u hj => by
    have hlt := (List.getElem?_eq_some_iff.1 hj).1
    simp only [nums, List.length_map, hl.len] at hlt
    rw [nums_get _ _ _ (by rw [hl.len]; exact hlt)] at hj
    rw [add_spot _ rfl, ← hj]
    exact pfx_byte hl h j hlt⟩⟩, hl.rng⟩
end Go.Proofs.YtifejiclenpfoaaDoor

/- Layer 9 (table): against, hop, and the closure of place. -/
namespace Go.Proofs.YtifejiclenpfoaaDoor
open Go.RowKit
set_option linter.unusedVariables false
set_option linter.unusedSimpArgs false
set_option maxRecDepth 4000

end Go.Proofs.YtifejiclenpfoaaDoor

/- Layer 9 (table): the place of a prefix. -/
namespace Go.Proofs.YtifejiclenpfoaaDoor
open Go.RowKit
set_option linter.unusedVariables false
set_option linter.unusedSimpArgs false
set_option maxRecDepth 4000

end Go.Proofs.YtifejiclenpfoaaDoor

/- Layer 9 (table): Check. -/
namespace Go.Proofs.YtifejiclenpfoaaDoor
open Go.RowKit
set_option linter.unusedVariables false
set_option linter.unusedSimpArgs false
set_option maxRecDepth 4000

end Go.Proofs.YtifejiclenpfoaaDoor

/- The library's functions over slices, at rows. -/
namespace Go.Proofs.YtifejiclenpfoaaDoor
open Go.RowKit
set_option linter.unusedVariables false
set_option linter.unusedSimpArgs false
set_option maxRecDepth 4000
end Go.Proofs.YtifejiclenpfoaaDoor

/- Two rows of the call's own, appended to by turns. -/
namespace Go.Proofs.YtifejiclenpfoaaDoor
open Go.RowKit
set_option linter.unusedVariables false
set_option linter.unusedSimpArgs false
set_option maxRecDepth 4000
def Apart (A1 A2 : Option Addr) : Prop := ∀ a b, A1 = some a → A2 = some b → a.block ≠ b.block
theorem Apart.symm {A1 A2 : Option Addr} (h : Apart A1 A2) : Apart A2 A1 := fun a b ha hb e => h b a hb ha e.symm
theorem own_of {A : Option Addr} {n c k : Nat} (h : (Value.slice A n c).ownBlock = some k) : ∃ ad, A = some ad ∧ ad.block = k := by
  cases A with
  | none => cases h
  | some ad =>
    injection h with h
    exact ⟨ad, rfl, h⟩
end Go.Proofs.YtifejiclenpfoaaDoor

/- The document's answer for layer 5: Compare. -/
namespace Go.Proofs.YtifejiclenpfoaaDoor
open Go.RowKit
set_option linter.unusedVariables false
set_option linter.unusedSimpArgs false
set_option maxRecDepth 4000

end Go.Proofs.YtifejiclenpfoaaDoor

/- The document's answer for layer 5 (junctionboxref05): Right. -/
namespace Go.Proofs.YtifejiclenpfoaaDoor
open Go.RowKit
set_option linter.unusedVariables false
set_option linter.unusedSimpArgs false
set_option maxRecDepth 4000

set_option maxHeartbeats 2000000 in
theorem right_any (v : Int) (l : List Int) (b : Int) (w : World) (hl : B16 l) (hb1 : b ≤ 9223372036854775807) : Calls Tryd.prog 94 #[.agg (pfxV v l b)] w fun e w' => e = .returned (.bool (rightP v l b)) ∧ Below w.heap.size w w' := by
  have hpa := pfx_at hl (blk_new w (.cells (pfxV v l b) 102))
  have hbe : Below w.heap.size w (w.alloc (.cells (pfxV v l b) 102)) := below_alloc (Below.refl _ _) _
  have HBE := Lib.hid hbe
  obtain ⟨cs, hcs⟩ : ∃ cs, pfxV v l b = cs := ⟨_, rfl⟩
  rw [hcs] at hpa HBE ⊢
  have HP := Lib.hid hpa
  clear hcs hbe hpa
  go_enter Tryd.func94, Tryd.ntmps94
  go_wp2_with fail
  refine wp_region_mix (fun w0 => Below (w.alloc (.cells cs 102)).heap.size (w.alloc (.cells cs 102)) w0) [(0, 0), (1, 0), (2, 2), (3, 0), (4, 0), (5, 0), (6, 0), (7, 0), (8, 0), (9, 0), (10, 0), (11, 0), (12, 0), (13, 0), (14, 0), (15, 2), (16, 0), (17, 0)] (by kernel_rfl) (by kernel_rfl) (below_drew1 _) ?_
  simp only [List.map_cons, List.map_nil]
  iterate 1 (refine wpO_step0 rfl rfl (fun K hK => ?_); go_simp; refine hK _ _ ?_; clear hK K)
  refine wpO_loadW (t := 100) (ad := ⟨w.heap.size, 0, none⟩) rfl rfl ?hw rfl rfl (fun w0 hS => (HP.out.all w0 hS).1) ?_
  case hw => go_simp
  refine wpO_step2 rfl rfl (below_drew1 _) (fun K hK => ?_)
  go_simp
  refine (rightAddr_any v l _ hl).mono ?_
  rintro e w1 ⟨rfl, hbb1⟩
  have HS1 := Lib.hid (below_step (below_drew1 _) hbb1)
  clear hbb1
  refine hK _ _ ⟨HS1.out, ?_⟩
  clear hK K
  cases hA : rightA v l with
  | false =>
    have HE : Hid (rightP v l b = false) := by unfold rightP; rw [hA]; rfl
    clear hA
    repeat first | (refine wpO_step0 rfl rfl (fun K hK => ?_); go_simp; refine hK _ _ ?_; clear hK K) | (refine wpO_step2 rfl rfl HS1.out (fun K hK => ?_); go_simp; refine hK _ _ ⟨HS1.out, ?_⟩; clear hK K)
    refine wpO_nil ?_
    go_wp2
    go_ret
    rw [HE.out]
    exact ⟨rfl, below_step HBE.out HS1.out⟩
  | true =>
    iterate 3 (refine wpO_step0 rfl rfl (fun K hK => ?_); go_simp; refine hK _ _ ?_; clear hK K)
    refine wpO_loadW (t := 3) (ad := ⟨w.heap.size, 17, none⟩) rfl rfl ?hw rfl rfl (fun w0 hS => (HP.out.all w0 hS).2.1) ?_
    case hw => go_simp
    by_cases hb0 : b < 0
    · have HE : Hid (rightP v l b = false) := by
        unfold rightP
        rw [decide_eq_false (show ¬ 0 ≤ b by omega)]
        cases rightA v l <;> rfl
      clear hA
      repeat first | (refine wpO_step0 rfl rfl (fun K hK => ?_); go_simp; refine hK _ _ ?_; clear hK K) | (refine wpO_step2 rfl rfl HS1.out (fun K hK => ?_); go_simp; refine hK _ _ ⟨HS1.out, ?_⟩; clear hK K)
      refine wpO_nil ?_
      go_wp2
      go_ret
      rw [HE.out]
      exact ⟨rfl, below_step HBE.out HS1.out⟩
    · have hb0' : 0 ≤ b := by omega
      clear hb0
      iterate 4 (refine wpO_step0 rfl rfl (fun K hK => ?_); go_simp; refine hK _ _ ?_; clear hK K)
      refine wpO_loadW (t := 3) (ad := ⟨w.heap.size, 17, none⟩) rfl rfl ?hw rfl rfl (fun w0 hS => (HP.out.all w0 hS).2.1) ?_
      case hw => go_simp
      iterate 2 (refine wpO_step0 rfl rfl (fun K hK => ?_); go_simp; refine hK _ _ ?_; clear hK K)
      refine wpO_loadW (t := 3) (ad := ⟨w.heap.size, 0, none⟩) rfl rfl ?hw rfl rfl (fun w0 hS => (HP.out.all w0 hS).2.2.1) ?_
      case hw => go_simp
      refine wpO_step2 rfl rfl HS1.out (fun K hK => ?_)
      go_simp
      refine (refwidth_any v _).mono ?_
      rintro e w2 ⟨rfl, rfl⟩
      refine hK _ _ ⟨HS1.out, ?_⟩
      clear hK K
      have hwl := widthA_le v
      by_cases hbw : (widthA v : Int) < b
      · have HE : Hid (rightP v l b = false) := by
          unfold rightP
          rw [decide_eq_false (show ¬ b ≤ widthA v by omega)]
          cases rightA v l <;> cases decide (0 ≤ b) <;> rfl
        clear hA
        repeat first | (refine wpO_step0 rfl rfl (fun K hK => ?_); go_simp; refine hK _ _ ?_; clear hK K) | (refine wpO_step2 rfl rfl HS1.out (fun K hK => ?_); go_simp; refine hK _ _ ⟨HS1.out, ?_⟩; clear hK K)
        refine wpO_nil ?_
        go_wp2
        go_ret
        rw [HE.out]
        exact ⟨rfl, below_step HBE.out HS1.out⟩
      · have hbw' : b ≤ (widthA v : Int) := by omega
        clear hbw
        obtain ⟨k, rfl⟩ := Int.eq_ofNat_of_zero_le hb0'
        have hbn : k ≤ widthA v := by omega
        have hrp : rightP v l k = clearA l k := by
          unfold rightP
          rw [show (k : Int).toNat = k by omega, hA, decide_eq_true hb0', decide_eq_true hbw']
          rfl
        have HRP := Lib.hid hrp
        have hk128 : k ≤ 128 := by omega
        clear hrp hA
        repeat (refine wpO_step0 rfl rfl (fun K hK => ?_); go_simp; refine hK _ _ ?_; clear hK K)
        refine wpO_nil ?_
        have hldb := (HP.out.all w1 HS1.out).2.1
        go_wp2_with (refine wpList_load_g hldb _ rfl rfl (by go_simp) ?_)
        clear hbn hbw' hwl hb0'
        go_loopw [3] (fun i wr => ∃ m : Nat, i = .int .i64 m ∧ Hid (k ≤ m ∧ ∀ j, k ≤ j → j < m → j < 128 → bitA l j = 0) ∧ Hid (Below (w.alloc (.cells cs 102)).heap.size (w.alloc (.cells cs 102)) wr)) (fun i _ => 128 - (intOf i).toNat)
        case atStart => exact ⟨k, rfl, ⟨Nat.le_refl _, fun j h1 h2 => by omega⟩, HS1.out⟩
        case round =>
          obtain ⟨m, rfl, HH, HW⟩ := hrel
          by_cases hlt : m < 128
          · have hld := (HP.out.all wr HW.out).2.2.2.1
            have hlt' : (m : Int) < 128 := by omega
            have HLT := Lib.hid hlt
            clear hlt hldb
            go_wp2_with (refine wpList_load_g hld _ rfl rfl (by go_simp) ?_)
            refine (refat_any l m wr hl (by omega) (by omega)).mono ?_
            rintro e w2 ⟨rfl, hb2⟩
            rw [show (m : Int).toNat = m by omega]
            have HW2 := Lib.hid (below_step HW.out hb2)
            clear hb2 hld
            by_cases hbit : bitA l m = 1
            · have hbt : (bitA l m == 1) = true := by simpa using hbit
              have hr : clearA l k = false := by
                rw [Bool.eq_false_iff]
                intro h
                have := (clearA_iff l k).1 h m HH.out.1 HLT.out
                omega
              have HR := Lib.hid hr
              clear hbit hr
              go_wp2
              go_ret
              rw [HRP.out, HR.out]
              exact ⟨rfl, below_step HBE.out HW2.out⟩
            · have hbt : (bitA l m == 1) = false := by simpa using hbit
              have HZ : Hid (bitA l m = 0) := (bitA_range l m).resolve_right hbit
              clear hbit
              go_wp2_with fail
              go_roundw
              case measure => simp [intOf]; omega
              case rel =>
                refine ⟨m + 1, by go_num, ⟨by have := HH.out.1; omega, fun j h1 h2 h3 => ?_⟩, HW2.out⟩
                by_cases hj : j < m
                · exact HH.out.2 j h1 hj h3
                · rw [show j = m by omega]
                  exact HZ.out
          · have hm1 : decide ((m : Int) < 128) = false := decide_eq_false (by omega)
            have hr : clearA l k = true := (clearA_iff l k).2 (fun j h1 h2 => HH.out.2 j h1 (by omega) h2)
            have HR := Lib.hid hr
            clear hr hlt
            go_wp2_with fail
            go_ret
            rw [HRP.out, HR.out]
            exact ⟨rfl, below_step HBE.out HW.out⟩
end Go.Proofs.YtifejiclenpfoaaDoor

/- The document's answer for layer 9: Right. -/
namespace Go.Proofs.YtifejiclenpfoaaDoor
open Go.RowKit
set_option linter.unusedVariables false
set_option linter.unusedSimpArgs false
set_option maxRecDepth 4000

def Oks (t : List Row) : Prop := ∀ r ∈ t, r.ok
theorem Oks.at_ {t : List Row} (h : Oks t) {i : Nat} (hi : i < t.length) : (rowAt t i).ok := h _ (List.mem_of_getElem? (rowAt_get hi))
end Go.Proofs.YtifejiclenpfoaaDoor

/- Arguments that are rows and tables, opened. -/
namespace Go.Proofs.YtifejiclenpfoaaDoor
open Go.ChangeShapes Go.WideShapes Go.ChangeAt Go.RowKit
set_option linter.unusedVariables false
set_option linter.unusedSimpArgs false
set_option maxRecDepth 4000
section
variable {H : Type} {enc : TypeId × Value → H} {W : World} {base : Nat} {spare : Nat → Bool} {held : Bool}
end
end Go.Proofs.YtifejiclenpfoaaDoor

/- Layer 11 (route): candidates (Rte, 21 cells) and updates (Upd, 22 cells) in memory, built, held equal. -/
namespace Go.Proofs.YtifejiclenpfoaaDoor
open Go.RowKit
set_option linter.unusedVariables false
set_option linter.unusedSimpArgs false
set_option maxRecDepth 4000
theorem loadr_bool {w : World} {ad : Addr} {v : Value} (h : w.cell? ad = some v) : (Instr.loadAt 4 (.pointer (some ad))).run Tryd.prog w = .ok v w := by
  go_simp
theorem keylr_bool (d : Nat) (f : Bool) : Tryd.prog.keyLits (d + 1) 4 [.bool f] = some [.bool f] := by
  unfold Program.keyLits
  rw [Tryd.underlying4]
structure Rte where
  p : Pfx
  s : Int
  f : Int
  h : Int
structure Upd where
  p : Pfx
  s : Int
  g : Bool
  f : Int
  h : Int
def Rte.fits (r : Rte) : Prop := B16 r.p.l
def Upd.fits (r : Upd) : Prop := B16 r.p.l

def rteC (r : Rte) : List Value := (pfxV r.p.v r.p.l r.p.b).toList ++ [.int .i64 r.s, .int .i64 r.f, .int .i64 r.h]
def rteV (r : Rte) : Array Value := (rteC r).toArray
theorem rteP_len {r : Rte} (h : r.fits) : (pfxV r.p.v r.p.l r.p.b).toList.length = 18 := by rw [Array.length_toList]; exact pfx_size h.len
theorem rteC_len {r : Rte} (h : r.fits) : (rteC r).length = 21 := by
  unfold rteC
  rw [List.length_append, rteP_len h]
  rfl
theorem rteV_size {r : Rte} (h : r.fits) : (rteV r).size = 21 := by simp [rteV, rteC_len h]
theorem rteC_one (r : Rte) : ∀ u ∈ rteC r, u.oneCell' = true := by
  intro u hu
  rcases List.mem_append.1 hu with hu | hu
  · have := pfx_one r.p.v r.p.b r.p.l
    rw [← Array.all_toList, List.all_eq_true] at this
    exact this u hu
  · simp only [List.mem_cons, List.not_mem_nil, or_false] at hu
    rcases hu with rfl | rfl | rfl <;> rfl
def rteZ : Rte := ⟨⟨0, zero16, 0⟩, 0, 0, 0⟩
theorem rteZ_fits : rteZ.fits := zero16_B
theorem zero_rte : (Tryd.prog.info? 121).map (fun i => (i.zero, i.size, i.bytes)) = some (some (.agg (rteV rteZ)), 21, 56) := by kernel_rfl
theorem info_rte {r : Rte} (h : r.fits) : (Tryd.prog.info? 121).map (·.size) = some (rteV r).size := by rw [rteV_size h]; kernel_rfl
def rteK : Shape Rte where
  t := 121
  ts := 35
  sz := 21
  bytes := 56
  z := rteZ
  ok := Rte.fits
  enc := rteC
  val := fun r => .agg (rteV r)
  len := fun _ h => rteC_len h
  one := rteC_one
  okz := rteZ_fits
  pos := by omega
  bpos := by omega
  blt := by omega
  und := Tryd.underlying35
  info := zero_rte
  venc := fun _ => rfl
  ld := fun _ _ _ r hr h => load_cells (cs := rteV r) h Tryd.underlying121 rfl (info_rte hr)
theorem rteV_one (r : Rte) : (rteV r).all (·.oneCell') = true := by
  rw [← Array.all_toList, List.all_eq_true]
  exact fun u hu => rteC_one r u (by simpa [rteV] using hu)
/-- What loads of it tell. -/
structure RteLd (w : World) (g o : Nat) (r : Rte) : Prop where
  all : (Instr.loadAt 121 (.pointer (some ⟨g, o, none⟩))).run Tryd.prog w = .ok (.agg (rteV r)) w
  pfx : (Instr.loadAt 102 (.pointer (some ⟨g, o, none⟩))).run Tryd.prog w = .ok (.agg (pfxV r.p.v r.p.l r.p.b)) w
  src : (Instr.loadAt 3 (.pointer (some ⟨g, o + 18, none⟩))).run Tryd.prog w = .ok (.int .i64 r.s) w
  prf : (Instr.loadAt 3 (.pointer (some ⟨g, o + 19, none⟩))).run Tryd.prog w = .ok (.int .i64 r.f) w
  hop : (Instr.loadAt 3 (.pointer (some ⟨g, o + 20, none⟩))).run Tryd.prog w = .ok (.int .i64 r.h) w
theorem rteLd_of {w : World} {g o : Nat} {r : Rte} (hf : r.fits) (h : CellsAt w g o (rteC r)) : RteLd w g o r := by
  have h1 : CellsAt w g o (pfxV r.p.v r.p.l r.p.b).toList := h.left
  have h2 : CellsAt w g (o + 18) [.int .i64 r.s, .int .i64 r.f, .int .i64 r.h] := by
    have := h.right
    rw [rteP_len hf] at this
    exact this
  exact ⟨load_cells (cs := rteV r) h Tryd.underlying121 rfl (info_rte hf), load_cells h1 Tryd.underlying102 rfl (info_pfx hf.len), load_int (h2 0 _ rfl), load_int (h2 1 _ rfl), load_int (h2 2 _ rfl)⟩
structure RteAt (w : World) (g : Nat) (r : Rte) : Prop where
  all : ∀ w0, Below w.heap.size w w0 → RteLd w0 g 0 r
theorem rte_at {w : World} {g : Nat} {t : TypeId} {r : Rte} (hr : r.fits) (h : w.heap[g]? = some (.cells (rteV r) t (0, 0))) : RteAt w g r :=
  ⟨fun w0 hb => rteLd_of hr (cells_blk (blk_below h hb))⟩
structure Rte.ok (r : Rte) : Prop where
  p : r.p.ok
  s : (Lit.int .i64 r.s).wf = true
  f : (Lit.int .i64 r.f).wf = true
  h : (Lit.int .i64 r.h).wf = true
theorem Rte.ok.fits {r : Rte} (h : r.ok) : r.fits := h.p.l
def Rte.eqB (r s : Rte) : Bool := r.p.eqB s.p && decide (r.s = s.s) && decide (r.f = s.f) && decide (r.h = s.h)
theorem Rte.eqB_iff (r s : Rte) : r.eqB s = true ↔ r = s := by
  unfold Rte.eqB
  simp only [Bool.and_eq_true, decide_eq_true_eq, Pfx.eqB_iff, beq_iff_eq]
  constructor
  · rintro h
    cases r; cases s
    simp_all
  · rintro rfl
    simp
theorem keyl_rte (r : Rte) (h : r.ok) : Tryd.prog.keyLits 5 121 (rteV r).toList = some ((.int .i64 r.p.v :: lits .u8 r.p.l ++ [.int .i64 r.p.b]) ++ [.int .i64 r.s, .int .i64 r.f, .int .i64 r.h]) := by
  unfold Program.keyLits
  rw [Tryd.underlying121]
  simp only
  rw [if_pos ⟨by rw [show (rteV r).toList.length = 21 by rw [Array.length_toList, rteV_size h.fits]]; kernel_rfl, by kernel_rfl⟩]
  have c1 : Tryd.prog.cellsOf 102 = 18 := by kernel_rfl
  have c2 : Tryd.prog.cellsOf 3 = 1 := by kernel_rfl
  have e0 : (rteV r).toList = (pfxV r.p.v r.p.l r.p.b).toList ++ [.int .i64 r.s, .int .i64 r.f, .int .i64 r.h] := rfl
  have hl18 := rteP_len h.fits
  have e1 : (rteV r).toList.take 18 = (pfxV r.p.v r.p.l r.p.b).toList := by rw [e0, List.take_left' hl18]
  have e2 : ((rteV r).toList.drop 18).take 1 = [.int .i64 r.s] := by rw [e0, List.drop_append, hl18, List.drop_of_length_le (by rw [hl18]; omega)]; rfl
  have e3 : ((rteV r).toList.drop 19).take 1 = [.int .i64 r.f] := by rw [e0, List.drop_append, hl18, List.drop_of_length_le (by rw [hl18]; omega)]; rfl
  have e4 : ((rteV r).toList.drop 20).take 1 = [.int .i64 r.h] := by rw [e0, List.drop_append, hl18, List.drop_of_length_le (by rw [hl18]; omega)]; rfl
  simp only [List.mapM_cons, List.mapM_nil, c1, c2, List.drop_zero]
  rw [e1, e2, e3, e4, keyl_pfx _ _ _ h.p.l h.p.v h.p.b, keyl_int 3 r.s h.s, keyl_int 3 r.f h.f, keyl_int 3 r.h h.h]
  simp
theorem rte_formed (r : Rte) (h : r.fits) : (Value.agg (rteV r)).formed Tryd.prog 121 = true := by
  simp only [Value.formed, Tryd.underlying121, rteV_size h]
  kernel_rfl
theorem rte_equal (r s : Rte) (hr : r.ok) (hs : s.ok) (w : World) : (Op.equal 121 (.agg (rteV r)) (.agg (rteV s))).run Tryd.prog w = .ok (r.eqB s) w := by
  obtain ⟨b, hb, hiff⟩ := run_equalIn_deep (P := Tryd.prog) 9995 5 121 (by kernel_rfl) w 5 5 (.agg (rteV r)) (.agg (rteV s)) _ _ (rte_formed _ hr.fits) (rte_formed _ hs.fits) (keyl_rte r hr) (keyl_rte s hs)
  have h2 : (Op.equal 121 (.agg (rteV r)) (.agg (rteV s))).run Tryd.prog w = .ok b w := hb
  suffices hs2 : b = r.eqB s by rw [h2, hs2]
  rw [Bool.eq_iff_iff, hiff, Rte.eqB_iff]
  constructor
  · intro h
    obtain ⟨h1, h2⟩ := List.append_inj h (by simp [lits, hr.p.l.len, hs.p.l.len])
    simp only [List.cons_append, List.cons.injEq, Lit.int.injEq, Lit.bool.injEq, true_and, and_true] at h1 h2
    obtain ⟨h3, h4⟩ := h1
    obtain ⟨h5, h6⟩ := List.append_inj h4 (by simp [lits, hr.p.l.len, hs.p.l.len])
    simp only [List.cons.injEq, Lit.int.injEq, true_and, and_true] at h6
    obtain ⟨⟨a, b, c⟩, d0, d1, d2⟩ := r
    obtain ⟨⟨a', b', c'⟩, e0, e1, e2⟩ := s
    simp only at h2 h3 h5 h6
    obtain ⟨k0, k1, k2⟩ := h2
    rw [h3, lits_inj h5, h6, k0, k1, k2]
  · rintro rfl
    rfl
section
variable {r : Operand → Value} {o : Oper} {x y : Operand} {ty : TypeId}
theorem rte_eql_exec (ho : o.op = .binOp .eql 121 x y ty) (p q : Rte) (hx : r x = .agg (rteV p)) (hy : r y = .agg (rteV q)) (hp : p.ok) (hq : q.ok) (w : World) : (execOp r o).run Tryd.prog w = .ok (.value (.bool (p.eqB q))) w :=
  exec_eql 121 (by kernel_rfl) ho _ _ hx hy w (rte_equal p q hp hq w)
theorem rte_neq_exec (ho : o.op = .binOp .neq 121 x y ty) (p q : Rte) (hx : r x = .agg (rteV p)) (hy : r y = .agg (rteV q)) (hp : p.ok) (hq : q.ok) (w : World) : (execOp r o).run Tryd.prog w = .ok (.value (.bool (!p.eqB q))) w :=
  exec_neq 121 (by kernel_rfl) ho _ _ hx hy w (rte_equal p q hp hq w)
end
def rteE : ShapeEq rteK where
  okE := Rte.ok
  eqB := Rte.eqB
  iff := Rte.eqB_iff
  eql := fun ho a b hx hy ha hb w => rte_eql_exec ho a b hx hy ha hb w
  neq := fun ho a b hx hy ha hb w => rte_neq_exec ho a b hx hy ha hb w
theorem store_rte_fit {cs : Array Value} {r : Rte} (hf : r.fits) (h : cs.size = 21) : 0 + (rteV r).size ≤ cs.size := by rw [rteV_size hf, h]; omega
theorem splice_rte {cs : Array Value} {r : Rte} (hf : r.fits) (h : cs.size = 21) : splice cs 0 (rteV r).toList = rteV r := splice_all _ _ (by rw [Array.length_toList, rteV_size hf, h])

def updC (r : Upd) : List Value := (pfxV r.p.v r.p.l r.p.b).toList ++ [.int .i64 r.s, .bool r.g, .int .i64 r.f, .int .i64 r.h]
def updV (r : Upd) : Array Value := (updC r).toArray
theorem updP_len {r : Upd} (h : r.fits) : (pfxV r.p.v r.p.l r.p.b).toList.length = 18 := by rw [Array.length_toList]; exact pfx_size h.len
theorem updC_len {r : Upd} (h : r.fits) : (updC r).length = 22 := by
  unfold updC
  rw [List.length_append, updP_len h]
  rfl
theorem updV_size {r : Upd} (h : r.fits) : (updV r).size = 22 := by simp [updV, updC_len h]
theorem updC_one (r : Upd) : ∀ u ∈ updC r, u.oneCell' = true := by
  intro u hu
  rcases List.mem_append.1 hu with hu | hu
  · have := pfx_one r.p.v r.p.b r.p.l
    rw [← Array.all_toList, List.all_eq_true] at this
    exact this u hu
  · simp only [List.mem_cons, List.not_mem_nil, or_false] at hu
    rcases hu with rfl | rfl | rfl | rfl <;> rfl
def updZ : Upd := ⟨⟨0, zero16, 0⟩, 0, false, 0, 0⟩
theorem updZ_fits : updZ.fits := zero16_B
theorem zero_upd : (Tryd.prog.info? 104).map (fun i => (i.zero, i.size, i.bytes)) = some (some (.agg (updV updZ)), 22, 64) := by kernel_rfl
theorem info_upd {r : Upd} (h : r.fits) : (Tryd.prog.info? 104).map (·.size) = some (updV r).size := by rw [updV_size h]; kernel_rfl
def updK : Shape Upd where
  t := 104
  ts := 23
  sz := 22
  bytes := 64
  z := updZ
  ok := Upd.fits
  enc := updC
  val := fun r => .agg (updV r)
  len := fun _ h => updC_len h
  one := updC_one
  okz := updZ_fits
  pos := by omega
  bpos := by omega
  blt := by omega
  und := Tryd.underlying23
  info := zero_upd
  venc := fun _ => rfl
  ld := fun _ _ _ r hr h => load_cells (cs := updV r) h Tryd.underlying104 rfl (info_upd hr)
theorem updV_one (r : Upd) : (updV r).all (·.oneCell') = true := by
  rw [← Array.all_toList, List.all_eq_true]
  exact fun u hu => updC_one r u (by simpa [updV] using hu)
/-- What loads of it tell. -/
structure UpdLd (w : World) (g o : Nat) (r : Upd) : Prop where
  all : (Instr.loadAt 104 (.pointer (some ⟨g, o, none⟩))).run Tryd.prog w = .ok (.agg (updV r)) w
  pfx : (Instr.loadAt 102 (.pointer (some ⟨g, o, none⟩))).run Tryd.prog w = .ok (.agg (pfxV r.p.v r.p.l r.p.b)) w
  src : (Instr.loadAt 3 (.pointer (some ⟨g, o + 18, none⟩))).run Tryd.prog w = .ok (.int .i64 r.s) w
  gon : (Instr.loadAt 4 (.pointer (some ⟨g, o + 19, none⟩))).run Tryd.prog w = .ok (.bool r.g) w
  prf : (Instr.loadAt 3 (.pointer (some ⟨g, o + 20, none⟩))).run Tryd.prog w = .ok (.int .i64 r.f) w
  hop : (Instr.loadAt 3 (.pointer (some ⟨g, o + 21, none⟩))).run Tryd.prog w = .ok (.int .i64 r.h) w
theorem updLd_of {w : World} {g o : Nat} {r : Upd} (hf : r.fits) (h : CellsAt w g o (updC r)) : UpdLd w g o r := by
  have h1 : CellsAt w g o (pfxV r.p.v r.p.l r.p.b).toList := h.left
  have h2 : CellsAt w g (o + 18) [.int .i64 r.s, .bool r.g, .int .i64 r.f, .int .i64 r.h] := by
    have := h.right
    rw [updP_len hf] at this
    exact this
  exact ⟨load_cells (cs := updV r) h Tryd.underlying104 rfl (info_upd hf), load_cells h1 Tryd.underlying102 rfl (info_pfx hf.len), load_int (h2 0 _ rfl), loadr_bool (h2 1 _ rfl), load_int (h2 2 _ rfl), load_int (h2 3 _ rfl)⟩
structure UpdAt (w : World) (g : Nat) (r : Upd) : Prop where
  all : ∀ w0, Below w.heap.size w w0 → UpdLd w0 g 0 r
theorem upd_at {w : World} {g : Nat} {t : TypeId} {r : Upd} (hr : r.fits) (h : w.heap[g]? = some (.cells (updV r) t (0, 0))) : UpdAt w g r :=
  ⟨fun w0 hb => updLd_of hr (cells_blk (blk_below h hb))⟩
structure Upd.ok (r : Upd) : Prop where
  p : r.p.ok
  s : (Lit.int .i64 r.s).wf = true
  f : (Lit.int .i64 r.f).wf = true
  h : (Lit.int .i64 r.h).wf = true
theorem Upd.ok.fits {r : Upd} (h : r.ok) : r.fits := h.p.l
def Upd.eqB (r s : Upd) : Bool := r.p.eqB s.p && decide (r.s = s.s) && (r.g == s.g) && decide (r.f = s.f) && decide (r.h = s.h)
theorem Upd.eqB_iff (r s : Upd) : r.eqB s = true ↔ r = s := by
  unfold Upd.eqB
  simp only [Bool.and_eq_true, decide_eq_true_eq, Pfx.eqB_iff, beq_iff_eq]
  constructor
  · rintro h
    cases r; cases s
    simp_all
  · rintro rfl
    simp
theorem keyl_upd (r : Upd) (h : r.ok) : Tryd.prog.keyLits 5 104 (updV r).toList = some ((.int .i64 r.p.v :: lits .u8 r.p.l ++ [.int .i64 r.p.b]) ++ [.int .i64 r.s, .bool r.g, .int .i64 r.f, .int .i64 r.h]) := by
  unfold Program.keyLits
  rw [Tryd.underlying104]
  simp only
  rw [if_pos ⟨by rw [show (updV r).toList.length = 22 by rw [Array.length_toList, updV_size h.fits]]; kernel_rfl, by kernel_rfl⟩]
  have c1 : Tryd.prog.cellsOf 102 = 18 := by kernel_rfl
  have c2 : Tryd.prog.cellsOf 3 = 1 := by kernel_rfl
  have c3 : Tryd.prog.cellsOf 4 = 1 := by kernel_rfl
  have e0 : (updV r).toList = (pfxV r.p.v r.p.l r.p.b).toList ++ [.int .i64 r.s, .bool r.g, .int .i64 r.f, .int .i64 r.h] := rfl
  have hl18 := updP_len h.fits
  have e1 : (updV r).toList.take 18 = (pfxV r.p.v r.p.l r.p.b).toList := by rw [e0, List.take_left' hl18]
  have e2 : ((updV r).toList.drop 18).take 1 = [.int .i64 r.s] := by rw [e0, List.drop_append, hl18, List.drop_of_length_le (by rw [hl18]; omega)]; rfl
  have e3 : ((updV r).toList.drop 19).take 1 = [.bool r.g] := by rw [e0, List.drop_append, hl18, List.drop_of_length_le (by rw [hl18]; omega)]; rfl
  have e4 : ((updV r).toList.drop 20).take 1 = [.int .i64 r.f] := by rw [e0, List.drop_append, hl18, List.drop_of_length_le (by rw [hl18]; omega)]; rfl
  have e5 : ((updV r).toList.drop 21).take 1 = [.int .i64 r.h] := by rw [e0, List.drop_append, hl18, List.drop_of_length_le (by rw [hl18]; omega)]; rfl
  simp only [List.mapM_cons, List.mapM_nil, c1, c2, c3, List.drop_zero]
  rw [e1, e2, e3, e4, e5, keyl_pfx _ _ _ h.p.l h.p.v h.p.b, keyl_int 3 r.s h.s, keylr_bool 3 r.g, keyl_int 3 r.f h.f, keyl_int 3 r.h h.h]
  simp
theorem upd_formed (r : Upd) (h : r.fits) : (Value.agg (updV r)).formed Tryd.prog 104 = true := by
  simp only [Value.formed, Tryd.underlying104, updV_size h]
  kernel_rfl
theorem upd_equal (r s : Upd) (hr : r.ok) (hs : s.ok) (w : World) : (Op.equal 104 (.agg (updV r)) (.agg (updV s))).run Tryd.prog w = .ok (r.eqB s) w := by
  obtain ⟨b, hb, hiff⟩ := run_equalIn_deep (P := Tryd.prog) 9995 5 104 (by kernel_rfl) w 5 5 (.agg (updV r)) (.agg (updV s)) _ _ (upd_formed _ hr.fits) (upd_formed _ hs.fits) (keyl_upd r hr) (keyl_upd s hs)
  have h2 : (Op.equal 104 (.agg (updV r)) (.agg (updV s))).run Tryd.prog w = .ok b w := hb
  suffices hs2 : b = r.eqB s by rw [h2, hs2]
  rw [Bool.eq_iff_iff, hiff, Upd.eqB_iff]
  constructor
  · intro h
    obtain ⟨h1, h2⟩ := List.append_inj h (by simp [lits, hr.p.l.len, hs.p.l.len])
    simp only [List.cons_append, List.cons.injEq, Lit.int.injEq, Lit.bool.injEq, true_and, and_true] at h1 h2
    obtain ⟨h3, h4⟩ := h1
    obtain ⟨h5, h6⟩ := List.append_inj h4 (by simp [lits, hr.p.l.len, hs.p.l.len])
    simp only [List.cons.injEq, Lit.int.injEq, true_and, and_true] at h6
    obtain ⟨⟨a, b, c⟩, d0, d1, d2, d3⟩ := r
    obtain ⟨⟨a', b', c'⟩, e0, e1, e2, e3⟩ := s
    simp only at h2 h3 h5 h6
    obtain ⟨k0, k1, k2, k3⟩ := h2
    rw [h3, lits_inj h5, h6, k0, k1, k2, k3]
  · rintro rfl
    rfl
section
variable {r : Operand → Value} {o : Oper} {x y : Operand} {ty : TypeId}
theorem upd_eql_exec (ho : o.op = .binOp .eql 104 x y ty) (p q : Upd) (hx : r x = .agg (updV p)) (hy : r y = .agg (updV q)) (hp : p.ok) (hq : q.ok) (w : World) : (execOp r o).run Tryd.prog w = .ok (.value (.bool (p.eqB q))) w :=
  exec_eql 104 (by kernel_rfl) ho _ _ hx hy w (upd_equal p q hp hq w)
theorem upd_neq_exec (ho : o.op = .binOp .neq 104 x y ty) (p q : Upd) (hx : r x = .agg (updV p)) (hy : r y = .agg (updV q)) (hp : p.ok) (hq : q.ok) (w : World) : (execOp r o).run Tryd.prog w = .ok (.value (.bool (!p.eqB q))) w :=
  exec_neq 104 (by kernel_rfl) ho _ _ hx hy w (upd_equal p q hp hq w)
end
def updE : ShapeEq updK where
  okE := Upd.ok
  eqB := Upd.eqB
  iff := Upd.eqB_iff
  eql := fun ho a b hx hy ha hb w => upd_eql_exec ho a b hx hy ha hb w
  neq := fun ho a b hx hy ha hb w => upd_neq_exec ho a b hx hy ha hb w
theorem store_upd_fit {cs : Array Value} {r : Upd} (hf : r.fits) (h : cs.size = 22) : 0 + (updV r).size ≤ cs.size := by rw [updV_size hf, h]; omega
theorem splice_upd {cs : Array Value} {r : Upd} (hf : r.fits) (h : cs.size = 22) : splice cs 0 (updV r).toList = updV r := splice_all _ _ (by rw [Array.length_toList, updV_size hf, h])
end Go.Proofs.YtifejiclenpfoaaDoor

/- Plain laws of lists in order by a key (rows of numbers): the place, put, take away; the document's way of putting. -/
namespace Go.Proofs.YtifejiclenpfoaaDoor
set_option linter.unusedVariables false
set_option linter.unusedSimpArgs false
set_option maxRecDepth 4000
section
variable {α : Type} (K : α → List Int)
variable {K}
end
end Go.Proofs.YtifejiclenpfoaaDoor

/- Plain laws of layer 11 (route): batches, RIBs, and what comes of a RIB behind a batch. -/
namespace Go.Proofs.YtifejiclenpfoaaDoor
set_option linter.unusedVariables false
set_option linter.unusedSimpArgs false
set_option maxRecDepth 4000
set_option maxRecDepth 4000

abbrev rteAt (l : List Rte) (i : Nat) : Rte := l.getD i rteZ
abbrev updAt (l : List Upd) (i : Nat) : Upd := l.getD i updZ
theorem getD_get {α : Type} {l : List α} {i : Nat} {z : α} (h : i < l.length) : l[i]? = some (l.getD i z) := by
  rw [List.getD_eq_getElem?_getD, List.getElem?_eq_getElem h]
  rfl
theorem getD_mem {α : Type} {l : List α} {i : Nat} {z : α} (h : i < l.length) : l.getD i z ∈ l := List.mem_of_getElem? (getD_get h)
theorem take_getD {α : Type} {l : List α} {i : Nat} (z : α) (h : i < l.length) : l.take (i + 1) = l.take i ++ [l.getD i z] := by
  rw [List.take_add_one, getD_get (z := z) h]
  rfl
def Rte.key (r : Rte) : List Int := r.p.row ++ [r.s]
def Upd.rte (u : Upd) : Rte := ⟨u.p, u.s, u.f, u.h⟩
def Okr (l : List Rte) : Prop := ∀ r ∈ l, r.ok
def Oku (l : List Upd) : Prop := ∀ u ∈ l, u.ok
theorem Okr.at_ {l : List Rte} (h : Okr l) {i : Nat} (hi : i < l.length) : (rteAt l i).ok := h _ (getD_mem hi)
theorem Oku.at_ {l : List Upd} (h : Oku l) {i : Nat} (hi : i < l.length) : (updAt l i).ok := h _ (getD_mem hi)
theorem Upd.ok.rte {u : Upd} (h : u.ok) : u.rte.ok := ⟨h.p, h.s, h.f, h.h⟩
def fitB (p : Pfx) (s f h : Int) : Bool := p.right && decide (1 ≤ s) && decide (s ≤ 4) && decide (0 ≤ f) && decide (f ≤ 255) && decide (1 ≤ h) && decide (h ≤ 255)
def Rte.fit (r : Rte) : Bool := fitB r.p r.s r.f r.h
def updB (u : Upd) : Bool := if u.g then decide (u.f = 0) && decide (u.h = 0) && fitB u.p u.s 0 1 else fitB u.p u.s u.f u.h
def twin (a b : Upd) : Bool := a.p.eqB b.p && decide (a.s = b.s)
def batsB (l : List Upd) : Bool := decide (∀ j, j < l.length → updB (updAt l j) = true ∧ ∀ k, k < j → twin (updAt l k) (updAt l j) = false)
def batB (l : List Upd) : Bool := decide (1 ≤ l.length) && decide (l.length ≤ 8) && batsB l
/-! How many prefixes. -/
end Go.Proofs.YtifejiclenpfoaaDoor

/- Layer 11 (route): fits, update, the closures of CheckBatch and Best, order, better; the document's fits and ahead. -/
namespace Go.Proofs.YtifejiclenpfoaaDoor
open Go.RowKit
set_option linter.unusedVariables false
set_option linter.unusedSimpArgs false
set_option maxRecDepth 4000
structure RibAt (w : World) (g : Nat) (A : Option Addr) (n c : Nat) : Prop where
  all : ∀ w0, Below w.heap.size w w0 → (Instr.loadAt 37 (.pointer (some ⟨g, 0, none⟩))).run Tryd.prog w0 = .ok (.agg (tabV A n c)) w0 ∧ (Instr.loadAt 35 (.pointer (some ⟨g, 0, none⟩))).run Tryd.prog w0 = .ok (.slice A n c) w0
theorem load_rtes {w : World} {ad : Addr} {v : Value} (h : w.cell? ad = some v) : (Instr.loadAt 35 (.pointer (some ad))).run Tryd.prog w = .ok v w := by
  go_simp
theorem load_upds {w : World} {ad : Addr} {v : Value} (h : w.cell? ad = some v) : (Instr.loadAt 23 (.pointer (some ad))).run Tryd.prog w = .ok v w := by
  go_simp
theorem rib_at {w : World} {g : Nat} {A : Option Addr} {n c : Nat} (h : w.heap[g]? = some (.cells (tabV A n c) 37 (0, 0))) : RibAt w g A n c := by
  refine ⟨fun w0 hb => ?_⟩
  have h0 := cells_blk (blk_below h hb)
  exact ⟨load_cells h0 Tryd.underlying37 rfl (by kernel_rfl), load_rtes (h0 0 _ rfl)⟩
structure BatAt (w : World) (g : Nat) (A : Option Addr) (n c : Nat) : Prop where
  all : ∀ w0, Below w.heap.size w w0 → (Instr.loadAt 25 (.pointer (some ⟨g, 0, none⟩))).run Tryd.prog w0 = .ok (.agg (tabV A n c)) w0 ∧ (Instr.loadAt 23 (.pointer (some ⟨g, 0, none⟩))).run Tryd.prog w0 = .ok (.slice A n c) w0
theorem bat_at {w : World} {g : Nat} {A : Option Addr} {n c : Nat} (h : w.heap[g]? = some (.cells (tabV A n c) 25 (0, 0))) : BatAt w g A n c := by
  refine ⟨fun w0 hb => ?_⟩
  have h0 := cells_blk (blk_below h hb)
  exact ⟨load_cells h0 Tryd.underlying25 rfl (by kernel_rfl), load_upds (h0 0 _ rfl)⟩
theorem built_rte (p : Pfx) (s f h : Int) (hl : p.l.length = 16) : Tryd.prog.built 121 [(0, .agg (pfxV p.v p.l p.b)), (1, .int .i64 s), (2, .int .i64 f), (3, .int .i64 h)] = some (rteV ⟨p, s, f, h⟩) := by
  obtain ⟨a, b, c, d, e, f, g, h1, i, j, k, m, n, o, q, r, hh⟩ := len16 hl
  obtain ⟨v, l, x⟩ := p
  simp only at hh
  subst hh
  kernel_rfl
theorem run_build_rte (w : World) (p : Pfx) (s f h : Int) (hl : p.l.length = 16) : (Instr.build 121 #[(0, .agg (pfxV p.v p.l p.b)), (1, .int .i64 s), (2, .int .i64 f), (3, .int .i64 h)]).run Tryd.prog w = .ok (.agg (rteV ⟨p, s, f, h⟩)) w := run_build w _ _ _ (built_rte p s f h hl)
/-! Two prefixes held equal: what the comparison yields. -/
theorem pfx_eq_hex {p q : Pfx} {b : Bool} (hp : p.ok) (hq : q.ok) (h : p.eqB q = b) (r : Operand → Value) (o : Oper) (x y : Operand) (ty : TypeId) (ho : o.op = .binOp .eql 102 x y ty) (hx : r x = .agg (pfxV p.v p.l p.b)) (hy : r y = .agg (pfxV q.v q.l q.b)) (w : World) : (execOp r o).run Tryd.prog w = .ok (.value (.bool b)) w := by
  rw [← h]
  exact pfx_eql_exec ho p q hx hy hp hq w
set_option maxHeartbeats 2000000 in
theorem rfits_any (p : Pfx) (s f h : Int) (w : World) (hL : Laid w) (hp : B16 p.l) : Calls Tryd.prog 93 #[.agg (pfxV p.v p.l p.b), .int .i64 s, .int .i64 f, .int .i64 h] w fun e w' => e = .returned (.bool (fitB p s f h)) ∧ Below w.heap.size w w' := by
  have hblk1 := blk_new w (.cells (pfxV p.v p.l p.b) 102)
  have hbel1 : Below w.heap.size w (w.alloc (.cells (pfxV p.v p.l p.b) 102)) := below_alloc (Below.refl _ _) _
  have HP1 := Lib.hid (pfx_at hp hblk1)
  have HBK1 := Lib.hid hblk1
  have HBE := Lib.hid hbel1
  have HL := Lib.hid (hL.below HBE.out)
  obtain ⟨cs1, hcs1⟩ : ∃ cs, pfxV p.v p.l p.b = cs := ⟨_, rfl⟩
  simp only [hcs1] at HBE HL HP1 HBK1 ⊢
  have HC1 := Lib.hid hcs1
  clear hL hcs1 hblk1 hbel1
  have hl0 := (HP1.out.all _ (Below.refl _ _)).2.2.2.2
  rw [HC1.out] at hl0
  go_enter Tryd.func93, Tryd.ntmps93
  go_wp2_with (first | ((with_reducible show wpList _ _ _ (Oper.mk _ (Op.load _ _) _ _ _ _ :: _) _ _); refine wpList_load_g hl0 _ rfl rfl (by go_simp) ?_))
  have hck := check_any p.v p.l p.b _ HL.out hp
  rw [HC1.out] at hck
  refine hck.mono ?_
  clear hck hl0
  rintro e w1 ⟨rfl, hb1⟩
  have HB1 := Lib.hid (below_step HBE.out hb1)
  clear hb1
  cases h0 : p.right with
  | false =>
    (rw [show errP p.v p.l p.b = 151 by unfold errP; rw [show rightP p.v p.l p.b = false from h0]; rfl])
    have HV : Hid (fitB p s f h = false) := Lib.hid (by unfold fitB; simp [*])
    go_wp2_with fail
    go_ret
    rw [HV.out]
    exact ⟨rfl, HB1.out⟩
  | true =>
    (rw [show errP p.v p.l p.b = 0 by unfold errP; rw [show rightP p.v p.l p.b = true from h0]; rfl])
    by_cases g1 : 1 ≤ s
    case neg =>
      have h1 : decide (1 ≤ s) = false := decide_eq_false g1
      clear g1
      have HV : Hid (fitB p s f h = false) := Lib.hid (by unfold fitB; simp [*])
      go_wp2_with fail
      go_ret
      rw [HV.out]
      exact ⟨rfl, HB1.out⟩
    case pos =>
      have h1 : decide (1 ≤ s) = true := decide_eq_true g1
      by_cases g2 : s ≤ 4
      case neg =>
        have h2 : decide (s ≤ 4) = false := decide_eq_false g2
        clear g1 g2
        have HV : Hid (fitB p s f h = false) := Lib.hid (by unfold fitB; simp [*])
        go_wp2_with fail
        go_ret
        rw [HV.out]
        exact ⟨rfl, HB1.out⟩
      case pos =>
        have h2 : decide (s ≤ 4) = true := decide_eq_true g2
        clear g1 g2
        by_cases g3 : 0 ≤ f
        case neg =>
          have h3 : decide (0 ≤ f) = false := decide_eq_false g3
          clear g3
          have HV : Hid (fitB p s f h = false) := Lib.hid (by unfold fitB; simp [*])
          go_wp2_with fail
          go_ret
          rw [HV.out]
          exact ⟨rfl, HB1.out⟩
        case pos =>
          have h3 : decide (0 ≤ f) = true := decide_eq_true g3
          by_cases g4 : f ≤ 255
          case neg =>
            have h4 : decide (f ≤ 255) = false := decide_eq_false g4
            clear g3 g4
            have HV : Hid (fitB p s f h = false) := Lib.hid (by unfold fitB; simp [*])
            go_wp2_with fail
            go_ret
            rw [HV.out]
            exact ⟨rfl, HB1.out⟩
          case pos =>
            have h4 : decide (f ≤ 255) = true := decide_eq_true g4
            clear g3 g4
            by_cases g5 : 1 ≤ h
            case neg =>
              have h5 : decide (1 ≤ h) = false := decide_eq_false g5
              clear g5
              have HV : Hid (fitB p s f h = false) := Lib.hid (by unfold fitB; simp [*])
              go_wp2_with fail
              go_ret
              rw [HV.out]
              exact ⟨rfl, HB1.out⟩
            case pos =>
              have h5 : decide (1 ≤ h) = true := decide_eq_true g5
              cases h6 : decide (h ≤ 255) with
              | false =>
                clear g5
                have HV : Hid (fitB p s f h = false) := Lib.hid (by unfold fitB; simp [*])
                go_wp2_with fail
                go_ret
                rw [HV.out]
                exact ⟨rfl, HB1.out⟩
              | true =>
                clear g5
                have HV : Hid (fitB p s f h = true) := Lib.hid (by unfold fitB; rw [h0, h1, h2, h3, h4, h5, h6]; rfl)
                go_wp2_with fail
                go_ret
                rw [HV.out]
                exact ⟨rfl, HB1.out⟩
theorem wf64 {x : Int} (h : (Lit.int .i64 x).wf = true) : -9223372036854775808 ≤ x ∧ x ≤ 9223372036854775807 := by
  simp [Lit.wf, IntKind.min, IntKind.max, IntKind.bits, IntKind.signed] at h
  omega
set_option maxHeartbeats 2000000 in
theorem reffits_any (r : Rte) (w : World) (ho : r.ok) : Calls Tryd.prog 64 #[.agg (rteV r)] w fun e w' => e = .returned (.bool r.fit) ∧ Below w.heap.size w w' := by
  have hr := ho.fits
  have hblk1 := blk_new w (.cells (rteV r) 121)
  have hbel1 : Below w.heap.size w (w.alloc (.cells (rteV r) 121)) := below_alloc (Below.refl _ _) _
  have HP1 := Lib.hid (rte_at hr hblk1)
  have HBK1 := Lib.hid hblk1
  have HBE := Lib.hid hbel1
  obtain ⟨cs1, hcs1⟩ : ∃ cs, rteV r = cs := ⟨_, rfl⟩
  simp only [hcs1] at HBE HP1 HBK1 ⊢
  have HC1 := Lib.hid hcs1
  clear hcs1 hblk1 hbel1
  obtain ⟨p, s, f, h⟩ := r
  have HLD := Lib.hid (fun (w0 : World) (hb : Below (w.alloc (.cells cs1 121)).heap.size (w.alloc (.cells cs1 121)) w0) => HP1.out.all w0 hb)
  show Calls _ _ _ _ fun e w' => e = .returned (.bool (fitB p s f h)) ∧ _
  go_enter Tryd.func64, Tryd.ntmps64
  go_wp2_with (first | ((with_reducible show wpList _ _ _ (Oper.mk _ (Op.load _ _) _ _ _ _ :: _) _ _); refine wpList_load_g ((HLD.out _ (Below.refl _ _)).pfx) _ rfl rfl (by go_simp) ?_))
  refine (right_any p.v p.l p.b _ hr (wf64 ho.p.b).2).mono ?_
  rintro e w1 ⟨rfl, hb1⟩
  have HB1 := Lib.hid hb1
  clear hb1
  rw [show rightP p.v p.l p.b = p.right from rfl]
  cases h0 : p.right with
  | false =>
    skip
    have HV : Hid (fitB p s f h = false) := Lib.hid (by unfold fitB; simp [*])
    go_wp2_with (first | ((with_reducible show wpList _ _ _ (Oper.mk _ (Op.load _ _) _ _ _ _ :: _) _ _); refine wpList_load_g ((HLD.out _ HB1.out).src) _ rfl rfl (by go_simp) ?_) | ((with_reducible show wpList _ _ _ (Oper.mk _ (Op.load _ _) _ _ _ _ :: _) _ _); refine wpList_load_g ((HLD.out _ HB1.out).prf) _ rfl rfl (by go_simp) ?_) | ((with_reducible show wpList _ _ _ (Oper.mk _ (Op.load _ _) _ _ _ _ :: _) _ _); refine wpList_load_g ((HLD.out _ HB1.out).hop) _ rfl rfl (by go_simp) ?_))
    go_ret
    rw [HV.out]
    exact ⟨rfl, (below_step HBE.out HB1.out)⟩
  | true =>
    skip
    by_cases g1 : 1 ≤ s
    case neg =>
      have h1 : decide (1 ≤ s) = false := decide_eq_false g1
      clear g1
      have HV : Hid (fitB p s f h = false) := Lib.hid (by unfold fitB; simp [*])
      go_wp2_with (first | ((with_reducible show wpList _ _ _ (Oper.mk _ (Op.load _ _) _ _ _ _ :: _) _ _); refine wpList_load_g ((HLD.out _ HB1.out).src) _ rfl rfl (by go_simp) ?_) | ((with_reducible show wpList _ _ _ (Oper.mk _ (Op.load _ _) _ _ _ _ :: _) _ _); refine wpList_load_g ((HLD.out _ HB1.out).prf) _ rfl rfl (by go_simp) ?_) | ((with_reducible show wpList _ _ _ (Oper.mk _ (Op.load _ _) _ _ _ _ :: _) _ _); refine wpList_load_g ((HLD.out _ HB1.out).hop) _ rfl rfl (by go_simp) ?_))
      go_ret
      rw [HV.out]
      exact ⟨rfl, (below_step HBE.out HB1.out)⟩
    case pos =>
      have h1 : decide (1 ≤ s) = true := decide_eq_true g1
      by_cases g2 : s ≤ 4
      case neg =>
        have h2 : decide (s ≤ 4) = false := decide_eq_false g2
        clear g1 g2
        have HV : Hid (fitB p s f h = false) := Lib.hid (by unfold fitB; simp [*])
        go_wp2_with (first | ((with_reducible show wpList _ _ _ (Oper.mk _ (Op.load _ _) _ _ _ _ :: _) _ _); refine wpList_load_g ((HLD.out _ HB1.out).src) _ rfl rfl (by go_simp) ?_) | ((with_reducible show wpList _ _ _ (Oper.mk _ (Op.load _ _) _ _ _ _ :: _) _ _); refine wpList_load_g ((HLD.out _ HB1.out).prf) _ rfl rfl (by go_simp) ?_) | ((with_reducible show wpList _ _ _ (Oper.mk _ (Op.load _ _) _ _ _ _ :: _) _ _); refine wpList_load_g ((HLD.out _ HB1.out).hop) _ rfl rfl (by go_simp) ?_))
        go_ret
        rw [HV.out]
        exact ⟨rfl, (below_step HBE.out HB1.out)⟩
      case pos =>
        have h2 : decide (s ≤ 4) = true := decide_eq_true g2
        clear g1 g2
        by_cases g3 : 0 ≤ f
        case neg =>
          have h3 : decide (0 ≤ f) = false := decide_eq_false g3
          clear g3
          have HV : Hid (fitB p s f h = false) := Lib.hid (by unfold fitB; simp [*])
          go_wp2_with (first | ((with_reducible show wpList _ _ _ (Oper.mk _ (Op.load _ _) _ _ _ _ :: _) _ _); refine wpList_load_g ((HLD.out _ HB1.out).src) _ rfl rfl (by go_simp) ?_) | ((with_reducible show wpList _ _ _ (Oper.mk _ (Op.load _ _) _ _ _ _ :: _) _ _); refine wpList_load_g ((HLD.out _ HB1.out).prf) _ rfl rfl (by go_simp) ?_) | ((with_reducible show wpList _ _ _ (Oper.mk _ (Op.load _ _) _ _ _ _ :: _) _ _); refine wpList_load_g ((HLD.out _ HB1.out).hop) _ rfl rfl (by go_simp) ?_))
          go_ret
          rw [HV.out]
          exact ⟨rfl, (below_step HBE.out HB1.out)⟩
        case pos =>
          have h3 : decide (0 ≤ f) = true := decide_eq_true g3
          by_cases g4 : f ≤ 255
          case neg =>
            have h4 : decide (f ≤ 255) = false := decide_eq_false g4
            clear g3 g4
            have HV : Hid (fitB p s f h = false) := Lib.hid (by unfold fitB; simp [*])
            go_wp2_with (first | ((with_reducible show wpList _ _ _ (Oper.mk _ (Op.load _ _) _ _ _ _ :: _) _ _); refine wpList_load_g ((HLD.out _ HB1.out).src) _ rfl rfl (by go_simp) ?_) | ((with_reducible show wpList _ _ _ (Oper.mk _ (Op.load _ _) _ _ _ _ :: _) _ _); refine wpList_load_g ((HLD.out _ HB1.out).prf) _ rfl rfl (by go_simp) ?_) | ((with_reducible show wpList _ _ _ (Oper.mk _ (Op.load _ _) _ _ _ _ :: _) _ _); refine wpList_load_g ((HLD.out _ HB1.out).hop) _ rfl rfl (by go_simp) ?_))
            go_ret
            rw [HV.out]
            exact ⟨rfl, (below_step HBE.out HB1.out)⟩
          case pos =>
            have h4 : decide (f ≤ 255) = true := decide_eq_true g4
            clear g3 g4
            by_cases g5 : 1 ≤ h
            case neg =>
              have h5 : decide (1 ≤ h) = false := decide_eq_false g5
              clear g5
              have HV : Hid (fitB p s f h = false) := Lib.hid (by unfold fitB; simp [*])
              go_wp2_with (first | ((with_reducible show wpList _ _ _ (Oper.mk _ (Op.load _ _) _ _ _ _ :: _) _ _); refine wpList_load_g ((HLD.out _ HB1.out).src) _ rfl rfl (by go_simp) ?_) | ((with_reducible show wpList _ _ _ (Oper.mk _ (Op.load _ _) _ _ _ _ :: _) _ _); refine wpList_load_g ((HLD.out _ HB1.out).prf) _ rfl rfl (by go_simp) ?_) | ((with_reducible show wpList _ _ _ (Oper.mk _ (Op.load _ _) _ _ _ _ :: _) _ _); refine wpList_load_g ((HLD.out _ HB1.out).hop) _ rfl rfl (by go_simp) ?_))
              go_ret
              rw [HV.out]
              exact ⟨rfl, (below_step HBE.out HB1.out)⟩
            case pos =>
              have h5 : decide (1 ≤ h) = true := decide_eq_true g5
              cases h6 : decide (h ≤ 255) with
              | false =>
                clear g5
                have HV : Hid (fitB p s f h = false) := Lib.hid (by unfold fitB; simp [*])
                go_wp2_with (first | ((with_reducible show wpList _ _ _ (Oper.mk _ (Op.load _ _) _ _ _ _ :: _) _ _); refine wpList_load_g ((HLD.out _ HB1.out).src) _ rfl rfl (by go_simp) ?_) | ((with_reducible show wpList _ _ _ (Oper.mk _ (Op.load _ _) _ _ _ _ :: _) _ _); refine wpList_load_g ((HLD.out _ HB1.out).prf) _ rfl rfl (by go_simp) ?_) | ((with_reducible show wpList _ _ _ (Oper.mk _ (Op.load _ _) _ _ _ _ :: _) _ _); refine wpList_load_g ((HLD.out _ HB1.out).hop) _ rfl rfl (by go_simp) ?_))
                go_ret
                rw [HV.out]
                exact ⟨rfl, (below_step HBE.out HB1.out)⟩
              | true =>
                clear g5
                have HV : Hid (fitB p s f h = true) := Lib.hid (by unfold fitB; rw [h0, h1, h2, h3, h4, h5, h6]; rfl)
                go_wp2_with (first | ((with_reducible show wpList _ _ _ (Oper.mk _ (Op.load _ _) _ _ _ _ :: _) _ _); refine wpList_load_g ((HLD.out _ HB1.out).src) _ rfl rfl (by go_simp) ?_) | ((with_reducible show wpList _ _ _ (Oper.mk _ (Op.load _ _) _ _ _ _ :: _) _ _); refine wpList_load_g ((HLD.out _ HB1.out).prf) _ rfl rfl (by go_simp) ?_) | ((with_reducible show wpList _ _ _ (Oper.mk _ (Op.load _ _) _ _ _ _ :: _) _ _); refine wpList_load_g ((HLD.out _ HB1.out).hop) _ rfl rfl (by go_simp) ?_))
                go_ret
                rw [HV.out]
                exact ⟨rfl, (below_step HBE.out HB1.out)⟩
set_option maxHeartbeats 2000000 in
theorem update_any (u : Upd) (w : World) (hL : Laid w) (hu : u.fits) : Calls Tryd.prog 62 #[.agg (updV u)] w fun e w' => e = .returned (.bool (updB u)) ∧ Below w.heap.size w w' := by
  have hblk1 := blk_new w (.cells (updV u) 104)
  have hbel1 : Below w.heap.size w (w.alloc (.cells (updV u) 104)) := below_alloc (Below.refl _ _) _
  have HP1 := Lib.hid (upd_at hu hblk1)
  have HBK1 := Lib.hid hblk1
  have HBE := Lib.hid hbel1
  have HL := Lib.hid (hL.below HBE.out)
  obtain ⟨cs1, hcs1⟩ : ∃ cs, updV u = cs := ⟨_, rfl⟩
  simp only [hcs1] at HBE HL HP1 HBK1 ⊢
  have HC1 := Lib.hid hcs1
  clear hL hcs1 hblk1 hbel1
  obtain ⟨p, s, g, f, h⟩ := u
  have hr := (HP1.out.all _ (Below.refl _ _))
  have HLD := Lib.hid hr
  clear hr
  go_enter Tryd.func62, Tryd.ntmps62
  cases g with
  | true =>
    by_cases g1 : f = 0
    case neg =>
      have h1 : (f == 0) = false := by simpa using g1
      have HV : Hid (updB ⟨p, s, true, f, h⟩ = false) := Lib.hid (by simp [updB, g1])
      clear g1
      go_wp2_with (first | ((with_reducible show wpList _ _ _ (Oper.mk _ (Op.load _ _) _ _ _ _ :: _) _ _); refine wpList_load_g (HLD.out.gon) _ rfl rfl (by go_simp) ?_) | ((with_reducible show wpList _ _ _ (Oper.mk _ (Op.load _ _) _ _ _ _ :: _) _ _); refine wpList_load_g (HLD.out.prf) _ rfl rfl (by go_simp) ?_) | ((with_reducible show wpList _ _ _ (Oper.mk _ (Op.load _ _) _ _ _ _ :: _) _ _); refine wpList_load_g (HLD.out.hop) _ rfl rfl (by go_simp) ?_) | ((with_reducible show wpList _ _ _ (Oper.mk _ (Op.load _ _) _ _ _ _ :: _) _ _); refine wpList_load_g (HLD.out.src) _ rfl rfl (by go_simp) ?_) | ((with_reducible show wpList _ _ _ (Oper.mk _ (Op.load _ _) _ _ _ _ :: _) _ _); refine wpList_load_g (HLD.out.pfx) _ rfl rfl (by go_simp) ?_))
      go_ret
      rw [HV.out]
      exact ⟨rfl, HBE.out⟩
    case pos =>
      subst g1
      by_cases g2 : h = 0
      case neg =>
        have h2 : (h == 0) = false := by simpa using g2
        have HV : Hid (updB ⟨p, s, true, 0, h⟩ = false) := Lib.hid (by simp [updB, g2])
        clear g2
        go_wp2_with (first | ((with_reducible show wpList _ _ _ (Oper.mk _ (Op.load _ _) _ _ _ _ :: _) _ _); refine wpList_load_g (HLD.out.gon) _ rfl rfl (by go_simp) ?_) | ((with_reducible show wpList _ _ _ (Oper.mk _ (Op.load _ _) _ _ _ _ :: _) _ _); refine wpList_load_g (HLD.out.prf) _ rfl rfl (by go_simp) ?_) | ((with_reducible show wpList _ _ _ (Oper.mk _ (Op.load _ _) _ _ _ _ :: _) _ _); refine wpList_load_g (HLD.out.hop) _ rfl rfl (by go_simp) ?_) | ((with_reducible show wpList _ _ _ (Oper.mk _ (Op.load _ _) _ _ _ _ :: _) _ _); refine wpList_load_g (HLD.out.src) _ rfl rfl (by go_simp) ?_) | ((with_reducible show wpList _ _ _ (Oper.mk _ (Op.load _ _) _ _ _ _ :: _) _ _); refine wpList_load_g (HLD.out.pfx) _ rfl rfl (by go_simp) ?_))
        go_ret
        rw [HV.out]
        exact ⟨rfl, HBE.out⟩
      case pos =>
        subst g2
        have HV : Hid (updB ⟨p, s, true, 0, 0⟩ = fitB p s 0 1) := Lib.hid (by simp [updB])
        go_wp2_with (first | ((with_reducible show wpList _ _ _ (Oper.mk _ (Op.load _ _) _ _ _ _ :: _) _ _); refine wpList_load_g (HLD.out.gon) _ rfl rfl (by go_simp) ?_) | ((with_reducible show wpList _ _ _ (Oper.mk _ (Op.load _ _) _ _ _ _ :: _) _ _); refine wpList_load_g (HLD.out.prf) _ rfl rfl (by go_simp) ?_) | ((with_reducible show wpList _ _ _ (Oper.mk _ (Op.load _ _) _ _ _ _ :: _) _ _); refine wpList_load_g (HLD.out.hop) _ rfl rfl (by go_simp) ?_) | ((with_reducible show wpList _ _ _ (Oper.mk _ (Op.load _ _) _ _ _ _ :: _) _ _); refine wpList_load_g (HLD.out.src) _ rfl rfl (by go_simp) ?_) | ((with_reducible show wpList _ _ _ (Oper.mk _ (Op.load _ _) _ _ _ _ :: _) _ _); refine wpList_load_g (HLD.out.pfx) _ rfl rfl (by go_simp) ?_))
        refine (rfits_any p s 0 1 _ HL.out hu).mono ?_
        rintro e w1 ⟨rfl, hb1⟩
        have HB1 := Lib.hid (below_step HBE.out hb1)
        clear hb1
        rw [← HV.out]
        go_wp2
        go_ret
        exact ⟨rfl, HB1.out⟩
  | false =>
    have HV : Hid (updB ⟨p, s, false, f, h⟩ = fitB p s f h) := Lib.hid (by simp [updB])
    go_wp2_with (first | ((with_reducible show wpList _ _ _ (Oper.mk _ (Op.load _ _) _ _ _ _ :: _) _ _); refine wpList_load_g (HLD.out.gon) _ rfl rfl (by go_simp) ?_) | ((with_reducible show wpList _ _ _ (Oper.mk _ (Op.load _ _) _ _ _ _ :: _) _ _); refine wpList_load_g (HLD.out.prf) _ rfl rfl (by go_simp) ?_) | ((with_reducible show wpList _ _ _ (Oper.mk _ (Op.load _ _) _ _ _ _ :: _) _ _); refine wpList_load_g (HLD.out.hop) _ rfl rfl (by go_simp) ?_) | ((with_reducible show wpList _ _ _ (Oper.mk _ (Op.load _ _) _ _ _ _ :: _) _ _); refine wpList_load_g (HLD.out.src) _ rfl rfl (by go_simp) ?_) | ((with_reducible show wpList _ _ _ (Oper.mk _ (Op.load _ _) _ _ _ _ :: _) _ _); refine wpList_load_g (HLD.out.pfx) _ rfl rfl (by go_simp) ?_))
    refine (rfits_any p s f h _ HL.out hu).mono ?_
    rintro e w1 ⟨rfl, hb1⟩
    have HB1 := Lib.hid (below_step HBE.out hb1)
    clear hb1
    rw [← HV.out]
    go_wp2
    go_ret
    exact ⟨rfl, HB1.out⟩
set_option maxHeartbeats 2000000 in
theorem twin1_any (x u : Upd) (g : Nat) (w : World) (hxo : x.ok) (huo : u.ok) (hg : UpdAt w g u) : Calls Tryd.prog 61 #[.agg (updV x), .pointer (some ⟨g, 0, none⟩)] w fun e w' => e = .returned (.bool (twin x u)) ∧ Below w.heap.size w w' := by
  have hx := hxo.fits
  have hblk1 := blk_new w (.cells (updV x) 104)
  have hbel1 : Below w.heap.size w (w.alloc (.cells (updV x) 104)) := below_alloc (Below.refl _ _) _
  have HP1 := Lib.hid (upd_at hx hblk1)
  have HBK1 := Lib.hid hblk1
  have HBE := Lib.hid hbel1
  obtain ⟨cs1, hcs1⟩ : ∃ cs, updV x = cs := ⟨_, rfl⟩
  simp only [hcs1] at HBE HP1 HBK1 ⊢
  have HC1 := Lib.hid hcs1
  clear hcs1 hblk1 hbel1
  have HG := Lib.hid (hg.all _ HBE.out)
  have HLD := Lib.hid (HP1.out.all _ (Below.refl _ _))
  clear hg
  go_enter Tryd.func61, Tryd.ntmps61
  cases h0 : x.p.eqB u.p with
  | false =>
    have HV : Hid (twin x u = false) := Lib.hid (by unfold twin; rw [h0]; rfl)
    have HEX := Lib.hid (pfx_eq_hex hxo.p huo.p h0)
    clear h0
    go_wp2_with (first | ((with_reducible show wpList _ _ _ (Oper.mk _ (Op.load _ _) _ _ _ _ :: _) _ _); refine wpList_load_g (HLD.out.pfx) _ rfl rfl (by go_simp) ?_) | ((with_reducible show wpList _ _ _ (Oper.mk _ (Op.load _ _) _ _ _ _ :: _) _ _); refine wpList_load_g (HG.out.pfx) _ rfl rfl (by go_simp) ?_) | ((with_reducible show wpList _ _ _ (Oper.mk _ (Op.binOp _ _ _ _ _) _ _ _ _ :: _) _ _); refine wpList_exw rfl (HEX.out _ _ _ _ _ rfl rfl rfl _) ?_))
    go_ret
    rw [HV.out]
    exact ⟨rfl, HBE.out⟩
  | true =>
    have HV : Hid (twin x u = decide (x.s = u.s)) := Lib.hid (by unfold twin; rw [h0]; rfl)
    have HEX := Lib.hid (pfx_eq_hex hxo.p huo.p h0)
    clear h0
    go_wp2_with (first | ((with_reducible show wpList _ _ _ (Oper.mk _ (Op.load _ _) _ _ _ _ :: _) _ _); refine wpList_load_g (HLD.out.pfx) _ rfl rfl (by go_simp) ?_) | ((with_reducible show wpList _ _ _ (Oper.mk _ (Op.load _ _) _ _ _ _ :: _) _ _); refine wpList_load_g (HG.out.pfx) _ rfl rfl (by go_simp) ?_) | ((with_reducible show wpList _ _ _ (Oper.mk _ (Op.load _ _) _ _ _ _ :: _) _ _); refine wpList_load_g (HLD.out.src) _ rfl rfl (by go_simp) ?_) | ((with_reducible show wpList _ _ _ (Oper.mk _ (Op.load _ _) _ _ _ _ :: _) _ _); refine wpList_load_g (HG.out.src) _ rfl rfl (by go_simp) ?_) | ((with_reducible show wpList _ _ _ (Oper.mk _ (Op.binOp _ _ _ _ _) _ _ _ _ :: _) _ _); refine wpList_exw rfl (HEX.out _ _ _ _ _ rfl rfl rfl _) ?_))
    go_ret
    rw [HV.out]
    exact ⟨rfl, HBE.out⟩
end Go.Proofs.YtifejiclenpfoaaDoor

/- Arguments that are RIBs and batches, opened. -/
namespace Go.Proofs.YtifejiclenpfoaaDoor
open Go.ChangeShapes Go.WideShapes Go.ChangeAt Go.RowKit
set_option linter.unusedVariables false
set_option linter.unusedSimpArgs false
set_option maxRecDepth 4000
theorem parts4 {α : Type} (l : List α) (a : Nat) : l = l.take a ++ ((l.drop a).take 1 ++ ((l.drop (a + 1)).take 1 ++ l.drop (a + 2))) := by
  have h1 : l.drop a = (l.drop a).take 1 ++ l.drop (a + 1) := by
    conv => lhs; rw [← List.take_append_drop 1 (l.drop a)]
    rw [List.drop_drop]
  have h2 : l.drop (a + 1) = (l.drop (a + 1)).take 1 ++ l.drop (a + 2) := by
    conv => lhs; rw [← List.take_append_drop 1 (l.drop (a + 1))]
    rw [List.drop_drop]
  rw [← h2, ← h1, List.take_append_drop]
section
variable {H : Type} {enc : TypeId × Value → H} {W : World} {base : Nat} {spare : Nat → Bool} {held : Bool}
theorem open_upd_cells {fuel : Nat} {cs : List Value} {x : DataW H × List MemPlace} (h : DataW.trod enc Tryd.prog W base spare held fuel 104 cs = some x) : ∃ r : Upd, cs = updC r ∧ r.ok := by
  obtain ⟨xs, m, -, -, hlen, hxl, hg⟩ := DataW.trod_struct Tryd.underlying104 h
  have c1 : Tryd.prog.cellsOf 3 = 1 := by kernel_rfl
  have c4 : Tryd.prog.cellsOf 4 = 1 := by kernel_rfl
  have c2 : Tryd.prog.cellsOf 102 = 18 := by kernel_rfl
  have c3 : Tryd.prog.cellsOf 104 = 22 := by kernel_rfl
  have h0 : DataW.trod enc Tryd.prog W base spare held m 102 ((cs.drop 0).take (Tryd.prog.cellsOf 102)) = xs[0]? := hg 0 _ rfl
  have h1 : DataW.trod enc Tryd.prog W base spare held m 3 ((cs.drop 18).take (Tryd.prog.cellsOf 3)) = xs[1]? := hg 1 _ rfl
  have h2 : DataW.trod enc Tryd.prog W base spare held m 4 ((cs.drop 19).take (Tryd.prog.cellsOf 4)) = xs[2]? := hg 2 _ rfl
  have h3 : DataW.trod enc Tryd.prog W base spare held m 3 ((cs.drop 20).take (Tryd.prog.cellsOf 3)) = xs[3]? := hg 3 _ rfl
  have h4 : DataW.trod enc Tryd.prog W base spare held m 3 ((cs.drop 21).take (Tryd.prog.cellsOf 3)) = xs[4]? := hg 4 _ rfl
  rw [c3] at hlen
  rw [c2, List.drop_zero] at h0
  rw [c1] at h1 h3 h4
  rw [c4] at h2
  have hx5 : xs.length = 5 := hxl
  match xs, hx5 with
  | [x0, x1, x2, x3, x4], _ =>
    obtain ⟨v, l, b, hvl, hb, hw, hwb⟩ := open_pfx_cells (show DataW.trod enc Tryd.prog W base spare held m 102 (cs.take 18) = some x0 from h0)
    obtain ⟨s1, hv1, -, hw1⟩ := DataW.trod_int Tryd.underlying3 (show DataW.trod enc Tryd.prog W base spare held m 3 ((cs.drop 18).take 1) = some x1 from h1)
    obtain ⟨g, hv2, -⟩ := DataW.trod_bool Tryd.underlying4 (show DataW.trod enc Tryd.prog W base spare held m 4 ((cs.drop 19).take 1) = some x2 from h2)
    obtain ⟨s3, hv3, -, hw3⟩ := DataW.trod_int Tryd.underlying3 (show DataW.trod enc Tryd.prog W base spare held m 3 ((cs.drop 20).take 1) = some x3 from h3)
    obtain ⟨s4, hv4, -, hw4⟩ := DataW.trod_int Tryd.underlying3 (show DataW.trod enc Tryd.prog W base spare held m 3 ((cs.drop 21).take 1) = some x4 from h4)
    rw [List.take_of_length_le (by rw [List.length_drop]; omega)] at hv4
    refine ⟨⟨⟨v, l, b⟩, s1, g, s3, s4⟩, ?_, ⟨hb, hw, hwb⟩, hw1, hw3, hw4⟩
    have e2 : cs.drop 20 = (cs.drop 20).take 1 ++ cs.drop 21 := by
      conv => lhs; rw [← List.take_append_drop 1 (cs.drop 20)]
      rw [List.drop_drop]
    rw [parts4 cs 18, hvl, hv1, hv2, show 18 + 2 = 20 from rfl, e2, hv3, hv4]
    rw [show updC ⟨⟨v, l, b⟩, s1, g, s3, s4⟩ = (pfxV v l b).toList ++ [.int .i64 s1, .bool g, .int .i64 s3, .int .i64 s4] from rfl, pfxV_list]
    simp
theorem open_bat_cells {fuel : Nat} {cs : List Value} {x : DataW H × List MemPlace} (h : DataW.trod enc Tryd.prog W base spare held fuel 25 cs = some x) (hl : Light Tryd.prog 25 x.1) : ∃ A n c t, cs = [.slice A n c] ∧ RS updK W A n c t ∧ (∀ a ∈ t, a.ok) ∧ n * 64 ≤ 140737488351232 := by
  obtain ⟨xs, m, -, hx, hlen, hxl, hg⟩ := DataW.trod_struct Tryd.underlying25 h
  have c1 : Tryd.prog.cellsOf 23 = 1 := by kernel_rfl
  have c3 : Tryd.prog.cellsOf 25 = 1 := by kernel_rfl
  have h0 : DataW.trod enc Tryd.prog W base spare held m 23 ((cs.drop 0).take (Tryd.prog.cellsOf 23)) = xs[0]? := hg 0 _ rfl
  rw [c3] at hlen
  rw [c1, List.drop_zero, List.take_of_length_le (by omega)] at h0
  have hx1 : xs.length = 1 := hxl
  subst hx
  match xs, hx1 with
  | [x0], _ =>
    have hl0 : Light Tryd.prog 23 x0.1 := light_field Tryd.underlying25 hl (i := 0) (f := _) rfl rfl
    obtain ⟨A, n, c, t, e1, e2, e3, e4⟩ := open_shp updK Upd.ok (by show Tryd.prog.cellsOf 104 = 22; kernel_rfl) (by show 0 < Tryd.prog.bytesOf 104; exact of_decide_eq_true (by kernel_rfl)) (fun fuel cs y hy _ => by
      obtain ⟨r, e, hr⟩ := open_upd_cells hy
      exact ⟨r, e, hr.fits, hr⟩) (show DataW.trod enc Tryd.prog W base spare held m 23 cs = some x0 from h0) hl0
    refine ⟨A, n, c, t, e1, e2, e3, ?_⟩
    have hb : Tryd.prog.bytesOf (updK).t = 64 := by show Tryd.prog.bytesOf 104 = 64; kernel_rfl
    rw [hb] at e4
    exact e4
end
end Go.Proofs.YtifejiclenpfoaaDoor

/- The first place where something holds. -/
namespace Go.Proofs.YtifejiclenpfoaaDoor
open Go.RowKit
set_option linter.unusedVariables false
set_option linter.unusedSimpArgs false
set_option maxRecDepth 4000
def idxE {α : Type} (q : α → Bool) (t : List α) : Int := match t.findIdx? q with | some i => i | none => -1
theorem idxE_at {α : Type} {S : Shape α} {q : α → Bool} {t : List α} {i : Nat} (hi : i < t.length) (h : q (S.at_ t i) = true) (hl : ∀ k, k < i → q (S.at_ t k) = false) : idxE q t = (i : Int) := by
  have : t.findIdx? q = some i := by
    rw [List.findIdx?_eq_some_iff_getElem]
    have hg : ∀ k (hk : k < t.length), t[k] = S.at_ t k := fun k hk => by
      have := Shape.at_get (S := S) hk
      rw [List.getElem?_eq_getElem hk] at this
      exact Option.some.inj this
    refine ⟨hi, by rw [hg i hi]; exact h, fun k hk => ?_⟩
    rw [hg k (by omega), hl k hk]
    simp
  unfold idxE
  rw [this]
theorem idxE_none {α : Type} {S : Shape α} {q : α → Bool} {t : List α} (hl : ∀ k, k < t.length → q (S.at_ t k) = false) : idxE q t = -1 := by
  have : t.findIdx? q = none := by
    rw [List.findIdx?_eq_none_iff]
    intro x hx
    obtain ⟨k, hk, e⟩ := List.getElem_of_mem hx
    have := Shape.at_get (S := S) hk
    rw [List.getElem?_eq_getElem hk, e] at this
    rw [Option.some.inj this]
    exact hl k hk
  unfold idxE
  rw [this]
theorem idxE_any {α : Type} (q : α → Bool) (t : List α) : decide (0 ≤ idxE q t) = t.any q := by
  unfold idxE
  cases h : t.findIdx? q with
  | none =>
    rw [List.findIdx?_eq_none_iff] at h
    have : t.any q = false := by
      rw [List.any_eq_false]
      intro x hx
      rw [h x hx]
      decide
    rw [this]
    decide
  | some i =>
    rw [List.findIdx?_eq_some_iff_getElem] at h
    obtain ⟨hi, h1, _⟩ := h
    have : t.any q = true := by
      rw [List.any_eq_true]
      exact ⟨_, List.getElem_mem hi, h1⟩
    rw [this]
    exact decide_eq_true (Int.natCast_nonneg i)
end Go.Proofs.YtifejiclenpfoaaDoor

/- Layer 11 (route): the library's functions over slices of candidates and of updates. -/
namespace Go.Proofs.YtifejiclenpfoaaDoor
open Go.RowKit
set_option linter.unusedVariables false
set_option linter.unusedSimpArgs false
set_option maxRecDepth 4000
set_option maxHeartbeats 1000000 in
theorem equalQ_any (A : Option Addr) (n c : Nat) (t : List Rte) (A2 : Option Addr) (m c2 : Nat) (u : List Rte) (w : World) (h1 : RS rteK w A n c t) (h2 : RS rteK w A2 m c2 u) (o1 : rteE.all t) (o2 : rteE.all u) (hn : n ≤ 1000000) (hm : m ≤ 1000000) :
    Calls Tryd.prog 80 #[.slice A n c, .slice A2 m c2] w fun e w' => e = .returned (.bool (rteE.eqL t u)) ∧ Below w.heap.size w w' := by
  have H1 := Lib.hid h1
  have H2 := Lib.hid h2
  have O1 := Lib.hid o1
  have O2 := Lib.hid o2
  clear h1 h2 o1 o2
  by_cases hnm : n = m
  · subst hnm
    have hlen : t.length = u.length := by rw [H1.out.len, H2.out.len]
    have HLEN := Lib.hid hlen
    clear hlen
    go_enter Tryd.func80, Tryd.ntmps80
    go_wp2_with fail
    go_loopw [13] (fun x wr => ∃ i : Nat, x = .int .i64 i ∧ Hid (i ≤ n ∧ (∀ k, k < i → rteE.eqB (Shape.at_ rteK t k) (Shape.at_ rteK u k) = true) ∧ Below w.heap.size w wr)) (fun x _ => n - (intOf x).toNat)
    case atStart => exact ⟨0, rfl, Nat.zero_le _, fun k h => by omega, Below.refl _ _⟩
    case round =>
      obtain ⟨i, rfl, HH⟩ := hrel
      by_cases hlt : i < n
      · have hlt' : (i : Int) < n := by omega
        obtain ⟨b, o, rfl, hc⟩ := H1.out.at_ (by omega)
        obtain ⟨b2, o2, rfl, hc2⟩ := H2.out.at_ (by omega)
        have HC1 := Lib.hid (hc i hlt)
        have HC2 := Lib.hid (hc2 i hlt)
        clear hc hc2
        go_wp2_with fail
        refine wp_region_mix (fun w0 => Below (wr).heap.size (wr) w0) [(0, 0), (1, 0), (2, 0), (3, 0), (4, 0), (5, 0), (6, 0), (7, 0), (8, 0)] (by kernel_rfl) (by kernel_rfl) (below_drew1 _) ?_
        simp only [List.map_cons, List.map_nil]
        iterate 3 (refine wpO_step0 rfl rfl (fun K hK => ?_); go_simp; refine hK _ _ ?_; clear hK K)
        refine wpO_loadW (t := 121) (ad := ⟨b, (o+i*21), none⟩) rfl rfl ?hw rfl rfl ((fun w0 hS => Shape.ld rteK w0 b _ _ (H1.out.fits_at hlt) (HC1.out.below (below_step HH.out.2.2 hS)))) ?_
        case hw => go_simp
        iterate 3 (refine wpO_step0 rfl rfl (fun K hK => ?_); go_simp; refine hK _ _ ?_; clear hK K)
        refine wpO_loadW (t := 121) (ad := ⟨b2, (o2+i*21), none⟩) rfl rfl ?hw rfl rfl ((fun w0 hS => Shape.ld rteK w0 b2 _ _ (H2.out.fits_at hlt) (HC2.out.below (below_step HH.out.2.2 hS)))) ?_
        case hw => go_simp
        refine wpO_step0 rfl rfl (fun K hK => ?_)
        rw [if_pos (show Region.wanted _ _ = true from rfl)]
        refine ⟨_, fun w0 => ShapeEq.neq rteE rfl (Shape.at_ rteK t i) (Shape.at_ rteK u i) rfl rfl (ShapeEq.all_at O1.out (by rw [H1.out.len]; exact hlt)) (ShapeEq.all_at O2.out (by rw [H2.out.len]; exact hlt)) w0, hK _ _ ?_⟩
        clear hK K
        refine wpO_nil ?_
        cases hq : rteE.eqB (Shape.at_ rteK t i) (Shape.at_ rteK u i) with
        | true =>
          have HQ := Lib.hid hq
          clear hq
          go_wp2_with fail
          go_roundw
          case measure => simp [intOf]; omega
          case rel =>
            refine ⟨i + 1, by go_num, by omega, fun k hk => ?_, below_step HH.out.2.2 (below_drew1 _)⟩
            by_cases hki : k < i
            · exact HH.out.2.1 k hki
            · rw [show k = i by omega]; exact HQ.out
        | false =>
          have HE : Hid (rteE.eqL t u = false) := Lib.hid (ShapeEq.eqL_no (by rw [H1.out.len]; exact hlt) (by rw [H2.out.len]; exact hlt) hq)
          clear hq
          go_wp2
          go_ret
          rw [HE.out]
          exact ⟨rfl, below_step HH.out.2.2 (below_drew1 _)⟩
      · have hlt' : decide (i < n) = false := decide_eq_false hlt
        have HE : Hid (rteE.eqL t u = true) := Lib.hid (ShapeEq.eqL_yes HLEN.out (fun k hk => HH.out.2.1 k (by rw [H1.out.len] at hk; have := HH.out.1; omega)))
        clear hlt
        go_wp2
        go_ret
        rw [HE.out]
        exact ⟨rfl, HH.out.2.2⟩
  · have HE : Hid (rteE.eqL t u = false) := Lib.hid (ShapeEq.eqL_len (by rw [H1.out.len, H2.out.len]; exact hnm))
    have hnm' : (n == m) = false := by simpa using hnm
    clear hnm
    go_enter Tryd.func80, Tryd.ntmps80
    go_wp2
    go_ret
    rw [HE.out]
    exact ⟨rfl, Below.refl _ _⟩
set_option maxHeartbeats 1000000 in
theorem equalU_any (A : Option Addr) (n c : Nat) (t : List Upd) (A2 : Option Addr) (m c2 : Nat) (u : List Upd) (w : World) (h1 : RS updK w A n c t) (h2 : RS updK w A2 m c2 u) (o1 : updE.all t) (o2 : updE.all u) (hn : n ≤ 1000000) (hm : m ≤ 1000000) :
    Calls Tryd.prog 49 #[.slice A n c, .slice A2 m c2] w fun e w' => e = .returned (.bool (updE.eqL t u)) ∧ Below w.heap.size w w' := by
  have H1 := Lib.hid h1
  have H2 := Lib.hid h2
  have O1 := Lib.hid o1
  have O2 := Lib.hid o2
  clear h1 h2 o1 o2
  by_cases hnm : n = m
  · subst hnm
    have hlen : t.length = u.length := by rw [H1.out.len, H2.out.len]
    have HLEN := Lib.hid hlen
    clear hlen
    go_enter Tryd.func49, Tryd.ntmps49
    go_wp2_with fail
    go_loopw [13] (fun x wr => ∃ i : Nat, x = .int .i64 i ∧ Hid (i ≤ n ∧ (∀ k, k < i → updE.eqB (Shape.at_ updK t k) (Shape.at_ updK u k) = true) ∧ Below w.heap.size w wr)) (fun x _ => n - (intOf x).toNat)
    case atStart => exact ⟨0, rfl, Nat.zero_le _, fun k h => by omega, Below.refl _ _⟩
    case round =>
      obtain ⟨i, rfl, HH⟩ := hrel
      by_cases hlt : i < n
      · have hlt' : (i : Int) < n := by omega
        obtain ⟨b, o, rfl, hc⟩ := H1.out.at_ (by omega)
        obtain ⟨b2, o2, rfl, hc2⟩ := H2.out.at_ (by omega)
        have HC1 := Lib.hid (hc i hlt)
        have HC2 := Lib.hid (hc2 i hlt)
        clear hc hc2
        go_wp2_with fail
        refine wp_region_mix (fun w0 => Below (wr).heap.size (wr) w0) [(0, 0), (1, 0), (2, 0), (3, 0), (4, 0), (5, 0), (6, 0), (7, 0), (8, 0)] (by kernel_rfl) (by kernel_rfl) (below_drew1 _) ?_
        simp only [List.map_cons, List.map_nil]
        iterate 3 (refine wpO_step0 rfl rfl (fun K hK => ?_); go_simp; refine hK _ _ ?_; clear hK K)
        refine wpO_loadW (t := 104) (ad := ⟨b, (o+i*22), none⟩) rfl rfl ?hw rfl rfl ((fun w0 hS => Shape.ld updK w0 b _ _ (H1.out.fits_at hlt) (HC1.out.below (below_step HH.out.2.2 hS)))) ?_
        case hw => go_simp
        iterate 3 (refine wpO_step0 rfl rfl (fun K hK => ?_); go_simp; refine hK _ _ ?_; clear hK K)
        refine wpO_loadW (t := 104) (ad := ⟨b2, (o2+i*22), none⟩) rfl rfl ?hw rfl rfl ((fun w0 hS => Shape.ld updK w0 b2 _ _ (H2.out.fits_at hlt) (HC2.out.below (below_step HH.out.2.2 hS)))) ?_
        case hw => go_simp
        refine wpO_step0 rfl rfl (fun K hK => ?_)
        rw [if_pos (show Region.wanted _ _ = true from rfl)]
        refine ⟨_, fun w0 => ShapeEq.neq updE rfl (Shape.at_ updK t i) (Shape.at_ updK u i) rfl rfl (ShapeEq.all_at O1.out (by rw [H1.out.len]; exact hlt)) (ShapeEq.all_at O2.out (by rw [H2.out.len]; exact hlt)) w0, hK _ _ ?_⟩
        clear hK K
        refine wpO_nil ?_
        cases hq : updE.eqB (Shape.at_ updK t i) (Shape.at_ updK u i) with
        | true =>
          have HQ := Lib.hid hq
          clear hq
          go_wp2_with fail
          go_roundw
          case measure => simp [intOf]; omega
          case rel =>
            refine ⟨i + 1, by go_num, by omega, fun k hk => ?_, below_step HH.out.2.2 (below_drew1 _)⟩
            by_cases hki : k < i
            · exact HH.out.2.1 k hki
            · rw [show k = i by omega]; exact HQ.out
        | false =>
          have HE : Hid (updE.eqL t u = false) := Lib.hid (ShapeEq.eqL_no (by rw [H1.out.len]; exact hlt) (by rw [H2.out.len]; exact hlt) hq)
          clear hq
          go_wp2
          go_ret
          rw [HE.out]
          exact ⟨rfl, below_step HH.out.2.2 (below_drew1 _)⟩
      · have hlt' : decide (i < n) = false := decide_eq_false hlt
        have HE : Hid (updE.eqL t u = true) := Lib.hid (ShapeEq.eqL_yes HLEN.out (fun k hk => HH.out.2.1 k (by rw [H1.out.len] at hk; have := HH.out.1; omega)))
        clear hlt
        go_wp2
        go_ret
        rw [HE.out]
        exact ⟨rfl, HH.out.2.2⟩
  · have HE : Hid (updE.eqL t u = false) := Lib.hid (ShapeEq.eqL_len (by rw [H1.out.len, H2.out.len]; exact hnm))
    have hnm' : (n == m) = false := by simpa using hnm
    clear hnm
    go_enter Tryd.func49, Tryd.ntmps49
    go_wp2
    go_ret
    rw [HE.out]
    exact ⟨rfl, Below.refl _ _⟩
set_option maxHeartbeats 1000000 in
theorem indexfU_any (A : Option Addr) (n c : Nat) (t : List Upd) (w : World) (g : Nat) (hr : RS updK w A n c t) (hn : n ≤ 1000000) (q : Upd → Bool)
    (hq : ∀ i, i < n → ∀ w1, Below w.heap.size w w1 → Calls Tryd.prog 61 #[updK.val (updK.at_ t i), .pointer (some ⟨g, 0, none⟩)] w1 fun e w2 => e = .returned (.bool (q (updK.at_ t i))) ∧ Below w1.heap.size w1 w2) :
    Calls Tryd.prog 92 #[.slice A n c, .func (Fn.func 61) #[] #[.pointer (some ⟨g, 0, none⟩)]] w fun e w' => e = .returned (.int .i64 (idxE q t)) ∧ Below w.heap.size w w' := by
  have HR := Lib.hid hr
  have HQ := Lib.hid hq
  clear hr hq
  go_enter Tryd.func92, Tryd.ntmps92
  go_wp2_with fail
  go_loopw [8] (fun x wr => ∃ i : Nat, x = .int .i64 i ∧ Hid (i ≤ n ∧ (∀ k, k < i → q (updK.at_ t k) = false) ∧ Below w.heap.size w wr)) (fun x _ => n - (intOf x).toNat)
  case atStart => exact ⟨0, rfl, Nat.zero_le _, fun k h => by omega, Below.refl _ _⟩
  case round =>
    obtain ⟨i, rfl, HH⟩ := hrel
    by_cases hlt : i < n
    · have hlt' : (i : Int) < n := by omega
      obtain ⟨b, o, rfl, hc⟩ := RS.at_ HR.out (by omega)
      have hld := Shape.ld updK wr b _ _ (RS.fits_at HR.out hlt) ((hc i hlt).below HH.out.2.2)
      have HIL := Lib.hid (show i < t.length by rw [HR.out.len]; exact hlt)
      clear hc
      go_wp2_with (first | ((with_reducible show wpList _ _ _ (Oper.mk _ (Op.load _ _) _ _ _ _ :: _) _ _); refine wpList_load_g hld _ rfl rfl (by go_simp) ?_))
      refine (HQ.out i hlt wr HH.out.2.2).mono ?_
      rintro e w2 ⟨rfl, hb2⟩
      have HB2 := Lib.hid (below_step HH.out.2.2 hb2)
      clear hb2 hld
      cases hqq : q (updK.at_ t i) with
      | true =>
        have HE : Hid (idxE q t = (i : Int)) := Lib.hid (idxE_at (S := updK) HIL.out hqq HH.out.2.1)
        clear hqq
        go_wp2
        go_ret
        rw [HE.out]
        exact ⟨rfl, HB2.out⟩
      | false =>
        have HN := Lib.hid hqq
        clear hqq
        go_wp2_with fail
        go_roundw
        case measure => simp [intOf]; omega
        case rel =>
          refine ⟨i + 1, by go_num, by omega, fun k hk => ?_, HB2.out⟩
          by_cases hki : k < i
          · exact HH.out.2.1 k hki
          · rw [show k = i by omega]; exact HN.out
    · have hlt' : decide (i < n) = false := decide_eq_false hlt
      have HE : Hid (idxE q t = -1) := Lib.hid (idxE_none (S := updK) (fun k hk => HH.out.2.1 k (by rw [HR.out.len] at hk; omega)))
      clear hlt
      go_wp2
      go_ret
      rw [HE.out]
      exact ⟨rfl, HH.out.2.2⟩
theorem containsU_any (A : Option Addr) (n c : Nat) (t : List Upd) (w : World) (g : Nat) (hr : RS updK w A n c t) (hn : n ≤ 1000000) (q : Upd → Bool)
    (hq : ∀ i, i < n → ∀ w1, Below w.heap.size w w1 → Calls Tryd.prog 61 #[updK.val (updK.at_ t i), .pointer (some ⟨g, 0, none⟩)] w1 fun e w2 => e = .returned (.bool (q (updK.at_ t i))) ∧ Below w1.heap.size w1 w2) :
    Calls Tryd.prog 60 #[.slice A n c, .func (Fn.func 61) #[] #[.pointer (some ⟨g, 0, none⟩)]] w fun e w' => e = .returned (.bool (t.any q)) ∧ Below w.heap.size w w' := by
  have HI := Lib.hid (indexfU_any A n c t w g hr hn q hq)
  clear hq hr
  go_enter Tryd.func60, Tryd.ntmps60
  go_wp2_with fail
  refine HI.out.mono ?_
  rintro e w1 ⟨rfl, hb1⟩
  have HB1 := Lib.hid hb1
  clear hb1
  go_wp2
  go_ret
  rw [idxE_any]
  exact ⟨rfl, HB1.out⟩
end Go.Proofs.YtifejiclenpfoaaDoor

/- Layer 11 (route): prefixes, Check, CheckBatch; the document's prefixes, Right, RightBatch. -/
namespace Go.Proofs.YtifejiclenpfoaaDoor
open Go.RowKit
set_option linter.unusedVariables false
set_option linter.unusedSimpArgs false
set_option maxRecDepth 4000
def batE (l : List Upd) : Int := if batB l then 0 else 210
theorem any_twin (l : List Upd) {i : Nat} (hi : i < l.length) : (l.take i).any (fun x => twin x (updAt l i)) = false ↔ ∀ k, k < i → twin (updAt l k) (updAt l i) = false := by
  rw [List.any_eq_false]
  constructor
  · intro h k hk
    rw [Bool.eq_false_iff]
    refine h _ ?_
    refine List.mem_of_getElem? (i := k) ?_
    rw [List.getElem?_take, if_pos hk]
    exact getD_get (by omega)
  · intro h x hx
    obtain ⟨k, hk, he⟩ := List.getElem_of_mem hx
    rw [List.length_take] at hk
    have h1 := h k (by omega)
    have : updAt l k = x := by
      rw [← he, List.getElem_take]
      have h2 := getD_get (z := updZ) (show k < l.length by omega)
      rw [List.getElem?_eq_getElem (by omega)] at h2
      exact (Option.some.inj h2).symm
    rw [this] at h1
    rw [h1]
    decide
theorem batsB_iff (l : List Upd) : batsB l = true ↔ ∀ j, j < l.length → updB (updAt l j) = true ∧ ∀ k, k < j → twin (updAt l k) (updAt l j) = false := by
  unfold batsB
  rw [decide_eq_true_eq]
theorem batE_no {l : List Upd} {i : Nat} (hi : i < l.length) (h : updB (updAt l i) = false ∨ (l.take i).any (fun x => twin x (updAt l i)) = true) : batE l = 210 := by
  unfold batE
  rw [if_neg]
  intro hb
  unfold batB at hb
  rw [Bool.and_eq_true, batsB_iff] at hb
  rcases h with h | h
  · rw [(hb.2 i hi).1] at h; cases h
  · rw [(any_twin l hi).2 (hb.2 i hi).2] at h; cases h
set_option maxHeartbeats 4000000 in
theorem rcheckb_any (A : Option Addr) (n c : Nat) (l : List Upd) (w : World) (hL : Laid w) (hr : RS updK w A n c l) (ok : Oku l) (hn : n ≤ 100000) : Calls Tryd.prog 40 #[.agg (tabV A n c)] w fun e w' => e = .returned (.int .i64 (batE l)) ∧ Below w.heap.size w w' := by
  have hblk1 := blk_new w (.cells (tabV A n c) 25)
  have hbel1 : Below w.heap.size w (w.alloc (.cells (tabV A n c) 25)) := below_alloc (Below.refl _ _) _
  have HP1 := Lib.hid (bat_at hblk1)
  have HBK1 := Lib.hid hblk1
  have HBE := Lib.hid hbel1
  have HL := Lib.hid (hL.below HBE.out)
  obtain ⟨cs1, hcs1⟩ : ∃ cs, tabV A n c = cs := ⟨_, rfl⟩
  simp only [hcs1] at HBE HL HP1 HBK1 ⊢
  have HC1 := Lib.hid hcs1
  clear hL hcs1 hblk1 hbel1
  have HR := Lib.hid (hr.below HBE.out)
  have OK := Lib.hid ok
  clear hr ok
  go_enter Tryd.func40, Tryd.ntmps40
  by_cases h1 : n < 1
  · have h1b : decide ((n : Int) < 1) = true := decide_eq_true (by omega)
    have HE : Hid (batE l = 210) := Lib.hid (by unfold batE batB; rw [HR.out.len, decide_eq_false (show ¬ 1 ≤ n by omega)]; rfl)
    go_wp2_with (first | ((with_reducible show wpList _ _ _ (Oper.mk _ (Op.load _ _) _ _ _ _ :: _) _ _); refine wpList_load_g ((HP1.out.all _ (Below.refl _ _)).2) _ rfl rfl (by go_simp) ?_))
    go_ret
    rw [HE.out]
    exact ⟨rfl, HBE.out⟩
  · have h1b : decide ((n : Int) < 1) = false := decide_eq_false (by omega)
    by_cases h8 : 8 < n
    · have h8b : decide ((8 : Int) < n) = true := decide_eq_true (by omega)
      have HE : Hid (batE l = 210) := Lib.hid (by unfold batE batB; rw [HR.out.len, decide_eq_false (show ¬ n ≤ 8 by omega), Bool.and_false]; rfl)
      go_wp2_with (first | ((with_reducible show wpList _ _ _ (Oper.mk _ (Op.load _ _) _ _ _ _ :: _) _ _); refine wpList_load_g ((HP1.out.all _ (Below.refl _ _)).2) _ rfl rfl (by go_simp) ?_))
      go_ret
      rw [HE.out]
      exact ⟨rfl, HBE.out⟩
    · have h8b : decide ((8 : Int) < n) = false := decide_eq_false (by omega)
      go_wp2_with (first | ((with_reducible show wpList _ _ _ (Oper.mk _ (Op.load _ _) _ _ _ _ :: _) _ _); refine wpList_load_g ((HP1.out.all _ (Below.refl _ _)).2) _ rfl rfl (by go_simp) ?_))
      go_loopw [19] (fun s19 wr => ∃ i : Nat, s19 = .int .i64 i ∧ Hid (i ≤ n ∧ (∀ j, j < i → updB (updAt l j) = true ∧ ∀ k, k < j → twin (updAt l k) (updAt l j) = false) ∧ Below (w.alloc (.cells cs1 25)).heap.size (w.alloc (.cells cs1 25)) wr)) (fun x _ => n - (intOf x).toNat)
      case atStart => exact ⟨0, rfl, Nat.zero_le _, fun j h => by omega, Below.refl _ _⟩
      case round =>
        obtain ⟨i, rfl, HI⟩ := hrel
        have hcap := HR.out.cap
        by_cases hlt : i < n
        · have hlt' : (i : Int) < n := by omega
          obtain ⟨b, o, hA, hc⟩ := RS.at_ HR.out (by omega)
          have hil : i < l.length := by rw [HR.out.len]; exact hlt
          have HIL := Lib.hid hil
          have HXO := Lib.hid (OK.out.at_ hil)
          have hla := Shape.ld updK wr b _ _ HXO.out.fits ((hc i hlt).below HI.out.2.2)
          have hla : (Instr.loadAt 104 (.pointer (some ⟨b, o + i * 22, none⟩))).run Tryd.prog wr = .ok (.agg (updV (updAt l i))) wr := hla
          obtain ⟨x, hx⟩ : ∃ x, updAt l i = x := ⟨_, rfl⟩
          rw [hx] at hla HXO
          have HX := Lib.hid hx
          have HBI := Lib.hid HI.out.2.2
          have HB2f := Lib.hid (fun (W : World) (h : (wr.alloc (.cells (updV updZ) 104)).grownBy W (some wr.heap.size)) => below_grown (below_alloc (Below.refl wr.heap.size wr) (.cells (updV updZ) 104)) h (Nat.le_refl _))
          subst hA
          clear hc hx hil
          have hile : i ≤ c := by omega
          have HRI := Lib.hid (RS.take HR.out i (by omega))
          go_wp2_with (first | ((with_reducible show wpList _ _ _ (Oper.mk _ (Op.load _ _) _ _ _ _ :: _) _ _); refine wpList_load_g hla _ rfl rfl (by go_simp) ?_) | ((with_reducible show wpList _ _ _ (Oper.mk _ (Op.store _ _ _) _ _ _ _ :: _) _ _); refine wpList_store_blk (blk_new wr _) 104 0 (updV x) (store_upd_fit HXO.out.fits rfl) (info_upd HXO.out.fits) (updV_one _) _ _ rfl rfl rfl rfl ?_; intro w2 hg9 hs9 hb9; rw [splice_upd HXO.out.fits rfl] at hb9; have H2 := Lib.hid (And.intro hg9 hb9); clear hg9 hs9 hb9) | ((with_reducible show wpList _ _ _ (Oper.mk _ (Op.load _ _) _ _ _ _ :: _) _ _); refine wpList_load_g ((HP1.out.all _ (below_step HBI.out (HB2f.out _ H2.out.1))).2) _ rfl rfl (by go_simp) ?_))
          have HBR := Lib.hid (HB2f.out _ H2.out.1)
          have HB2 := Lib.hid (below_step HBI.out HBR.out)
          have HG2 := Lib.hid H2.out.2
          have OKT : Hid (Oku (l.take i)) := Lib.hid (fun u hu => OK.out u (List.mem_of_mem_take hu))
          have HTL : Hid ((l.take i).length = i) := Lib.hid (by rw [List.length_take]; have := HIL.out; omega)
          clear HB2f H2 hla
          refine (containsU_any (some ⟨b, o, none⟩) i c (l.take i) w2 wr.heap.size (HRI.out.below HB2.out) (by omega) (fun z => twin z x) (fun k hk w1 hb => twin1_any (updK.at_ (l.take i) k) x wr.heap.size w1 (OKT.out.at_ (by rw [HTL.out]; exact hk)) HXO.out (upd_at HXO.out.fits (blk_below HG2.out hb)))).mono ?_
          rintro e w3 ⟨rfl, hb3⟩
          obtain ⟨T, hT⟩ : ∃ T, (l.take i).any (fun z => twin z x) = T := ⟨_, rfl⟩
          rw [hT]
          have HT := Lib.hid hT
          have HB3 := Lib.hid (below_step HB2.out hb3)
          have HG3 := Lib.hid (blk_below HG2.out hb3)
          clear hb3 hT HG2 hile
          go_wp2_with (first | ((with_reducible show wpList _ _ _ (Oper.mk _ (Op.load _ _) _ _ _ _ :: _) _ _); refine wpList_load_g (((upd_at HXO.out.fits HG3.out).all _ (Below.refl _ _)).all) _ rfl rfl (by go_simp) ?_))
          refine (update_any x w3 (HL.out.below HB3.out) HXO.out.fits).mono ?_
          rintro e w4 ⟨rfl, hb4⟩
          have HB4 := Lib.hid (below_step HB3.out hb4)
          clear hb4
          cases hU : updB x with
          | false =>
            have HE := Lib.hid (batE_no HIL.out (.inl (by rw [show updAt l i = x from HX.out, hU])))
            clear hU
            go_wp2_with fail
            go_ret
            rw [HE.out]
            exact ⟨rfl, below_step HBE.out HB4.out⟩
          | true =>
            cases T with
            | true =>
              have HE := Lib.hid (batE_no HIL.out (.inr (by rw [show updAt l i = x from HX.out]; exact HT.out)))
              clear hU
              go_wp2_with fail
              go_ret
              rw [HE.out]
              exact ⟨rfl, below_step HBE.out HB4.out⟩
            | false =>
              have HN : Hid (∀ j, j < i + 1 → updB (updAt l j) = true ∧ ∀ k, k < j → twin (updAt l k) (updAt l j) = false) := Lib.hid (fun j hj => by
                rcases Nat.lt_or_ge j i with h | h
                · exact HI.out.2.1 j h
                · obtain rfl : j = i := by omega
                  have ht := HT.out
                  rw [← show updAt l j = x from HX.out] at ht hU
                  exact ⟨hU, (any_twin l HIL.out).1 ht⟩)
              clear hU
              go_wp2_with fail
              go_roundw
              case measure => simp [intOf]; omega
              case rel => exact ⟨i + 1, by go_num, by omega, HN.out, HB4.out⟩
        · have hlt' : decide (i < n) = false := decide_eq_false hlt
          have hin : i = n := by have := HI.out.1; omega
          have HE : Hid (batE l = 0) := Lib.hid (by
            unfold batE batB
            rw [(batsB_iff l).2 (by rw [HR.out.len, ← hin]; exact HI.out.2.1), HR.out.len, decide_eq_true (show 1 ≤ n by omega), decide_eq_true (show n ≤ 8 by omega)]
            rfl)
          clear hlt hin
          go_wp2
          go_ret
          rw [HE.out]
          exact ⟨rfl, below_step HBE.out HI.out.2.2⟩
end Go.Proofs.YtifejiclenpfoaaDoor

/- Layer 11 (route): Same, SameBatch; the document's Same, SameBatch, prefixes, Right, RightBatch. -/
namespace Go.Proofs.YtifejiclenpfoaaDoor
open Go.RowKit
set_option linter.unusedVariables false
set_option linter.unusedSimpArgs false
set_option maxRecDepth 4000
set_option maxHeartbeats 2000000 in
theorem refsameU_any (A1 : Option Addr) (n c : Nat) (t : List Upd) (A2 : Option Addr) (m c2 : Nat) (u : List Upd) (w : World) (ht : RS updK w A1 n c t) (hu : RS updK w A2 m c2 u) (ot : updE.all t) (ou : updE.all u) (hn : n ≤ 100000) (hm : m ≤ 100000) :
    Calls Tryd.prog 35 #[.agg (tabV A1 n c), .agg (tabV A2 m c2)] w fun e w' => e = .returned (.bool (updE.eqL t u)) ∧ Below w.heap.size w w' := by
  have hblk1 := blk_new w (.cells (tabV A1 n c) 25)
  have hbel1 : Below w.heap.size w (w.alloc (.cells (tabV A1 n c) 25)) := below_alloc (Below.refl _ _) _
  have hblk2 := blk_new (w.alloc (.cells (tabV A1 n c) 25)) (.cells (tabV A2 m c2) 25)
  have hbel2 : Below w.heap.size w ((w.alloc (.cells (tabV A1 n c) 25)).alloc (.cells (tabV A2 m c2) 25)) := below_alloc (hbel1) _
  rw [show (w.alloc (.cells (tabV A1 n c) 25)).heap.size = w.heap.size + 1 by simp] at hblk2
  replace hblk1 := blk_below hblk1 (below_alloc (Below.refl _ _) (.cells (tabV A2 m c2) 25))
  have HP1 := Lib.hid (bat_at hblk1)
  have HBK1 := Lib.hid hblk1
  have HP2 := Lib.hid (bat_at hblk2)
  have HBK2 := Lib.hid hblk2
  have HBE := Lib.hid hbel2
  obtain ⟨cs1, hcs1⟩ : ∃ cs, tabV A1 n c = cs := ⟨_, rfl⟩
  obtain ⟨cs2, hcs2⟩ : ∃ cs, tabV A2 m c2 = cs := ⟨_, rfl⟩
  simp only [hcs1, hcs2] at HBE HP1 HP2 HBK1 HBK2 ⊢
  have HC1 := Lib.hid hcs1
  have HC2 := Lib.hid hcs2
  clear hcs1 hblk1 hbel1 hcs2 hblk2 hbel2
  have H1 := Lib.hid (ht.below HBE.out)
  have H2 := Lib.hid (hu.below HBE.out)
  have O1 := Lib.hid ot
  have O2 := Lib.hid ou
  have hl1 := (HP1.out.all _ (Below.refl _ _)).2
  have hl2 := (HP2.out.all _ (Below.refl _ _)).2
  clear ht hu ot ou
  by_cases hnm : n = m
  · subst hnm
    have HLEN := Lib.hid (show t.length = u.length by rw [H1.out.len, H2.out.len])
    go_enter Tryd.func35, Tryd.ntmps35
    go_wp2_with (first | ((with_reducible show wpList _ _ _ (Oper.mk _ (Op.load _ _) _ _ _ _ :: _) _ _); refine wpList_load_g hl1 _ rfl rfl (by go_simp) ?_) | ((with_reducible show wpList _ _ _ (Oper.mk _ (Op.load _ _) _ _ _ _ :: _) _ _); refine wpList_load_g hl2 _ rfl rfl (by go_simp) ?_))
    clear hl1 hl2
    go_loopw [5] (fun x wr => ∃ i : Nat, x = .int .i64 i ∧ Hid (i ≤ n ∧ (∀ k, k < i → updE.eqB (updK.at_ t k) (updK.at_ u k) = true) ∧ Below ((w.alloc (.cells cs1 25)).alloc (.cells cs2 25)).heap.size ((w.alloc (.cells cs1 25)).alloc (.cells cs2 25)) wr)) (fun x _ => n - (intOf x).toNat)
    case atStart => exact ⟨0, rfl, Nat.zero_le _, fun k h => by omega, Below.refl _ _⟩
    case round =>
      obtain ⟨i, rfl, HH⟩ := hrel
      have hl1 := (HP1.out.all wr HH.out.2.2).2
      by_cases hlt : i < n
      · have hlt' : (i : Int) < n := by omega
        obtain ⟨b, o, rfl, hc⟩ := RS.at_ H1.out (by omega)
        obtain ⟨b2, o2, rfl, hc2⟩ := RS.at_ H2.out (by omega)
        have HC3 := Lib.hid (hc i hlt)
        have HC4 := Lib.hid (hc2 i hlt)
        clear hc hc2
        go_wp2_with (first | ((with_reducible show wpList _ _ _ (Oper.mk _ (Op.load _ _) _ _ _ _ :: _) _ _); refine wpList_load_g hl1 _ rfl rfl (by go_simp) ?_))
        refine wp_region_mix (fun w0 => Below (wr).heap.size (wr) w0) [(0, 0), (1, 0), (2, 0), (3, 0), (4, 0), (5, 0), (6, 0), (7, 0), (8, 0), (9, 0), (10, 0)] (by kernel_rfl) (by kernel_rfl) (below_drew1 _) ?_
        simp only [List.map_cons, List.map_nil]
        iterate 1 (refine wpO_step0 rfl rfl (fun K hK => ?_); go_simp; refine hK _ _ ?_; clear hK K)
        refine wpO_loadW (t := 23) (ad := ⟨w.heap.size, 0, none⟩) rfl rfl ?hw rfl rfl ((fun w0 hS => (HP1.out.all w0 (below_step HH.out.2.2 hS)).2)) ?_
        case hw => go_simp
        iterate 2 (refine wpO_step0 rfl rfl (fun K hK => ?_); go_simp; refine hK _ _ ?_; clear hK K)
        refine wpO_loadW (t := 104) (ad := ⟨b, (o+i*22), none⟩) rfl rfl ?hw rfl rfl ((fun w0 hS => Shape.ld updK w0 b _ _ (RS.fits_at H1.out hlt) (HC3.out.below (below_step HH.out.2.2 hS)))) ?_
        case hw => go_simp
        iterate 1 (refine wpO_step0 rfl rfl (fun K hK => ?_); go_simp; refine hK _ _ ?_; clear hK K)
        refine wpO_loadW (t := 23) (ad := ⟨(w.heap.size+1), 0, none⟩) rfl rfl ?hw rfl rfl ((fun w0 hS => (HP2.out.all w0 (below_step HH.out.2.2 hS)).2)) ?_
        case hw => go_simp
        iterate 2 (refine wpO_step0 rfl rfl (fun K hK => ?_); go_simp; refine hK _ _ ?_; clear hK K)
        refine wpO_loadW (t := 104) (ad := ⟨b2, (o2+i*22), none⟩) rfl rfl ?hw rfl rfl ((fun w0 hS => Shape.ld updK w0 b2 _ _ (RS.fits_at H2.out hlt) (HC4.out.below (below_step HH.out.2.2 hS)))) ?_
        case hw => go_simp
        refine wpO_step0 rfl rfl (fun K hK => ?_)
        rw [if_pos (show Region.wanted _ _ = true from rfl)]
        refine ⟨_, fun w0 => ShapeEq.neq updE rfl (updK.at_ t i) (updK.at_ u i) rfl rfl (ShapeEq.all_at (E := updE) O1.out (by rw [H1.out.len]; exact hlt)) (ShapeEq.all_at (E := updE) O2.out (by rw [H2.out.len]; exact hlt)) w0, hK _ _ ?_⟩
        clear hK K
        refine wpO_nil ?_
        cases hq : updE.eqB (updK.at_ t i) (updK.at_ u i) with
        | true =>
          have HQ := Lib.hid hq
          clear hq
          go_wp2_with fail
          go_roundw
          case measure => simp [intOf]; omega
          case rel =>
            refine ⟨i + 1, by go_num, by omega, fun k hk => ?_, below_step HH.out.2.2 (below_drew1 _)⟩
            by_cases hki : k < i
            · exact HH.out.2.1 k hki
            · rw [show k = i by omega]; exact HQ.out
        | false =>
          have HE : Hid (updE.eqL t u = false) := Lib.hid (ShapeEq.eqL_no (by rw [H1.out.len]; exact hlt) (by rw [H2.out.len]; exact hlt) hq)
          clear hq
          go_wp2
          go_ret
          rw [HE.out]
          exact ⟨rfl, below_step HBE.out (below_step HH.out.2.2 (below_drew1 _))⟩
      · have hlt' : decide (i < n) = false := decide_eq_false hlt
        have HE : Hid (updE.eqL t u = true) := Lib.hid (ShapeEq.eqL_yes HLEN.out (fun k hk => HH.out.2.1 k (by rw [H1.out.len] at hk; have := HH.out.1; omega)))
        clear hlt
        go_wp2_with (first | ((with_reducible show wpList _ _ _ (Oper.mk _ (Op.load _ _) _ _ _ _ :: _) _ _); refine wpList_load_g hl1 _ rfl rfl (by go_simp) ?_))
        go_ret
        rw [HE.out]
        exact ⟨rfl, below_step HBE.out HH.out.2.2⟩
  · have HE : Hid (updE.eqL t u = false) := Lib.hid (ShapeEq.eqL_len (by rw [H1.out.len, H2.out.len]; exact hnm))
    have hnm' : (n == m) = false := by simpa using hnm
    clear hnm
    go_enter Tryd.func35, Tryd.ntmps35
    go_wp2_with (first | ((with_reducible show wpList _ _ _ (Oper.mk _ (Op.load _ _) _ _ _ _ :: _) _ _); refine wpList_load_g hl1 _ rfl rfl (by go_simp) ?_) | ((with_reducible show wpList _ _ _ (Oper.mk _ (Op.load _ _) _ _ _ _ :: _) _ _); refine wpList_load_g hl2 _ rfl rfl (by go_simp) ?_))
    go_ret
    rw [HE.out]
    exact ⟨rfl, HBE.out⟩
theorem rsame_any (A : Option Addr) (n c : Nat) (t : List Rte) (A2 : Option Addr) (m c2 : Nat) (u : List Rte) (w : World) (ht : RS rteK w A n c t) (hu : RS rteK w A2 m c2 u) (ot : Okr t) (ou : Okr u) (hn : n ≤ 100000) (hm : m ≤ 100000) :
    Calls Tryd.prog 46 #[.agg (tabV A n c), .agg (tabV A2 m c2)] w fun e w' => e = .returned (.bool (rteE.eqL t u)) ∧ Below w.heap.size w w' := by
  have hblk1 := blk_new w (.cells (tabV A n c) 37)
  have hbel1 : Below w.heap.size w (w.alloc (.cells (tabV A n c) 37)) := below_alloc (Below.refl _ _) _
  have hblk2 := blk_new (w.alloc (.cells (tabV A n c) 37)) (.cells (tabV A2 m c2) 37)
  have hbel2 : Below w.heap.size w ((w.alloc (.cells (tabV A n c) 37)).alloc (.cells (tabV A2 m c2) 37)) := below_alloc (hbel1) _
  rw [show (w.alloc (.cells (tabV A n c) 37)).heap.size = w.heap.size + 1 by simp] at hblk2
  replace hblk1 := blk_below hblk1 (below_alloc (Below.refl _ _) (.cells (tabV A2 m c2) 37))
  have HP1 := Lib.hid (rib_at hblk1)
  have HBK1 := Lib.hid hblk1
  have HP2 := Lib.hid (rib_at hblk2)
  have HBK2 := Lib.hid hblk2
  have HBE := Lib.hid hbel2
  obtain ⟨cs1, hcs1⟩ : ∃ cs, tabV A n c = cs := ⟨_, rfl⟩
  obtain ⟨cs2, hcs2⟩ : ∃ cs, tabV A2 m c2 = cs := ⟨_, rfl⟩
  simp only [hcs1, hcs2] at HBE HP1 HP2 HBK1 HBK2 ⊢
  have HC1 := Lib.hid hcs1
  have HC2 := Lib.hid hcs2
  clear hcs1 hblk1 hbel1 hcs2 hblk2 hbel2
  have H1 := Lib.hid (ht.below HBE.out)
  have H2 := Lib.hid (hu.below HBE.out)
  clear ht hu
  go_enter Tryd.func46, Tryd.ntmps46
  go_wp2_with (first | ((with_reducible show wpList _ _ _ (Oper.mk _ (Op.load _ _) _ _ _ _ :: _) _ _); refine wpList_load_g ((HP1.out.all _ (Below.refl _ _)).2) _ rfl rfl (by go_simp) ?_) | ((with_reducible show wpList _ _ _ (Oper.mk _ (Op.load _ _) _ _ _ _ :: _) _ _); refine wpList_load_g ((HP2.out.all _ (Below.refl _ _)).2) _ rfl rfl (by go_simp) ?_))
  refine (equalQ_any A n c t A2 m c2 u _ H1.out H2.out ot ou (by omega) (by omega)).mono ?_
  rintro e w1 ⟨rfl, hb1⟩
  have HB1 := Lib.hid (below_step HBE.out hb1)
  clear hb1
  go_wp2
  go_ret
  exact ⟨rfl, HB1.out⟩
theorem rsameb_any (A : Option Addr) (n c : Nat) (t : List Upd) (A2 : Option Addr) (m c2 : Nat) (u : List Upd) (w : World) (ht : RS updK w A n c t) (hu : RS updK w A2 m c2 u) (ot : Oku t) (ou : Oku u) (hn : n ≤ 100000) (hm : m ≤ 100000) :
    Calls Tryd.prog 23 #[.agg (tabV A n c), .agg (tabV A2 m c2)] w fun e w' => e = .returned (.bool (updE.eqL t u)) ∧ Below w.heap.size w w' := by
  have hblk1 := blk_new w (.cells (tabV A n c) 25)
  have hbel1 : Below w.heap.size w (w.alloc (.cells (tabV A n c) 25)) := below_alloc (Below.refl _ _) _
  have hblk2 := blk_new (w.alloc (.cells (tabV A n c) 25)) (.cells (tabV A2 m c2) 25)
  have hbel2 : Below w.heap.size w ((w.alloc (.cells (tabV A n c) 25)).alloc (.cells (tabV A2 m c2) 25)) := below_alloc (hbel1) _
  rw [show (w.alloc (.cells (tabV A n c) 25)).heap.size = w.heap.size + 1 by simp] at hblk2
  replace hblk1 := blk_below hblk1 (below_alloc (Below.refl _ _) (.cells (tabV A2 m c2) 25))
  have HP1 := Lib.hid (bat_at hblk1)
  have HBK1 := Lib.hid hblk1
  have HP2 := Lib.hid (bat_at hblk2)
  have HBK2 := Lib.hid hblk2
  have HBE := Lib.hid hbel2
  obtain ⟨cs1, hcs1⟩ : ∃ cs, tabV A n c = cs := ⟨_, rfl⟩
  obtain ⟨cs2, hcs2⟩ : ∃ cs, tabV A2 m c2 = cs := ⟨_, rfl⟩
  simp only [hcs1, hcs2] at HBE HP1 HP2 HBK1 HBK2 ⊢
  have HC1 := Lib.hid hcs1
  have HC2 := Lib.hid hcs2
  clear hcs1 hblk1 hbel1 hcs2 hblk2 hbel2
  have H1 := Lib.hid (ht.below HBE.out)
  have H2 := Lib.hid (hu.below HBE.out)
  clear ht hu
  go_enter Tryd.func23, Tryd.ntmps23
  go_wp2_with (first | ((with_reducible show wpList _ _ _ (Oper.mk _ (Op.load _ _) _ _ _ _ :: _) _ _); refine wpList_load_g ((HP1.out.all _ (Below.refl _ _)).2) _ rfl rfl (by go_simp) ?_) | ((with_reducible show wpList _ _ _ (Oper.mk _ (Op.load _ _) _ _ _ _ :: _) _ _); refine wpList_load_g ((HP2.out.all _ (Below.refl _ _)).2) _ rfl rfl (by go_simp) ?_))
  refine (equalU_any A n c t A2 m c2 u _ H1.out H2.out ot ou (by omega) (by omega)).mono ?_
  rintro e w1 ⟨rfl, hb1⟩
  have HB1 := Lib.hid (below_step HBE.out hb1)
  clear hb1
  go_wp2
  go_ret
  exact ⟨rfl, HB1.out⟩
/-! The document's prefixes. -/
theorem Okr.fits {l : List Rte} (h : Okr l) : ∀ r ∈ l, r.fits := fun r hr => (h r hr).fits
theorem rte_set_hop (r : Rte) (h : Int) (hl : r.p.l.length = 16) : (rteV r).setIfInBounds 20 (.int .i64 h) = rteV ⟨r.p, r.s, r.f, h⟩ := by
  obtain ⟨p, s, f, h0⟩ := r
  obtain ⟨v, l, x⟩ := p
  obtain ⟨a, b, c, d, e, f1, g, h1, i, j, k, m, n, o, q, r, hh⟩ := len16 hl
  simp only at hh
  subst hh
  rfl
theorem batB_no {l : List Upd} {i : Nat} (hi : i < l.length) (h : updB (updAt l i) = false ∨ ∃ k, k < i ∧ twin (updAt l k) (updAt l i) = true) : batB l = false := by
  unfold batB
  rw [show batsB l = false from by
    rw [Bool.eq_false_iff]
    intro hb
    rw [batsB_iff] at hb
    rcases h with h | ⟨k, hk, h⟩
    · rw [(hb i hi).1] at h
      cases h
    · rw [(hb i hi).2 k hk] at h
      cases h]
  rw [Bool.and_false]
set_option maxHeartbeats 4000000 in
set_option maxRecDepth 100000 in
theorem refbatch_any (A : Option Addr) (n c : Nat) (l : List Upd) (w : World) (hr : RS updK w A n c l) (ok : Oku l) (hn : n ≤ 100000) : Calls Tryd.prog 42 #[.agg (tabV A n c)] w fun e w' => e = .returned (.bool (batB l)) ∧ Below w.heap.size w w' := by
  have hblk1 := blk_new w (.cells (tabV A n c) 25)
  have hbel1 : Below w.heap.size w (w.alloc (.cells (tabV A n c) 25)) := below_alloc (Below.refl _ _) _
  have HP1 := Lib.hid (bat_at hblk1)
  have HBK1 := Lib.hid hblk1
  have HBE := Lib.hid hbel1
  obtain ⟨cs1, hcs1⟩ : ∃ cs, tabV A n c = cs := ⟨_, rfl⟩
  simp only [hcs1] at HBE HP1 HBK1 ⊢
  have HC1 := Lib.hid hcs1
  clear hcs1 hblk1 hbel1
  have HR := Lib.hid (hr.below HBE.out)
  have OK := Lib.hid ok
  clear hr ok
  go_enter Tryd.func42, Tryd.ntmps42
  by_cases h1 : n < 1
  · have h1b : decide ((n : Int) < 1) = true := decide_eq_true (by omega)
    have HE : Hid (batB l = false) := Lib.hid (by unfold batB; rw [HR.out.len, decide_eq_false (show ¬ 1 ≤ n by omega)]; rfl)
    go_wp2_with (first | ((with_reducible show wpList _ _ _ (Oper.mk _ (Op.load _ _) _ _ _ _ :: _) _ _); refine wpList_load_g ((HP1.out.all _ (Below.refl _ _)).2) _ rfl rfl (by go_simp) ?_))
    go_ret
    rw [HE.out]
    exact ⟨rfl, HBE.out⟩
  · have h1b : decide ((n : Int) < 1) = false := decide_eq_false (by omega)
    by_cases h8 : 8 < n
    · have h8b : decide ((8 : Int) < n) = true := decide_eq_true (by omega)
      have HE : Hid (batB l = false) := Lib.hid (by unfold batB; rw [HR.out.len, decide_eq_false (show ¬ n ≤ 8 by omega), Bool.and_false]; rfl)
      go_wp2_with (first | ((with_reducible show wpList _ _ _ (Oper.mk _ (Op.load _ _) _ _ _ _ :: _) _ _); refine wpList_load_g ((HP1.out.all _ (Below.refl _ _)).2) _ rfl rfl (by go_simp) ?_))
      go_ret
      rw [HE.out]
      exact ⟨rfl, HBE.out⟩
    · have h8b : decide ((8 : Int) < n) = false := decide_eq_false (by omega)
      go_wp2_with (first | ((with_reducible show wpList _ _ _ (Oper.mk _ (Op.load _ _) _ _ _ _ :: _) _ _); refine wpList_load_g ((HP1.out.all _ (Below.refl _ _)).2) _ rfl rfl (by go_simp) ?_))
      go_loopw [3] (fun s3 wr => ∃ i : Nat, s3 = .int .i64 i ∧ Hid (i ≤ n ∧ (∀ j, j < i → updB (updAt l j) = true ∧ ∀ k, k < j → twin (updAt l k) (updAt l j) = false) ∧ Below (w.alloc (.cells cs1 25)).heap.size (w.alloc (.cells cs1 25)) wr)) (fun x _ => n - (intOf x).toNat)
      case atStart => exact ⟨0, rfl, Nat.zero_le _, fun j h => by omega, Below.refl _ _⟩
      case round =>
        obtain ⟨i, rfl, HI⟩ := hrel
        obtain ⟨wi, rfl⟩ : ∃ wi, wi = wr := ⟨wr, rfl⟩
        have HBI := Lib.hid HI.out.2.2
        by_cases hlt : i < n
        · have hlt' : (i : Int) < n := by omega
          obtain ⟨b, o, hA, hc⟩ := RS.at_ HR.out (by omega)
          have hil : i < l.length := by rw [HR.out.len]; exact hlt
          have HIL := Lib.hid hil
          have HC := Lib.hid (fun (k : Nat) (hk : k < n) => (hc k hk).below HI.out.2.2)
          have HXO := Lib.hid (OK.out.at_ hil)
          have hla := Shape.ld updK wi b _ _ HXO.out.fits (HC.out i hlt)
          have hla : (Instr.loadAt 104 (.pointer (some ⟨b, o + i * 22, none⟩))).run Tryd.prog wi = .ok (.agg (updV (updAt l i))) wi := hla
          obtain ⟨x, hx⟩ : ∃ x, updAt l i = x := ⟨_, rfl⟩
          rw [hx] at hla HXO
          have HX := Lib.hid hx
          have HB2f := Lib.hid (fun (W : World) (h : (wi.alloc (.cells (updV updZ) 104)).grownBy W (some wi.heap.size)) => below_grown (below_alloc (Below.refl wi.heap.size wi) (.cells (updV updZ) 104)) h (Nat.le_refl _))
          subst hA
          clear hc hx hil
          go_upto_region 8 with (first | ((with_reducible show wpList _ _ _ (Oper.mk _ (Op.load _ _) _ _ _ _ :: _) _ _); refine wpList_load_g hla _ rfl rfl (by go_simp) ?_) | ((with_reducible show wpList _ _ _ (Oper.mk _ (Op.load _ _) _ _ _ _ :: _) _ _); refine wpList_load_g ((HP1.out.all _ HBI.out).2) _ rfl rfl (by go_simp) ?_) | ((with_reducible show wpList _ _ _ (Oper.mk _ (Op.store _ _ _) _ _ _ _ :: _) _ _); refine wpList_store_blk (blk_new wi _) 104 0 (updV x) (store_upd_fit HXO.out.fits rfl) (info_upd HXO.out.fits) (updV_one _) _ _ rfl rfl rfl rfl ?_; intro w2 hg9 hs9 hb9; rw [splice_upd HXO.out.fits rfl] at hb9; have H2 := Lib.hid (And.intro hg9 hb9); clear hg9 hs9 hb9) | ((with_reducible show wpList _ _ _ (Oper.mk _ (Op.load _ _) _ _ _ _ :: _) _ _); refine wpList_load_g (((upd_at HXO.out.fits H2.out.2).all _ (Below.refl _ _)).pfx) _ rfl rfl (by go_simp) ?_) | ((with_reducible show wpList _ _ _ (Oper.mk _ (Op.load _ _) _ _ _ _ :: _) _ _); refine wpList_load_g (((upd_at HXO.out.fits H2.out.2).all _ (Below.refl _ _)).src) _ rfl rfl (by go_simp) ?_) | ((with_reducible show wpList _ _ _ (Oper.mk _ (Op.load _ _) _ _ _ _ :: _) _ _); refine wpList_load_g (((upd_at HXO.out.fits H2.out.2).all _ (Below.refl _ _)).prf) _ rfl rfl (by go_simp) ?_) | ((with_reducible show wpList _ _ _ (Oper.mk _ (Op.load _ _) _ _ _ _ :: _) _ _); refine wpList_load_g (((upd_at HXO.out.fits H2.out.2).all _ (Below.refl _ _)).hop) _ rfl rfl (by go_simp) ?_) | ((with_reducible show wpList _ _ _ (Oper.mk _ (Op.build _ _) _ _ _ _ :: _) _ _); refine wpList_exw rfl (exec_build4 rfl rfl rfl rfl rfl (run_build_rte _ x.p x.s x.f x.h HXO.out.fits.len)) ?_) | ((with_reducible show wpList _ _ _ (Oper.mk _ (Op.store _ _ _) _ _ _ _ :: _) _ _); refine wpList_store_blk (blk_new w2 _) 121 0 (rteV (Upd.rte x)) (store_rte_fit (show (Upd.rte x).fits from HXO.out.fits) rfl) (info_rte (show (Upd.rte x).fits from HXO.out.fits)) (rteV_one _) _ _ rfl rfl rfl rfl ?_; intro w3 hg9 hs9 hb9; rw [splice_rte (show (Upd.rte x).fits from HXO.out.fits) rfl] at hb9; have H3 := Lib.hid (And.intro hg9 hb9); clear hg9 hs9 hb9))
          dsimp only [Act.put]
          have HB23f := Lib.hid (fun (W : World) (h : (w2.alloc (.cells (rteV rteZ) 121)).grownBy W (some w2.heap.size)) => below_grown (below_alloc (Below.refl w2.heap.size w2) (.cells (rteV rteZ) 121)) h (Nat.le_refl _))
          have HB2 := Lib.hid (HB2f.out _ H2.out.1)
          have HB23 := Lib.hid (HB23f.out _ H3.out.1)
          have HG2 := Lib.hid (blk_below H2.out.2 HB23.out)
          have HG3 := Lib.hid H3.out.2
          have HB3 := Lib.hid (below_step HB2.out HB23.out)
          have HSZ := Lib.hid (And.intro (blk_lt H2.out.2) HB2.out.size)
          obtain ⟨gu, hgu⟩ : ∃ g, wi.heap.size = g := ⟨_, rfl⟩
          obtain ⟨gr, hgr⟩ : ∃ g, w2.heap.size = g := ⟨_, rfl⟩
          have HGE : Hid (wi.heap.size ≤ gr ∧ gu ≠ gr) := Lib.hid (by have := HSZ.out; omega)
          rw [hgu] at HG2 ⊢
          rw [hgr] at HG3 ⊢
          clear HB2f HB23f H2 H3 hla hgu hgr HSZ
          obtain ⟨R, hR⟩ : ∃ R : Rte, R = ⟨x.p, x.s, x.f, if x.g then 1 else x.h⟩ := ⟨_, rfl⟩
          have HRR := Lib.hid hR
          have HRO : Hid R.ok := Lib.hid (by
            rw [hR]
            refine ⟨HXO.out.p, HXO.out.s, HXO.out.f, ?_⟩
            show (Lit.int .i64 (if x.g then 1 else x.h)).wf = true
            split
            · decide
            · exact HXO.out.h)
          clear hR
          go_upto_if 39 with (first | ((with_reducible show wpList _ _ _ (Oper.mk _ (Op.load _ _) _ _ _ _ :: _) _ _); refine wpList_load_g (((upd_at HXO.out.fits HG2.out).all _ (Below.refl _ _)).gon) _ rfl rfl (by go_simp) ?_))
          go_simp
          go_cut [5] (fun s5 wx => s5 = .pointer (some ⟨gr, 0, none⟩) ∧ Hid (wx.heap[gr]? = some (.cells (rteV R) 121 (0, 0)) ∧ wx.heap[gu]? = some (.cells (updV x) 104 (0, 0)) ∧ updB x = R.fit ∧ Below wi.heap.size wi wx))
          case first =>
            cases hg : x.g with
            | false =>
              have hre : R = x.rte := by rw [HRR.out, hg]; rfl
              have HRE := Lib.hid hre
              have HUB : Hid (updB x = R.fit) := Lib.hid (by rw [hre]; unfold updB; rw [hg]; rfl)
              clear hg hre
              go_wp2_with fail
              go_meet
              exact ⟨rfl, by rw [HRE.out]; exact HG3.out, HG2.out, HUB.out, HB3.out⟩
            | true =>
              by_cases hf0 : x.f = 0
              case neg =>
                have hfb : (x.f != 0) = true := by simpa using hf0
                have HE := Lib.hid (batB_no HIL.out (.inl (by rw [show updAt l i = x from HX.out]; unfold updB; rw [hg, if_pos rfl, decide_eq_false hf0]; rfl)))
                clear hg hf0
                go_wp2_with (first | ((with_reducible show wpList _ _ _ (Oper.mk _ (Op.load _ _) _ _ _ _ :: _) _ _); refine wpList_load_g (((upd_at HXO.out.fits HG2.out).all _ (Below.refl _ _)).prf) _ rfl rfl (by go_simp) ?_))
                go_ret
                rw [HE.out]
                exact ⟨rfl, below_step HBE.out (below_step HBI.out HB3.out)⟩
              case pos =>
                have hfb : (x.f != 0) = false := by simpa using hf0
                by_cases hh0 : x.h = 0
                case neg =>
                  have hhb : (x.h != 0) = true := by simpa using hh0
                  have HE := Lib.hid (batB_no HIL.out (.inl (by rw [show updAt l i = x from HX.out]; unfold updB; rw [hg, if_pos rfl, decide_eq_false hh0, Bool.and_false]; rfl)))
                  clear hg hf0 hh0
                  go_wp2_with (first | ((with_reducible show wpList _ _ _ (Oper.mk _ (Op.load _ _) _ _ _ _ :: _) _ _); refine wpList_load_g (((upd_at HXO.out.fits HG2.out).all _ (Below.refl _ _)).prf) _ rfl rfl (by go_simp) ?_) | ((with_reducible show wpList _ _ _ (Oper.mk _ (Op.load _ _) _ _ _ _ :: _) _ _); refine wpList_load_g (((upd_at HXO.out.fits HG2.out).all _ (Below.refl _ _)).hop) _ rfl rfl (by go_simp) ?_))
                  go_ret
                  rw [HE.out]
                  exact ⟨rfl, below_step HBE.out (below_step HBI.out HB3.out)⟩
                case pos =>
                  have hhb : (x.h != 0) = false := by simpa using hh0
                  have hre : R = ⟨x.rte.p, x.rte.s, x.rte.f, 1⟩ := by rw [HRR.out, hg]; rfl
                  have HRE := Lib.hid hre
                  have HUB : Hid (updB x = R.fit) := Lib.hid (by
                    rw [hre]
                    unfold updB Rte.fit
                    rw [hg, if_pos rfl, decide_eq_true hf0, decide_eq_true hh0]
                    show fitB x.p x.s 0 1 = fitB x.p x.s x.f 1
                    rw [hf0])
                  clear hg hre hf0 hh0
                  go_wp2_with (first | ((with_reducible show wpList _ _ _ (Oper.mk _ (Op.load _ _) _ _ _ _ :: _) _ _); refine wpList_load_g (((upd_at HXO.out.fits HG2.out).all _ (Below.refl _ _)).prf) _ rfl rfl (by go_simp) ?_) | ((with_reducible show wpList _ _ _ (Oper.mk _ (Op.load _ _) _ _ _ _ :: _) _ _); refine wpList_load_g (((upd_at HXO.out.fits HG2.out).all _ (Below.refl _ _)).hop) _ rfl rfl (by go_simp) ?_) | ((with_reducible show wpList _ _ _ (Oper.mk _ (Op.store _ _ _) _ _ _ _ :: _) _ _); refine wpList_store_cell HG3.out 3 20 (.int .i64 1) (by rw [rteV_size (show (Upd.rte x).fits from HXO.out.fits)]; decide) (by kernel_rfl) rfl rfl _ _ rfl rfl rfl rfl ?_; intro w4 hg9 hs9 hb9; rw [rte_set_hop (Upd.rte x) 1 HXO.out.fits.len] at hb9; have H4 := Lib.hid (And.intro hg9 hb9); clear hg9 hs9 hb9))
                  go_meet
                  exact ⟨rfl, by rw [HRE.out]; exact H4.out.2, blk_grown HG2.out H4.out.1 (fun e => by injection e with e; exact HGE.out.2 e), HUB.out, below_grown HB3.out H4.out.1 HGE.out.1⟩
          case rest =>
            obtain ⟨rfl, HCC⟩ := hcut
            obtain ⟨w5, rfl⟩ : ∃ w5, w5 = wc := ⟨wc, rfl⟩
            have HB5 := Lib.hid (below_step HBI.out HCC.out.2.2.2)
            have HBL5 := Lib.hid HCC.out.2.2.2
            have HU5 := Lib.hid HCC.out.2.1
            have HFF := Lib.hid HCC.out.2.2.1
            have HR5 := Lib.hid HCC.out.1
            clear HCC HG2 HG3
            go_wp2_with (first | ((with_reducible show wpList _ _ _ (Oper.mk _ (Op.load _ _) _ _ _ _ :: _) _ _); refine wpList_load_g (((rte_at HRO.out.fits HR5.out).all _ (Below.refl _ _)).all) _ rfl rfl (by go_simp) ?_))
            refine (reffits_any R w5 HRO.out).mono ?_
            rintro e w6 ⟨rfl, hb6⟩
            rw [← HFF.out]
            have HB6 := Lib.hid (below_step HB5.out hb6)
            have HBL6 := Lib.hid (below_step HBL5.out hb6)
            have HU6 := Lib.hid (blk_below HU5.out hb6)
            clear hb6 HU5 HR5 HB5 HBL5
            cases hub : updB x with
            | false =>
              have HE := Lib.hid (batB_no HIL.out (.inl (by rw [show updAt l i = x from HX.out, hub])))
              clear hub
              go_wp2_with fail
              go_ret
              rw [HE.out]
              exact ⟨rfl, below_step HBE.out HB6.out⟩
            | true =>
              have HUB := Lib.hid hub
              clear hub
              go_wp2_with fail
              go_loopw [6] (fun s6 wr => ∃ k : Nat, s6 = .int .i64 k ∧ Hid (k ≤ i ∧ (∀ j, j < k → twin (updAt l j) x = false) ∧ Below w6.heap.size w6 wr)) (fun y _ => i - (intOf y).toNat)
              case atStart => exact ⟨0, rfl, Nat.zero_le _, fun j h => by omega, Below.refl _ _⟩
              case round =>
                obtain ⟨k, rfl, HK⟩ := hrel
                obtain ⟨wk, rfl⟩ : ∃ wk, wk = wr := ⟨wr, rfl⟩
                have HBK := Lib.hid (below_step HB6.out HK.out.2.2)
                by_cases hki : k < i
                · have hki' : (k : Int) < i := by omega
                  have hkn : k < n := by omega
                  have hkn' : (k : Int) < n := by omega
                  have HYO := Lib.hid (OK.out.at_ (show k < l.length by have := HIL.out; omega))
                  have HCY : Hid (CellsAt wi b (o + k * 22) (updC (updAt l k))) := Lib.hid (HC.out k hkn)
                  obtain ⟨y, hy⟩ : ∃ y, updAt l k = y := ⟨_, rfl⟩
                  have HY := Lib.hid hy
                  rw [hy] at HYO HCY
                  clear hy
                  go_wp2_with fail
                  refine wp_region_mix (fun w0 => Below (wk).heap.size (wk) w0) [(0, 0), (1, 0), (2, 0), (3, 0), (4, 0), (5, 0), (6, 0), (7, 0), (8, 0), (9, 0), (10, 0), (11, 0), (12, 0), (13, 0), (14, 0), (15, 0), (16, 0), (17, 0), (18, 0), (19, 0)] (by kernel_rfl) (by kernel_rfl) (below_drew1 _) ?_
                  simp only [List.map_cons, List.map_nil]
                  iterate 1 (refine wpO_step0 rfl rfl (fun K hK => ?_); go_simp; refine hK _ _ ?_; clear hK K)
                  refine wpO_loadW (t := 23) (ad := ⟨w.heap.size, 0, none⟩) rfl rfl ?hw rfl rfl ((fun w0 hS => (HP1.out.all w0 (below_step HBK.out hS)).2)) ?_
                  case hw => go_simp
                  iterate 3 (refine wpO_step0 rfl rfl (fun K hK => ?_); go_simp; refine hK _ _ ?_; clear hK K)
                  refine wpO_loadW (t := 102) (ad := ⟨b, (o+k*22), none⟩) rfl rfl ?hw rfl rfl ((fun w0 hS => (updLd_of HYO.out.fits (HCY.out.below (below_step HBL6.out (below_step HK.out.2.2 hS)))).pfx)) ?_
                  case hw => go_simp
                  iterate 1 (refine wpO_step0 rfl rfl (fun K hK => ?_); go_simp; refine hK _ _ ?_; clear hK K)
                  refine wpO_loadW (t := 102) (ad := ⟨gu, 0, none⟩) rfl rfl ?hw rfl rfl ((fun w0 hS => ((upd_at HXO.out.fits HU6.out).all _ (below_step HK.out.2.2 hS)).pfx)) ?_
                  case hw => go_simp
                  cases he : y.p.eqB x.p with
                  | false =>
                    have HEX := Lib.hid (pfx_eq_hex HYO.out.p HXO.out.p he)
                    have HTW : Hid (twin y x = false) := Lib.hid (by unfold twin; rw [he]; rfl)
                    clear he
                    refine wpO_step0 rfl rfl (fun K hK => ?_)
                    rw [if_pos (show Region.wanted _ _ = true from rfl)]
                    refine ⟨_, fun w0 => HEX.out _ _ _ _ _ rfl rfl rfl w0, hK _ _ ?_⟩
                    clear hK K
                    repeat first | (refine wpO_step0 rfl rfl (fun K hK => ?_); go_simp; refine hK _ _ ?_; clear hK K) | (refine wpO_step2 rfl rfl (below_drew1 _) (fun K hK => ?_); go_simp; refine hK _ _ ⟨below_drew1 _, ?_⟩; clear hK K)
                    refine wpO_nil ?_
                    go_wp2_with fail
                    go_roundw
                    case measure => simp [intOf]; omega
                    case rel => exact ⟨k + 1, by go_num, by omega, fun j hj => by
                      rcases Nat.lt_or_ge j k with h | h
                      · exact HK.out.2.1 j h
                      · obtain rfl : j = k := by omega
                        rw [show updAt l j = y from HY.out]
                        exact HTW.out, below_step HK.out.2.2 (below_drew1 _)⟩
                  | true =>
                    have HEX := Lib.hid (pfx_eq_hex HYO.out.p HXO.out.p he)
                    have HTW : Hid (twin y x = decide (y.s = x.s)) := Lib.hid (by unfold twin; rw [he]; rfl)
                    clear he
                    refine wpO_step0 rfl rfl (fun K hK => ?_)
                    rw [if_pos (show Region.wanted _ _ = true from rfl)]
                    refine ⟨_, fun w0 => HEX.out _ _ _ _ _ rfl rfl rfl w0, hK _ _ ?_⟩
                    clear hK K
                    iterate 2 (refine wpO_step0 rfl rfl (fun K hK => ?_); go_simp; refine hK _ _ ?_; clear hK K)
                    refine wpO_loadW (t := 23) (ad := ⟨w.heap.size, 0, none⟩) rfl rfl ?hw rfl rfl ((fun w0 hS => (HP1.out.all w0 (below_step HBK.out hS)).2)) ?_
                    case hw => go_simp
                    iterate 3 (refine wpO_step0 rfl rfl (fun K hK => ?_); go_simp; refine hK _ _ ?_; clear hK K)
                    refine wpO_loadW (t := 3) (ad := ⟨b, (o+k*22+18), none⟩) rfl rfl ?hw rfl rfl ((fun w0 hS => (updLd_of HYO.out.fits (HCY.out.below (below_step HBL6.out (below_step HK.out.2.2 hS)))).src)) ?_
                    case hw => go_simp
                    iterate 1 (refine wpO_step0 rfl rfl (fun K hK => ?_); go_simp; refine hK _ _ ?_; clear hK K)
                    refine wpO_loadW (t := 3) (ad := ⟨gu, 18, none⟩) rfl rfl ?hw rfl rfl ((fun w0 hS => ((upd_at HXO.out.fits HU6.out).all _ (below_step HK.out.2.2 hS)).src)) ?_
                    case hw => go_simp
                    iterate 2 (refine wpO_step0 rfl rfl (fun K hK => ?_); go_simp; refine hK _ _ ?_; clear hK K)
                    refine wpO_nil ?_
                    by_cases hss : y.s = x.s
                    · have hsb : (y.s == x.s) = true := by simpa using hss
                      have HE := Lib.hid (batB_no HIL.out (.inr ⟨k, hki, by rw [show updAt l i = x from HX.out, show updAt l k = y from HY.out, HTW.out, decide_eq_true hss]⟩))
                      clear hss
                      go_wp2_with fail
                      go_ret
                      rw [HE.out]
                      exact ⟨rfl, below_step HBE.out (below_step HBK.out (below_drew1 _))⟩
                    · have hsb : (y.s == x.s) = false := by simpa using hss
                      have HTF : Hid (twin y x = false) := Lib.hid (by rw [HTW.out, decide_eq_false hss])
                      clear hss
                      go_wp2_with fail
                      go_roundw
                      case measure => simp [intOf]; omega
                      case rel => exact ⟨k + 1, by go_num, by omega, fun j hj => by
                        rcases Nat.lt_or_ge j k with h | h
                        · exact HK.out.2.1 j h
                        · obtain rfl : j = k := by omega
                          rw [show updAt l j = y from HY.out]
                          exact HTF.out, below_step HK.out.2.2 (below_drew1 _)⟩
                · have hki' : decide (k < i) = false := decide_eq_false hki
                  have HN : Hid (∀ j, j < i + 1 → updB (updAt l j) = true ∧ ∀ k, k < j → twin (updAt l k) (updAt l j) = false) := Lib.hid (fun j hj => by
                    rcases Nat.lt_or_ge j i with h | h
                    · exact HI.out.2.1 j h
                    · obtain rfl : j = i := by omega
                      rw [show updAt l j = x from HX.out]
                      exact ⟨HUB.out, fun k' hk' => HK.out.2.1 k' (by have := HK.out.1; omega)⟩)
                  clear hki
                  go_wp2_with fail
                  go_roundw
                  case measure => simp [intOf]; omega
                  case rel => exact ⟨i + 1, by go_num, by omega, HN.out, below_step HBI.out (below_step HBL6.out HK.out.2.2)⟩
        · have hlt' : decide (i < n) = false := decide_eq_false hlt
          have hin : i = n := by have := HI.out.1; omega
          have HE : Hid (batB l = true) := Lib.hid (by
            unfold batB
            rw [(batsB_iff l).2 (by rw [HR.out.len, ← hin]; exact HI.out.2.1), HR.out.len, decide_eq_true (show 1 ≤ n by omega), decide_eq_true (show n ≤ 8 by omega)]
            rfl)
          clear hlt hin
          go_wp2_with (first | ((with_reducible show wpList _ _ _ (Oper.mk _ (Op.load _ _) _ _ _ _ :: _) _ _); refine wpList_load_g ((HP1.out.all _ HBI.out).2) _ rfl rfl (by go_simp) ?_))
          go_ret
          rw [HE.out]
          exact ⟨rfl, below_step HBE.out HBI.out⟩
end Go.Proofs.YtifejiclenpfoaaDoor

/- Slices of elements of whatever shape: made, cut, one element stored. -/
namespace Go.Proofs.YtifejiclenpfoaaDoor
open Go.RowKit
set_option linter.unusedVariables false
set_option linter.unusedSimpArgs false
set_option maxRecDepth 4000
theorem OS.made {α : Type} (S : Shape α) (W : World) (base n : Nat) (hb : base ≤ W.heap.size) (hn : n ≤ 1000000000) : OS S (W.alloc (.cells (S.cells (List.replicate n S.z)).toArray S.t)) base (some ⟨W.heap.size, 0, none⟩) n n (List.replicate n S.z) := by
  have := OS.new S W base (List.replicate n S.z) hb (fun a ha => by rw [List.eq_of_mem_replicate ha]; exact S.okz) (by simp; omega)
  rwa [List.length_replicate] at this
theorem blk_ownN {w w1 : World} {g : Nat} {o : Obj} {A : Option Addr} {n c : Nat} (h : w.heap[g]? = some o) (hg : w.grownBy w1 ((Value.slice A n c).ownBlock)) (ha : ∀ ad, A = some ad → ad.block ≠ g) : w1.heap[g]? = some o :=
  blk_grown h hg (fun e => by
    obtain ⟨ad, e1, e2⟩ := own_of e.symm
    exact ha ad e1 e2)
theorem kw_cast {α : Type} {K : α → World → Prop} {a : α} {w v : World} (h : w = v) (k : K a v) : K a w := h ▸ k
theorem OS.two {α : Type} (S : Shape α) (W : World) (base : Nat) (a b : α) (hb : base ≤ W.heap.size) (ha : S.ok a) (hbo : S.ok b) : OS S (W.alloc (.cells (S.cells [a, b]).toArray S.t)) base (some ⟨W.heap.size, 0, none⟩) 2 2 [a, b] :=
  OS.new S W base [a, b] hb (fun c hc => by
    rcases List.mem_cons.1 hc with rfl | hc
    · exact ha
    · rw [List.mem_singleton] at hc; rw [hc]; exact hbo) (by simp)
end Go.Proofs.YtifejiclenpfoaaDoor

/- Layer 9 (table): Get, Drop. -/
namespace Go.Proofs.YtifejiclenpfoaaDoor
open Go.RowKit
set_option linter.unusedVariables false
set_option linter.unusedSimpArgs false
set_option maxRecDepth 4000
end Go.Proofs.YtifejiclenpfoaaDoor

/- Layer 9 (table): Drop, Same, Set. -/
namespace Go.Proofs.YtifejiclenpfoaaDoor
open Go.RowKit
set_option linter.unusedVariables false
set_option linter.unusedSimpArgs false
set_option maxRecDepth 4000
theorem tab_one (A : Option Addr) (n c : Nat) : (tabV A n c).all (·.oneCell') = true := by simp [tabV, Value.oneCell']
theorem splice_tab (A A2 : Option Addr) (n c n2 c2 : Nat) : splice (tabV A n c) 0 (tabV A2 n2 c2).toList = tabV A2 n2 c2 := splice_all _ _ rfl
end Go.Proofs.YtifejiclenpfoaaDoor

/- Layer 9 (table): Set. -/
namespace Go.Proofs.YtifejiclenpfoaaDoor
open Go.RowKit
set_option linter.unusedVariables false
set_option linter.unusedSimpArgs false
set_option maxRecDepth 4000
end Go.Proofs.YtifejiclenpfoaaDoor

/- Layer 11 (route): Apply. -/
namespace Go.Proofs.YtifejiclenpfoaaDoor
open Go.RowKit
set_option linter.unusedVariables false
set_option linter.unusedSimpArgs false
set_option maxRecDepth 4000
/-- What the loop of Apply keeps: the rows of its own, and the cell that holds them. -/
structure AppS (w0 w : World) (g : Nat) (A : Option Addr) (n c : Nat) (l : List Rte) : Prop where
  own : OS rteK w w0.heap.size A n c l
  cell : w.heap[g]? = some (.cells (tabV A n c) 37 (0, 0))
  ne : ∀ ad, A = some ad → ad.block ≠ g
  bel : Below w0.heap.size w0 w
  gle : w0.heap.size ≤ g
theorem AppS.step {w0 w w1 : World} {g : Nat} {A : Option Addr} {n c : Nat} {l : List Rte} (h : AppS w0 w g A n c l) (hb : Below w.heap.size w w1) : AppS w0 w1 g A n c l := ⟨h.own.below hb, blk_below h.cell hb, h.ne, below_step h.bel hb, h.gle⟩
theorem AppS.put {w0 w w1 : World} {g : Nat} {ad : Addr} {n c : Nat} {l l' : List Rte} (h : AppS w0 w g (some ad) n c l) (ho : OS rteK w1 w0.heap.size (some ad) n c l') (hg : w.grownBy w1 (some ad.block)) : AppS w0 w1 g (some ad) n c l' :=
  ⟨ho, blk_grown h.cell hg (fun e => by injection e with e; exact h.ne ad rfl e.symm), h.ne, below_grown h.bel hg (h.own.base_ ad rfl), h.gle⟩
end Go.Proofs.YtifejiclenpfoaaDoor

/- Layer 11 (route): the document's Apply. -/
namespace Go.Proofs.YtifejiclenpfoaaDoor
open Go.RowKit
set_option linter.unusedVariables false
set_option linter.unusedSimpArgs false
set_option maxRecDepth 4000
end Go.Proofs.YtifejiclenpfoaaDoor

/- Layer 11 (route): slices of batches; what comes of batches one behind the other. -/
namespace Go.Proofs.YtifejiclenpfoaaDoor
open Go.RowKit
set_option linter.unusedVariables false
set_option linter.unusedSimpArgs false
set_option maxRecDepth 4000
end Go.Proofs.YtifejiclenpfoaaDoor

/- Plain laws of layer 11 (route): the best of each prefix. -/
namespace Go.Proofs.YtifejiclenpfoaaDoor
set_option linter.unusedVariables false
set_option linter.unusedSimpArgs false
set_option maxRecDepth 4000
set_option maxRecDepth 4000
def Rte.row (x : Rte) : Row := ⟨x.p, x.h⟩
end Go.Proofs.YtifejiclenpfoaaDoor

/- A region that draws its order, where two operations that act may stand in either order: both orders are walked. -/
namespace Go.Proofs.YtifejiclenpfoaaDoor
open Go.RowKit
set_option linter.unusedVariables false
set_option linter.unusedSimpArgs false
set_option maxRecDepth 4000

section
variable {P : Program} {S : World → Prop} {ops : Array Oper} {md : Region.Mode} {cl : Nat → Nat}
theorem notOut (X : Act → World → Prop) : ¬ LetsOut (onlyNormal X) := fun ⟨_, _, h⟩ => h
theorem wpOp_normal {X Y K : Act → World → Prop} {i : Nat} {a : Act} {w : World} (h : wpOp P ops (onlyNormal X) i K a w) : wpOp P ops (onlyNormal Y) i K a w := by
  unfold wpOp at *
  cases hi : ops[i]? with
  | none => rw [hi] at h; exact h
  | some o =>
    rw [hi] at h
    simp only at h ⊢
    split
    · rename_i hw
      rw [if_pos hw] at h
      rcases h with h | ⟨_, h⟩
      · refine .inl ?_
        unfold Oper.wp at *
        generalize (execOp a.eval o).run P w = r at *
        cases r with
        | ok n w' =>
          cases n <;> simp only [Oper.upon] at h ⊢
          case value u => exact h
          case skip => exact h
          case defer d => exact h
          case enter f args =>
            refine Calls.mono h fun e w'' he => ?_
            cases e with
            | returned u => exact he
            | panicked c => exact he.elim
            | outgrown => exact (notOut _ he).elim
          case row row args => exact h
        | halt x w' =>
          cases x <;> simp only [Oper.upon] at h ⊢
          case panic u => exact h.elim
      · exact (notOut _ h).elim
    · rename_i hw
      rw [if_neg hw] at h
      exact h
theorem mOp_normal {X Y K K' : Act → World → Prop} {i : Nat} {a : Act} {w : World} (hk : ∀ a w, K a w → K' a w) (h : mOp P S ops (onlyNormal X) cl i K a w) : mOp P S ops (onlyNormal Y) cl i K' a w := by
  refine mOp_mono hk ?_
  unfold mOp at *
  cases hi : ops[i]? with
  | none => rw [hi] at h; exact h
  | some o =>
    rw [hi] at h
    simp only at h ⊢
    split at h
    · exact h
    · exact h
    · exact wpOp_normal h
    · exact h
    · exact wpOp_normal h

inductive OrdT where
  | lin (l : List Nat)
  | fork (l : List Nat) (i j : Nat) (r s : OrdT)
def OrdT.len : OrdT → Nat
  | .lin l => l.length
  | .fork l _ _ r _ => l.length + (r.len + 1)
def wpF (P : Program) (S : World → Prop) (ops : Array Oper) (cl : Nat → Nat) (K : Act → World → Prop) : OrdT → Act → World → Prop
  | .lin l, a, w => wpO P S ops (onlyNormal K) cl l a w
  | .fork l i j r s, a, w => wpO P S ops (onlyNormal fun a w => wpO P S ops (onlyNormal (wpF P S ops cl K r)) cl [i] a w ∧ wpO P S ops (onlyNormal (wpF P S ops cl K s)) cl [j] a w) cl l a w
def afterL (l : List Nat) (listed : Array Bool) : Array Bool := l.foldl (fun b i => b.setIfInBounds i true) listed
def ordP (md : Region.Mode) (ops : Array Oper) (cl : Nat → Nat) : List Nat → Array Bool → Bool
  | [], _ => true
  | i :: l, listed => (match cl i with
    | 0 => (Region.ready md ops listed).contains i && Region.free md ops listed i
    | 1 => (Region.ready md ops listed).contains i && Region.free md ops listed i && (List.range ops.size).all fun j => listed.getD j true || cl j == 0 || cl j == 1 || reach md ops i ops.size j
    | 4 => (Region.ready md ops listed).contains i && Region.free md ops listed i
    | _ => Region.ready md ops listed == [i]) && ordP md ops cl l (listed.setIfInBounds i true)
def ordF (md : Region.Mode) (ops : Array Oper) (cl : Nat → Nat) : OrdT → Array Bool → Bool
  | .lin l, listed => ordB md ops cl l listed
  | .fork l i j r s, listed => ordP md ops cl l listed && (Region.ready md ops (afterL l listed) == [i, j]) && decide (r.len = s.len) && ordF md ops cl r ((afterL l listed).setIfInBounds i true) && ordF md ops cl s ((afterL l listed).setIfInBounds j true)

theorem wpM_prefix (hf : Fin md ops cl) (hs : Region.noSelect ops = true) {X K : Act → World → Prop} {n : Nat} : ∀ (l : List Nat) (listed : Array Bool) (a : Act) (w : World), Closed md ops listed → ordP md ops cl l listed = true →
    wpO P S ops (onlyNormal X) cl l a w → (∀ a w, Closed md ops (afterL l listed) → X a w → wpM P S md ops (onlyNormal K) cl n (afterL l listed) a w) → wpM P S md ops (onlyNormal K) cl (n + l.length) listed a w
  | [], listed, a, w, hcl, _, h, hX => hX a w hcl h
  | i :: l, listed, a, w, hcl, hB, h, hX => by
    simp only [ordP, Bool.and_eq_true] at hB
    obtain ⟨hB1, hB2⟩ := hB
    simp only [wpO] at h
    have h0 := h
    have hX' : ∀ a w, Closed md ops (afterL l (listed.setIfInBounds i true)) → X a w → wpM P S md ops (onlyNormal K) cl n (afterL l (listed.setIfInBounds i true)) a w := fun a w hc hx => hX a w hc hx
    show wpM P S md ops (onlyNormal K) cl (n + l.length + 1) listed a w
    unfold mOp at h
    split at hB1
    · rename_i hc
      simp only [Bool.and_eq_true, List.contains_iff_mem] at hB1
      obtain ⟨_, oi, hoi, _⟩ := mem_ready.1 hB1.1
      rw [hoi] at h
      simp only [hc] at h
      obtain ⟨v, hy, hk⟩ := h
      exact wpM_first0 hf hoi hc (Region.noSelect_spec hs) (fun c a w h => h) (n + l.length) listed a w hcl (Region.free_spec hoi hB1.2) hB1.1 hy (wpM_prefix hf hs l _ _ w (hcl.set hB1.1) hB2 hk hX')
    · rename_i hc
      simp only [Bool.and_eq_true, List.contains_iff_mem, List.all_eq_true, List.mem_range, Bool.or_eq_true, beq_iff_eq] at hB1
      obtain ⟨_, oi, hoi, _⟩ := mem_ready.1 hB1.1.1
      rw [hoi] at h
      simp only [hc] at h
      obtain ⟨v, hy, hk⟩ := h
      refine wpM_first1 (N := ops.size) hoi hc (Region.noSelect_spec hs) (n + l.length) listed a hcl (fun j oj hj hun => ?_) (Region.free_spec hoi hB1.1.2) hB1.1.1 hy (wpM_prefix hf hs l _ _ w (hcl.set hB1.1.1) hB2 hk hX')
      have := hB1.2 j (Array.getElem?_eq_some_iff.1 hj).1
      rw [hun] at this
      simpa [or_assoc] using this
    · rename_i hc
      simp only [Bool.and_eq_true, List.contains_iff_mem] at hB1
      obtain ⟨_, oi, hoi, _⟩ := mem_ready.1 hB1.1
      rw [hoi] at h
      simp only [hc] at h
      obtain ⟨v, hy, hk⟩ := h
      exact wpM_first4 hoi hc (Region.noSelect_spec hs) (fun c a w h => h) (n + l.length) listed a w hcl (Region.free_spec hoi hB1.2) hB1.1 hy (wpM_prefix hf hs l _ _ w (hcl.set hB1.1) hB2 hk hX')
    · simp only [beq_iff_eq] at hB1
      have hr : i ∈ Region.ready md ops listed := by rw [hB1]; exact List.mem_singleton.2 rfl
      exact wpM_only hB1 (mOp_normal (fun a' w' h' => wpM_prefix hf hs l _ a' w' (hcl.set hr) hB2 h' hX') h0)
theorem wpM_of_wpF (hf : Fin md ops cl) (hs : Region.noSelect ops = true) {K : Act → World → Prop} : ∀ (t : OrdT) (listed : Array Bool) (a : Act) (w : World), Closed md ops listed → ordF md ops cl t listed = true → wpF P S ops cl K t a w →
    wpM P S md ops (onlyNormal K) cl t.len listed a w
  | .lin l, listed, a, w, hcl, hB, h => wpM_of_wpO hf hs (fun c dst v a w h => h) l listed a w hcl hB h
  | .fork l i j r s, listed, a, w, hcl, hB, h => by
    simp only [ordF, Bool.and_eq_true, decide_eq_true_eq, beq_iff_eq] at hB
    obtain ⟨⟨⟨⟨h1, h2⟩, h3⟩, h4⟩, h5⟩ := hB
    show wpM P S md ops (onlyNormal K) cl (l.length + (r.len + 1)) listed a w
    rw [Nat.add_comm]
    refine wpM_prefix hf hs l listed a w hcl h1 h (fun a w hc hx => ?_)
    refine ⟨fun h => (by rw [h2] at h; cases h), fun k hk => ?_⟩
    have hri : i ∈ Region.ready md ops (afterL l listed) := by rw [h2]; simp
    have hrj : j ∈ Region.ready md ops (afterL l listed) := by rw [h2]; simp
    rw [h2] at hk
    rcases List.mem_cons.1 hk with rfl | hk
    · exact mOp_normal (fun a' w' h' => wpM_of_wpF hf hs r _ a' w' (hc.set hri) h4 h') hx.1
    · rw [List.mem_singleton] at hk
      subst hk
      exact mOp_normal (fun a' w' h' => by rw [h3]; exact wpM_of_wpF hf hs s _ a' w' (hc.set hrj) h5 h') hx.2
end
theorem wp_region_fork {P : Program} (S : World → Prop) {ops : Array Oper} {id : Nat} {Q : Exit → Act → World → Prop} {a : Act} {w : World} (t : OrdT) (l : List (Nat × Nat)) (hm : P.follows .mixedOrders = true)
    (hB : (finB .any ops l && Region.noSelect ops && decide (t.len = ops.size) && ordF .any ops (clOf l) t (Array.replicate ops.size false)) = true)
    (hS : S w.drew) (h : wpF P S ops (clOf l) (Q .normal) t a w.drew) : (Code.region id ops true).wp P Q a w := by
  simp only [Bool.and_eq_true, decide_eq_true_eq] at hB
  refine wp_mono (Q := onlyNormal (Q .normal)) (wp_region_any hm (wpAny_of_wpM (S := S) (cl := clOf l) (fin_of hB.1.1.1) _ _ _ _ (Closed.start _) hS ?_)) (fun e a w hq => ?_)
  · have := wpM_of_wpF (P := P) (S := S) (md := .any) (cl := clOf l) (fin_of hB.1.1.1) hB.1.1.2 t (Array.replicate ops.size false) a w.drew (Closed.start _) hB.2 h
    rw [hB.1.2] at this
    exact this
  · cases e <;> first | exact hq | exact hq.elim
end Go.Proofs.YtifejiclenpfoaaDoor

/- Layer 11 (route): Best. -/
namespace Go.Proofs.YtifejiclenpfoaaDoor
open Go.RowKit
set_option linter.unusedVariables false
set_option linter.unusedSimpArgs false
set_option maxRecDepth 4000
end Go.Proofs.YtifejiclenpfoaaDoor

/- Layer 5 (prefix): Bit; the document's Bit. -/
namespace Go.Proofs.YtifejiclenpfoaaDoor
open Go.RowKit
set_option linter.unusedVariables false
set_option linter.unusedSimpArgs false
set_option maxRecDepth 4000

end Go.Proofs.YtifejiclenpfoaaDoor

/- Layer 5 (prefix): Nibble; the document's Nibble. -/
namespace Go.Proofs.YtifejiclenpfoaaDoor
open Go.RowKit
set_option linter.unusedVariables false
set_option linter.unusedSimpArgs false
set_option maxRecDepth 4000

end Go.Proofs.YtifejiclenpfoaaDoor

/- Layer 5 (prefix): a whole prefix out of a block. -/
namespace Go.Proofs.YtifejiclenpfoaaDoor
open Go.RowKit
set_option linter.unusedVariables false
set_option linter.unusedSimpArgs false
set_option maxRecDepth 4000

end Go.Proofs.YtifejiclenpfoaaDoor

/- Layer 5 (prefix): Has. -/
namespace Go.Proofs.YtifejiclenpfoaaDoor
open Go.RowKit
set_option linter.unusedVariables false
set_option linter.unusedSimpArgs false
set_option maxRecDepth 4000

end Go.Proofs.YtifejiclenpfoaaDoor

/- Layer 5 (prefix): Holds. -/
namespace Go.Proofs.YtifejiclenpfoaaDoor
open Go.RowKit
set_option linter.unusedVariables false
set_option linter.unusedSimpArgs false
set_option maxRecDepth 4000

end Go.Proofs.YtifejiclenpfoaaDoor

/- Layer 5 (prefix): EncodeAddr, Encode; the document's bytes. -/
namespace Go.Proofs.YtifejiclenpfoaaDoor
open Go.RowKit
set_option linter.unusedVariables false
set_option linter.unusedSimpArgs false
set_option maxRecDepth 4000

def encPE (p : Pfx) : List Int := if p.right then encP p else []
theorem encPE_no {p : Pfx} (h : p.right = false) : encPE p = [] := by unfold encPE; rw [h]; rfl
theorem encPE_yes {p : Pfx} (h : p.right = true) : encPE p = encP p := by unfold encPE; rw [h]; rfl
theorem full_any (b : Int) (w : World) (h0 : 0 ≤ b) (h1 : b ≤ 128) : Calls Tryd.prog 133 #[.int .i64 b] w fun e w' => e = .returned (.int .i64 ((b + 7) / 8)) ∧ w = w' := by
  go_enter Tryd.func133, Tryd.ntmps133
  go_wp2
  go_ret
  exact ⟨rfl, rfl⟩
theorem OB.two (W : World) (x y : Int) (hx : 0 ≤ x ∧ x < 256) (hy : 0 ≤ y ∧ y < 256) (base : Nat) (hb : base ≤ W.heap.size) : OB (W.alloc (.cells #[.int .u8 x, .int .u8 y] 5)) base (some ⟨W.heap.size, 0, none⟩) 2 2 [x, y] :=
  OB.new W base [x, y] hb (by simp) (fun z hz => by simp at hz; omega)
theorem OB.one (W : World) (x : Int) (hx : 0 ≤ x ∧ x < 256) (base : Nat) (hb : base ≤ W.heap.size) : OB (W.alloc (.cells #[.int .u8 x] 5)) base (some ⟨W.heap.size, 0, none⟩) 1 1 [x] :=
  OB.new W base [x] hb (by simp) (fun z hz => by simp at hz; omega)

set_option maxHeartbeats 2000000 in
theorem encode_any (p : Pfx) (w : World) (hL : Laid w) (hp : B16 p.l) : Calls Tryd.prog 123 #[.agg (pfxV p.v p.l p.b)] w fun e w' => ∃ A n c, e = .returned (.tuple #[.slice A n c, .int .i64 (errP p.v p.l p.b)]) ∧ OB w' w.heap.size A n c (encPE p) ∧ Below w.heap.size w w' := by
  have hblk1 := blk_new w (.cells (pfxV p.v p.l p.b) 102)
  have hbel1 : Below w.heap.size w (w.alloc (.cells (pfxV p.v p.l p.b) 102)) := below_alloc (Below.refl _ _) _
  have HP1 := Lib.hid (pfx_at hp hblk1)
  have HBK1 := Lib.hid hblk1
  have HBE := Lib.hid hbel1
  have HL := Lib.hid (hL.below HBE.out)
  obtain ⟨cs1, hcs1⟩ : ∃ cs, pfxV p.v p.l p.b = cs := ⟨_, rfl⟩
  simp only [hcs1] at HBE HL HP1 HBK1 ⊢
  have HC1 := Lib.hid hcs1
  clear hL hcs1 hblk1 hbel1
  have hla := (HP1.out.all _ (Below.refl _ _)).2.2.2.2
  go_enter Tryd.func123, Tryd.ntmps123
  go_wp2_with ((with_reducible show wpList _ _ _ (Oper.mk _ (Op.load _ _) _ _ _ _ :: _) _ _); refine wpList_load_g hla _ rfl rfl (by go_simp) ?_)
  refine (check_any p.v p.l p.b _ HL.out hp).mono ?_
  rintro e w1 ⟨rfl, hbb1⟩
  have HB1 := Lib.hid hbb1
  clear hbb1 hla
  cases hR : rightP p.v p.l p.b with
  | false =>
    have HE := Lib.hid (encPE_no (p := p) hR)
    have HE2 := Lib.hid (errP_false hR)
    rw [HE2.out]
    clear hR
    go_wp2
    go_ret2
    rw [HE.out, HE2.out]
    exact ⟨_, _, _, rfl, OB.nil _ _, below_step HBE.out HB1.out⟩
  | true =>
    have HY := Lib.hid (encPE_yes (p := p) hR)
    have HE2 := Lib.hid (errP_true hR)
    rw [HE2.out]
    have hb0 := (p.right_iff.1 hR).2.1
    have hb1 : p.b ≤ 128 := by have := (p.right_iff.1 hR).2.2.1; have := widthA_le p.v; omega
    clear hR
    go_wp2_with fail
    have hfq := fun w0 => full_any p.b w0 hb0 hb1
    have hkb := blk_below HBK1.out HB1.out
    rw [← HC1.out] at hkb
    have HRB := Lib.hid (rb_pfx hp hkb)
    obtain ⟨k, hk⟩ : ∃ k, fullB p.b = k := ⟨_, rfl⟩
    have hkk : (p.b + 7) / 8 = (k : Int) := by rw [← hk]; unfold fullB; omega
    have HE : Hid (encP p = p.v % 256 :: p.b % 256 :: p.l.take k) := by unfold encP; rw [hk]; exact rfl
    have hk16 : (k : Int) ≤ 16 := by omega
    have hk0 : 0 ≤ (k : Int) := by omega
    have hv8 : IntKind.u8.wrap p.v = p.v % 256 := by simp [IntKind.wrap, IntKind.bits, IntKind.signed]
    have hv9 : IntKind.u8.wrap p.b = p.b % 256 := by simp [IntKind.wrap, IntKind.bits, IntKind.signed]
    rw [hkk] at hfq
    clear hkb hk hkk hb0 hb1
    refine wp_region_mix (fun w0 => Below (w1).heap.size (w1) w0) [(0, 0), (1, 0), (2, 0), (3, 0), (4, 0), (5, 0), (6, 0), (8, 0), (9, 0), (10, 0), (11, 0), (12, 0), (13, 0), (7, 2), (14, 2), (15, 0), (16, 0)] (by kernel_rfl) (by kernel_rfl) (below_drew1 _) ?_
    simp only [List.map_cons, List.map_nil]
    iterate 2 (refine wpO_step0 rfl rfl (fun K hK => ?_); go_simp; refine hK _ _ ?_; clear hK K)
    refine wpO_loadW (t := 3) (ad := ⟨w.heap.size, 0, none⟩) rfl rfl ?hw rfl rfl ((fun w0 hS => (HP1.out.all w0 (below_step HB1.out hS)).2.2.1)) ?_
    case hw => go_simp
    iterate 2 (refine wpO_step0 rfl rfl (fun K hK => ?_); go_simp; refine hK _ _ ?_; clear hK K)
    refine wpO_loadW (t := 3) (ad := ⟨w.heap.size, 17, none⟩) rfl rfl ?hw rfl rfl ((fun w0 hS => (HP1.out.all w0 (below_step HB1.out hS)).2.1)) ?_
    case hw => go_simp
    iterate 4 (refine wpO_step0 rfl rfl (fun K hK => ?_); go_simp; refine hK _ _ ?_; clear hK K)
    refine wpO_loadW (t := 3) (ad := ⟨w.heap.size, 17, none⟩) rfl rfl ?hw rfl rfl ((fun w0 hS => (HP1.out.all w0 (below_step HB1.out hS)).2.1)) ?_
    case hw => go_simp
    refine wpO_quiet rfl rfl ?hw Tryd.func133 (by kernel_rfl) (by kernel_rfl) rfl rfl (fun w0 hS => hfq w0) ?_
    case hw => go_simp
    iterate 1 (refine wpO_step0 rfl rfl (fun K hK => ?_); go_simp; refine hK _ _ ?_; clear hK K)
    refine wpO_step2 rfl rfl (below_drew1 _) (fun K hK => ?_)
    go_simp
    have hsz := HB1.out.size
    simp at hsz
    have HO := Lib.hid ((OB.two w1 (p.v % 256) (p.b % 256) (by omega) (by omega) w.heap.size (by omega)).below (below_drew1 _))
    refine hK _ _ ⟨(below_alloc (Below.refl _ _) _).drew, ?_⟩
    clear hK K
    have HR := Lib.hid ((HRB.out.take k (by omega)).below (below_step (below_alloc (Below.refl _ _) (.cells #[.int .u8 (p.v % 256), .int .u8 (p.b % 256)] 5)) (below_drew1 _)))
    refine wpO_step2 rfl rfl ((below_alloc (Below.refl _ _) _).drew) (fun K hK => ?_)
    rw [if_pos (show Region.wanted _ _ = true from rfl)]
    refine oper_append_bytes (.tmp 17) (.tmp 23) rfl rfl rfl HO.out HR.out (by simp; omega) (by omega) ?_
    intro A3 c3 w3 h1 h2 h3
    have hb3 : Below w1.heap.size w1 w3 := (below_step (below_alloc (Below.refl _ _) (.cells #[.int .u8 (p.v % 256), .int .u8 (p.b % 256)] 5)) (below_drew1 _)).grown h2 (by simp) (own_row (fun ad e => by injection e with e; rw [← e]; exact Nat.le_refl _))
    have H3 := Lib.hid (And.intro h1 hb3)
    clear h1 h2 h3 hb3
    refine hK _ _ ⟨H3.out.2, ?_⟩
    clear hK K
    iterate 2 (refine wpO_step0 rfl rfl (fun K hK => ?_); go_simp; refine hK _ _ ?_; clear hK K)
    refine wpO_nil ?_
    go_wp2
    go_ret2
    rw [HY.out, HE.out, HE2.out]
    exact ⟨_, _, _, rfl, H3.out.1, below_step HBE.out (below_step HB1.out H3.out.2)⟩

end Go.Proofs.YtifejiclenpfoaaDoor

/- Layer 5 (prefix): the reader's version and some. -/
namespace Go.Proofs.YtifejiclenpfoaaDoor
open Go.RowKit
set_option linter.unusedVariables false
set_option linter.unusedSimpArgs false
set_option maxRecDepth 4000

theorem Laid.grown {w w1 : World} (h : Laid w) {g : Nat} (hg : w.grownBy w1 (some g)) (h0 : g ≠ 0) : Laid w1 :=
  ⟨fun i hi => hg.cell (h.at_ i hi) (fun e => by injection e with e; exact h0 e.symm)⟩
theorem Rdr.short {w : World} {lo g : Nat} {xs : List Int} {e : Int} (h : Rdr w lo g xs e) : xs.length ≤ 281474976710656 := by
  obtain ⟨A, n, c, -, hr, -⟩ := h
  rw [hr.len]
  exact hr.small
/-- The reader of the package: a box that holds the pointer. -/
abbrev rdV (g : Nat) : Array Value := #[.pointer (some ⟨g, 0, none⟩)]

def SomeRest (lo g : Nat) (xs : List Int) (bits : Nat) (wrong : Int) (w : World) : Prop := ∃ rest e1, Rdr w lo g rest e1 ∧ (someE xs bits wrong = 0 → rest = xs.drop (fullB bits) ∧ e1 = 0)
end Go.Proofs.YtifejiclenpfoaaDoor

/- Layer 5 (prefix): DecodeAddr. -/
namespace Go.Proofs.YtifejiclenpfoaaDoor
open Go.RowKit
set_option linter.unusedVariables false
set_option linter.unusedSimpArgs false
set_option maxRecDepth 4000

/-- What holds while the bytes are read: the reader's box, the result's cell. -/
structure DecS (w : World) (rb zb g : Nat) (z : Obj) (w0 : World) : Prop where
  below : Below w.heap.size w w0
  box : w0.heap[rb]? = some (.cells (rdV g) 195 (0, 0))
  zero : w0.heap[zb]? = some z
theorem DecS.step {w w0 w1 : World} {rb zb g : Nat} {z : Obj} (h : DecS w rb zb g z w0) (hb : Below w0.heap.size w0 w1) : DecS w rb zb g z w1 := ⟨below_step h.below hb, blk_below h.box hb, blk_below h.zero hb⟩
theorem SomeRest.below {lo g : Nat} {xs : List Int} {bits : Nat} {wrong : Int} {w w1 : World} (h : SomeRest lo g xs bits wrong w) (hb : Below w.heap.size w w1) : SomeRest lo g xs bits wrong w1 := by
  obtain ⟨r, e, h1, h2⟩ := h
  exact ⟨r, e, h1.below hb, h2⟩
theorem SomeRest.grown {lo g c : Nat} {xs : List Int} {bits : Nat} {wrong : Int} {w w1 : World} (h : SomeRest lo g xs bits wrong w) (hg : w.grownBy w1 (some c)) (hc : g < c) : SomeRest lo g xs bits wrong w1 := by
  obtain ⟨r, e, h1, h2⟩ := h
  exact ⟨r, e, h1.grown hg (fun b hb => by injection hb with hb; omega), h2⟩
/-- What the reading has left: the bytes in a block of their own, the reader behind them. -/
structure DecR (w : World) (rb zb g gb lo : Nat) (z : Obj) (sl : List Int) (ys : List Int) (bits : Nat) (wrong : Int) (w0 : World) : Prop where
  s : DecS w rb zb g z w0
  arr : w0.heap[gb]? = some (.cells (arrV sl) 98 (0, 0))
  rest : SomeRest lo g ys bits wrong w0
theorem DecR.drew {w w0 : World} {rb zb g gb lo : Nat} {z : Obj} {sl ys : List Int} {bits : Nat} {wrong : Int} (h : DecR w rb zb g gb lo z sl ys bits wrong w0) : DecR w rb zb g gb lo z sl ys bits wrong w0.drew :=
  ⟨h.s.step (below_drew1 _), h.arr, h.rest.below (below_drew1 _)⟩
structure DecT (w : World) (rb g gb : Nat) (sl : List Int) (w0 : World) : Prop where
  below : Below w.heap.size w w0
  box : w0.heap[rb]? = some (.cells (rdV g) 195 (0, 0))
  arr : w0.heap[gb]? = some (.cells (arrV sl) 98 (0, 0))
theorem DecR.t {w w0 : World} {rb zb g gb lo : Nat} {z : Obj} {sl ys : List Int} {bits : Nat} {wrong : Int} (h : DecR w rb zb g gb lo z sl ys bits wrong w0) : DecT w rb g gb sl w0 := ⟨h.s.below, h.s.box, h.arr⟩
end Go.Proofs.YtifejiclenpfoaaDoor

/- Layer 5 (prefix): Decode. -/
namespace Go.Proofs.YtifejiclenpfoaaDoor
open Go.RowKit
set_option linter.unusedVariables false
set_option linter.unusedSimpArgs false
set_option maxRecDepth 4000

end Go.Proofs.YtifejiclenpfoaaDoor

/- Layer 5: wakes. -/
namespace Go.Proofs.YtifejiclenpfoaaDoor
open Go.RowKit
set_option linter.unusedVariables false
set_option linter.unusedSimpArgs false
set_option maxRecDepth 4000

def ten8 : List Int := [10, 0, 0, 0, 0, 0, 0, 0, 0, 0, 0, 0, 0, 0, 0, 0]
theorem ten8_B : B16 ten8 := ⟨rfl, fun x hx => by simp [ten8] at hx; omega⟩
/-- A whole prefix stored into a cell just made. -/
structure WakS (w : World) (g h : Nat) (w0 : World) : Prop where
  below : Below w.heap.size w w0
  p : w0.heap[g]? = some (.cells (pfxV 4 ten8 8) 102 (0, 0))
  q : w0.heap[h]? = some (.cells (pfxV 4 ten8 8) 102 (0, 0))
theorem WakS.step {w w0 w1 : World} {g h : Nat} (s : WakS w g h w0) (hb : Below w0.heap.size w0 w1) : WakS w g h w1 := ⟨below_step s.below hb, blk_below s.p hb, blk_below s.q hb⟩
end Go.Proofs.YtifejiclenpfoaaDoor

/- Layer 11 (route): the law's eight, over, own, wakes. -/
namespace Go.Proofs.YtifejiclenpfoaaDoor
open Go.RowKit
set_option linter.unusedVariables false
set_option linter.unusedSimpArgs false
set_option maxRecDepth 4000
theorem built_upd (p : Pfx) (s f h : Int) (hl : p.l.length = 16) : Tryd.prog.built 104 [(0, .agg (pfxV p.v p.l p.b)), (1, .int .i64 s), (3, .int .i64 f), (4, .int .i64 h)] = some (updV ⟨p, s, false, f, h⟩) := by
  obtain ⟨a, b, c, d, e, f, g, h1, i, j, k, m, n, o, q, r, hh⟩ := len16 hl
  obtain ⟨v, l, x⟩ := p
  simp only at hh
  subst hh
  kernel_rfl
theorem run_build_upd (w : World) (p : Pfx) (s f h : Int) (hl : p.l.length = 16) : (Instr.build 104 #[(0, .agg (pfxV p.v p.l p.b)), (1, .int .i64 s), (3, .int .i64 f), (4, .int .i64 h)]).run Tryd.prog w = .ok (.agg (updV ⟨p, s, false, f, h⟩)) w := run_build w _ _ _ (built_upd p s f h hl)
def wkP : Pfx := ⟨4, ten8, 8⟩
def wkU2 : Upd := ⟨wkP, 1, false, 5, 9⟩
end Go.Proofs.YtifejiclenpfoaaDoor

/- Layer 11 (route): the law's own. -/
namespace Go.Proofs.YtifejiclenpfoaaDoor
open Go.RowKit
set_option linter.unusedVariables false
set_option linter.unusedSimpArgs false
set_option maxRecDepth 4000
theorem info_bat (A : Option Addr) (n c : Nat) : (Tryd.prog.info? 25).map (·.size) = some (tabV A n c).size := by show _ = some 1; kernel_rfl
theorem load_bat {w : World} {g : Nat} {A : Option Addr} {n c : Nat} (h : w.heap[g]? = some (.cells (tabV A n c) 25 (0, 0))) : (Instr.loadAt 25 (.pointer (some ⟨g, 0, none⟩))).run Tryd.prog w = .ok (.agg (tabV A n c)) w := ((bat_at h).all _ (Below.refl _ _)).1
end Go.Proofs.YtifejiclenpfoaaDoor

/- Layer 20 (client): clients in memory. -/
namespace Go.Proofs.YtifejiclenpfoaaDoor
open Go.RowKit
set_option linter.unusedVariables false
set_option linter.unusedSimpArgs false
set_option maxRecDepth 4000
/-- A client: its numbers, and the batch under way. -/
structure Ck where
  num : Int
  seq : Int
  away : Bool
  t : List Upd
structure Ck.ok (k : Ck) : Prop where
  num : (Lit.int .i64 k.num).wf = true
  seq : (Lit.int .u32 k.seq).wf = true
  t : Oku k.t
/-- A client, and where its batch lies. -/
structure Cli where
  k : Ck
  A : Option Addr
  n : Nat
  c : Nat
def ckZ : Ck := ⟨0, 0, false, []⟩
def cliV (k : Ck) (A : Option Addr) (n c : Nat) : Array Value := #[.int .i64 k.num, .int .u32 k.seq, .slice A n c, .bool k.away]
def cliC (k : Ck) (A : Option Addr) (n c : Nat) : List Value := [.int .i64 k.num, .int .u32 k.seq, .slice A n c, .bool k.away]
def cliZ : Cli := ⟨ckZ, none, 0, 0⟩
theorem zero_cli : (Tryd.prog.info? 27).map (fun i => (i.zero, i.size, i.bytes)) = some (some (.agg (cliV ckZ none 0 0)), 4, 48) := by kernel_rfl
theorem info_cli (k : Ck) (A : Option Addr) (n c : Nat) : (Tryd.prog.info? 27).map (·.size) = some (cliV k A n c).size := by show _ = some 4; kernel_rfl
theorem cli_one (k : Ck) (A : Option Addr) (n c : Nat) : (cliV k A n c).all (·.oneCell') = true := by simp [cliV, Value.oneCell']
theorem splice_cli (k : Ck) (A : Option Addr) (n c : Nat) (k2 : Ck) (A2 : Option Addr) (n2 c2 : Nat) : splice (cliV k A n c) 0 (cliV k2 A2 n2 c2).toList = cliV k2 A2 n2 c2 := splice_all _ _ rfl
theorem load_u32k {w : World} {ad : Addr} {v : Value} (h : w.cell? ad = some v) : (Instr.loadAt 22 (.pointer (some ad))).run Tryd.prog w = .ok v w := by
  go_simp
structure CliLd (w : World) (g o : Nat) (k : Ck) (A : Option Addr) (n c : Nat) : Prop where
  all : (Instr.loadAt 27 (.pointer (some ⟨g, o, none⟩))).run Tryd.prog w = .ok (.agg (cliV k A n c)) w
  num : (Instr.loadAt 3 (.pointer (some ⟨g, o, none⟩))).run Tryd.prog w = .ok (.int .i64 k.num) w
  seq : (Instr.loadAt 22 (.pointer (some ⟨g, o + 1, none⟩))).run Tryd.prog w = .ok (.int .u32 k.seq) w
  bat : (Instr.loadAt 25 (.pointer (some ⟨g, o + 2, none⟩))).run Tryd.prog w = .ok (.agg (tabV A n c)) w
  upd : (Instr.loadAt 23 (.pointer (some ⟨g, o + 2, none⟩))).run Tryd.prog w = .ok (.slice A n c) w
  away : (Instr.loadAt 4 (.pointer (some ⟨g, o + 3, none⟩))).run Tryd.prog w = .ok (.bool k.away) w
theorem cliLd_of {w : World} {g o : Nat} {k : Ck} {A : Option Addr} {n c : Nat} (h : CellsAt w g o (cliC k A n c)) : CliLd w g o k A n c := by
  have h2 : CellsAt w g (o + 2) [.slice A n c] := fun j v hv => by
    cases j with
    | zero => exact h 2 v hv
    | succ j => simp at hv
  exact ⟨load_cells (cs := cliV k A n c) h Tryd.underlying27 rfl (info_cli _ _ _ _), load_int (h 0 _ rfl), load_u32k (h 1 _ rfl), load_cells (cs := tabV A n c) h2 Tryd.underlying25 rfl (info_bat _ _ _), load_upds (h 2 _ rfl), loadr_bool (h 3 _ rfl)⟩
structure CliAt (w : World) (g : Nat) (k : Ck) (A : Option Addr) (n c : Nat) : Prop where
  all : ∀ w0, Below w.heap.size w w0 → CliLd w0 g 0 k A n c
theorem cli_at {w : World} {g : Nat} {k : Ck} {A : Option Addr} {n c : Nat} (h : w.heap[g]? = some (.cells (cliV k A n c) 27 (0, 0))) : CliAt w g k A n c :=
  ⟨fun w0 hb => cliLd_of (cells_blk (blk_below h hb))⟩
def cliK : Shape Cli where
  t := 27
  ts := 69
  sz := 4
  bytes := 48
  z := cliZ
  ok := fun _ => True
  enc := fun x => cliC x.k x.A x.n x.c
  val := fun x => .agg (cliV x.k x.A x.n x.c)
  len := fun _ _ => rfl
  one := fun x u hu => by
    simp only [cliC, List.mem_cons, List.not_mem_nil, or_false] at hu
    rcases hu with rfl | rfl | rfl | rfl <;> rfl
  okz := trivial
  pos := by omega
  bpos := by omega
  blt := by omega
  und := Tryd.underlying69
  info := zero_cli
  venc := fun _ => rfl
  ld := fun w b o x _ h => load_cells (cs := cliV x.k x.A x.n x.c) h Tryd.underlying27 rfl (info_cli _ _ _ _)
end Go.Proofs.YtifejiclenpfoaaDoor

/- Arguments that are clients, and slices of them, opened. -/
namespace Go.Proofs.YtifejiclenpfoaaDoor
open Go.ChangeShapes Go.WideShapes Go.ChangeAt Go.RowKit
set_option linter.unusedVariables false
set_option linter.unusedSimpArgs false
set_option maxRecDepth 4000
/-- What holds of a client that was handed in. -/
structure CliIn (W : World) (k : Ck) (A : Option Addr) (n c : Nat) : Prop where
  rs : RS updK W A n c k.t
  ok : k.ok
  small : n * 64 ≤ 140737488351232
section
variable {H : Type} {enc : TypeId × Value → H} {W : World} {base : Nat} {spare : Nat → Bool} {held : Bool}
theorem open_cli_cells {fuel : Nat} {cs : List Value} {y : DataW H × List MemPlace} (h : DataW.trod enc Tryd.prog W base spare held fuel 27 cs = some y) (hl : Light Tryd.prog 27 y.1) : ∃ (k : Ck) (A : Option Addr) (n c : Nat), cs = cliC k A n c ∧ CliIn W k A n c := by
  obtain ⟨xs, m, -, hx, hlen, hxl, hg⟩ := DataW.trod_struct Tryd.underlying27 h
  have c0 : Tryd.prog.cellsOf 3 = 1 := by kernel_rfl
  have c1 : Tryd.prog.cellsOf 22 = 1 := by kernel_rfl
  have c2 : Tryd.prog.cellsOf 25 = 1 := by kernel_rfl
  have c4 : Tryd.prog.cellsOf 4 = 1 := by kernel_rfl
  have c3 : Tryd.prog.cellsOf 27 = 4 := by kernel_rfl
  have h0 : DataW.trod enc Tryd.prog W base spare held m 3 ((cs.drop 0).take (Tryd.prog.cellsOf 3)) = xs[0]? := hg 0 _ rfl
  have h1 : DataW.trod enc Tryd.prog W base spare held m 22 ((cs.drop 1).take (Tryd.prog.cellsOf 22)) = xs[1]? := hg 1 _ rfl
  have h2 : DataW.trod enc Tryd.prog W base spare held m 25 ((cs.drop 2).take (Tryd.prog.cellsOf 25)) = xs[2]? := hg 2 _ rfl
  have h3 : DataW.trod enc Tryd.prog W base spare held m 4 ((cs.drop 3).take (Tryd.prog.cellsOf 4)) = xs[3]? := hg 3 _ rfl
  rw [c3] at hlen
  rw [c0] at h0
  rw [c1] at h1
  rw [c2] at h2
  rw [c4] at h3
  have hx4 : xs.length = 4 := hxl
  subst hx
  match cs, hlen, xs, hx4 with
  | [d0, d1, d2, d3], _, [x0, x1, x2, x3], _ =>
    obtain ⟨num, hv0, -, hw0⟩ := DataW.trod_int Tryd.underlying3 (show DataW.trod enc Tryd.prog W base spare held m 3 [d0] = some x0 from h0)
    obtain ⟨seq, hv1, -, hw1⟩ := DataW.trod_int Tryd.underlying22 (show DataW.trod enc Tryd.prog W base spare held m 22 [d1] = some x1 from h1)
    obtain ⟨aw, hv3, -⟩ := DataW.trod_bool Tryd.underlying4 (show DataW.trod enc Tryd.prog W base spare held m 4 [d3] = some x3 from h3)
    have hl2 : Light Tryd.prog 25 x2.1 := light_field Tryd.underlying27 hl (i := 2) (f := _) rfl rfl
    obtain ⟨A, n, c, t, e1, e2, e3, e4⟩ := open_bat_cells (show DataW.trod enc Tryd.prog W base spare held m 25 [d2] = some x2 from h2) hl2
    refine ⟨⟨num, seq, aw, t⟩, A, n, c, ?_, e2, ⟨hw0, hw1, e3⟩, e4⟩
    injection hv0 with hv0
    injection hv1 with hv1
    injection e1 with e1
    injection hv3 with hv3
    subst hv0 hv1 e1 hv3
    rfl
end
theorem open_clis {H : Type} {enc : TypeId × Value → H} {W : World} {base b0 : Nat} {spare : Nat → Bool} {held : Bool} {v : Value} {d : DataW H} {p : List MemPlace} (hv : Value.okWide Tryd.prog W .any b0 69 v)
    (h : DataW.Trod enc Tryd.prog W base spare held 69 v d p) (hl : Light Tryd.prog 69 d) : ∃ A n c l, v = .slice A n c ∧ RS cliK W A n c l ∧ (∀ x ∈ l, CliIn W x.k x.A x.n x.c) ∧ n * 48 ≤ 140737488351232 := by
  obtain ⟨a, len, cap, rfl⟩ := okWide_slice Tryd.underlying69 hv
  obtain ⟨fuel, hf⟩ := h
  obtain ⟨A, n, c, t, e1, e2, e3, e4⟩ := open_shp cliK (fun x => CliIn W x.k x.A x.n x.c) (by show Tryd.prog.cellsOf 27 = 4; kernel_rfl) (by show 0 < Tryd.prog.bytesOf 27; exact of_decide_eq_true (by kernel_rfl)) (fun fuel cs y hy hly => by
    obtain ⟨k, A, n, c, f1, f2⟩ := open_cli_cells hy hly
    exact ⟨⟨k, A, n, c⟩, f1, trivial, f2⟩) hf hl
  have hb : Tryd.prog.bytesOf cliK.t = 48 := by show Tryd.prog.bytesOf 27 = 48; kernel_rfl
  rw [hb] at e4
  have e1 : [Value.slice a len cap] = [.slice A n c] := e1
  injection e1 with e1
  exact ⟨A, n, c, t, e1, e2, e3, e4⟩
end Go.Proofs.YtifejiclenpfoaaDoor

/- Plain laws of layer 20 (client). -/
namespace Go.Proofs.YtifejiclenpfoaaDoor
set_option linter.unusedVariables false
set_option linter.unusedSimpArgs false
set_option maxRecDepth 4000
set_option maxRecDepth 4000
/-- May a client be? -/
def ckB (k : Ck) : Bool := decide (1 ≤ k.num) && decide (k.num ≤ 2) && (if k.away then decide (0 < k.seq) && batB k.t else decide (k.t.length = 0))
def ckE (k : Ck) : Int := if ckB k then 0 else 300
/-- What comes of submitting. -/
def subN (k : Ck) (b : List Upd) : Int := if ckB k then (if k.away then 301 else if batB b then (if k.seq = 4294967295 then 6 else 0) else 210) else 300
def subK (k : Ck) (b : List Upd) : Ck := if subN k b = 0 then ⟨k.num, k.seq + 1, true, b⟩ else ckZ
/-- What is asked. -/
def askN (k : Ck) (tg : Int) : Int := if ckB k then (if 1 ≤ tg ∧ tg ≤ 2 then (if k.away then 0 else 4) else 2) else 300
/-- What is learnt. -/
structure Hd where
  done : Bool
  err : Int
  seq : Int
  index : Int
  t : List Upd
def hdZ : Hd := ⟨false, 0, 0, 0, []⟩
/-- Is a message heard? Its kind, to, seq, err. -/
def hearB (k : Ck) (kind tg seq err : Int) : Bool := decide (kind = 7) && decide (tg = 2 + k.num) && decide (seq = k.seq) && k.away && !decide (err = 270)
/-- A client behind a message; what is learnt. -/
def hearK (k : Ck) (h : Bool) : Ck := if ckB k then (if h then ⟨k.num, k.seq, false, []⟩ else k) else ckZ
def hearH (k : Ck) (h : Bool) (err index : Int) : Hd := if ckB k && h then ⟨true, err, k.seq, if err = 0 then index else 0, k.t⟩ else hdZ
end Go.Proofs.YtifejiclenpfoaaDoor

/- Layer 20 (client): Check, New, Same; the document's Right, Same. -/
namespace Go.Proofs.YtifejiclenpfoaaDoor
open Go.RowKit
set_option linter.unusedVariables false
set_option linter.unusedSimpArgs false
set_option maxRecDepth 4000
set_option maxHeartbeats 2000000 in
theorem ccheck20_any (k : Ck) (A : Option Addr) (n c : Nat) (w : World) (hL : Laid w) (hr : RS updK w A n c k.t) (ok : Oku k.t) (hn : n ≤ 100000) : Calls Tryd.prog 20 #[.agg (cliV k A n c)] w fun e w' => e = .returned (.int .i64 (ckE k)) ∧ Below w.heap.size w w' := by
  have hblk1 := blk_new w (.cells (cliV k A n c) 27)
  have hbel1 : Below w.heap.size w (w.alloc (.cells (cliV k A n c) 27)) := below_alloc (Below.refl _ _) _
  have HP1 := Lib.hid (cli_at hblk1)
  have HBK1 := Lib.hid hblk1
  have HBE := Lib.hid hbel1
  have HL := Lib.hid (hL.below HBE.out)
  obtain ⟨cs1, hcs1⟩ : ∃ cs, cliV k A n c = cs := ⟨_, rfl⟩
  simp only [hcs1] at HBE HL HP1 HBK1 ⊢
  have HC1 := Lib.hid hcs1
  clear hL hcs1 hblk1 hbel1
  have HR := Lib.hid (hr.below HBE.out)
  have OK := Lib.hid ok
  have HLN := Lib.hid hr.len
  have HLD := Lib.hid (HP1.out.all _ (Below.refl _ _))
  clear hr ok
  go_enter Tryd.func20, Tryd.ntmps20
  by_cases hnum : 1 ≤ k.num ∧ k.num ≤ 2
  · have h1 : decide (1 ≤ k.num) = true := decide_eq_true hnum.1
    have h2 : decide (k.num ≤ 2) = true := decide_eq_true hnum.2
    cases ha : k.away with
    | true =>
      have HAW := Lib.hid HLD.out.away
      rw [ha] at HAW
      have HB : Hid (ckB k = (decide (0 < k.seq) && batB k.t)) := Lib.hid (by unfold ckB; rw [h1, h2, ha]; rfl)
      by_cases hs : 0 < k.seq
      · have h3 : decide (0 < k.seq) = true := decide_eq_true hs
        have HE0 : Hid (ckB k = batB k.t) := Lib.hid (by rw [HB.out, h3]; rfl)
        clear ha hnum hs
        go_wp2_with (first | ((with_reducible show wpList _ _ _ (Oper.mk _ (Op.load _ _) _ _ _ _ :: _) _ _); refine wpList_load_g (HLD.out.num) _ rfl rfl (by go_simp) ?_) | ((with_reducible show wpList _ _ _ (Oper.mk _ (Op.load _ _) _ _ _ _ :: _) _ _); refine wpList_load_g (HAW.out) _ rfl rfl (by go_simp) ?_) | ((with_reducible show wpList _ _ _ (Oper.mk _ (Op.load _ _) _ _ _ _ :: _) _ _); refine wpList_load_g (HLD.out.seq) _ rfl rfl (by go_simp) ?_) | ((with_reducible show wpList _ _ _ (Oper.mk _ (Op.load _ _) _ _ _ _ :: _) _ _); refine wpList_load_g (HLD.out.bat) _ rfl rfl (by go_simp) ?_))
        refine (rcheckb_any A n c k.t _ HL.out HR.out OK.out (by omega)).mono ?_
        rintro e w2 ⟨rfl, hb2⟩
        have HB2 := Lib.hid hb2
        clear hb2
        cases hb : batB k.t with
        | true =>
          have HE : Hid (ckE k = 0) := Lib.hid (by unfold ckE; rw [HE0.out, hb]; rfl)
          rw [show batE k.t = 0 by unfold batE; rw [hb]; rfl]
          clear hb
          go_wp2_with fail
          go_ret
          rw [HE.out]
          exact ⟨rfl, below_step HBE.out HB2.out⟩
        | false =>
          have HE : Hid (ckE k = 300) := Lib.hid (by unfold ckE; rw [HE0.out, hb]; rfl)
          rw [show batE k.t = 210 by unfold batE; rw [hb]; rfl]
          clear hb
          go_wp2_with fail
          go_ret
          rw [HE.out]
          exact ⟨rfl, below_step HBE.out HB2.out⟩
      · have h3 : decide (0 < k.seq) = false := decide_eq_false hs
        have HE : Hid (ckE k = 300) := Lib.hid (by unfold ckE; rw [HB.out, h3]; rfl)
        clear ha hnum hs
        go_wp2_with (first | ((with_reducible show wpList _ _ _ (Oper.mk _ (Op.load _ _) _ _ _ _ :: _) _ _); refine wpList_load_g (HLD.out.num) _ rfl rfl (by go_simp) ?_) | ((with_reducible show wpList _ _ _ (Oper.mk _ (Op.load _ _) _ _ _ _ :: _) _ _); refine wpList_load_g (HAW.out) _ rfl rfl (by go_simp) ?_) | ((with_reducible show wpList _ _ _ (Oper.mk _ (Op.load _ _) _ _ _ _ :: _) _ _); refine wpList_load_g (HLD.out.seq) _ rfl rfl (by go_simp) ?_) | ((with_reducible show wpList _ _ _ (Oper.mk _ (Op.load _ _) _ _ _ _ :: _) _ _); refine wpList_load_g (HLD.out.bat) _ rfl rfl (by go_simp) ?_))
        go_ret
        rw [HE.out]
        exact ⟨rfl, HBE.out⟩
    | false =>
      have HAW := Lib.hid HLD.out.away
      rw [ha] at HAW
      have HB : Hid (ckB k = decide (k.t.length = 0)) := Lib.hid (by unfold ckB; rw [h1, h2, ha]; rfl)
      by_cases hz : n = 0
      · have HE : Hid (ckE k = 0) := Lib.hid (by unfold ckE; rw [HB.out, HLN.out, hz]; rfl)
        subst hz
        clear ha hnum
        go_wp2_with (first | ((with_reducible show wpList _ _ _ (Oper.mk _ (Op.load _ _) _ _ _ _ :: _) _ _); refine wpList_load_g (HLD.out.num) _ rfl rfl (by go_simp) ?_) | ((with_reducible show wpList _ _ _ (Oper.mk _ (Op.load _ _) _ _ _ _ :: _) _ _); refine wpList_load_g (HAW.out) _ rfl rfl (by go_simp) ?_) | ((with_reducible show wpList _ _ _ (Oper.mk _ (Op.load _ _) _ _ _ _ :: _) _ _); refine wpList_load_g (HLD.out.upd) _ rfl rfl (by go_simp) ?_))
        go_ret
        rw [HE.out]
        exact ⟨rfl, HBE.out⟩
      · have HE : Hid (ckE k = 300) := Lib.hid (by unfold ckE; rw [HB.out, HLN.out, decide_eq_false hz]; rfl)
        have hzb : ((n : Int) == 0) = false := by simpa using hz
        clear ha hnum
        go_wp2_with (first | ((with_reducible show wpList _ _ _ (Oper.mk _ (Op.load _ _) _ _ _ _ :: _) _ _); refine wpList_load_g (HLD.out.num) _ rfl rfl (by go_simp) ?_) | ((with_reducible show wpList _ _ _ (Oper.mk _ (Op.load _ _) _ _ _ _ :: _) _ _); refine wpList_load_g (HAW.out) _ rfl rfl (by go_simp) ?_) | ((with_reducible show wpList _ _ _ (Oper.mk _ (Op.load _ _) _ _ _ _ :: _) _ _); refine wpList_load_g (HLD.out.upd) _ rfl rfl (by go_simp) ?_))
        go_ret
        rw [HE.out]
        exact ⟨rfl, HBE.out⟩
  · have HE : Hid (ckE k = 300) := Lib.hid (by
      unfold ckE ckB
      by_cases h : 1 ≤ k.num
      · rw [decide_eq_false (show ¬ k.num ≤ 2 from fun e => hnum ⟨h, e⟩)]; simp
      · rw [decide_eq_false h]; simp)
    have HAW := Lib.hid HLD.out.away
    by_cases h1 : 1 ≤ k.num
    · have h1b : decide (1 ≤ k.num) = true := decide_eq_true h1
      have h2 : decide (k.num ≤ 2) = false := decide_eq_false (fun e => hnum ⟨h1, e⟩)
      clear hnum h1
      cases ha : k.away with
      | true =>
        rw [ha] at HAW
        clear ha
        go_wp2_with (first | ((with_reducible show wpList _ _ _ (Oper.mk _ (Op.load _ _) _ _ _ _ :: _) _ _); refine wpList_load_g (HLD.out.num) _ rfl rfl (by go_simp) ?_) | ((with_reducible show wpList _ _ _ (Oper.mk _ (Op.load _ _) _ _ _ _ :: _) _ _); refine wpList_load_g (HAW.out) _ rfl rfl (by go_simp) ?_) | ((with_reducible show wpList _ _ _ (Oper.mk _ (Op.load _ _) _ _ _ _ :: _) _ _); refine wpList_load_g (HLD.out.upd) _ rfl rfl (by go_simp) ?_))
        go_ret
        rw [HE.out]
        exact ⟨rfl, HBE.out⟩
      | false =>
        rw [ha] at HAW
        clear ha
        go_wp2_with (first | ((with_reducible show wpList _ _ _ (Oper.mk _ (Op.load _ _) _ _ _ _ :: _) _ _); refine wpList_load_g (HLD.out.num) _ rfl rfl (by go_simp) ?_) | ((with_reducible show wpList _ _ _ (Oper.mk _ (Op.load _ _) _ _ _ _ :: _) _ _); refine wpList_load_g (HAW.out) _ rfl rfl (by go_simp) ?_) | ((with_reducible show wpList _ _ _ (Oper.mk _ (Op.load _ _) _ _ _ _ :: _) _ _); refine wpList_load_g (HLD.out.upd) _ rfl rfl (by go_simp) ?_))
        go_ret
        rw [HE.out]
        exact ⟨rfl, HBE.out⟩
    · have h1b : decide (1 ≤ k.num) = false := decide_eq_false h1
      clear hnum h1
      cases ha : k.away with
      | true =>
        rw [ha] at HAW
        clear ha
        go_wp2_with (first | ((with_reducible show wpList _ _ _ (Oper.mk _ (Op.load _ _) _ _ _ _ :: _) _ _); refine wpList_load_g (HLD.out.num) _ rfl rfl (by go_simp) ?_) | ((with_reducible show wpList _ _ _ (Oper.mk _ (Op.load _ _) _ _ _ _ :: _) _ _); refine wpList_load_g (HAW.out) _ rfl rfl (by go_simp) ?_) | ((with_reducible show wpList _ _ _ (Oper.mk _ (Op.load _ _) _ _ _ _ :: _) _ _); refine wpList_load_g (HLD.out.upd) _ rfl rfl (by go_simp) ?_))
        go_ret
        rw [HE.out]
        exact ⟨rfl, HBE.out⟩
      | false =>
        rw [ha] at HAW
        clear ha
        go_wp2_with (first | ((with_reducible show wpList _ _ _ (Oper.mk _ (Op.load _ _) _ _ _ _ :: _) _ _); refine wpList_load_g (HLD.out.num) _ rfl rfl (by go_simp) ?_) | ((with_reducible show wpList _ _ _ (Oper.mk _ (Op.load _ _) _ _ _ _ :: _) _ _); refine wpList_load_g (HAW.out) _ rfl rfl (by go_simp) ?_) | ((with_reducible show wpList _ _ _ (Oper.mk _ (Op.load _ _) _ _ _ _ :: _) _ _); refine wpList_load_g (HLD.out.upd) _ rfl rfl (by go_simp) ?_))
        go_ret
        rw [HE.out]
        exact ⟨rfl, HBE.out⟩
set_option maxHeartbeats 2000000 in
theorem refck_any (k : Ck) (A : Option Addr) (n c : Nat) (w : World) (hr : RS updK w A n c k.t) (ok : Oku k.t) (hn : n ≤ 100000) : Calls Tryd.prog 24 #[.agg (cliV k A n c)] w fun e w' => e = .returned (.bool (ckB k)) ∧ Below w.heap.size w w' := by
  have hblk1 := blk_new w (.cells (cliV k A n c) 27)
  have hbel1 : Below w.heap.size w (w.alloc (.cells (cliV k A n c) 27)) := below_alloc (Below.refl _ _) _
  have HP1 := Lib.hid (cli_at hblk1)
  have HBK1 := Lib.hid hblk1
  have HBE := Lib.hid hbel1
  obtain ⟨cs1, hcs1⟩ : ∃ cs, cliV k A n c = cs := ⟨_, rfl⟩
  simp only [hcs1] at HBE HP1 HBK1 ⊢
  have HC1 := Lib.hid hcs1
  clear hcs1 hblk1 hbel1
  have HR := Lib.hid (hr.below HBE.out)
  have OK := Lib.hid ok
  have HLN := Lib.hid hr.len
  have HLD := Lib.hid (HP1.out.all _ (Below.refl _ _))
  clear hr ok
  go_enter Tryd.func24, Tryd.ntmps24
  by_cases h1 : k.num < 1
  · have h1b : decide (k.num < 1) = true := decide_eq_true h1
    have HE : Hid (ckB k = false) := Lib.hid (by unfold ckB; rw [decide_eq_false (show ¬ 1 ≤ k.num by omega)]; rfl)
    clear h1
    go_wp2_with (first | ((with_reducible show wpList _ _ _ (Oper.mk _ (Op.load _ _) _ _ _ _ :: _) _ _); refine wpList_load_g (HLD.out.num) _ rfl rfl (by go_simp) ?_))
    go_ret
    rw [HE.out]
    exact ⟨rfl, HBE.out⟩
  · have h1b : decide (k.num < 1) = false := decide_eq_false h1
    by_cases h2 : 2 < k.num
    · have h2b : decide (2 < k.num) = true := decide_eq_true h2
      have HE : Hid (ckB k = false) := Lib.hid (by unfold ckB; rw [decide_eq_false (show ¬ k.num ≤ 2 by omega)]; simp)
      clear h1 h2
      go_wp2_with (first | ((with_reducible show wpList _ _ _ (Oper.mk _ (Op.load _ _) _ _ _ _ :: _) _ _); refine wpList_load_g (HLD.out.num) _ rfl rfl (by go_simp) ?_))
      go_ret
      rw [HE.out]
      exact ⟨rfl, HBE.out⟩
    · have h2b : decide (2 < k.num) = false := decide_eq_false h2
      have HAW := Lib.hid HLD.out.away
      have HN : Hid (ckB k = (if k.away then decide (0 < k.seq) && batB k.t else decide (k.t.length = 0))) := Lib.hid (by unfold ckB; rw [decide_eq_true (show 1 ≤ k.num by omega), decide_eq_true (show k.num ≤ 2 by omega)]; rfl)
      clear h1 h2
      cases ha : k.away with
      | true =>
        rw [ha] at HAW HN
        clear ha
        by_cases hs : 0 < k.seq
        · have h3 : decide (0 < k.seq) = true := decide_eq_true hs
          have HE : Hid (ckB k = batB k.t) := Lib.hid (by rw [HN.out, h3]; rfl)
          clear hs
          go_wp2_with (first | ((with_reducible show wpList _ _ _ (Oper.mk _ (Op.load _ _) _ _ _ _ :: _) _ _); refine wpList_load_g (HLD.out.num) _ rfl rfl (by go_simp) ?_) | ((with_reducible show wpList _ _ _ (Oper.mk _ (Op.load _ _) _ _ _ _ :: _) _ _); refine wpList_load_g (HAW.out) _ rfl rfl (by go_simp) ?_) | ((with_reducible show wpList _ _ _ (Oper.mk _ (Op.load _ _) _ _ _ _ :: _) _ _); refine wpList_load_g (HLD.out.seq) _ rfl rfl (by go_simp) ?_) | ((with_reducible show wpList _ _ _ (Oper.mk _ (Op.load _ _) _ _ _ _ :: _) _ _); refine wpList_load_g (HLD.out.bat) _ rfl rfl (by go_simp) ?_))
          refine (refbatch_any A n c k.t _ HR.out OK.out (by omega)).mono ?_
          rintro e w2 ⟨rfl, hb2⟩
          have HB2 := Lib.hid hb2
          clear hb2
          go_wp2_with fail
          go_ret
          rw [HE.out]
          exact ⟨rfl, below_step HBE.out HB2.out⟩
        · have h3 : decide (0 < k.seq) = false := decide_eq_false hs
          have HE : Hid (ckB k = false) := Lib.hid (by rw [HN.out, h3]; rfl)
          clear hs
          go_wp2_with (first | ((with_reducible show wpList _ _ _ (Oper.mk _ (Op.load _ _) _ _ _ _ :: _) _ _); refine wpList_load_g (HLD.out.num) _ rfl rfl (by go_simp) ?_) | ((with_reducible show wpList _ _ _ (Oper.mk _ (Op.load _ _) _ _ _ _ :: _) _ _); refine wpList_load_g (HAW.out) _ rfl rfl (by go_simp) ?_) | ((with_reducible show wpList _ _ _ (Oper.mk _ (Op.load _ _) _ _ _ _ :: _) _ _); refine wpList_load_g (HLD.out.seq) _ rfl rfl (by go_simp) ?_) | ((with_reducible show wpList _ _ _ (Oper.mk _ (Op.load _ _) _ _ _ _ :: _) _ _); refine wpList_load_g (HLD.out.bat) _ rfl rfl (by go_simp) ?_))
          go_ret
          rw [HE.out]
          exact ⟨rfl, HBE.out⟩
      | false =>
        rw [ha] at HAW HN
        clear ha
        have HE : Hid (ckB k = ((n : Int) == 0)) := Lib.hid (by
          rw [HN.out, HLN.out]
          show decide (n = 0) = ((n : Int) == 0)
          by_cases hz : n = 0
          · subst hz; rfl
          · rw [decide_eq_false hz]; symm; simpa using hz)
        go_wp2_with (first | ((with_reducible show wpList _ _ _ (Oper.mk _ (Op.load _ _) _ _ _ _ :: _) _ _); refine wpList_load_g (HLD.out.num) _ rfl rfl (by go_simp) ?_) | ((with_reducible show wpList _ _ _ (Oper.mk _ (Op.load _ _) _ _ _ _ :: _) _ _); refine wpList_load_g (HAW.out) _ rfl rfl (by go_simp) ?_) | ((with_reducible show wpList _ _ _ (Oper.mk _ (Op.load _ _) _ _ _ _ :: _) _ _); refine wpList_load_g (HLD.out.upd) _ rfl rfl (by go_simp) ?_))
        go_ret
        rw [HE.out]
        exact ⟨rfl, HBE.out⟩
end Go.Proofs.YtifejiclenpfoaaDoor
