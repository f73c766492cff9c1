/- The document's answer for layer 5: Compare. -/
import Derived.Test.YtcloepjeckbmoaaDoorPfxCmp
import Derived.Test.YtcloepjeckbmoaaDoorTwo
namespace Go.Proofs.YtcloepjeckbmoaaDoor
open Go.RowKit
set_option linter.unusedVariables false
set_option linter.unusedSimpArgs false

theorem row_0 (p : Pfx) : p.row.take 1 = [p.v] := rfl
theorem row_cons (p : Pfx) (hp : B16 p.l) (k : Nat) (hk : k < 16) : (p.row).take (k + 1 + 1) = (p.row).take (k + 1) ++ [rd p.l (k : Int)] := row_take p hp k hk
/-- The two rows that Compare makes. -/
structure CmpRows (W w : World) (B : Nat) (A1 A2 : Option Addr) (n1 c1 n2 c2 : Nat) (xs ys : List Int) : Prop where
  x : OI w B A1 n1 c1 xs
  y : OI w B A2 n2 c2 ys
  apart : Apart A1 A2
  below : Below W.heap.size W w
theorem CmpRows.appX {W w w3 : World} {B : Nat} {o : Obj} {A1 A2 A3 : Option Addr} {n1 c1 n2 c2 n3 c3 : Nat} {xs ys zs : List Int} (hB : W.heap.size ≤ B) (h : CmpRows W w B A1 A2 n1 c1 n2 c2 xs ys)
    (k1 : OI w3 B A3 n3 c3 zs) (k2 : (w.alloc o).grownBy w3 ((Value.slice A1 n1 c1).ownBlock)) (k3 : A3 = A1 ∨ ∀ ad, A3 = some ad → (w.alloc o).heap.size ≤ ad.block) : CmpRows W w3 B A3 A2 n3 c3 n2 c2 zs ys := by
  obtain ⟨h1, h2, h3⟩ := two_app hB h.x.ov h.y.ov h.apart h.below k2 k3
  exact ⟨k1, ⟨h1⟩, h2, h3⟩
theorem CmpRows.appY {W w w3 : World} {B : Nat} {o : Obj} {A1 A2 A3 : Option Addr} {n1 c1 n2 c2 n3 c3 : Nat} {xs ys zs : List Int} (hB : W.heap.size ≤ B) (h : CmpRows W w B A1 A2 n1 c1 n2 c2 xs ys)
    (k1 : OI w3 B A3 n3 c3 zs) (k2 : (w.alloc o).grownBy w3 ((Value.slice A2 n2 c2).ownBlock)) (k3 : A3 = A2 ∨ ∀ ad, A3 = some ad → (w.alloc o).heap.size ≤ ad.block) : CmpRows W w3 B A1 A3 n1 c1 n3 c3 xs zs := by
  obtain ⟨h1, h2, h3⟩ := two_app hB h.y.ov h.x.ov h.apart.symm h.below k2 k3
  exact ⟨⟨h1⟩, k1, h2.symm, h3⟩

set_option maxHeartbeats 4000000 in
theorem refcompare_any (p q : Pfx) (w : World) (hp : B16 p.l) (hq : B16 q.l) : Calls Tryd.prog 38 #[.agg (pfxV p.v p.l p.b), .agg (pfxV q.v q.l q.b)] w fun e w' => e = .returned (.int .i64 (p.cmp q)) ∧ Below w.heap.size w w' := by
  have hblk1 := blk_new w (.cells (pfxV p.v p.l p.b) 26)
  have hbel1 : Below w.heap.size w (w.alloc (.cells (pfxV p.v p.l p.b) 26)) := below_alloc (Below.refl _ _) _
  have hblk2 := blk_new (w.alloc (.cells (pfxV p.v p.l p.b) 26)) (.cells (pfxV q.v q.l q.b) 26)
  have hbel2 : Below w.heap.size w ((w.alloc (.cells (pfxV p.v p.l p.b) 26)).alloc (.cells (pfxV q.v q.l q.b) 26)) := below_alloc (hbel1) _
  rw [show (w.alloc (.cells (pfxV p.v p.l p.b) 26)).heap.size = w.heap.size + 1 by simp] at hblk2
  replace hblk1 := blk_below hblk1 (below_alloc (Below.refl _ _) (.cells (pfxV q.v q.l q.b) 26))
  have HP1 := Lib.hid (pfx_at hp hblk1)
  have HBK1 := Lib.hid hblk1
  have HP2 := Lib.hid (pfx_at hq hblk2)
  have HBK2 := Lib.hid hblk2
  have HBE := Lib.hid hbel2
  obtain ⟨cs1, hcs1⟩ : ∃ cs, pfxV p.v p.l p.b = cs := ⟨_, rfl⟩
  obtain ⟨cs2, hcs2⟩ : ∃ cs, pfxV q.v q.l q.b = cs := ⟨_, rfl⟩
  simp only [hcs1, hcs2] at HBE HP1 HP2 HBK1 HBK2 ⊢
  have HC1 := Lib.hid hcs1
  have HC2 := Lib.hid hcs2
  clear hcs1 hblk1 hbel1 hcs2 hblk2 hbel2
  have hv := (HP1.out.all _ (Below.refl _ _)).2.2.1
  have hz := (HP2.out.all _ (below_alloc (Below.refl _ _) (.cells #[.int .i64 p.v] 3))).2.2.1
  obtain ⟨W, hW⟩ : ∃ W, (w.alloc (.cells cs1 26)).alloc (.cells cs2 26) = W := ⟨_, rfl⟩
  have hWs : W.heap.size = w.heap.size + 1 + 1 := by rw [← hW]; simp
  have hst : CmpRows W ((W.alloc (.cells #[.int .i64 p.v] 3)).alloc (.cells #[.int .i64 q.v] 3)) (w.heap.size + 1 + 1) (some ⟨w.heap.size + 1 + 1, 0, none⟩) (some ⟨w.heap.size + 1 + 1 + 1, 0, none⟩) 1 1 1 1 (p.row.take 1) (q.row.take 1) := by
    have h1 := (OI.new W W.heap.size [p.v] (Nat.le_refl _) (by simp)).below (below_alloc (Below.refl _ _) (.cells #[.int .i64 q.v] 3))
    have h2 := OI.new (W.alloc (.cells #[.int .i64 p.v] 3)) W.heap.size [q.v] (by simp) (by simp)
    rw [show (W.alloc (.cells #[.int .i64 p.v] 3)).heap.size = w.heap.size + 1 + 1 + 1 by simp [hWs]] at h2
    rw [hWs] at h1 h2
    refine ⟨h1, h2, fun a b ha hb => ?_, below_alloc (below_alloc (Below.refl _ _) _) _⟩
    injection ha with ha
    injection hb with hb
    rw [← ha, ← hb]
    simp
  rw [← hW] at hst
  have HST := Lib.hid hst
  have HBW : Hid (W.heap.size ≤ w.heap.size + 1 + 1) := by rw [hWs]; exact Nat.le_refl _
  rw [← hW] at HBW
  clear hst hWs hW W
  go_enter Tryd.func38, Tryd.ntmps38
  go_wp2_with (first | (refine wpList_load_g hv _ rfl rfl (by go_simp) ?_) | (refine wpList_load_g hz _ rfl rfl (by go_simp) ?_))
  clear hv hz
  go_loopw [5, 6, 7] (fun x y i wr => ∃ (k : Nat) (A1 A2 : Option Addr) (c1 c2 : Nat), i = .int .i64 k ∧ x = .slice A1 (k + 1) c1 ∧ y = .slice A2 (k + 1) c2 ∧ Hid (k ≤ 16 ∧ CmpRows ((w.alloc (.cells cs1 26)).alloc (.cells cs2 26)) wr (w.heap.size + 1 + 1) A1 A2 (k + 1) c1 (k + 1) c2 (p.row.take (k + 1)) (q.row.take (k + 1)))) (fun _ _ i _ => 16 - (intOf i).toNat)
  case atStart => exact ⟨0, _, _, 1, 1, rfl, rfl, rfl, Nat.zero_le _, HST.out⟩
  case round =>
    obtain ⟨k, A1, A2, c1, c2, rfl, rfl, rfl, HH⟩ := hrel
    clear HST
    have hk := HH.out.1
    have hsz := HH.out.2.below.size
    simp at hsz
    by_cases hlt : k < 16
    · have hlt' : (k : Int) < 16 := by omega
      have hb1 := blk_below HBK1.out HH.out.2.below
      rw [← HC1.out] at hb1
      have hc1 := pfx_byte hp hb1 k hlt
      have hr1 := hp.rd (k : Int)
      have hr2 := hq.rd (k : Int)
      clear hb1
      go_wp2_with (first | (at_builtin; refine wpList_append_ints rfl (.tmp 21) (.tmp 28) rfl rfl rfl (HH.out.2.x.below (below_alloc (Below.refl _ _) _)) (RI.one _ _) (by simp; omega) (by omega) ?_; intro A3 c3 w3 h1 h2 h3; have H3 := Lib.hid (HH.out.2.appX HBW.out h1 h2 h3); have hb2 := blk_below HBK2.out H3.out.below; rw [← HC2.out] at hb2; have hc2 := pfx_byte hq hb2 k hlt; have hsz3 := H3.out.below.size; simp at hsz3; clear h1 h2 h3 hb2) | (at_builtin; refine wpList_append_ints rfl (.tmp 30) (.tmp 37) rfl rfl rfl (H3.out.y.below (below_alloc (Below.refl _ _) _)) (RI.one _ _) (by simp; omega) (by omega) ?_; intro A4 c4 w4 h1 h2 h3; have H4 := Lib.hid (H3.out.appY HBW.out h1 h2 h3); clear h1 h2 h3))
      go_roundw
      case measure => simp [intOf]; omega
      case rel =>
        refine ⟨k + 1, A3, A4, c3, c4, by go_num, rfl, rfl, by omega, ?_⟩
        rw [row_cons p hp k hlt, row_cons q hq k hlt]
        exact H4.out
    · obtain rfl : k = 16 := by omega
      have hpb := (HP1.out.all wr HH.out.2.below).2.1
      have hm1 : decide (((16 : Nat) : Int) < 16) = false := rfl
      clear hlt hk
      go_wp2_with (first | (refine wpList_load_g hpb _ rfl rfl (by go_simp) ?_) | (at_builtin; refine wpList_append_ints rfl (.tmp 39) (.tmp 42) rfl rfl rfl (HH.out.2.x.below (below_alloc (Below.refl _ _) _)) (RI.one _ _) (by simp; omega) (by omega) ?_; intro A3 c3 w3 h1 h2 h3; have H3 := Lib.hid (HH.out.2.appX HBW.out h1 h2 h3); have hqb := (HP2.out.all w3 H3.out.below).2.1; have hsz3 := H3.out.below.size; simp at hsz3; clear h1 h2 h3) | (refine wpList_load_g hqb _ rfl rfl (by go_simp) ?_) | (at_builtin; refine wpList_append_ints rfl (.tmp 44) (.tmp 47) rfl rfl rfl (H3.out.y.below (below_alloc (Below.refl _ _) _)) (RI.one _ _) (by simp; omega) (by omega) ?_; intro A4 c4 w4 h1 h2 h3; have H4 := Lib.hid (H3.out.appY HBW.out h1 h2 h3); clear h1 h2 h3))
      have hx := H4.out.x.reads
      have hy := H4.out.y.reads
      rw [row_17 p hp] at hx
      rw [row_17 q hq] at hy
      have HX := Lib.hid hx
      have HY := Lib.hid hy
      clear hx hy hpb hqb hm1
      go_loopw [8] (fun i wr2 => ∃ m : Nat, i = .int .i64 m ∧ Hid (m ≤ 18 ∧ (∀ j : Nat, j < m → rd p.row (j : Int) = rd q.row (j : Int)) ∧ Below w4.heap.size w4 wr2)) (fun i _ => 18 - (intOf i).toNat)
      case atStart => exact ⟨0, rfl, Nat.zero_le _, fun j h => by omega, Below.refl _ _⟩
      case round =>
        obtain ⟨m, rfl, HM⟩ := hrel
        have hm := HM.out.1
        by_cases hlt : m < 18
        · have hlt' : (m : Int) < 18 := by omega
          have hm0 : (0 : Int) ≤ m := by omega
          obtain ⟨ad1, rfl, hc1⟩ := (HX.out.below HM.out.2.2).at_ m (by omega) (by omega)
          obtain ⟨ad2, rfl, hc2⟩ := (HY.out.below HM.out.2.2).at_ m (by omega) (by omega)
          have hd1 : wr.cell? (ad1.add m) = some (.int .i64 (rd p.row m)) := hc1
          have hd2 : wr.cell? (ad2.add m) = some (.int .i64 (rd q.row m)) := hc2
          clear hc1 hc2
          have hi0 : (m : Int) < (16 + 1 + 1 : Nat) := by omega
          have HLT := Lib.hid hlt
          clear hlt
          obtain ⟨x, hx⟩ : ∃ x, rd p.row (m : Int) = x := ⟨_, rfl⟩
          obtain ⟨y, hy⟩ : ∃ y, rd q.row (m : Int) = y := ⟨_, rfl⟩
          have HXY := Lib.hid (And.intro hx hy)
          rw [hx] at hd1
          rw [hy] at hd2
          clear hx hy
          by_cases h1 : x < y
          · have HE := Lib.hid (show p.cmp q = -1 by
              have e := cmpI_at p.row q.row m (by rw [row_len p hp, row_len q hq]) (by rw [row_len p hp]; exact HLT.out) HM.out.2.1 (by rw [HXY.out.1, HXY.out.2]; omega)
              rw [HXY.out.1, HXY.out.2, if_pos h1] at e
              exact e)
            go_wp2
            go_quiet (fail)
            go_wp2
            go_ret
            rw [HE.out]
            exact ⟨rfl, below_step HBE.out (below_step H4.out.below (below_drewN HM.out.2.2 _))⟩
          · have hge : y ≤ x := by omega
            by_cases h2 : y < x
            · have HE := Lib.hid (show p.cmp q = 1 by
                have e := cmpI_at p.row q.row m (by rw [row_len p hp, row_len q hq]) (by rw [row_len p hp]; exact HLT.out) HM.out.2.1 (by rw [HXY.out.1, HXY.out.2]; omega)
                rw [HXY.out.1, HXY.out.2, if_neg h1] at e
                exact e)
              clear h1
              go_wp2
              go_quiet (fail)
              go_wp2
              go_quiet (fail)
              go_wp2
              go_ret
              rw [HE.out]
              exact ⟨rfl, below_step HBE.out (below_step H4.out.below (below_drewN (below_drewN HM.out.2.2 _) _))⟩
            · obtain rfl : x = y := by omega
              clear h1 h2 hge
              go_wp2
              go_quiet (fail)
              go_wp2
              go_quiet (fail)
              go_wp2
              go_roundw
              case measure => simp [intOf]; omega
              case rel =>
                refine ⟨m + 1, by go_num, by have := HLT.out; omega, fun j hj => ?_, below_drewN HM.out.2.2 _⟩
                by_cases hj' : j < m
                · exact HM.out.2.1 j hj'
                · rw [show j = m by omega, HXY.out.1, HXY.out.2]
        · obtain rfl : m = 18 := by omega
          have hm1 : decide (((18 : Nat) : Int) < 18) = false := rfl
          have HE := Lib.hid (show p.cmp q = 0 from cmpI_same _ _ (by rw [row_len p hp, row_len q hq]) (fun j hj => HM.out.2.1 j (by rw [row_len p hp] at hj; exact hj)))
          clear hlt
          go_wp2
          go_ret
          rw [HE.out]
          exact ⟨rfl, below_step HBE.out (below_step H4.out.below HM.out.2.2)⟩
end Go.Proofs.YtcloepjeckbmoaaDoor
