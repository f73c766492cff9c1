/- Layer 5 (prefix): Compare. -/
import Derived.Test.YtcloepjeckbmoaaDoorPfxRefOf
import Derived.Test.YtcloepjeckbmoaaDoorCmp
import Derived.Test.YtcloepjeckbmoaaDoorInts
namespace Go.Proofs.YtcloepjeckbmoaaDoor
open Go.RowKit
set_option linter.unusedVariables false
set_option linter.unusedSimpArgs false

theorem cmpint_any (x y : Int) (w : World) : Calls Tryd.prog 52 #[.int .i64 x, .int .i64 y] w fun e w' => e = .returned (.int .i64 (cmpN x y)) ∧ w = w' := by
  unfold cmpN
  by_cases h1 : x < y
  · rw [if_pos h1]
    go_enter Tryd.func52, Tryd.ntmps52
    go_wp2
    go_ret
    exact ⟨rfl, rfl⟩
  · rw [if_neg h1]
    by_cases h2 : y < x
    · rw [if_pos h2]
      go_enter Tryd.func52, Tryd.ntmps52
      go_wp2
      go_ret
      exact ⟨rfl, rfl⟩
    · rw [if_neg h2]
      obtain rfl : x = y := by omega
      clear h1 h2
      go_enter Tryd.func52, Tryd.ntmps52
      go_wp2
      go_ret
      exact ⟨rfl, rfl⟩
def orI : List Int → Int
  | [] => 0
  | x :: xs => if x ≠ 0 then x else orI xs
theorem orI_skip : ∀ (xs : List Int) (k : Nat), (∀ j : Nat, j < k → rd xs (j : Int) = 0) → orI xs = orI (xs.drop k)
  | _, 0, _ => rfl
  | [], _ + 1, _ => by simp
  | x :: xs, k + 1, h => by
    have h0 := h 0 (by omega)
    simp [rd] at h0
    rw [List.drop_succ_cons, ← orI_skip xs k (fun j hj => by have := h (j + 1) (by omega); simpa [rd] using this)]
    simp [orI, h0]
theorem orI_at (xs : List Int) (k : Nat) (hk : k < xs.length) (h : ∀ j : Nat, j < k → rd xs (j : Int) = 0) (hn : rd xs (k : Int) ≠ 0) : orI xs = rd xs (k : Int) := by
  rw [orI_skip xs k h, List.drop_eq_getElem_cons hk]
  have e : rd xs (k : Int) = xs[k] := by simp [rd, List.getD_eq_getElem?_getD, hk]
  rw [e] at hn ⊢
  simp [orI, hn]
theorem or_any (A : Option Addr) (n c : Nat) (xs : List Int) (w : World) (hr : RI w A n c xs) : Calls Tryd.prog 51 #[.slice A n c] w fun e w' => e = .returned (.int .i64 (orI xs)) ∧ w = w' := by
  have hn := hr.small
  have HL := Lib.hid hr.len
  have HR := Lib.hid hr
  clear hr
  go_enter Tryd.func51, Tryd.ntmps51
  go_wp2
  go_loop [5, 8] (fun _ i => ∃ k : Nat, i = .int .i64 k ∧ k ≤ n ∧ Hid (∀ j : Nat, j < k → rd xs (j : Int) = 0)) (fun _ i => n - (intOf i).toNat)
  case atStart => exact ⟨0, rfl, Nat.zero_le _, fun j h => by omega⟩
  case round =>
    obtain ⟨k, rfl, hk, HH⟩ := hrel
    by_cases hlt : k < n
    · obtain ⟨ad, rfl, hc⟩ := HR.out.at_ k (by omega) (by omega)
      have hc' : w.cell? (ad.add k) = some (.int .i64 (rd xs k)) := hc
      clear hc
      by_cases h0 : rd xs k = 0
      · have hb : (rd xs k != 0) = false := by simp [h0]
        have H0 := Lib.hid h0
        clear h0
        go_wp2
        go_round
        case measure => simp [intOf]; omega
        case rel =>
          refine ⟨k + 1, by go_num, by omega, fun j hj => ?_⟩
          by_cases hj' : j < k
          · exact HH.out j hj'
          · rw [show j = k by omega]; exact H0.out
      · have hb : (rd xs k != 0) = true := by simpa using h0
        have HE := Lib.hid (orI_at xs k (by rw [HL.out]; exact hlt) HH.out h0)
        clear h0
        go_wp2
        go_ret
        rw [HE.out]
        exact ⟨rfl, rfl⟩
    · obtain rfl : k = n := by omega
      have HE := Lib.hid (show orI xs = 0 by rw [orI_skip xs k HH.out, List.drop_of_length_le (by rw [HL.out]; exact Nat.le_refl _)]; rfl)
      clear hlt
      go_wp2
      go_ret
      rw [HE.out]
      exact ⟨rfl, rfl⟩

theorem rb_pfx {w : World} {g : Nat} {t : TypeId} {v b : Int} {l : List Int} (hl : B16 l) (h : w.heap[g]? = some (.cells (pfxV v l b) t (0, 0))) : RB w (some ⟨g, 1, none⟩) 16 16 l :=
  ⟨⟨by simp [nums, hl.len], Nat.le_refl _, by omega, fun _ => ⟨_, rfl, fun j u hj => by
    have hlt := (List.getElem?_eq_some_iff.1 hj).1
    simp only [nums, List.length_map, hl.len] at hlt
    rw [nums_get _ _ _ (by rw [hl.len]; exact hlt)] at hj
    rw [add_spot _ rfl, ← hj]
    exact pfx_byte hl h j hlt⟩⟩, hl.rng⟩
theorem cmp_or (p q : Pfx) (hp : B16 p.l) (hq : B16 q.l) : p.cmp q = orI [cmpN p.v q.v, cmpI p.l q.l, cmpN p.b q.b] := by
  rw [p.cmp_eq q hp hq]
  simp only [orI]
  split
  · rfl
  · split
    · rfl
    · split
      · rfl
      · omega

set_option maxHeartbeats 2000000 in
theorem compare_any (p q : Pfx) (w : World) (hp : B16 p.l) (hq : B16 q.l) : Calls Tryd.prog 37 #[.agg (pfxV p.v p.l p.b), .agg (pfxV q.v q.l q.b)] w fun e w' => e = .returned (.int .i64 (p.cmp q)) ∧ Below w.heap.size w w' := by
  have hblk1 := blk_new w (.cells (pfxV p.v p.l p.b) 26)
  have hbel1 : Below w.heap.size w (w.alloc (.cells (pfxV p.v p.l p.b) 26)) := below_alloc (Below.refl _ _) _
  have hblk2 := blk_new (w.alloc (.cells (pfxV p.v p.l p.b) 26)) (.cells (pfxV q.v q.l q.b) 26)
  have hbel2 : Below w.heap.size w ((w.alloc (.cells (pfxV p.v p.l p.b) 26)).alloc (.cells (pfxV q.v q.l q.b) 26)) := below_alloc (hbel1) _
  rw [show (w.alloc (.cells (pfxV p.v p.l p.b) 26)).heap.size = w.heap.size + 1 by simp] at hblk2
  replace hblk1 := blk_below hblk1 (below_alloc (Below.refl _ _) (.cells (pfxV q.v q.l q.b) 26))
  have HP1 := Lib.hid (pfx_at hp hblk1)
  have HBK1 := Lib.hid hblk1
  have HP2 := Lib.hid (pfx_at hq hblk2)
  have HBK2 := Lib.hid hblk2
  have HBE := Lib.hid hbel2
  obtain ⟨cs1, hcs1⟩ : ∃ cs, pfxV p.v p.l p.b = cs := ⟨_, rfl⟩
  obtain ⟨cs2, hcs2⟩ : ∃ cs, pfxV q.v q.l q.b = cs := ⟨_, rfl⟩
  simp only [hcs1, hcs2] at HBE HP1 HP2 HBK1 HBK2 ⊢
  have HC1 := Lib.hid hcs1
  have HC2 := Lib.hid hcs2
  clear hcs1 hblk1 hbel1 hcs2 hblk2 hbel2
  have HE := Lib.hid (cmp_or p q hp hq)
  go_enter Tryd.func37, Tryd.ntmps37
  go_wp2_with fail
  refine wp_region_mix (fun w0 => Below ((w.alloc (.cells cs1 26)).alloc (.cells cs2 26)).heap.size ((w.alloc (.cells cs1 26)).alloc (.cells cs2 26)) w0) [(0, 0), (1, 0), (2, 0), (3, 0), (4, 0), (5, 0), (7, 0), (8, 0), (9, 0), (10, 0), (11, 0), (12, 0), (14, 0), (15, 0), (16, 0), (17, 0), (6, 2), (13, 2), (18, 2), (19, 2), (20, 2), (21, 0)] (by kernel_rfl) (by kernel_rfl) (below_drew1 _) ?_
  simp only [List.map_cons, List.map_nil]
  iterate 2 (refine wpO_step0 rfl rfl (fun K hK => ?_); go_simp; refine hK _ _ ?_; clear hK K)
  refine wpO_loadW (t := 3) (ad := ⟨w.heap.size, 0, none⟩) rfl rfl ?hw rfl rfl ((fun w0 hS => (HP1.out.all w0 hS).2.2.1)) ?_
  case hw => go_simp
  iterate 2 (refine wpO_step0 rfl rfl (fun K hK => ?_); go_simp; refine hK _ _ ?_; clear hK K)
  refine wpO_loadW (t := 3) (ad := ⟨(w.heap.size+1), 0, none⟩) rfl rfl ?hw rfl rfl ((fun w0 hS => (HP2.out.all w0 hS).2.2.1)) ?_
  case hw => go_simp
  iterate 7 (refine wpO_step0 rfl rfl (fun K hK => ?_); go_simp; refine hK _ _ ?_; clear hK K)
  refine wpO_loadW (t := 3) (ad := ⟨w.heap.size, 17, none⟩) rfl rfl ?hw rfl rfl ((fun w0 hS => (HP1.out.all w0 hS).2.1)) ?_
  case hw => go_simp
  iterate 1 (refine wpO_step0 rfl rfl (fun K hK => ?_); go_simp; refine hK _ _ ?_; clear hK K)
  refine wpO_loadW (t := 3) (ad := ⟨(w.heap.size+1), 17, none⟩) rfl rfl ?hw rfl rfl ((fun w0 hS => (HP2.out.all w0 hS).2.1)) ?_
  case hw => go_simp
  refine wpO_step2 rfl rfl (below_drew1 _) (fun K hK => ?_)
  go_simp
  refine (cmpint_any p.v q.v _).mono ?_
  rintro e w1 ⟨rfl, rfl⟩
  refine hK _ _ ⟨below_drew1 _, ?_⟩
  clear hK K
  refine wpO_step2 rfl rfl (below_drew1 _) (fun K hK => ?_)
  go_simp
  refine (bcompare_any (some ⟨w.heap.size, 1, none⟩) 16 16 p.l (some ⟨w.heap.size + 1, 1, none⟩) 16 16 q.l _ (rb_pfx hp (by rw [HC1.out]; exact HBK1.out)) (rb_pfx hq (by rw [HC2.out]; exact HBK2.out))).mono ?_
  rintro e w1 ⟨rfl, rfl⟩
  refine hK _ _ ⟨below_drew1 _, ?_⟩
  clear hK K
  refine wpO_step2 rfl rfl (below_drew1 _) (fun K hK => ?_)
  go_simp
  refine (cmpint_any p.b q.b _).mono ?_
  rintro e w1 ⟨rfl, rfl⟩
  refine hK _ _ ⟨below_drew1 _, ?_⟩
  clear hK K
  obtain ⟨x0, h0⟩ : ∃ x, cmpN p.v q.v = x := ⟨_, rfl⟩
  obtain ⟨x1, h1⟩ : ∃ x, cmpI p.l q.l = x := ⟨_, rfl⟩
  obtain ⟨x2, h2⟩ : ∃ x, cmpN p.b q.b = x := ⟨_, rfl⟩
  rw [h0, h1, h2] at HE
  rw [h0, h1, h2]
  clear h0 h1 h2
  refine wpO_step2 rfl rfl (below_drew1 _) (fun K hK => ?_)
  go_simp
  have hri := (OI.new ((w.alloc (.cells cs1 26)).alloc (.cells cs2 26)) 0 [x0, x1, x2] (by omega) (by simp)).reads.below (below_drew1 _)
  rw [show ((w.alloc (.cells cs1 26)).alloc (.cells cs2 26)).heap.size = w.heap.size + 1 + 1 by simp] at hri
  have HRI := Lib.hid hri
  clear hri
  refine hK _ _ ⟨(below_alloc (Below.refl _ _) _).drew, ?_⟩
  clear hK K
  refine wpO_step2 rfl rfl ((below_alloc (Below.refl _ _) _).drew) (fun K hK => ?_)
  go_simp
  refine (or_any _ 3 3 [x0, x1, x2] _ HRI.out).mono ?_
  rintro e w1 ⟨rfl, rfl⟩
  refine hK _ _ ⟨(below_alloc (Below.refl _ _) _).drew, ?_⟩
  clear hK K
  iterate 1 (refine wpO_step0 rfl rfl (fun K hK => ?_); go_simp; refine hK _ _ ?_; clear hK K)
  refine wpO_nil ?_
  go_wp2
  go_ret
  rw [HE.out]
  exact ⟨rfl, below_step HBE.out (below_alloc (Below.refl _ _) _).drew⟩

/-- The document's Compare. -/
theorem cmpI_rd : ∀ (xs ys : List Int) (k : Nat), xs.length = ys.length → (∀ j : Nat, j < k → rd xs (j : Int) = rd ys (j : Int)) → cmpI xs ys = cmpI (xs.drop k) (ys.drop k)
  | _, _, 0, _, _ => rfl
  | [], [], k + 1, _, _ => by simp
  | [], _ :: _, _, h, _ => by simp at h
  | _ :: _, [], _, h, _ => by simp at h
  | x :: xs, y :: ys, k + 1, h, hk => by
    have h0 := hk 0 (by omega)
    simp [rd] at h0
    subst h0
    rw [List.drop_succ_cons, List.drop_succ_cons, ← cmpI_rd xs ys k (by simpa using h) (fun j hj => by have := hk (j + 1) (by omega); simpa [rd] using this)]
    simp [cmpI]
theorem cmpI_at (xs ys : List Int) (k : Nat) (hl : xs.length = ys.length) (hk : k < xs.length) (h : ∀ j : Nat, j < k → rd xs (j : Int) = rd ys (j : Int)) (hn : rd xs (k : Int) ≠ rd ys (k : Int)) : cmpI xs ys = if rd xs (k : Int) < rd ys (k : Int) then -1 else 1 := by
  rw [cmpI_rd xs ys k hl h, List.drop_eq_getElem_cons hk, List.drop_eq_getElem_cons (show k < ys.length by omega)]
  have e1 : rd xs (k : Int) = xs[k] := by simp [rd, List.getD_eq_getElem?_getD, hk]
  have e2 : rd ys (k : Int) = ys[k]'(by omega) := by simp [rd, List.getD_eq_getElem?_getD, show k < ys.length by omega]
  rw [e1, e2] at hn ⊢
  generalize xs[k] = x at hn ⊢
  generalize ys[k]'(by omega) = y at hn ⊢
  simp only [cmpI]
  by_cases h1 : x < y
  · rw [if_pos h1, if_pos h1]
  · rw [if_neg h1, if_neg h1, if_pos (by omega)]
theorem cmpI_same (xs ys : List Int) (hl : xs.length = ys.length) (h : ∀ j : Nat, j < xs.length → rd xs (j : Int) = rd ys (j : Int)) : cmpI xs ys = 0 := by
  rw [cmpI_rd xs ys xs.length hl h, List.drop_of_length_le (Nat.le_refl _), List.drop_of_length_le (by omega)]
  rfl
theorem row_take (p : Pfx) (hp : B16 p.l) (k : Nat) (hk : k < 16) : (p.row).take (k + 2) = (p.row).take (k + 1) ++ [rd p.l (k : Int)] := by
  have e : (p.row).take (k + 1 + 1) = (p.row).take (k + 1) ++ [(p.row)[k + 1]'(by simp [Pfx.row, hp.len]; omega)] := List.take_succ_eq_append_getElem (by simp [Pfx.row, hp.len]; omega)
  rw [e]
  congr 2
  simp only [Pfx.row, List.getElem_cons_succ]
  rw [List.getElem_append_left (by rw [hp.len]; exact hk)]
  simp [rd, List.getD_eq_getElem?_getD, hp.len, hk]
theorem row_len (p : Pfx) (hp : B16 p.l) : p.row.length = 18 := by simp [Pfx.row, hp.len]
theorem row_17 (p : Pfx) (hp : B16 p.l) : p.row.take 17 ++ [p.b] = p.row := by
  simp [Pfx.row, hp.len, List.take_append]

end Go.Proofs.YtcloepjeckbmoaaDoor
