/- Layer 5 (prefix): cut. -/
import Derived.Test.YtcloepjeckbmoaaDoorPfx3
namespace Go.Proofs.YtcloepjeckbmoaaDoor
open Go.RowKit
set_option linter.unusedVariables false
set_option linter.unusedSimpArgs false

theorem and_keep_all : ((List.range 256).all fun x => (List.range 8).all fun s => (x &&& ((255 * 2 ^ s) % 256)) == x / 2 ^ s * 2 ^ s) = true := by decide +kernel
theorem and_keep (x : Int) (s : Nat) (hx0 : 0 ≤ x) (hx1 : x < 256) (hs : s < 8) : bits .and .u8 x (255 * 2 ^ s % 256) = x / 2 ^ s * 2 ^ s := by
  obtain ⟨a, rfl⟩ := Int.eq_ofNat_of_zero_le hx0
  have h := and_keep_all
  rw [List.all_eq_true] at h
  have h1 := h a (List.mem_range.2 (by omega))
  rw [List.all_eq_true] at h1
  have h2 := beq_iff_eq.1 (h1 s (List.mem_range.2 hs))
  have e : (255 * 2 ^ s % 256 : Int) = ((255 * 2 ^ s % 256 : Nat) : Int) := by
    rw [Int.natCast_emod, Int.natCast_mul, Int.natCast_pow]; rfl
  rw [e, u8_and_nat a _ (by omega) (by omega), h2, Int.natCast_mul, Int.natCast_ediv, Int.natCast_pow]
  rfl
theorem arr_set {w : World} {g : Nat} {t : TypeId} {l : List Int} (h : w.heap[g]? = some (.cells (arrV l) t (0, 0))) (i : Nat) (y : Int) : (w.setCell ⟨g, i, none⟩ (.int .u8 y)).heap[g]? = some (.cells (arrV (l.set i y)) t (0, 0)) := by
  have := blk_set h i (.int .u8 y)
  unfold arrV at this ⊢
  rw [List.setIfInBounds_toArray, nums_set] at this
  exact this
theorem cut_step (l : List Int) (k : Int) (hl : B16 l) (i : Nat) (hi : i < 16) : (cutA l k).take (i + 1) ++ l.drop (i + 1) = ((cutA l k).take i ++ l.drop i).set i (cutB (rd l (i : Int)) (k - 8 * i)) := by
  have hlen : (cutA l k).length = 16 := (cutA_16 hl k).len
  apply List.ext_getElem
  · simp [hlen, hl.len]; omega
  · intro j h1 h2
    simp only [List.getElem_set, List.getElem_append, List.length_take, hlen, List.getElem_take, List.getElem_drop]
    by_cases hj : i = j
    · subst hj
      rw [dif_pos (by omega), if_pos rfl]
      simp [cutA]
    · rw [if_neg hj]
      by_cases hlt : j < i
      · rw [dif_pos (by omega), dif_pos (by omega)]
      · rw [dif_neg (by omega), dif_neg (by omega)]
        congr 1
        omega
set_option maxHeartbeats 1000000 in
theorem cut_any (l : List Int) (k : Int) (w : World) (hl : B16 l) (hk0 : 0 ≤ k) (hk1 : k ≤ 128) : Calls Tryd.prog 49 #[.agg (arrV l), .int .i64 k] w fun e w' => e = .returned (.agg (arrV (cutA l k))) ∧ Below w.heap.size w w' := by
  have hb := blk_new w (.cells (arrV l) 22)
  have hbe : Below w.heap.size w (w.alloc (.cells (arrV l) 22)) := below_alloc (Below.refl _ _) _
  have HB := Lib.hid hb
  have HBE := Lib.hid hbe
  obtain ⟨cs, hcs⟩ : ∃ cs, arrV l = cs := ⟨_, rfl⟩
  rw [hcs] at HB HBE ⊢
  have HCS := Lib.hid hcs
  clear hb hcs hbe
  go_enter Tryd.func49, Tryd.ntmps49
  go_wp2_with fail
  have hb0 : (w.alloc (.cells cs 22)).heap[w.heap.size]? = some (.cells cs 22) := HB.out
  have hsz : (w.alloc (.cells cs 22)).heap.size = w.heap.size + 1 := by simp
  have HZ : Hid (Below w.heap.size w ((w.alloc (.cells cs 22)).alloc (.cells (arrV (List.replicate 16 0)) 22)) ∧
      ((w.alloc (.cells cs 22)).alloc (.cells (arrV (List.replicate 16 0)) 22)).heap[w.heap.size]? = some (.cells (arrV l) 22 (0, 0)) ∧
      ((w.alloc (.cells cs 22)).alloc (.cells (arrV (List.replicate 16 0)) 22)).heap[w.heap.size + 1]? = some (.cells (arrV (List.replicate 16 0)) 22 (0, 0))) := by
    refine ⟨below_alloc HBE.out _, ?_, ?_⟩
    · rw [HCS.out]
      exact blk_below hb0 (below_alloc (Below.refl _ _) _)
    · have := blk_new (w.alloc (.cells cs 22)) (.cells (arrV (List.replicate 16 0)) 22)
      rw [hsz] at this
      exact this
  clear hb0 hsz
  go_loopw [7] (fun v wr => ∃ i : Nat, v = .int .i64 i ∧ Hid (i ≤ 16 ∧ Below w.heap.size w wr ∧ wr.heap[w.heap.size]? = some (.cells (arrV ((cutA l k).take i ++ l.drop i)) 22 (0, 0)) ∧ wr.heap[w.heap.size + 1]? = some (.cells (arrV (List.replicate 16 0)) 22 (0, 0)))) (fun v _ => 16 - (intOf v).toNat)
  case atStart => exact ⟨0, rfl, Nat.zero_le _, HZ.out.1, HZ.out.2.1, HZ.out.2.2⟩
  case round =>
    obtain ⟨i, rfl, HH⟩ := hrel
    clear HZ
    have hi := HH.out.1
    by_cases hlt : i < 16
    · have hlen : ((cutA l k).take i ++ l.drop i).length = 16 := by simp [(cutA_16 hl k).len, hl.len]; omega
      have hcell := arr_cell HH.out.2.2.1 i (by rw [hlen]; exact hlt)
      have hrd : rd ((cutA l k).take i ++ l.drop i) (i : Int) = rd l (i : Int) := by
        have h1 : ((cutA l k).take i).length = i := by simp [(cutA_16 hl k).len]; omega
        simp only [rd, Int.toNat_natCast, List.getD_eq_getElem?_getD]
        rw [List.getElem?_append_right (by omega), h1, List.getElem?_drop]
        simp
      rw [hrd] at hcell
      have hfr : wr.frozen? ⟨w.heap.size, i, none⟩ = false := blk_frozen HH.out.2.2.1 i
      have hlt' : (i : Int) < 16 := by omega
      have hg := hl.rd (i : Int)
      have HN : ∀ y, y = cutB (rd l (i : Int)) (k - 8 * i) → Below w.heap.size w (wr.setCell ⟨w.heap.size, i, none⟩ (.int .u8 y)) ∧ (wr.setCell ⟨w.heap.size, i, none⟩ (.int .u8 y)).heap[w.heap.size]? = some (.cells (arrV ((cutA l k).take (i + 1) ++ l.drop (i + 1))) 22 (0, 0)) ∧ (wr.setCell ⟨w.heap.size, i, none⟩ (.int .u8 y)).heap[w.heap.size + 1]? = some (.cells (arrV (List.replicate 16 0)) 22 (0, 0)) := fun y hy => by
        refine ⟨HH.out.2.1.setCell (Nat.le_refl _) _, ?_, blk_set_far HH.out.2.2.2 (by simp) _⟩
        rw [cut_step l k hl i hlt, ← hy]
        exact arr_set HH.out.2.2.1 i y
      have HNN := Lib.hid HN
      clear HN hrd hlen
      by_cases h1 : k - 8 * (i : Int) ≤ 0
      · have hy : (0 : Int) = cutB (rd l (i : Int)) (k - 8 * i) := by unfold cutB; rw [if_pos h1]
        have HY := Lib.hid hy
        clear hy
        go_wp2_with fail
        go_roundw
        case measure => simp [intOf]; omega
        case rel => exact ⟨i + 1, by go_num, by omega, HNN.out 0 HY.out⟩
      · by_cases h2 : k - 8 * (i : Int) < 8
        · have h1' : 0 < k - 8 * (i : Int) := by omega
          obtain ⟨kp, hkp⟩ : ∃ kp, k - 8 * (i : Int) = kp := ⟨_, rfl⟩
          have hx := and_keep (rd l (i : Int)) (8 - kp).toNat hg.1 hg.2 (by omega)
          have hy : rd l (i : Int) / 2 ^ (8 - kp).toNat * 2 ^ (8 - kp).toNat = cutB (rd l (i : Int)) (k - 8 * i) := by rw [hkp]; unfold cutB; rw [if_neg (by omega), if_pos (by omega)]
          have HY := Lib.hid hy
          have hq0 : 0 < kp := by omega
          have hq1 : kp < 8 := by omega
          have hw8 : IntKind.i64.wrap (8 - kp) = 8 - kp := by simp only [IntKind.wrap, IntKind.bits, IntKind.signed]; simp; omega
          have hs0 : 0 ≤ 8 - kp := by omega
          have hs1 : 8 - kp < 64 := by omega
          have hwu : IntKind.u8.wrap (255 * 2 ^ (8 - kp).toNat) = 255 * 2 ^ (8 - kp).toNat % 256 := by simp only [IntKind.wrap, IntKind.bits, IntKind.signed]; simp
          clear hy h1 h2 h1'
          go_wp2_with fail
          refine wp_region_mix (fun _ => True) [(0, 0), (1, 0), (3, 0), (4, 0), (5, 0), (2, 1), (6, 0), (7, 0), (8, 2)] (by kernel_rfl) (by kernel_rfl) trivial ?_
          simp only [List.map_cons, List.map_nil]
          repeat first | (refine wpO_step0 rfl rfl (fun K hK => ?_); go_simp; refine hK _ _ ?_; clear hK K) | (refine wpO_step1 rfl rfl (fun K hK => ?_); go_simp; refine hK _ _ ?_; clear hK K)
          have hfd : wr.drew.frozen? ⟨w.heap.size, i, none⟩ = false := hfr
          have hcd : wr.drew.cell? ⟨w.heap.size, i, none⟩ = some (.int .u8 (rd l (i : Int))) := hcell
          refine wpO_step2 rfl rfl trivial (fun K hK => ?_)
          go_simp
          refine hK _ _ ⟨trivial, ?_⟩
          clear hK K
          refine wpO_nil ?_
          have HND : Hid (Below w.heap.size w (wr.drew.setCell ⟨w.heap.size, i, none⟩ (.int .u8 (rd l (i : Int) / 2 ^ (8 - kp).toNat * 2 ^ (8 - kp).toNat))) ∧
              (wr.drew.setCell ⟨w.heap.size, i, none⟩ (.int .u8 (rd l (i : Int) / 2 ^ (8 - kp).toNat * 2 ^ (8 - kp).toNat))).heap[w.heap.size]? = some (.cells (arrV ((cutA l k).take (i + 1) ++ l.drop (i + 1))) 22 (0, 0)) ∧
              (wr.drew.setCell ⟨w.heap.size, i, none⟩ (.int .u8 (rd l (i : Int) / 2 ^ (8 - kp).toNat * 2 ^ (8 - kp).toNat))).heap[w.heap.size + 1]? = some (.cells (arrV (List.replicate 16 0)) 22 (0, 0))) := by
            refine ⟨HH.out.2.1.drew.setCell (Nat.le_refl _) _, ?_, blk_set_far (w := wr.drew) HH.out.2.2.2 (by simp) _⟩
            rw [cut_step l k hl i hlt, ← HY.out]
            exact arr_set (w := wr.drew) HH.out.2.2.1 i _
          clear hw8 hs0 hs1 hwu hx
          go_wp2_with fail
          go_roundw
          case measure => simp [intOf]; omega
          case rel => exact ⟨i + 1, by go_num, by omega, HND.out⟩
        · have hy : rd l (i : Int) = cutB (rd l (i : Int)) (k - 8 * i) := by unfold cutB; rw [if_neg h1, if_neg h2]
          have h1' : 0 < k - 8 * (i : Int) := by omega
          have h2' : 8 ≤ k - 8 * (i : Int) := by omega
          have HY := Lib.hid hy
          clear hy h1 h2
          go_wp2_with fail
          go_roundw
          case measure => simp [intOf]; omega
          case rel =>
            refine ⟨i + 1, by go_num, by omega, HH.out.2.1, ?_, HH.out.2.2.2⟩
            have hlen : ((cutA l k).take i ++ l.drop i).length = 16 := by simp [(cutA_16 hl k).len, hl.len]; omega
            have hs := cut_step l k hl i (by omega)
            rw [hs, ← HY.out]
            have hrd : rd ((cutA l k).take i ++ l.drop i) (i : Int) = rd l (i : Int) := by
              have h1 : ((cutA l k).take i).length = i := by simp [(cutA_16 hl k).len]; omega
              simp only [rd, Int.toNat_natCast, List.getD_eq_getElem?_getD]
              rw [List.getElem?_append_right (by omega), h1, List.getElem?_drop]
              simp
            rw [← hrd]
            have e : ((cutA l k).take i ++ l.drop i).set i (rd ((cutA l k).take i ++ l.drop i) (i : Int)) = (cutA l k).take i ++ l.drop i := by
              apply List.ext_getElem?
              intro j
              rw [List.getElem?_set]
              split
              · rename_i hj
                subst hj
                rw [if_pos (by rw [hlen]; omega)]
                simp [rd, List.getD_eq_getElem?_getD]
                rw [List.getElem?_eq_getElem (by rw [hlen]; omega)]
                rfl
              · rfl
            rw [e]
            exact HH.out.2.2.1
    · obtain rfl : i = 16 := by omega
      have hm1 : decide (((16 : Nat) : Int) < 16) = false := rfl
      have hfin := HH.out.2.2.1
      rw [List.take_of_length_le (by rw [(cutA_16 hl k).len]; exact Nat.le_refl _), List.drop_of_length_le (by rw [hl.len]; exact Nat.le_refl _), List.append_nil] at hfin
      have hld := load_arr (b := w.heap.size) (o := 0) (cutA_16 hl k) (fun i hi => by rw [Nat.zero_add]; exact arr_cell hfin i (by rw [(cutA_16 hl k).len]; exact hi))
      clear hlt
      have hsz : (arrV (cutA l k)).size = 16 := by simp [arrV, nums, (cutA_16 hl k).len]
      have hi16 : (Tryd.prog.info? 22).map (·.size) = some (arrV (cutA l k)).size := by rw [hsz]; kernel_rfl
      have hs16 : (arrV (List.replicate 16 0)).size = (arrV (cutA l k)).size := by rw [hsz]; simp [arrV, nums]
      have hone : (arrV (cutA l k)).all (·.oneCell') = true := by simp [arrV, nums, Value.oneCell']
      have hrow := setRow_heap wr (w.heap.size + 1) (arrV (List.replicate 16 0)) (arrV (cutA l k)) 22 (0, 0) HH.out.2.2.2
      have HBF : Hid (Below w.heap.size w (wr.setRow (w.heap.size + 1) (arrV (cutA l k)))) := by
        have hb := HH.out.2.1
        exact ⟨hb.os, hb.tape, hb.output, by rw [show (wr.setRow (w.heap.size + 1) (arrV (cutA l k))).heap.size = wr.heap.size by simp [World.setRow]]; exact hb.size, fun j hj => by rw [setRow_other _ _ _ _ (by omega)]; exact hb.block j hj⟩
      go_wp2_with (first | (refine wpList_load_g hld _ rfl rfl (by go_simp) ?_) | (refine wpList_store_row rfl 22 _ _ rfl (w.heap.size + 1) (arrV (cutA l k)) rfl rfl 22 (arrV (List.replicate 16 0)) HH.out.2.2.2 hi16 hs16 hone ?_))
      (try simp only [Exit.inBlock, Exit.then])
      refine bodyPost_ret (results_cell_row rfl _ _ (w.heap.size + 1) 22 (arrV (cutA l k)) (0, 0) _ rfl hrow Tryd.underlying22 rfl hi16) rfl ?_
      exact ⟨rfl, HBF.out⟩
end Go.Proofs.YtcloepjeckbmoaaDoor
