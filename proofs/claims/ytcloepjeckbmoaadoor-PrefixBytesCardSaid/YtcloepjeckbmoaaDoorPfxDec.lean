/- Layer 5 (prefix): the reader's version and some. -/
import Derived.Test.YtcloepjeckbmoaaDoorPfxEnc
import Derived.Test.YtcloepjeckbmoaaDoorArrEq2
namespace Go.Proofs.YtcloepjeckbmoaaDoor
open Go.RowKit
set_option linter.unusedVariables false
set_option linter.unusedSimpArgs false

theorem Laid.grown {w w1 : World} (h : Laid w) {g : Nat} (hg : w.grownBy w1 (some g)) (h0 : g ≠ 0) : Laid w1 :=
  ⟨fun i hi => hg.cell (h.at_ i hi) (fun e => by injection e with e; exact h0 e.symm)⟩
theorem grown_of_alloc {w w1 : World} {o : Obj} {g : Nat} (h : (w.alloc o).grownBy w1 (some g)) : w.grownBy w1 (some g) :=
  ⟨h.os, h.tape, h.output, by have := h.size; simp at this; omega, fun k hk hne => by
    rw [h.block k (by simp; omega) hne]
    exact Below.heap_alloc w o k hk⟩
theorem grown_far {w w1 w2 : World} {row : Option Nat} {c : Nat} (h : w.grownBy w1 row) (k : w1.grownBy w2 (some c)) (hc : w.heap.size ≤ c) : w.grownBy w2 row :=
  ⟨k.os.trans h.os, k.tape.trans h.tape, k.output.trans h.output, Nat.le_trans h.size k.size, fun i hi hne =>
    (k.block i (Nat.lt_of_lt_of_le hi h.size) (fun e => by injection e with e; omega)).trans (h.block i hi hne)⟩
theorem grown_then {w w1 w2 : World} {row : Option Nat} (h : w.grownBy w1 row) (k : Below w1.heap.size w1 w2) : w.grownBy w2 row :=
  ⟨k.os.trans h.os, k.tape.trans h.tape, k.output.trans h.output, Nat.le_trans h.size k.size, fun i hi hne =>
    (k.block i (Nat.lt_of_lt_of_le hi h.size)).trans (h.block i hi hne)⟩
theorem Rdr.byte {w : World} {lo g : Nat} {xs : List Int} {e : Int} (h : Rdr w lo g xs e) : Bytes xs := by
  obtain ⟨A, n, c, -, hr, -⟩ := h
  exact hr.range
theorem Rdr.short {w : World} {lo g : Nat} {xs : List Int} {e : Int} (h : Rdr w lo g xs e) : xs.length ≤ 281474976710656 := by
  obtain ⟨A, n, c, -, hr, -⟩ := h
  rw [hr.len]
  exact hr.small
theorem u8_none {lo : Nat} (g : Nat) (w : World) (hr : Rdr w lo g [] 0) :
    Calls Tryd.prog 44 #[.pointer (some ⟨g, 0, none⟩)] w fun e w' => e = .returned (.int .u8 0) ∧ Rdr w' lo g [] 7 ∧ w.grownBy w' (some g) :=
  u8_any g [] 0 w hr
theorem u8_some {lo : Nat} (g : Nat) (x : Int) (r : List Int) (w : World) (hr : Rdr w lo g (x :: r) 0) :
    Calls Tryd.prog 44 #[.pointer (some ⟨g, 0, none⟩)] w fun e w' => e = .returned (.int .u8 x) ∧ Rdr w' lo g r 0 ∧ w.grownBy w' (some g) := by
  have hx := hr.byte x (by simp)
  have hb : offB (x :: r) 0 1 = true := by simp [offB]; omega
  have := u8_any g (x :: r) 0 w hr
  rw [offT_true hb, offL_true hb, offE_true hb] at this
  have e : numOf 0 ((x :: r).take (1 : Int).toNat) % 256 = x := by
    show (0 * 256 + x) % 18446744073709551616 % 256 = x
    omega
  rw [e] at this
  exact this
/-- The reader of the package: a box that holds the pointer. -/
abbrev rdV (g : Nat) : Array Value := #[.pointer (some ⟨g, 0, none⟩)]

set_option maxHeartbeats 2000000 in
theorem version_any {lo : Nat} (g : Nat) (xs : List Int) (wrong : Int) (w : World) (hL : Laid w) (hg0 : g ≠ 0) (hr : Rdr w lo g xs 0) (hwr : wrong ≠ 0) :
    Calls Tryd.prog 43 #[.agg (rdV g), .int .i64 wrong] w fun e w' => e = .returned (.tuple #[.int .i64 (verV xs wrong), .int .i64 (verE xs wrong)]) ∧ Rdr w' lo g (xs.drop 1) (if xs.length = 0 then 7 else 0) ∧ w.grownBy w' (some g) := by
  have hlt := hr.lt
  have HR := Lib.hid (hr.below (below_alloc (Below.refl _ _) (.cells (rdV g) 65)))
  have HB := Lib.hid (blk_new w (.cells (rdV g) 65))
  have HL := Lib.hid (hL.below (below_alloc (Below.refl _ _) (.cells (rdV g) 65)))
  clear hL
  cases xs with
  | nil =>
    have h0 : verV [] wrong = 0 := rfl
    have h1 : verE [] wrong = 7 := rfl
    rw [h0, h1]
    clear h0 h1
    go_enter Tryd.func43, Tryd.ntmps43
    go_wp2_with fail
    refine (u8_none g _ HR.out).mono ?_
    rintro e w1 ⟨rfl, hr1, hg1⟩
    have hb1 := blk_grown HB.out hg1 (fun e => by injection e with e; omega)
    have hc1 : w1.cell? ⟨w.heap.size, 0, none⟩ = some (.pointer (some ⟨g, 0, none⟩)) := by rw [blk_cell hb1]; rfl
    have H1 := Lib.hid (And.intro hr1 hg1)
    clear hr1 hg1 hb1
    go_wp2_with fail
    refine (err_any g _ _ w1 H1.out.1).mono ?_
    rintro e w2 ⟨rfl, rfl⟩
    go_wp2
    go_ret2
    exact ⟨rfl, H1.out.1, grown_of_alloc H1.out.2⟩
  | cons x r =>
    have hx := hr.byte x (by simp)
    clear hr
    go_enter Tryd.func43, Tryd.ntmps43
    go_wp2_with fail
    refine (u8_some g x r _ HR.out).mono ?_
    rintro e w1 ⟨rfl, hr1, hg1⟩
    have hb1 := blk_grown HB.out hg1 (fun e => by injection e with e; omega)
    have hc1 : w1.cell? ⟨w.heap.size, 0, none⟩ = some (.pointer (some ⟨g, 0, none⟩)) := by rw [blk_cell hb1]; rfl
    have H1 := Lib.hid (And.intro hr1 hg1)
    have HL1 := Lib.hid (HL.out.grown hg1 hg0)
    clear hr1 hg1 hb1
    go_wp2_with fail
    refine (err_any g _ _ w1 H1.out.1).mono ?_
    rintro e w2 ⟨rfl, rfl⟩
    go_wp2_with fail
    refine (width_any x w1 HL1.out).mono ?_
    rintro e w2 ⟨rfl, rfl⟩
    have hrd : rd (x :: r) 0 = x := rfl
    by_cases hw : widthA x = 0
    · have HV := Lib.hid (show verE (x :: r) wrong = wrong by rw [verE_cons (by simp), hrd, if_pos hw])
      have HW := Lib.hid (show verV (x :: r) wrong = 0 by unfold verV; rw [HV.out, if_neg hwr])
      rw [hw]
      clear hw hrd
      go_wp2
      go_ret2
      rw [HV.out, HW.out]
      exact ⟨rfl, H1.out.1, grown_of_alloc H1.out.2⟩
    · have HV := Lib.hid (show verE (x :: r) wrong = 0 by rw [verE_cons (by simp), hrd, if_neg hw])
      have HW := Lib.hid (show verV (x :: r) wrong = x by unfold verV; rw [HV.out, hrd]; rfl)
      have hw0 : ((widthA x : Int) == 0) = false := by simp; omega
      have hw1 : ((widthA x) == 0) = false := by simp; omega
      clear hw hrd
      go_wp2
      go_ret2
      rw [HV.out, HW.out]
      exact ⟨rfl, H1.out.1, grown_of_alloc H1.out.2⟩

theorem arr_neq_exec {r : Operand → Value} {o : Oper} {x y : Operand} {ty : TypeId} (ho : o.op = .binOp .neq 22 x y ty) (l m : List Int) (hx : r x = .agg (arrV l)) (hy : r y = .agg (arrV m)) (hl : B16 l) (hm : B16 m) (w : World) :
    (execOp r o).run Tryd.prog w = .ok (.value (.bool (!decide (l = m)))) w := by
  have hgt : Tryd.prog.eqGuardType Tryd.prog.depth 22 = false := by kernel_rfl
  have hg : (eqGuard .neq 22 x y (.agg (arrV l)) (.agg (arrV m))).run Tryd.prog w = .ok () w := by
    simp [eqGuard, Sem.run_bind, run_program, hgt]
  have hq : (binOp .neq 22 (.agg (arrV l)) (.agg (arrV m))).run Tryd.prog w = .ok (.bool (!decide (l = m))) w := by
    show ((do pure (Value.bool (!(← Op.equal 22 (.agg (arrV l)) (.agg (arrV m))))) : Sem Value)).run Tryd.prog w = _
    rw [Sem.run_bind, arr_equal l m hl hm w]
    rfl
  unfold execOp
  simp only [ho, hx, hy, Sem.run_bind, hg, hq, Result.andThen_ok, Sem.run_pure]

def SomeRest (lo g : Nat) (xs : List Int) (bits : Nat) (wrong : Int) (w : World) : Prop := ∃ rest e1, Rdr w lo g rest e1 ∧ (someE xs bits wrong = 0 → rest = xs.drop (fullB bits) ∧ e1 = 0)
theorem drop_rd (xs : List Int) (k : Nat) (h : k < xs.length) : xs.drop k = rd xs (k : Int) :: xs.drop (k + 1) := by
  rw [List.drop_eq_getElem_cons h]
  simp [rd, List.getD_eq_getElem?_getD, h]
set_option maxHeartbeats 4000000 in
theorem some_any {lo : Nat} (g : Nat) (xs : List Int) (bits : Nat) (wrong : Int) (w : World) (hr : Rdr w lo g xs 0) (hwr : wrong ≠ 0) (hbits : bits ≤ 128) :
    Calls Tryd.prog 46 #[.agg (rdV g), .int .i64 bits, .int .i64 wrong] w fun e w' => e = .returned (.tuple #[.agg (arrV (someL xs bits wrong)), .int .i64 (someE xs bits wrong)]) ∧
      SomeRest lo g xs bits wrong w' ∧ w.grownBy w' (some g) := by
  have hlt := hr.lt
  have hxb := hr.byte
  have hst : (((w.alloc (.cells (rdV g) 65)).alloc (.cells (arrV zero16) 22))).heap[w.heap.size]? = some (.cells (rdV g) 65 (0, 0)) :=
    blk_below (blk_new w _) (below_alloc (Below.refl _ _) _)
  have hst2 := blk_new (w.alloc (.cells (rdV g) 65)) (.cells (arrV zero16) 22)
  rw [show (w.alloc (.cells (rdV g) 65)).heap.size = w.heap.size + 1 by simp] at hst2
  have HB : Hid (((w.alloc (.cells (rdV g) 65)).alloc (.cells (arrV zero16) 22)).heap[w.heap.size]? = some (.cells (rdV g) 65 (0, 0)) ∧
      ((w.alloc (.cells (rdV g) 65)).alloc (.cells (arrV zero16) 22)).heap[w.heap.size + 1]? = some (.cells (arrV (pad (xs.take 0))) 22 (0, 0)) ∧
      Rdr ((w.alloc (.cells (rdV g) 65)).alloc (.cells (arrV zero16) 22)) lo g (xs.drop 0) 0 ∧
      w.grownBy ((w.alloc (.cells (rdV g) 65)).alloc (.cells (arrV zero16) 22)) (some g)) :=
    ⟨hst, hst2, hr.below (below_alloc (below_alloc (Below.refl _ _) _) _), grown_of_below (below_alloc (below_alloc (Below.refl _ _) _) _) _⟩
  clear hst hst2 hr
  have hb0 : (0 : Int) ≤ bits := by omega
  have hb1 : (bits : Int) ≤ 128 := by omega
  obtain ⟨nb, hnb⟩ : ∃ nb, fullB (bits : Int) = nb := ⟨_, rfl⟩
  have hnn : ((bits : Int) + 7) / 8 = (nb : Int) := by rw [← hnb]; unfold fullB; omega
  have hn16 : nb ≤ 16 := by omega
  have HNB := Lib.hid hnb
  have hfq := fun w0 => full_any (bits : Int) w0 hb0 hb1
  rw [hnn] at hfq
  clear hnb hnn
  go_enter Tryd.func46, Tryd.ntmps46
  go_wp2_with fail
  refine (hfq _).mono ?_
  rintro e w1 ⟨rfl, rfl⟩
  go_wp2_with fail
  go_loopw [11] (fun i wr => ∃ k : Nat, i = .int .i64 k ∧ Hid (k ≤ nb ∧ k ≤ xs.length ∧ wr.heap[w.heap.size]? = some (.cells (rdV g) 65 (0, 0)) ∧ wr.heap[w.heap.size + 1]? = some (.cells (arrV (pad (xs.take k))) 22 (0, 0)) ∧ Rdr wr lo g (xs.drop k) 0 ∧ w.grownBy wr (some g) ∧ (k = nb → 0 < nb → clearA (pad (xs.take nb)) bits = true))) (fun i _ => 16 - (intOf i).toNat)
  case atStart => exact ⟨0, rfl, Nat.zero_le _, Nat.zero_le _, HB.out.1, HB.out.2.1, HB.out.2.2.1, HB.out.2.2.2, fun h h0 => by omega⟩
  case round =>
    obtain ⟨k, rfl, HH⟩ := hrel
    clear HB
    have hk := HH.out.1
    by_cases hlt2 : k < nb
    · have hlt' : (k : Int) < nb := by omega
      have hc1 : wr.cell? ⟨w.heap.size, 0, none⟩ = some (.pointer (some ⟨g, 0, none⟩)) := by rw [blk_cell HH.out.2.2.1]; rfl
      have hlp : (pad (xs.take k)).length = 16 := pad_len (by rw [List.length_take]; omega)
      by_cases hkx : k < xs.length
      · have hrd := HH.out.2.2.2.2.1
        rw [drop_rd xs k hkx] at hrd
        have HRD := Lib.hid hrd
        clear hrd
        go_wp2_with fail
        refine (u8_some g _ _ wr HRD.out).mono ?_
        rintro e w1 ⟨rfl, hr1, hg1⟩
        have hbx := blk_grown HH.out.2.2.1 hg1 (fun e => by injection e with e; omega)
        have hby := blk_grown HH.out.2.2.2.1 hg1 (fun e => by injection e with e; omega)
        have hcx : w1.cell? ⟨w.heap.size, 0, none⟩ = some (.pointer (some ⟨g, 0, none⟩)) := by rw [blk_cell hbx]; rfl
        have hcy := arr_cell hby k (by rw [hlp]; omega)
        have hfy : w1.frozen? ⟨w.heap.size + 1, k, none⟩ = false := blk_frozen hby k
        have hk16 : (k : Int) < 16 := by omega
        have hk0 : (0 : Int) ≤ k := by omega
        have H1 : Hid (Rdr w1 lo g (xs.drop (k + 1)) 0 ∧ w.grownBy w1 (some g) ∧ w1.heap[w.heap.size]? = some (.cells (rdV g) 65 (0, 0)) ∧ w1.heap[w.heap.size + 1]? = some (.cells (arrV (pad (xs.take k))) 22 (0, 0))) :=
          ⟨hr1, grown_trans HH.out.2.2.2.2.2.1 hg1, hbx, hby⟩
        clear hr1 hg1 hbx hby HRD hc1
        have H2 : Hid (Rdr (w1.setCell ⟨w.heap.size + 1, k, none⟩ (.int .u8 (rd xs (k : Int)))) lo g (xs.drop (k + 1)) 0 ∧ w.grownBy (w1.setCell ⟨w.heap.size + 1, k, none⟩ (.int .u8 (rd xs (k : Int)))) (some g) ∧
            (w1.setCell ⟨w.heap.size + 1, k, none⟩ (.int .u8 (rd xs (k : Int)))).heap[w.heap.size]? = some (.cells (rdV g) 65 (0, 0)) ∧
            (w1.setCell ⟨w.heap.size + 1, k, none⟩ (.int .u8 (rd xs (k : Int)))).heap[w.heap.size + 1]? = some (.cells (arrV (pad (xs.take (k + 1)))) 22 (0, 0))) := by
          refine ⟨H1.out.1.grown (grown_setCell _ _ _) (fun b hb => by injection hb with hb; simp only at hb; omega), grown_far H1.out.2.1 (grown_setCell _ _ _) (by simp), blk_set_far H1.out.2.2.1 (by simp) _, ?_⟩
          have := arr_set H1.out.2.2.2 k (rd xs (k : Int))
          rw [pad_set xs k hkx (by omega)] at this
          exact this
        go_wp2_with fail
        refine (err_any g _ _ _ H2.out.1).mono ?_
        rintro e w2' ⟨rfl, rfl⟩
        obtain ⟨w2, hw2⟩ : ∃ w2, w1.setCell ⟨w.heap.size + 1, k, none⟩ (.int .u8 (rd xs (k : Int))) = w2 := ⟨_, rfl⟩
        rw [hw2] at H2 ⊢
        clear hw2 hcx hcy hfy
        have hp16 : B16 (pad (xs.take (k + 1))) := pad_16 (by rw [List.length_take]; omega) (hxb.take _)
        have HLD : Hid (∀ w0, Below w2.heap.size w2 w0 → (Instr.loadAt 22 (.pointer (some ⟨w.heap.size + 1, 0, none⟩))).run Tryd.prog w0 = .ok (.agg (arrV (pad (xs.take (k + 1))))) w0) :=
          fun w0 h0 => load_arr hp16 (fun i hi => by rw [Nat.zero_add]; exact arr_cell (blk_below H2.out.2.2.2 h0) i (by rw [hp16.len]; exact hi))
        go_wp2_with fail
        refine wp_region_mix (fun w0 => Below (w2).heap.size (w2) w0) [(0, 0), (1, 0), (3, 0), (2, 2), (4, 0), (5, 0)] (by kernel_rfl) (by kernel_rfl) (below_drew1 _) ?_
        simp only [List.map_cons, List.map_nil]
        refine wpO_loadW (t := 22) (ad := ⟨(w.heap.size+1), 0, none⟩) rfl rfl ?hw rfl rfl ((fun w0 hS => HLD.out w0 hS)) ?_
        case hw => go_simp
        iterate 1 (refine wpO_step0 rfl rfl (fun K hK => ?_); go_simp; refine hK _ _ ?_; clear hK K)
        refine wpO_loadW (t := 22) (ad := ⟨(w.heap.size+1), 0, none⟩) rfl rfl ?hw rfl rfl ((fun w0 hS => HLD.out w0 hS)) ?_
        case hw => go_simp
        refine wpO_step2 rfl rfl (below_drew1 _) (fun K hK => ?_)
        go_simp
        refine (cut_any (pad (xs.take (k + 1))) bits _ hp16 hb0 hb1).mono ?_
        rintro e w3 ⟨rfl, hbb3⟩
        have HB3 := Lib.hid (below_step (below_drew1 _) hbb3)
        clear hbb3
        refine hK _ _ ⟨HB3.out, ?_⟩
        clear hK K
        refine wpO_step0 rfl rfl (fun K hK => ?_)
        rw [if_pos (show Region.wanted _ _ = true from rfl)]
        refine ⟨_, fun w0 => arr_neq_exec rfl (cutA (pad (xs.take (k + 1))) bits) (pad (xs.take (k + 1))) rfl rfl (cutA_16 hp16 _) hp16 w0, hK _ _ ?_⟩
        clear hK K
        have H3 : Hid (Rdr w3 lo g (xs.drop (k + 1)) 0 ∧ w.grownBy w3 (some g) ∧ w3.heap[w.heap.size]? = some (.cells (rdV g) 65 (0, 0)) ∧ w3.heap[w.heap.size + 1]? = some (.cells (arrV (pad (xs.take (k + 1)))) 22 (0, 0))) :=
          ⟨H2.out.1.below HB3.out, grown_then H2.out.2.1 HB3.out, blk_below H2.out.2.2.1 HB3.out, blk_below H2.out.2.2.2 HB3.out⟩
        by_cases hcl : clearA (pad (xs.take (k + 1))) bits = true
        · have hdc : (!decide (cutA (pad (xs.take (k + 1))) bits = pad (xs.take (k + 1)))) = false := by rw [decide_eq_true ((cut_clear hp16 bits).2 hcl)]; rfl
          rw [hdc]
          have HC := Lib.hid hcl
          clear hdc hcl
          iterate 1 (refine wpO_step0 rfl rfl (fun K hK => ?_); go_simp; refine hK _ _ ?_; clear hK K)
          refine wpO_nil ?_
          go_wp2_with fail
          go_roundw
          case measure => simp [intOf]; omega
          case rel =>
            exact ⟨k + 1, by go_num, by omega, by omega, H3.out.2.2.1, H3.out.2.2.2, H3.out.1, H3.out.2.1, fun h _ => by rw [← h]; exact HC.out⟩
        · have hcf : clearA (pad (xs.take (k + 1))) bits = false := by simpa using hcl
          have hk1 : k + 1 = nb := by
            rcases Nat.lt_or_ge (k + 1) nb with h | h
            · have := clear_pad (xs.take (k + 1)) bits (by rw [List.length_take]; have := fullB_lt (bits := bits) (i := k) (by rw [HNB.out]; exact h); omega)
              rw [this] at hcf
              cases hcf
            · omega
          have hdc : (!decide (cutA (pad (xs.take (k + 1))) bits = pad (xs.take (k + 1)))) = true := by
            rw [decide_eq_false (fun h => hcl ((cut_clear hp16 bits).1 h))]
            rfl
          rw [hdc]
          have HE := Lib.hid (some_wrong (xs := xs) (bits := bits) (wrong := wrong) (by rw [HNB.out]; omega) (by rw [HNB.out, ← hk1]; exact hcf))
          have HE2 := Lib.hid (someL_no (xs := xs) (bits := bits) (wrong := wrong) (by rw [HE.out]; exact hwr))
          have hbn := run_build_arr_nil
          clear hdc hcl hcf hk1
          iterate 1 (refine wpO_step0 rfl rfl (fun K hK => ?_); go_simp; refine hK _ _ ?_; clear hK K)
          refine wpO_nil ?_
          go_wp2_with (refine wpList_store_blk H3.out.2.2.2 22 0 (arrV zero16) (by rw [arr_size rfl, arr_size hp16.len]; exact Nat.le_refl _) (info_arr rfl) (arr_one _) _ _ rfl rfl rfl rfl ?_; intro w4 hg hs hb; rw [splice_arr0 _ zero16 rfl (arr_size hp16.len)] at hb; have H4 := Lib.hid (And.intro hg hb); clear hg hs hb)
          have hld := load_arr (b := w.heap.size + 1) (o := 0) zero16_B (fun i hi => by rw [Nat.zero_add]; exact arr_cell H4.out.2 i hi)
          refine bodyPost_ret (results_c2 rfl rfl hld) rfl ?_
          rw [HE.out, HE2.out]
          exact ⟨rfl, ⟨_, _, H3.out.1.grown H4.out.1 (fun b hb => by injection hb with hb; omega), fun h => absurd (HE.out.symm.trans h) hwr⟩, grown_far H3.out.2.1 H4.out.1 (by omega)⟩
      · have hkx' : k = xs.length := by have := HH.out.2.1; omega
        have hrd := HH.out.2.2.2.2.1
        rw [List.drop_of_length_le (by omega)] at hrd
        have HRD := Lib.hid hrd
        have HE := Lib.hid (some_short (xs := xs) (bits := bits) (wrong := wrong) (by rw [HNB.out]; omega))
        have HE2 := Lib.hid (someL_no (xs := xs) (bits := bits) (wrong := wrong) (by rw [HE.out]; decide))
        clear hrd hkx hkx'
        go_wp2_with fail
        refine (u8_none g wr HRD.out).mono ?_
        rintro e w1 ⟨rfl, hr1, hg1⟩
        have hbx := blk_grown HH.out.2.2.1 hg1 (fun e => by injection e with e; omega)
        have hby := blk_grown HH.out.2.2.2.1 hg1 (fun e => by injection e with e; omega)
        have hcx : w1.cell? ⟨w.heap.size, 0, none⟩ = some (.pointer (some ⟨g, 0, none⟩)) := by rw [blk_cell hbx]; rfl
        have hcy := arr_cell hby k (by rw [hlp]; omega)
        have hfy : w1.frozen? ⟨w.heap.size + 1, k, none⟩ = false := blk_frozen hby k
        have hk16 : (k : Int) < 16 := by omega
        have hk0 : (0 : Int) ≤ k := by omega
        have H2 : Hid (Rdr (w1.setCell ⟨w.heap.size + 1, k, none⟩ (.int .u8 0)) lo g [] 7 ∧ w.grownBy (w1.setCell ⟨w.heap.size + 1, k, none⟩ (.int .u8 0)) (some g) ∧
            (w1.setCell ⟨w.heap.size + 1, k, none⟩ (.int .u8 0)).heap[w.heap.size + 1]? = some (.cells (arrV ((pad (xs.take k)).set k 0)) 22 (0, 0))) :=
          ⟨hr1.grown (grown_setCell _ _ _) (fun b hb => by injection hb with hb; simp only at hb; omega), grown_far (grown_trans HH.out.2.2.2.2.2.1 hg1) (grown_setCell _ _ _) (by simp), arr_set hby k 0⟩
        clear hr1 hg1 hbx hby HRD hc1
        go_wp2_with fail
        refine (err_any g _ _ _ H2.out.1).mono ?_
        rintro e w2' ⟨rfl, rfl⟩
        obtain ⟨w2, hw2⟩ : ∃ w2, w1.setCell ⟨w.heap.size + 1, k, none⟩ (.int .u8 0) = w2 := ⟨_, rfl⟩
        rw [hw2] at H2 ⊢
        have hbn := run_build_arr_nil
        have hl16 : ((pad (xs.take k)).set k 0).length = 16 := by rw [List.length_set, hlp]
        clear hw2 hcx hcy hfy hlp
        go_wp2_with (refine wpList_store_blk H2.out.2.2 22 0 (arrV zero16) (by rw [arr_size rfl, arr_size hl16]; exact Nat.le_refl _) (info_arr rfl) (arr_one _) _ _ rfl rfl rfl rfl ?_; intro w4 hg hs hb; rw [splice_arr0 _ zero16 rfl (arr_size hl16)] at hb; have H4 := Lib.hid (And.intro hg hb); clear hg hs hb)
        have hld := load_arr (b := w.heap.size + 1) (o := 0) zero16_B (fun i hi => by rw [Nat.zero_add]; exact arr_cell H4.out.2 i hi)
        refine bodyPost_ret (results_c2 rfl rfl hld) rfl ?_
        rw [HE.out, HE2.out]
        exact ⟨rfl, ⟨_, _, H2.out.1.grown H4.out.1 (fun b hb => by injection hb with hb; omega), fun h => absurd (HE.out.symm.trans h) (by decide)⟩, grown_far H2.out.2.1 H4.out.1 (by omega)⟩
    · obtain rfl : k = nb := by omega
      have hm1 : decide ((k : Int) < k) = false := decide_eq_false (by omega)
      have hp16 : B16 (pad (xs.take k)) := pad_16 (by rw [List.length_take]; omega) (hxb.take _)
      have hcl : clearA (pad (xs.take k)) bits = true := by
        rcases Nat.eq_zero_or_pos k with h | h
        · subst h
          exact clear_pad _ _ (by simp)
        · exact HH.out.2.2.2.2.2.2 rfl h
      have HE := Lib.hid (some_ok (xs := xs) (bits := bits) (wrong := wrong) (by rw [HNB.out]; exact HH.out.2.1) (by rw [HNB.out]; exact hcl))
      have HE2 := Lib.hid ((someL_ok HE.out).trans (by rw [HNB.out]))
      have hld0 := load_arr (b := w.heap.size + 1) (o := 0) hp16 (fun i hi => by rw [Nat.zero_add]; exact arr_cell HH.out.2.2.2.1 i (by rw [hp16.len]; exact hi))
      clear hlt2 hcl hk
      go_wp2_with (first | (refine wpList_load_g hld0 _ rfl rfl (by go_simp) ?_) | (refine wpList_store_blk HH.out.2.2.2.1 22 0 (arrV (pad (xs.take k))) (by rw [arr_size hp16.len]; exact Nat.le_refl _) (info_arr hp16.len) (arr_one _) _ _ rfl rfl rfl rfl ?_; intro w4 hg hs hb; rw [splice_arr0 _ (pad (xs.take k)) hp16.len (arr_size hp16.len)] at hb; have H4 := Lib.hid (And.intro hg hb); clear hg hs hb))
      have hld := load_arr (b := w.heap.size + 1) (o := 0) hp16 (fun i hi => by rw [Nat.zero_add]; exact arr_cell H4.out.2 i (by rw [hp16.len]; exact hi))
      refine bodyPost_ret (results_c2 rfl rfl hld) rfl ?_
      rw [HE.out, HE2.out]
      exact ⟨rfl, ⟨_, _, HH.out.2.2.2.2.1.grown H4.out.1 (fun b hb => by injection hb with hb; omega), fun _ => ⟨by rw [HNB.out], rfl⟩⟩, grown_far HH.out.2.2.2.2.2.1 H4.out.1 (by omega)⟩
end Go.Proofs.YtcloepjeckbmoaaDoor
