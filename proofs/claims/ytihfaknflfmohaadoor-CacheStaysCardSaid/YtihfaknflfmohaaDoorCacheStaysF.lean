/- Layer 5 (prefix): the reader's version and some. -/
import Derived.LoopIn
import Derived.LoopNIn
import Derived.OwnWalkIn
import Derived.RangeFuncBound
import Derived.RangeFuncCalls
import Derived.RangeFuncFrom
import Derived.RangeFuncLeaves
import Derived.RangeFuncNested
import Derived.Shelf.Abstract
import Derived.Shelf.RegionOpen
import Derived.TacticsInMore
import Derived.WalkKit
import Derived.Test.YtihfaknflfmohaaDoorCacheStaysA
import Derived.Test.YtihfaknflfmohaaDoorCacheStaysB
import Derived.Test.YtihfaknflfmohaaDoorCacheStaysC
import Derived.Test.YtihfaknflfmohaaDoorCacheStaysD
import Derived.Test.YtihfaknflfmohaaDoorCacheStaysE
namespace Go.Proofs.YtihfaknflfmohaaDoor
open Go.RowKit
set_option linter.unusedVariables false
set_option linter.unusedSimpArgs false
set_option maxRecDepth 4000

theorem Laid.grown {w w1 : World} (h : Laid w) {g : Nat} (hg : w.grownBy w1 (some g)) (h0 : g ≠ 0) : Laid w1 :=
  ⟨fun i hi => hg.cell (h.at_ i hi) (fun e => by injection e with e; exact h0 e.symm)⟩
theorem grown_of_alloc {w w1 : World} {o : Obj} {g : Nat} (h : (w.alloc o).grownBy w1 (some g)) : w.grownBy w1 (some g) :=
  ⟨h.os, h.tape, h.output, by have := h.size; simp at this; omega, fun k hk hne => by
    rw [h.block k (by simp; omega) hne]
    exact Below.heap_alloc w o k hk⟩
theorem grown_far {w w1 w2 : World} {row : Option Nat} {c : Nat} (h : w.grownBy w1 row) (k : w1.grownBy w2 (some c)) (hc : w.heap.size ≤ c) : w.grownBy w2 row :=
  ⟨k.os.trans h.os, k.tape.trans h.tape, k.output.trans h.output, Nat.le_trans h.size k.size, fun i hi hne =>
    (k.block i (Nat.lt_of_lt_of_le hi h.size) (fun e => by injection e with e; omega)).trans (h.block i hi hne)⟩
theorem grown_then {w w1 w2 : World} {row : Option Nat} (h : w.grownBy w1 row) (k : Below w1.heap.size w1 w2) : w.grownBy w2 row :=
  ⟨k.os.trans h.os, k.tape.trans h.tape, k.output.trans h.output, Nat.le_trans h.size k.size, fun i hi hne =>
    (k.block i (Nat.lt_of_lt_of_le hi h.size)).trans (h.block i hi hne)⟩
theorem Rdr.byte {w : World} {lo g : Nat} {xs : List Int} {e : Int} (h : Rdr w lo g xs e) : Bytes xs := by
  obtain ⟨A, n, c, -, hr, -⟩ := h
  exact hr.range
theorem Rdr.short {w : World} {lo g : Nat} {xs : List Int} {e : Int} (h : Rdr w lo g xs e) : xs.length ≤ 281474976710656 := by
  obtain ⟨A, n, c, -, hr, -⟩ := h
  rw [hr.len]
  exact hr.small
theorem u8_none {lo : Nat} (g : Nat) (w : World) (hr : Rdr w lo g [] 0) :
    Calls Tryd.prog 89 #[.pointer (some ⟨g, 0, none⟩)] w fun e w' => e = .returned (.int .u8 0) ∧ Rdr w' lo g [] 7 ∧ w.grownBy w' (some g) :=
  u8_any g [] 0 w hr
theorem u8_some {lo : Nat} (g : Nat) (x : Int) (r : List Int) (w : World) (hr : Rdr w lo g (x :: r) 0) :
    Calls Tryd.prog 89 #[.pointer (some ⟨g, 0, none⟩)] w fun e w' => e = .returned (.int .u8 x) ∧ Rdr w' lo g r 0 ∧ w.grownBy w' (some g) := by
  have hx := hr.byte x (by simp)
  have hb : offB (x :: r) 0 1 = true := by simp [offB]; omega
  have := u8_any g (x :: r) 0 w hr
  rw [offT_true hb, offL_true hb, offE_true hb] at this
  have e : numOf 0 ((x :: r).take (1 : Int).toNat) % 256 = x := by
    show (0 * 256 + x) % 18446744073709551616 % 256 = x
    omega
  rw [e] at this
  exact this
/-- The reader of the package: a box that holds the pointer. -/
abbrev rdV (g : Nat) : Array Value := #[.pointer (some ⟨g, 0, none⟩)]

set_option maxHeartbeats 2000000 in
theorem version_any {lo : Nat} (g : Nat) (xs : List Int) (wrong : Int) (w : World) (hL : Laid w) (hg0 : g ≠ 0) (hr : Rdr w lo g xs 0) (hwr : wrong ≠ 0) :
    Calls Tryd.prog 114 #[.agg (rdV g), .int .i64 wrong] w fun e w' => e = .returned (.tuple #[.int .i64 (verV xs wrong), .int .i64 (verE xs wrong)]) ∧ Rdr w' lo g (xs.drop 1) (if xs.length = 0 then 7 else 0) ∧ w.grownBy w' (some g) := by
  have hlt := hr.lt
  have HR := Lib.hid (hr.below (below_alloc (Below.refl _ _) (.cells (rdV g) 163)))
  have HB := Lib.hid (blk_new w (.cells (rdV g) 163))
  have HL := Lib.hid (hL.below (below_alloc (Below.refl _ _) (.cells (rdV g) 163)))
  clear hL
  cases xs with
  | nil =>
    have h0 : verV [] wrong = 0 := rfl
    have h1 : verE [] wrong = 7 := rfl
    rw [h0, h1]
    clear h0 h1
    go_enter Tryd.func114, Tryd.ntmps114
    go_wp2_with fail
    refine (u8_none g _ HR.out).mono ?_
    rintro e w1 ⟨rfl, hr1, hg1⟩
    have hb1 := blk_grown HB.out hg1 (fun e => by injection e with e; omega)
    have hc1 : w1.cell? ⟨w.heap.size, 0, none⟩ = some (.pointer (some ⟨g, 0, none⟩)) := by rw [blk_cell hb1]; rfl
    have H1 := Lib.hid (And.intro hr1 hg1)
    clear hr1 hg1 hb1
    go_wp2_with fail
    refine (err_any g _ _ w1 H1.out.1).mono ?_
    rintro e w2 ⟨rfl, rfl⟩
    go_wp2
    go_ret2
    exact ⟨rfl, H1.out.1, grown_of_alloc H1.out.2⟩
  | cons x r =>
    have hx := hr.byte x (by simp)
    clear hr
    go_enter Tryd.func114, Tryd.ntmps114
    go_wp2_with fail
    refine (u8_some g x r _ HR.out).mono ?_
    rintro e w1 ⟨rfl, hr1, hg1⟩
    have hb1 := blk_grown HB.out hg1 (fun e => by injection e with e; omega)
    have hc1 : w1.cell? ⟨w.heap.size, 0, none⟩ = some (.pointer (some ⟨g, 0, none⟩)) := by rw [blk_cell hb1]; rfl
    have H1 := Lib.hid (And.intro hr1 hg1)
    have HL1 := Lib.hid (HL.out.grown hg1 hg0)
    clear hr1 hg1 hb1
    go_wp2_with fail
    refine (err_any g _ _ w1 H1.out.1).mono ?_
    rintro e w2 ⟨rfl, rfl⟩
    go_wp2_with fail
    refine (width_any x w1 HL1.out).mono ?_
    rintro e w2 ⟨rfl, rfl⟩
    have hrd : rd (x :: r) 0 = x := rfl
    by_cases hw : widthA x = 0
    · have HV := Lib.hid (show verE (x :: r) wrong = wrong by rw [verE_cons (by simp), hrd, if_pos hw])
      have HW := Lib.hid (show verV (x :: r) wrong = 0 by unfold verV; rw [HV.out, if_neg hwr])
      rw [hw]
      clear hw hrd
      go_wp2
      go_ret2
      rw [HV.out, HW.out]
      exact ⟨rfl, H1.out.1, grown_of_alloc H1.out.2⟩
    · have HV := Lib.hid (show verE (x :: r) wrong = 0 by rw [verE_cons (by simp), hrd, if_neg hw])
      have HW := Lib.hid (show verV (x :: r) wrong = x by unfold verV; rw [HV.out, hrd]; rfl)
      have hw0 : ((widthA x : Int) == 0) = false := by simp; omega
      have hw1 : ((widthA x) == 0) = false := by simp; omega
      clear hw hrd
      go_wp2
      go_ret2
      rw [HV.out, HW.out]
      exact ⟨rfl, H1.out.1, grown_of_alloc H1.out.2⟩

theorem arr_neq_exec {r : Operand → Value} {o : Oper} {x y : Operand} {ty : TypeId} (ho : o.op = .binOp .neq 29 x y ty) (l m : List Int) (hx : r x = .agg (arrV l)) (hy : r y = .agg (arrV m)) (hl : B16 l) (hm : B16 m) (w : World) :
    (execOp r o).run Tryd.prog w = .ok (.value (.bool (!decide (l = m)))) w := by
  have hgt : Tryd.prog.eqGuardType Tryd.prog.depth 29 = false := by kernel_rfl
  have hg : (eqGuard .neq 29 x y (.agg (arrV l)) (.agg (arrV m))).run Tryd.prog w = .ok () w := by
    simp [eqGuard, Sem.run_bind, run_program, hgt]
  have hq : (binOp .neq 29 (.agg (arrV l)) (.agg (arrV m))).run Tryd.prog w = .ok (.bool (!decide (l = m))) w := by
    show ((do pure (Value.bool (!(← Op.equal 29 (.agg (arrV l)) (.agg (arrV m))))) : Sem Value)).run Tryd.prog w = _
    rw [Sem.run_bind, arr_equal l m hl hm w]
    rfl
  unfold execOp
  simp only [ho, hx, hy, Sem.run_bind, hg, hq, Result.andThen_ok, Sem.run_pure]

def SomeRest (lo g : Nat) (xs : List Int) (bits : Nat) (wrong : Int) (w : World) : Prop := ∃ rest e1, Rdr w lo g rest e1 ∧ (someE xs bits wrong = 0 → rest = xs.drop (fullB bits) ∧ e1 = 0)
theorem drop_rd (xs : List Int) (k : Nat) (h : k < xs.length) : xs.drop k = rd xs (k : Int) :: xs.drop (k + 1) := by
  rw [List.drop_eq_getElem_cons h]
  simp [rd, List.getD_eq_getElem?_getD, h]
set_option maxHeartbeats 4000000 in
theorem some_any {lo : Nat} (g : Nat) (xs : List Int) (bits : Nat) (wrong : Int) (w : World) (hr : Rdr w lo g xs 0) (hwr : wrong ≠ 0) (hbits : bits ≤ 128) :
    Calls Tryd.prog 115 #[.agg (rdV g), .int .i64 bits, .int .i64 wrong] w fun e w' => e = .returned (.tuple #[.agg (arrV (someL xs bits wrong)), .int .i64 (someE xs bits wrong)]) ∧
      SomeRest lo g xs bits wrong w' ∧ w.grownBy w' (some g) := by
  have hlt := hr.lt
  have hxb := hr.byte
  have hst : (((w.alloc (.cells (rdV g) 163)).alloc (.cells (arrV zero16) 29))).heap[w.heap.size]? = some (.cells (rdV g) 163 (0, 0)) :=
    blk_below (blk_new w _) (below_alloc (Below.refl _ _) _)
  have hst2 := blk_new (w.alloc (.cells (rdV g) 163)) (.cells (arrV zero16) 29)
  rw [show (w.alloc (.cells (rdV g) 163)).heap.size = w.heap.size + 1 by simp] at hst2
  have HB : Hid (((w.alloc (.cells (rdV g) 163)).alloc (.cells (arrV zero16) 29)).heap[w.heap.size]? = some (.cells (rdV g) 163 (0, 0)) ∧
      ((w.alloc (.cells (rdV g) 163)).alloc (.cells (arrV zero16) 29)).heap[w.heap.size + 1]? = some (.cells (arrV (pad (xs.take 0))) 29 (0, 0)) ∧
      Rdr ((w.alloc (.cells (rdV g) 163)).alloc (.cells (arrV zero16) 29)) lo g (xs.drop 0) 0 ∧
      w.grownBy ((w.alloc (.cells (rdV g) 163)).alloc (.cells (arrV zero16) 29)) (some g)) :=
    ⟨hst, hst2, hr.below (below_alloc (below_alloc (Below.refl _ _) _) _), grown_of_below (below_alloc (below_alloc (Below.refl _ _) _) _) _⟩
  clear hst hst2 hr
  have hb0 : (0 : Int) ≤ bits := by omega
  have hb1 : (bits : Int) ≤ 128 := by omega
  obtain ⟨nb, hnb⟩ : ∃ nb, fullB (bits : Int) = nb := ⟨_, rfl⟩
  have hnn : ((bits : Int) + 7) / 8 = (nb : Int) := by rw [← hnb]; unfold fullB; omega
  have hn16 : nb ≤ 16 := by omega
  have HNB := Lib.hid hnb
  have hfq := fun w0 => full_any (bits : Int) w0 hb0 hb1
  rw [hnn] at hfq
  clear hnb hnn
  go_enter Tryd.func115, Tryd.ntmps115
  go_wp2_with fail
  refine (hfq _).mono ?_
  rintro e w1 ⟨rfl, rfl⟩
  go_wp2_with fail
  go_loopw [11] (fun i wr => ∃ k : Nat, i = .int .i64 k ∧ Hid (k ≤ nb ∧ k ≤ xs.length ∧ wr.heap[w.heap.size]? = some (.cells (rdV g) 163 (0, 0)) ∧ wr.heap[w.heap.size + 1]? = some (.cells (arrV (pad (xs.take k))) 29 (0, 0)) ∧ Rdr wr lo g (xs.drop k) 0 ∧ w.grownBy wr (some g) ∧ (k = nb → 0 < nb → clearA (pad (xs.take nb)) bits = true))) (fun i _ => 16 - (intOf i).toNat)
  case atStart => exact ⟨0, rfl, Nat.zero_le _, Nat.zero_le _, HB.out.1, HB.out.2.1, HB.out.2.2.1, HB.out.2.2.2, fun h h0 => by omega⟩
  case round =>
    obtain ⟨k, rfl, HH⟩ := hrel
    clear HB
    have hk := HH.out.1
    by_cases hlt2 : k < nb
    · have hlt' : (k : Int) < nb := by omega
      have hc1 : wr.cell? ⟨w.heap.size, 0, none⟩ = some (.pointer (some ⟨g, 0, none⟩)) := by rw [blk_cell HH.out.2.2.1]; rfl
      have hlp : (pad (xs.take k)).length = 16 := pad_len (by rw [List.length_take]; omega)
      by_cases hkx : k < xs.length
      · have hrd := HH.out.2.2.2.2.1
        rw [drop_rd xs k hkx] at hrd
        have HRD := Lib.hid hrd
        clear hrd
        go_wp2_with fail
        refine (u8_some g _ _ wr HRD.out).mono ?_
        rintro e w1 ⟨rfl, hr1, hg1⟩
        have hbx := blk_grown HH.out.2.2.1 hg1 (fun e => by injection e with e; omega)
        have hby := blk_grown HH.out.2.2.2.1 hg1 (fun e => by injection e with e; omega)
        have hcx : w1.cell? ⟨w.heap.size, 0, none⟩ = some (.pointer (some ⟨g, 0, none⟩)) := by rw [blk_cell hbx]; rfl
        have hcy := arr_cell hby k (by rw [hlp]; omega)
        have hfy : w1.frozen? ⟨w.heap.size + 1, k, none⟩ = false := blk_frozen hby k
        have hk16 : (k : Int) < 16 := by omega
        have hk0 : (0 : Int) ≤ k := by omega
        have H1 : Hid (Rdr w1 lo g (xs.drop (k + 1)) 0 ∧ w.grownBy w1 (some g) ∧ w1.heap[w.heap.size]? = some (.cells (rdV g) 163 (0, 0)) ∧ w1.heap[w.heap.size + 1]? = some (.cells (arrV (pad (xs.take k))) 29 (0, 0))) :=
          ⟨hr1, grown_trans HH.out.2.2.2.2.2.1 hg1, hbx, hby⟩
        clear hr1 hg1 hbx hby HRD hc1
        have H2 : Hid (Rdr (w1.setCell ⟨w.heap.size + 1, k, none⟩ (.int .u8 (rd xs (k : Int)))) lo g (xs.drop (k + 1)) 0 ∧ w.grownBy (w1.setCell ⟨w.heap.size + 1, k, none⟩ (.int .u8 (rd xs (k : Int)))) (some g) ∧
            (w1.setCell ⟨w.heap.size + 1, k, none⟩ (.int .u8 (rd xs (k : Int)))).heap[w.heap.size]? = some (.cells (rdV g) 163 (0, 0)) ∧
            (w1.setCell ⟨w.heap.size + 1, k, none⟩ (.int .u8 (rd xs (k : Int)))).heap[w.heap.size + 1]? = some (.cells (arrV (pad (xs.take (k + 1)))) 29 (0, 0))) := by
          refine ⟨H1.out.1.grown (grown_setCell _ _ _) (fun b hb => by injection hb with hb; simp only at hb; omega), grown_far H1.out.2.1 (grown_setCell _ _ _) (by simp), blk_set_far H1.out.2.2.1 (by simp) _, ?_⟩
          have := arr_set H1.out.2.2.2 k (rd xs (k : Int))
          rw [pad_set xs k hkx (by omega)] at this
          exact this
        go_wp2_with fail
        refine (err_any g _ _ _ H2.out.1).mono ?_
        rintro e w2' ⟨rfl, rfl⟩
        obtain ⟨w2, hw2⟩ : ∃ w2, w1.setCell ⟨w.heap.size + 1, k, none⟩ (.int .u8 (rd xs (k : Int))) = w2 := ⟨_, rfl⟩
        rw [hw2] at H2 ⊢
        clear hw2 hcx hcy hfy
        have hp16 : B16 (pad (xs.take (k + 1))) := pad_16 (by rw [List.length_take]; omega) (hxb.take _)
        have HLD : Hid (∀ w0, Below w2.heap.size w2 w0 → (Instr.loadAt 29 (.pointer (some ⟨w.heap.size + 1, 0, none⟩))).run Tryd.prog w0 = .ok (.agg (arrV (pad (xs.take (k + 1))))) w0) :=
          fun w0 h0 => load_arr hp16 (fun i hi => by rw [Nat.zero_add]; exact arr_cell (blk_below H2.out.2.2.2 h0) i (by rw [hp16.len]; exact hi))
        go_wp2_with fail
        refine wp_region_mix (fun w0 => Below (w2).heap.size (w2) w0) [(0, 0), (1, 0), (3, 0), (2, 2), (4, 0), (5, 0)] (by kernel_rfl) (by kernel_rfl) (below_drew1 _) ?_
        simp only [List.map_cons, List.map_nil]
        refine wpO_loadW (t := 29) (ad := ⟨(w.heap.size+1), 0, none⟩) rfl rfl ?hw rfl rfl ((fun w0 hS => HLD.out w0 hS)) ?_
        case hw => go_simp
        iterate 1 (refine wpO_step0 rfl rfl (fun K hK => ?_); go_simp; refine hK _ _ ?_; clear hK K)
        refine wpO_loadW (t := 29) (ad := ⟨(w.heap.size+1), 0, none⟩) rfl rfl ?hw rfl rfl ((fun w0 hS => HLD.out w0 hS)) ?_
        case hw => go_simp
        refine wpO_step2 rfl rfl (below_drew1 _) (fun K hK => ?_)
        go_simp
        refine (cut_any (pad (xs.take (k + 1))) bits _ hp16 hb0 hb1).mono ?_
        rintro e w3 ⟨rfl, hbb3⟩
        have HB3 := Lib.hid (below_step (below_drew1 _) hbb3)
        clear hbb3
        refine hK _ _ ⟨HB3.out, ?_⟩
        clear hK K
        refine wpO_step0 rfl rfl (fun K hK => ?_)
        rw [if_pos (show Region.wanted _ _ = true from rfl)]
        refine ⟨_, fun w0 => arr_neq_exec rfl (cutA (pad (xs.take (k + 1))) bits) (pad (xs.take (k + 1))) rfl rfl (cutA_16 hp16 _) hp16 w0, hK _ _ ?_⟩
        clear hK K
        have H3 : Hid (Rdr w3 lo g (xs.drop (k + 1)) 0 ∧ w.grownBy w3 (some g) ∧ w3.heap[w.heap.size]? = some (.cells (rdV g) 163 (0, 0)) ∧ w3.heap[w.heap.size + 1]? = some (.cells (arrV (pad (xs.take (k + 1)))) 29 (0, 0))) :=
          ⟨H2.out.1.below HB3.out, grown_then H2.out.2.1 HB3.out, blk_below H2.out.2.2.1 HB3.out, blk_below H2.out.2.2.2 HB3.out⟩
        by_cases hcl : clearA (pad (xs.take (k + 1))) bits = true
        · have hdc : (!decide (cutA (pad (xs.take (k + 1))) bits = pad (xs.take (k + 1)))) = false := by rw [decide_eq_true ((cut_clear hp16 bits).2 hcl)]; rfl
          rw [hdc]
          have HC := Lib.hid hcl
          clear hdc hcl
          iterate 1 (refine wpO_step0 rfl rfl (fun K hK => ?_); go_simp; refine hK _ _ ?_; clear hK K)
          refine wpO_nil ?_
          go_wp2_with fail
          go_roundw
          case measure => simp [intOf]; omega
          case rel =>
            exact ⟨k + 1, by go_num, by omega, by omega, H3.out.2.2.1, H3.out.2.2.2, H3.out.1, H3.out.2.1, fun h _ => by rw [← h]; exact HC.out⟩
        · have hcf : clearA (pad (xs.take (k + 1))) bits = false := by simpa using hcl
          have hk1 : k + 1 = nb := by
            rcases Nat.lt_or_ge (k + 1) nb with h | h
            · have := clear_pad (xs.take (k + 1)) bits (by rw [List.length_take]; have := fullB_lt (bits := bits) (i := k) (by rw [HNB.out]; exact h); omega)
              rw [this] at hcf
              cases hcf
            · omega
          have hdc : (!decide (cutA (pad (xs.take (k + 1))) bits = pad (xs.take (k + 1)))) = true := by
            rw [decide_eq_false (fun h => hcl ((cut_clear hp16 bits).1 h))]
            rfl
          rw [hdc]
          have HE := Lib.hid (some_wrong (xs := xs) (bits := bits) (wrong := wrong) (by rw [HNB.out]; omega) (by rw [HNB.out, ← hk1]; exact hcf))
          have HE2 := Lib.hid (someL_no (xs := xs) (bits := bits) (wrong := wrong) (by rw [HE.out]; exact hwr))
          have hbn := run_build_arr_nil
          clear hdc hcl hcf hk1
          iterate 1 (refine wpO_step0 rfl rfl (fun K hK => ?_); go_simp; refine hK _ _ ?_; clear hK K)
          refine wpO_nil ?_
          go_wp2_with (refine wpList_store_blk H3.out.2.2.2 29 0 (arrV zero16) (by rw [arr_size rfl, arr_size hp16.len]; exact Nat.le_refl _) (info_arr rfl) (arr_one _) _ _ rfl rfl rfl rfl ?_; intro w4 hg hs hb; rw [splice_arr0 _ zero16 rfl (arr_size hp16.len)] at hb; have H4 := Lib.hid (And.intro hg hb); clear hg hs hb)
          have hld := load_arr (b := w.heap.size + 1) (o := 0) zero16_B (fun i hi => by rw [Nat.zero_add]; exact arr_cell H4.out.2 i hi)
          refine bodyPost_ret (results_c2 rfl rfl hld) rfl ?_
          rw [HE.out, HE2.out]
          exact ⟨rfl, ⟨_, _, H3.out.1.grown H4.out.1 (fun b hb => by injection hb with hb; omega), fun h => absurd (HE.out.symm.trans h) hwr⟩, grown_far H3.out.2.1 H4.out.1 (by omega)⟩
      · have hkx' : k = xs.length := by have := HH.out.2.1; omega
        have hrd := HH.out.2.2.2.2.1
        rw [List.drop_of_length_le (by omega)] at hrd
        have HRD := Lib.hid hrd
        have HE := Lib.hid (some_short (xs := xs) (bits := bits) (wrong := wrong) (by rw [HNB.out]; omega))
        have HE2 := Lib.hid (someL_no (xs := xs) (bits := bits) (wrong := wrong) (by rw [HE.out]; decide))
        clear hrd hkx hkx'
        go_wp2_with fail
        refine (u8_none g wr HRD.out).mono ?_
        rintro e w1 ⟨rfl, hr1, hg1⟩
        have hbx := blk_grown HH.out.2.2.1 hg1 (fun e => by injection e with e; omega)
        have hby := blk_grown HH.out.2.2.2.1 hg1 (fun e => by injection e with e; omega)
        have hcx : w1.cell? ⟨w.heap.size, 0, none⟩ = some (.pointer (some ⟨g, 0, none⟩)) := by rw [blk_cell hbx]; rfl
        have hcy := arr_cell hby k (by rw [hlp]; omega)
        have hfy : w1.frozen? ⟨w.heap.size + 1, k, none⟩ = false := blk_frozen hby k
        have hk16 : (k : Int) < 16 := by omega
        have hk0 : (0 : Int) ≤ k := by omega
        have H2 : Hid (Rdr (w1.setCell ⟨w.heap.size + 1, k, none⟩ (.int .u8 0)) lo g [] 7 ∧ w.grownBy (w1.setCell ⟨w.heap.size + 1, k, none⟩ (.int .u8 0)) (some g) ∧
            (w1.setCell ⟨w.heap.size + 1, k, none⟩ (.int .u8 0)).heap[w.heap.size + 1]? = some (.cells (arrV ((pad (xs.take k)).set k 0)) 29 (0, 0))) :=
          ⟨hr1.grown (grown_setCell _ _ _) (fun b hb => by injection hb with hb; simp only at hb; omega), grown_far (grown_trans HH.out.2.2.2.2.2.1 hg1) (grown_setCell _ _ _) (by simp), arr_set hby k 0⟩
        clear hr1 hg1 hbx hby HRD hc1
        go_wp2_with fail
        refine (err_any g _ _ _ H2.out.1).mono ?_
        rintro e w2' ⟨rfl, rfl⟩
        obtain ⟨w2, hw2⟩ : ∃ w2, w1.setCell ⟨w.heap.size + 1, k, none⟩ (.int .u8 0) = w2 := ⟨_, rfl⟩
        rw [hw2] at H2 ⊢
        have hbn := run_build_arr_nil
        have hl16 : ((pad (xs.take k)).set k 0).length = 16 := by rw [List.length_set, hlp]
        clear hw2 hcx hcy hfy hlp
        go_wp2_with (refine wpList_store_blk H2.out.2.2 29 0 (arrV zero16) (by rw [arr_size rfl, arr_size hl16]; exact Nat.le_refl _) (info_arr rfl) (arr_one _) _ _ rfl rfl rfl rfl ?_; intro w4 hg hs hb; rw [splice_arr0 _ zero16 rfl (arr_size hl16)] at hb; have H4 := Lib.hid (And.intro hg hb); clear hg hs hb)
        have hld := load_arr (b := w.heap.size + 1) (o := 0) zero16_B (fun i hi => by rw [Nat.zero_add]; exact arr_cell H4.out.2 i hi)
        refine bodyPost_ret (results_c2 rfl rfl hld) rfl ?_
        rw [HE.out, HE2.out]
        exact ⟨rfl, ⟨_, _, H2.out.1.grown H4.out.1 (fun b hb => by injection hb with hb; omega), fun h => absurd (HE.out.symm.trans h) (by decide)⟩, grown_far H2.out.2.1 H4.out.1 (by omega)⟩
    · obtain rfl : k = nb := by omega
      have hm1 : decide ((k : Int) < k) = false := decide_eq_false (by omega)
      have hp16 : B16 (pad (xs.take k)) := pad_16 (by rw [List.length_take]; omega) (hxb.take _)
      have hcl : clearA (pad (xs.take k)) bits = true := by
        rcases Nat.eq_zero_or_pos k with h | h
        · subst h
          exact clear_pad _ _ (by simp)
        · exact HH.out.2.2.2.2.2.2 rfl h
      have HE := Lib.hid (some_ok (xs := xs) (bits := bits) (wrong := wrong) (by rw [HNB.out]; exact HH.out.2.1) (by rw [HNB.out]; exact hcl))
      have HE2 := Lib.hid ((someL_ok HE.out).trans (by rw [HNB.out]))
      have hld0 := load_arr (b := w.heap.size + 1) (o := 0) hp16 (fun i hi => by rw [Nat.zero_add]; exact arr_cell HH.out.2.2.2.1 i (by rw [hp16.len]; exact hi))
      clear hlt2 hcl hk
      go_wp2_with (first | ((with_reducible show wpList _ _ _ (Oper.mk _ (Op.load _ _) _ _ _ _ :: _) _ _); refine wpList_load_g hld0 _ rfl rfl (by go_simp) ?_) | (refine wpList_store_blk HH.out.2.2.2.1 29 0 (arrV (pad (xs.take k))) (by rw [arr_size hp16.len]; exact Nat.le_refl _) (info_arr hp16.len) (arr_one _) _ _ rfl rfl rfl rfl ?_; intro w4 hg hs hb; rw [splice_arr0 _ (pad (xs.take k)) hp16.len (arr_size hp16.len)] at hb; have H4 := Lib.hid (And.intro hg hb); clear hg hs hb))
      have hld := load_arr (b := w.heap.size + 1) (o := 0) hp16 (fun i hi => by rw [Nat.zero_add]; exact arr_cell H4.out.2 i (by rw [hp16.len]; exact hi))
      refine bodyPost_ret (results_c2 rfl rfl hld) rfl ?_
      rw [HE.out, HE2.out]
      exact ⟨rfl, ⟨_, _, HH.out.2.2.2.2.1.grown H4.out.1 (fun b hb => by injection hb with hb; omega), fun _ => ⟨by rw [HNB.out], rfl⟩⟩, grown_far HH.out.2.2.2.2.2.1 H4.out.1 (by omega)⟩
end Go.Proofs.YtihfaknflfmohaaDoor

/- A region that draws its order, where two operations that act may stand in either order: both orders are walked. -/
namespace Go.Proofs.YtihfaknflfmohaaDoor
open Go.RowKit
set_option linter.unusedVariables false
set_option linter.unusedSimpArgs false
set_option maxRecDepth 4000

section
variable {P : Program} {S : World → Prop} {ops : Array Oper} {md : Region.Mode} {cl : Nat → Nat}
theorem notOut (X : Act → World → Prop) : ¬ LetsOut (onlyNormal X) := fun ⟨_, _, h⟩ => h
theorem wpOp_normal {X Y K : Act → World → Prop} {i : Nat} {a : Act} {w : World} (h : wpOp P ops (onlyNormal X) i K a w) : wpOp P ops (onlyNormal Y) i K a w := by
  unfold wpOp at *
  cases hi : ops[i]? with
  | none => rw [hi] at h; exact h
  | some o =>
    rw [hi] at h
    simp only at h ⊢
    split
    · rename_i hw
      rw [if_pos hw] at h
      rcases h with h | ⟨_, h⟩
      · refine .inl ?_
        unfold Oper.wp at *
        generalize (execOp a.eval o).run P w = r at *
        cases r with
        | ok n w' =>
          cases n <;> simp only [Oper.upon] at h ⊢
          case value u => exact h
          case skip => exact h
          case defer d => exact h
          case enter f args =>
            refine Calls.mono h fun e w'' he => ?_
            cases e with
            | returned u => exact he
            | panicked c => exact he.elim
            | outgrown => exact (notOut _ he).elim
          case row row args => exact h
        | halt x w' =>
          cases x <;> simp only [Oper.upon] at h ⊢
          case panic u => exact h.elim
      · exact (notOut _ h).elim
    · rename_i hw
      rw [if_neg hw] at h
      exact h
theorem mOp_normal {X Y K K' : Act → World → Prop} {i : Nat} {a : Act} {w : World} (hk : ∀ a w, K a w → K' a w) (h : mOp P S ops (onlyNormal X) cl i K a w) : mOp P S ops (onlyNormal Y) cl i K' a w := by
  refine mOp_mono hk ?_
  unfold mOp at *
  cases hi : ops[i]? with
  | none => rw [hi] at h; exact h
  | some o =>
    rw [hi] at h
    simp only at h ⊢
    split at h
    · exact h
    · exact h
    · exact wpOp_normal h
    · exact h
    · exact wpOp_normal h

inductive OrdT where
  | lin (l : List Nat)
  | fork (l : List Nat) (i j : Nat) (r s : OrdT)
def OrdT.len : OrdT → Nat
  | .lin l => l.length
  | .fork l _ _ r _ => l.length + (r.len + 1)
def wpF (P : Program) (S : World → Prop) (ops : Array Oper) (cl : Nat → Nat) (K : Act → World → Prop) : OrdT → Act → World → Prop
  | .lin l, a, w => wpO P S ops (onlyNormal K) cl l a w
  | .fork l i j r s, a, w => wpO P S ops (onlyNormal fun a w => wpO P S ops (onlyNormal (wpF P S ops cl K r)) cl [i] a w ∧ wpO P S ops (onlyNormal (wpF P S ops cl K s)) cl [j] a w) cl l a w
def afterL (l : List Nat) (listed : Array Bool) : Array Bool := l.foldl (fun b i => b.setIfInBounds i true) listed
def ordP (md : Region.Mode) (ops : Array Oper) (cl : Nat → Nat) : List Nat → Array Bool → Bool
  | [], _ => true
  | i :: l, listed => (match cl i with
    | 0 => (Region.ready md ops listed).contains i && Region.free md ops listed i
    | 1 => (Region.ready md ops listed).contains i && Region.free md ops listed i && (List.range ops.size).all fun j => listed.getD j true || cl j == 0 || cl j == 1 || reach md ops i ops.size j
    | 4 => (Region.ready md ops listed).contains i && Region.free md ops listed i
    | _ => Region.ready md ops listed == [i]) && ordP md ops cl l (listed.setIfInBounds i true)
def ordF (md : Region.Mode) (ops : Array Oper) (cl : Nat → Nat) : OrdT → Array Bool → Bool
  | .lin l, listed => ordB md ops cl l listed
  | .fork l i j r s, listed => ordP md ops cl l listed && (Region.ready md ops (afterL l listed) == [i, j]) && decide (r.len = s.len) && ordF md ops cl r ((afterL l listed).setIfInBounds i true) && ordF md ops cl s ((afterL l listed).setIfInBounds j true)

theorem wpM_prefix (hf : Fin md ops cl) (hs : Region.noSelect ops = true) {X K : Act → World → Prop} {n : Nat} : ∀ (l : List Nat) (listed : Array Bool) (a : Act) (w : World), Closed md ops listed → ordP md ops cl l listed = true →
    wpO P S ops (onlyNormal X) cl l a w → (∀ a w, Closed md ops (afterL l listed) → X a w → wpM P S md ops (onlyNormal K) cl n (afterL l listed) a w) → wpM P S md ops (onlyNormal K) cl (n + l.length) listed a w
  | [], listed, a, w, hcl, _, h, hX => hX a w hcl h
  | i :: l, listed, a, w, hcl, hB, h, hX => by
    simp only [ordP, Bool.and_eq_true] at hB
    obtain ⟨hB1, hB2⟩ := hB
    simp only [wpO] at h
    have h0 := h
    have hX' : ∀ a w, Closed md ops (afterL l (listed.setIfInBounds i true)) → X a w → wpM P S md ops (onlyNormal K) cl n (afterL l (listed.setIfInBounds i true)) a w := fun a w hc hx => hX a w hc hx
    show wpM P S md ops (onlyNormal K) cl (n + l.length + 1) listed a w
    unfold mOp at h
    split at hB1
    · rename_i hc
      simp only [Bool.and_eq_true, List.contains_iff_mem] at hB1
      obtain ⟨_, oi, hoi, _⟩ := mem_ready.1 hB1.1
      rw [hoi] at h
      simp only [hc] at h
      obtain ⟨v, hy, hk⟩ := h
      exact wpM_first0 hf hoi hc (Region.noSelect_spec hs) (fun c a w h => h) (n + l.length) listed a w hcl (Region.free_spec hoi hB1.2) hB1.1 hy (wpM_prefix hf hs l _ _ w (hcl.set hB1.1) hB2 hk hX')
    · rename_i hc
      simp only [Bool.and_eq_true, List.contains_iff_mem, List.all_eq_true, List.mem_range, Bool.or_eq_true, beq_iff_eq] at hB1
      obtain ⟨_, oi, hoi, _⟩ := mem_ready.1 hB1.1.1
      rw [hoi] at h
      simp only [hc] at h
      obtain ⟨v, hy, hk⟩ := h
      refine wpM_first1 (N := ops.size) hoi hc (Region.noSelect_spec hs) (n + l.length) listed a hcl (fun j oj hj hun => ?_) (Region.free_spec hoi hB1.1.2) hB1.1.1 hy (wpM_prefix hf hs l _ _ w (hcl.set hB1.1.1) hB2 hk hX')
      have := hB1.2 j (Array.getElem?_eq_some_iff.1 hj).1
      rw [hun] at this
      simpa [or_assoc] using this
    · rename_i hc
      simp only [Bool.and_eq_true, List.contains_iff_mem] at hB1
      obtain ⟨_, oi, hoi, _⟩ := mem_ready.1 hB1.1
      rw [hoi] at h
      simp only [hc] at h
      obtain ⟨v, hy, hk⟩ := h
      exact wpM_first4 hoi hc (Region.noSelect_spec hs) (fun c a w h => h) (n + l.length) listed a w hcl (Region.free_spec hoi hB1.2) hB1.1 hy (wpM_prefix hf hs l _ _ w (hcl.set hB1.1) hB2 hk hX')
    · simp only [beq_iff_eq] at hB1
      have hr : i ∈ Region.ready md ops listed := by rw [hB1]; exact List.mem_singleton.2 rfl
      exact wpM_only hB1 (mOp_normal (fun a' w' h' => wpM_prefix hf hs l _ a' w' (hcl.set hr) hB2 h' hX') h0)
theorem wpM_of_wpF (hf : Fin md ops cl) (hs : Region.noSelect ops = true) {K : Act → World → Prop} : ∀ (t : OrdT) (listed : Array Bool) (a : Act) (w : World), Closed md ops listed → ordF md ops cl t listed = true → wpF P S ops cl K t a w →
    wpM P S md ops (onlyNormal K) cl t.len listed a w
  | .lin l, listed, a, w, hcl, hB, h => wpM_of_wpO hf hs (fun c dst v a w h => h) l listed a w hcl hB h
  | .fork l i j r s, listed, a, w, hcl, hB, h => by
    simp only [ordF, Bool.and_eq_true, decide_eq_true_eq, beq_iff_eq] at hB
    obtain ⟨⟨⟨⟨h1, h2⟩, h3⟩, h4⟩, h5⟩ := hB
    show wpM P S md ops (onlyNormal K) cl (l.length + (r.len + 1)) listed a w
    rw [Nat.add_comm]
    refine wpM_prefix hf hs l listed a w hcl h1 h (fun a w hc hx => ?_)
    refine ⟨fun h => (by rw [h2] at h; cases h), fun k hk => ?_⟩
    have hri : i ∈ Region.ready md ops (afterL l listed) := by rw [h2]; simp
    have hrj : j ∈ Region.ready md ops (afterL l listed) := by rw [h2]; simp
    rw [h2] at hk
    rcases List.mem_cons.1 hk with rfl | hk
    · exact mOp_normal (fun a' w' h' => wpM_of_wpF hf hs r _ a' w' (hc.set hri) h4 h') hx.1
    · rw [List.mem_singleton] at hk
      subst hk
      exact mOp_normal (fun a' w' h' => by rw [h3]; exact wpM_of_wpF hf hs s _ a' w' (hc.set hrj) h5 h') hx.2
end
theorem wp_region_fork {P : Program} (S : World → Prop) {ops : Array Oper} {id : Nat} {Q : Exit → Act → World → Prop} {a : Act} {w : World} (t : OrdT) (l : List (Nat × Nat)) (hm : P.follows .mixedOrders = true)
    (hB : (finB .any ops l && Region.noSelect ops && decide (t.len = ops.size) && ordF .any ops (clOf l) t (Array.replicate ops.size false)) = true)
    (hS : S w.drew) (h : wpF P S ops (clOf l) (Q .normal) t a w.drew) : (Code.region id ops true).wp P Q a w := by
  simp only [Bool.and_eq_true, decide_eq_true_eq] at hB
  refine wp_mono (Q := onlyNormal (Q .normal)) (wp_region_any hm (wpAny_of_wpM (S := S) (cl := clOf l) (fin_of hB.1.1.1) _ _ _ _ (Closed.start _) hS ?_)) (fun e a w hq => ?_)
  · have := wpM_of_wpF (P := P) (S := S) (md := .any) (cl := clOf l) (fin_of hB.1.1.1) hB.1.1.2 t (Array.replicate ops.size false) a w.drew (Closed.start _) hB.2 h
    rw [hB.1.2] at this
    exact this
  · cases e <;> first | exact hq | exact hq.elim
end Go.Proofs.YtihfaknflfmohaaDoor

/- Layer 5 (prefix): DecodeAddr. -/
namespace Go.Proofs.YtihfaknflfmohaaDoor
open Go.RowKit
set_option linter.unusedVariables false
set_option linter.unusedSimpArgs false
set_option maxRecDepth 4000

theorem load_rd {w : World} {b g : Nat} (h : w.heap[b]? = some (.cells (rdV g) 163 (0, 0))) : (Instr.loadAt 163 (.pointer (some ⟨b, 0, none⟩))).run Tryd.prog w = .ok (.agg (rdV g)) w := by
  refine run_loadAt_mid w b 0 163 [.pointer (some ⟨g, 0, none⟩)] _ (fun j v hv => ?_) Tryd.underlying163 rfl (by kernel_rfl)
  rw [Nat.zero_add, blk_cell h]
  simpa using hv
theorem load_rp {w : World} {b g : Nat} (h : w.heap[b]? = some (.cells (rdV g) 163 (0, 0))) : (Instr.loadAt 133 (.pointer (some ⟨b, 0, none⟩))).run Tryd.prog w = .ok (.pointer (some ⟨g, 0, none⟩)) w := by
  have hc : w.cell? ⟨b, 0, none⟩ = some (.pointer (some ⟨g, 0, none⟩)) := by rw [blk_cell h]; rfl
  clear h
  go_simp
theorem load_arr0 {w : World} {b : Nat} {l : List Int} (hl : B16 l) (h : w.heap[b]? = some (.cells (arrV l) 29 (0, 0))) : (Instr.loadAt 29 (.pointer (some ⟨b, 0, none⟩))).run Tryd.prog w = .ok (.agg (arrV l)) w :=
  load_arr hl (fun i hi => by rw [Nat.zero_add]; exact arr_cell h i (by rw [hl.len]; exact hi))
theorem load_adr0 {w : World} {b : Nat} {v : Int} {l : List Int} (hl : B16 l) (h : w.heap[b]? = some (.cells (adrV v l) 31 (0, 0))) : (Instr.loadAt 31 (.pointer (some ⟨b, 0, none⟩))).run Tryd.prog w = .ok (.agg (adrV v l)) w :=
  ((adr_at hl h).all w (Below.refl _ _)).1
/-- What holds while the bytes are read: the reader's box, the result's cell. -/
structure DecS (w : World) (rb zb g : Nat) (z : Obj) (w0 : World) : Prop where
  below : Below w.heap.size w w0
  box : w0.heap[rb]? = some (.cells (rdV g) 163 (0, 0))
  zero : w0.heap[zb]? = some z
theorem DecS.step {w w0 w1 : World} {rb zb g : Nat} {z : Obj} (h : DecS w rb zb g z w0) (hb : Below w0.heap.size w0 w1) : DecS w rb zb g z w1 := ⟨below_step h.below hb, blk_below h.box hb, blk_below h.zero hb⟩
theorem DecS.grow {w w0 w1 : World} {rb zb g c : Nat} {z : Obj} (h : DecS w rb zb g z w0) (hg : w0.grownBy w1 (some c)) (h1 : w.heap.size ≤ c) (h2 : rb ≠ c) (h3 : zb ≠ c) : DecS w rb zb g z w1 :=
  ⟨below_grown h.below hg h1, blk_grown h.box hg (fun e => by injection e with e; exact h2 e), blk_grown h.zero hg (fun e => by injection e with e; exact h3 e)⟩

theorem SomeRest.below {lo g : Nat} {xs : List Int} {bits : Nat} {wrong : Int} {w w1 : World} (h : SomeRest lo g xs bits wrong w) (hb : Below w.heap.size w w1) : SomeRest lo g xs bits wrong w1 := by
  obtain ⟨r, e, h1, h2⟩ := h
  exact ⟨r, e, h1.below hb, h2⟩
theorem SomeRest.grown {lo g c : Nat} {xs : List Int} {bits : Nat} {wrong : Int} {w w1 : World} (h : SomeRest lo g xs bits wrong w) (hg : w.grownBy w1 (some c)) (hc : g < c) : SomeRest lo g xs bits wrong w1 := by
  obtain ⟨r, e, h1, h2⟩ := h
  exact ⟨r, e, h1.grown hg (fun b hb => by injection hb with hb; omega), h2⟩
/-- What the reading has left: the bytes in a block of their own, the reader behind them. -/
structure DecR (w : World) (rb zb g gb lo : Nat) (z : Obj) (sl : List Int) (ys : List Int) (bits : Nat) (wrong : Int) (w0 : World) : Prop where
  s : DecS w rb zb g z w0
  arr : w0.heap[gb]? = some (.cells (arrV sl) 29 (0, 0))
  rest : SomeRest lo g ys bits wrong w0
theorem DecR.drew {w w0 : World} {rb zb g gb lo : Nat} {z : Obj} {sl ys : List Int} {bits : Nat} {wrong : Int} (h : DecR w rb zb g gb lo z sl ys bits wrong w0) : DecR w rb zb g gb lo z sl ys bits wrong w0.drew :=
  ⟨h.s.step (below_drew1 _), h.arr, h.rest.below (below_drew1 _)⟩
structure DecT (w : World) (rb g gb : Nat) (sl : List Int) (w0 : World) : Prop where
  below : Below w.heap.size w w0
  box : w0.heap[rb]? = some (.cells (rdV g) 163 (0, 0))
  arr : w0.heap[gb]? = some (.cells (arrV sl) 29 (0, 0))
theorem DecR.t {w w0 : World} {rb zb g gb lo : Nat} {z : Obj} {sl ys : List Int} {bits : Nat} {wrong : Int} (h : DecR w rb zb g gb lo z sl ys bits wrong w0) : DecT w rb g gb sl w0 := ⟨h.s.below, h.s.box, h.arr⟩
theorem DecT.grow {w w0 w1 : World} {rb g gb c : Nat} {sl : List Int} (h : DecT w rb g gb sl w0) (hg : w0.grownBy w1 (some c)) (h1 : w.heap.size ≤ c) (h2 : rb ≠ c) (h3 : gb ≠ c) : DecT w rb g gb sl w1 :=
  ⟨below_grown h.below hg h1, blk_grown h.box hg (fun e => by injection e with e; exact h2 e), blk_grown h.arr hg (fun e => by injection e with e; exact h3 e)⟩

theorem decA_ver {xs : List Int} (h : verE xs 150 ≠ 0) : decAE xs = verE xs 150 ∧ decAV xs = 0 ∧ decAL xs = zero16 ∧ decAN xs = 0 := by
  have e : decAE xs = verE xs 150 := by unfold decAE; rw [if_pos h]
  refine ⟨e, ?_, ?_, ?_⟩
  · unfold decAV; rw [e, if_neg h]
  · unfold decAL; rw [e, if_neg h]
  · unfold decAN; rw [e, if_neg h]
theorem decA_some {xs : List Int} (h : verE xs 150 = 0) (hs : someE (xs.drop 1) (widthA (rd xs 0)) 150 ≠ 0) : decAE xs = someE (xs.drop 1) (widthA (rd xs 0)) 150 ∧ decAV xs = 0 ∧ decAL xs = zero16 ∧ decAN xs = 0 := by
  have e : decAE xs = someE (xs.drop 1) (widthA (rd xs 0)) 150 := by unfold decAE; rw [if_neg (by rw [h]; simp)]
  refine ⟨e, ?_, ?_, ?_⟩
  · unfold decAV; rw [e, if_neg hs]
  · unfold decAL; rw [e, if_neg hs]
  · unfold decAN; rw [e, if_neg hs]
theorem full_width (v : Int) : fullB (widthA v) = widthA v / 8 := by
  rcases width_cases v with h | h | h <;> rw [h] <;> rfl
theorem decA_ok {xs : List Int} (h : verE xs 150 = 0) (hs : someE (xs.drop 1) (widthA (rd xs 0)) 150 = 0) : decAE xs = 0 ∧ decAV xs = rd xs 0 ∧ decAL xs = someL (xs.drop 1) (widthA (rd xs 0)) 150 ∧ decAN xs = 1 + widthA (rd xs 0) / 8 ∧ xs.length - ((xs.drop 1).drop (fullB (widthA (rd xs 0)))).length = 1 + widthA (rd xs 0) / 8 ∧ 1 + widthA (rd xs 0) / 8 ≤ xs.length := by
  have e : decAE xs = 0 := by unfold decAE; rw [if_neg (by rw [h]; simp), hs]
  have hf := full_width (rd xs 0)
  have hlen : fullB (widthA (rd xs 0)) ≤ (xs.drop 1).length := by
    rcases Nat.lt_or_ge (xs.drop 1).length (fullB (widthA (rd xs 0))) with hh | hh
    · rw [some_short hh] at hs; cases hs
    · exact hh
  have hpos : 0 < xs.length := by
    rcases Nat.eq_zero_or_pos xs.length with hh | hh
    · unfold verE at h; rw [if_pos hh] at h; cases h
    · exact hh
  rw [List.length_drop] at hlen
  refine ⟨e, ?_, ?_, ?_, ?_, by omega⟩
  · unfold decAV; rw [e, if_pos rfl]
  · unfold decAL; rw [e, if_pos rfl, someL_ok hs, hf]
  · unfold decAN; rw [e, if_pos rfl]
  · rw [List.length_drop, List.length_drop]
    omega

end Go.Proofs.YtihfaknflfmohaaDoor

/- Layer 5 (prefix): Decode. -/
namespace Go.Proofs.YtihfaknflfmohaaDoor
open Go.RowKit
set_option linter.unusedVariables false
set_option linter.unusedSimpArgs false
set_option maxRecDepth 4000

theorem decP_no {xs : List Int} (h : decPE xs ≠ 0) : decP xs = ⟨0, zero16, 0⟩ ∧ decPN xs = 0 := by
  refine ⟨?_, ?_⟩
  · unfold decP; rw [if_neg h]
  · unfold decPN; rw [if_neg h]
theorem decP_ver {xs : List Int} (h : verE xs 151 ≠ 0) : decPE xs = verE xs 151 := by unfold decPE; rw [if_pos h]
theorem decP_short {xs : List Int} (h : verE xs 151 = 0) (hs : xs.length < 2) : decPE xs = 7 := by unfold decPE; rw [if_neg (by rw [h]; simp), if_pos hs]
theorem decP_wide {xs : List Int} (h : verE xs 151 = 0) (hs : 2 ≤ xs.length) (hw : (widthA (rd xs 0) : Int) < rd xs 1) : decPE xs = 151 := by
  unfold decPE; rw [if_neg (by rw [h]; simp), if_neg (by omega), if_pos hw]
theorem decP_some {xs : List Int} {b : Nat} (h : verE xs 151 = 0) (hs : 2 ≤ xs.length) (hb : rd xs 1 = b) (hw : b ≤ widthA (rd xs 0)) : decPE xs = someE (xs.drop 2) b 151 := by
  unfold decPE; rw [if_neg (by rw [h]; simp), if_neg (by omega), if_neg (by omega), hb]; rfl
theorem decP_ok {xs : List Int} {b : Nat} (h : decPE xs = 0) (he : decPE xs = someE (xs.drop 2) b 151) (hs : 2 ≤ xs.length) (hb : rd xs 1 = b) :
    decP xs = ⟨rd xs 0, someL (xs.drop 2) b 151, b⟩ ∧ decPN xs = 2 + fullB b ∧ xs.length - ((xs.drop 2).drop (fullB b)).length = 2 + fullB b ∧ 2 + fullB b ≤ xs.length := by
  have hse := he.symm.trans h
  have hlen : fullB b ≤ (xs.drop 2).length := by
    rcases Nat.lt_or_ge (xs.drop 2).length (fullB b) with hh | hh
    · rw [some_short hh] at hse; cases hse
    · exact hh
  rw [List.length_drop] at hlen
  refine ⟨?_, ?_, ?_, by omega⟩
  · unfold decP; rw [if_pos h, someL_ok hse, hb]
  · unfold decPN; rw [if_pos h, hb]
  · rw [List.length_drop, List.length_drop]; omega

set_option maxHeartbeats 8000000 in
theorem decode_any (A : Option Addr) (n c : Nat) (xs : List Int) (w : World) (hL : Laid w) (hr : RB w A n c xs) (hn : n ≤ 140737488355328) :
    Calls Tryd.prog 90 #[.slice A n c] w fun e w' => e = .returned (.tuple #[.agg (pfxV (decP xs).v (decP xs).l (decP xs).b), .int .i64 (decPN xs), .int .i64 (decPE xs)]) ∧ Below w.heap.size w w' := by
  have hlen := hr.len
  have hsm := hr.small
  have HZ := Lib.hid (blk_new w (.cells (pfxV 0 zero16 0) 36))
  have HBZ : Hid (Below w.heap.size w (w.alloc (.cells (pfxV 0 zero16 0) 36))) := below_alloc (Below.refl _ _) _
  have HR := Lib.hid (hr.below HBZ.out)
  have HL := Lib.hid hL
  have HLEN := Lib.hid hlen
  clear hr hL hlen
  go_enter Tryd.func90, Tryd.ntmps90
  go_wp2_with fail
  refine (read_any A n c xs _ HR.out hn).mono ?_
  rintro e w1 ⟨g, rfl, hg, hrd, hb1⟩
  simp at hg
  have hglt := hrd.lt
  have hby := Lib.hid hrd.byte
  have HR1 := Lib.hid (hrd.below (below_alloc (Below.refl _ _) (.cells (rdV g) 163)))
  have HD1 : Hid (DecS w w1.heap.size w.heap.size g (.cells (pfxV 0 zero16 0) 36) (w1.alloc (.cells (rdV g) 163))) :=
    ⟨below_alloc (below_step HBZ.out hb1) _, blk_new _ _, blk_below (blk_below HZ.out hb1) (below_alloc (Below.refl _ _) _)⟩
  clear hrd hb1 HR HZ HBZ
  go_wp2_with fail
  refine (version_any g xs 151 _ (HL.out.below HD1.out.below) (by omega) HR1.out (by decide)).mono ?_
  rintro e w2 ⟨rfl, hr2, hg2⟩
  have HD2 := Lib.hid (HD1.out.grow hg2 (by omega) (by omega) (by omega))
  have HR2 := Lib.hid hr2
  clear hr2 hg2 HD1 HR1
  by_cases hve : verE xs 151 = 0
  · have hvv : verV xs 151 = rd xs 0 := by unfold verV; rw [if_pos hve]
    have hpos : xs.length ≠ 0 := fun h => by unfold verE at hve; rw [if_pos h] at hve; cases hve
    have HVE := Lib.hid hve
    have hr2 := HR2.out
    rw [if_neg hpos] at hr2
    rw [hve, hvv]
    have hcx : w2.cell? ⟨w1.heap.size, 0, none⟩ = some (.pointer (some ⟨g, 0, none⟩)) := by rw [blk_cell HD2.out.box]; rfl
    clear hve hvv HR2
    by_cases h2 : xs.length < 2
    · have HE := Lib.hid (decP_short HVE.out h2)
      have HN0 := Lib.hid (decP_no (by rw [HE.out]; decide))
      rw [List.drop_of_length_le (by omega)] at hr2
      have HR3 := Lib.hid hr2
      clear hr2 h2 hpos
      go_wp2_with fail
      refine (u8_none g w2 HR3.out).mono ?_
      rintro e w3 ⟨rfl, hr3, hg3⟩
      have HD3 := Lib.hid (HD2.out.grow hg3 (by omega) (by omega) (by omega))
      have HR4 := Lib.hid hr3
      have hcy : w3.cell? ⟨w1.heap.size, 0, none⟩ = some (.pointer (some ⟨g, 0, none⟩)) := by rw [blk_cell HD3.out.box]; rfl
      have hbn := run_build_pfx_nil
      clear hr3 hg3 hcx
      go_wp2_with fail
      refine (err_any g _ _ w3 HR4.out).mono ?_
      rintro e w4 ⟨rfl, rfl⟩
      go_wp2_with (refine wpList_store_blk HD3.out.zero 36 0 (pfxV 0 zero16 0) (store_pfx_fit rfl rfl) (info_pfx rfl) (pfx_one _ _ _) _ _ rfl rfl rfl rfl ?_; intro w9 hg9 hs9 hb9; rw [splice_pfx _ 0 0 zero16 rfl rfl] at hb9; have H9 := Lib.hid (And.intro hg9 hb9); clear hg9 hs9 hb9)
      have hld := load_pfx zero16_B H9.out.2
      refine bodyPost_ret (results_c3 rfl rfl hld) rfl ?_
      rw [HN0.out.1, HN0.out.2, HE.out]
      exact ⟨rfl, below_grown HD3.out.below H9.out.1 (by omega)⟩
    · have h2' : 2 ≤ xs.length := by omega
      rw [drop_rd xs 1 (by omega)] at hr2
      have hbr : 0 ≤ rd xs 1 ∧ rd xs 1 < 256 := hby.out.getD 1
      obtain ⟨b, hb⟩ := Int.eq_ofNat_of_zero_le hbr.1
      have hr2' : Rdr w2 (w.alloc (.cells (pfxV 0 zero16 0) 36)).heap.size g ((b : Int) :: xs.drop 2) 0 := by rw [← hb]; exact hr2
      rw [hb] at hbr
      have HBQ := Lib.hid hb
      have HR3 := Lib.hid hr2'
      clear hr2 hr2' h2 hpos hb
      go_wp2_with fail
      refine (u8_some g (b : Int) (xs.drop 2) w2 HR3.out).mono ?_
      rintro e w3 ⟨rfl, hr3, hg3⟩
      have HD3 := Lib.hid (HD2.out.grow hg3 (by omega) (by omega) (by omega))
      have HR4 := Lib.hid hr3
      have hcy : w3.cell? ⟨w1.heap.size, 0, none⟩ = some (.pointer (some ⟨g, 0, none⟩)) := by rw [blk_cell HD3.out.box]; rfl
      clear hr3 hg3 hcx
      go_wp2_with fail
      refine (err_any g _ _ w3 HR4.out).mono ?_
      rintro e w4 ⟨rfl, rfl⟩
      clear hcy
      go_wp2_with fail
      refine (width_any (rd xs 0) w3 (HL.out.below HD3.out.below)).mono ?_
      rintro e w4 ⟨rfl, rfl⟩
      have hwl := widthA_le (rd xs 0)
      by_cases hw : (widthA (rd xs 0) : Int) < b
      · have HE := Lib.hid (decP_wide HVE.out h2' (by rw [HBQ.out]; exact hw))
        have HN0 := Lib.hid (decP_no (by rw [HE.out]; decide))
        have hbn := run_build_pfx_nil
        go_wp2_with (refine wpList_store_blk HD3.out.zero 36 0 (pfxV 0 zero16 0) (store_pfx_fit rfl rfl) (info_pfx rfl) (pfx_one _ _ _) _ _ rfl rfl rfl rfl ?_; intro w9 hg9 hs9 hb9; rw [splice_pfx _ 0 0 zero16 rfl rfl] at hb9; have H9 := Lib.hid (And.intro hg9 hb9); clear hg9 hs9 hb9)
        have hld := load_pfx zero16_B H9.out.2
        refine bodyPost_ret (results_c3 rfl rfl hld) rfl ?_
        rw [HN0.out.1, HN0.out.2, HE.out]
        exact ⟨rfl, below_grown HD3.out.below H9.out.1 (by omega)⟩
      · have hw' : b ≤ widthA (rd xs 0) := by omega
        have hd1 : decide ((widthA (rd xs 0) : Int) < b) = false := decide_eq_false hw
        have HPE := Lib.hid (decP_some HVE.out h2' HBQ.out hw')
        have hb128 : b ≤ 128 := by omega
        have hsomeB : B16 (someL (xs.drop 2) b 151) := someL_16 (hby.out.drop 2) hb128
        obtain ⟨sl, hsl⟩ : ∃ sl, someL (xs.drop 2) b 151 = sl := ⟨_, rfl⟩
        obtain ⟨se, hse⟩ : ∃ se, someE (xs.drop 2) b 151 = se := ⟨_, rfl⟩
        rw [hsl] at hsomeB
        have HSL := Lib.hid (And.intro hsl hse)
        have hlr := load_rd HD3.out.box
        clear hsl hse hw
        go_wp2_with ((with_reducible show wpList _ _ _ (Oper.mk _ (Op.load _ _) _ _ _ _ :: _) _ _); refine wpList_load_g hlr _ rfl rfl (by go_simp) ?_)
        clear hlr hd1
        refine (some_any g (xs.drop 2) b 151 w3 HR4.out (by decide) hb128).mono ?_
        rw [HSL.out.1, HSL.out.2]
        rintro e w4 ⟨rfl, hrest, hg4⟩
        have HD4 := Lib.hid (HD3.out.grow hg4 (by omega) (by omega) (by omega))
        have HREST := Lib.hid hrest
        have hnew := blk_new w4 (.cells (arrV zero16) 29)
        have HN : Hid (DecR w w1.heap.size w.heap.size g w4.heap.size (w.alloc (.cells (pfxV 0 zero16 0) 36)).heap.size (.cells (pfxV 0 zero16 0) 36) zero16 (xs.drop 2) b 151 (w4.alloc (.cells (arrV zero16) 29))) :=
          ⟨HD4.out.step (below_alloc (Below.refl _ _) _), hnew, HREST.out.below (below_alloc (Below.refl _ _) _)⟩
        have hl4 := blk_lt HD4.out.box
        have hz4 := blk_lt HD4.out.zero
        clear hrest hg4 hnew
        by_cases hse : se = 0
        · have hpe : decPE xs = 0 := HPE.out.trans (HSL.out.2.trans hse)
          have HE := Lib.hid (And.intro hpe (decP_ok hpe HPE.out h2' HBQ.out))
          subst hse
          go_wp2_with (refine wpList_store_blk HN.out.arr 29 0 (arrV sl) (by rw [arr_size hsomeB.len, arr_size rfl]; exact Nat.le_refl _) (info_arr hsomeB.len) (arr_one _) _ _ rfl rfl rfl rfl ?_; intro w5 hg5 hs5 hb5; rw [splice_arr0 _ sl hsomeB.len rfl] at hb5; have H5 : Hid (DecR w w1.heap.size w.heap.size g w4.heap.size (w.alloc (.cells (pfxV 0 zero16 0) 36)).heap.size (.cells (pfxV 0 zero16 0) 36) sl (xs.drop 2) b 151 w5) := ⟨HN.out.s.grow hg5 (by omega) (by omega) (by omega), hb5, HN.out.rest.grown hg5 (by omega)⟩; clear hg5 hs5 hb5)
          obtain ⟨rest, er, hrr, hrw⟩ := H5.out.rest
          obtain ⟨rfl, rfl⟩ := hrw HSL.out.2
          have HRR := Lib.hid hrr
          have hwv := HE.out.2.2.2
          clear hrr hrw hpe
          obtain ⟨lf, hlf⟩ : ∃ lf, ((xs.drop 2).drop (fullB b)).length = lf := ⟨_, rfl⟩
          obtain ⟨wq, hwq⟩ : ∃ wq, fullB b = wq := ⟨_, rfl⟩
          rw [hlf, hwq, HLEN.out] at hwv
          have hsub : IntKind.i64.wrap ((n : Int) - (lf : Int)) = 2 + wq := by rw [IntWalk.i64_in _ (by omega)]; omega
          have HWQ := Lib.hid (And.intro hlf hwq)
          clear hwv hlf hwq
          refine wp_region_mix ((DecT w w1.heap.size g w4.heap.size sl)) [(0, 0), (1, 0), (2, 0), (3, 0), (4, 0), (5, 0), (6, 0), (7, 0), (8, 0), (9, 2), (10, 0), (11, 2), (12, 0), (13, 0)] (by kernel_rfl) (by kernel_rfl) ((H5.out.drew.t)) ?_
          simp only [List.map_cons, List.map_nil]
          iterate 1 (refine wpO_step0 rfl rfl (fun K hK => ?_); go_simp; refine hK _ _ ?_; clear hK K)
          refine wpO_loadW (t := 29) (ad := ⟨w4.heap.size, 0, none⟩) rfl rfl ?hw rfl rfl ((fun w0 hS => load_arr0 hsomeB hS.arr)) ?_
          case hw => go_simp
          refine wpO_step0 rfl rfl (fun K hK => ?_)
          rw [if_pos (show Region.wanted _ _ = true from rfl)]
          refine ⟨_, fun w0 => exec_build_adr rfl rfl rfl hsomeB.len w0, hK _ _ ?_⟩
          clear hK K
          iterate 1 (refine wpO_step0 rfl rfl (fun K hK => ?_); go_simp; refine hK _ _ ?_; clear hK K)
          refine wpO_step0 rfl rfl (fun K hK => ?_)
          rw [if_pos (show Region.wanted _ _ = true from rfl)]
          refine ⟨_, fun w0 => exec_build_pfx rfl rfl rfl hsomeB.len w0, hK _ _ ?_⟩
          clear hK K
          iterate 3 (refine wpO_step0 rfl rfl (fun K hK => ?_); go_simp; refine hK _ _ ?_; clear hK K)
          refine wpO_loadW (t := 133) (ad := ⟨w1.heap.size, 0, none⟩) rfl rfl ?hw rfl rfl ((fun w0 hS => load_rp hS.box)) ?_
          case hw => go_simp
          refine wpO_step2 rfl rfl (H5.out.drew.t) (fun K hK => ?_)
          go_simp
          refine (left_any g _ _ _ (HRR.out.below (below_drew1 _))).mono ?_
          rintro e w6 ⟨rfl, rfl⟩
          rw [HWQ.out.1]
          refine hK _ _ ⟨H5.out.drew.t, ?_⟩
          clear hK K
          iterate 1 (refine wpO_step0 rfl rfl (fun K hK => ?_); go_simp; refine hK _ _ ?_; clear hK K)
          refine wpO_step2 rfl rfl (H5.out.drew.t) (fun K hK => ?_)
          rw [if_pos (show Region.wanted _ _ = true from rfl)]
          refine oper_store_blk H5.out.drew.s.zero 36 0 (pfxV (rd xs 0) sl b) (store_pfx_fit hsomeB.len rfl) (info_pfx hsomeB.len) (pfx_one _ _ _) _ _ rfl rfl rfl ?_
          intro w6 hg6 hs6 hb6
          rw [splice_pfx _ _ _ sl hsomeB.len rfl] at hb6
          have H6 := Lib.hid (And.intro (H5.out.drew.t.grow hg6 (by omega) (by omega) (by omega)) hb6)
          clear hg6 hs6 hb6
          refine hK _ _ ⟨H6.out.1, ?_⟩
          clear hK K
          iterate 2 (refine wpO_step0 rfl rfl (fun K hK => ?_); go_simp; refine hK _ _ ?_; clear hK K)
          refine wpO_nil ?_
          go_wp2
          have hld := load_pfx hsomeB H6.out.2
          refine bodyPost_ret (results_c3 rfl rfl hld) rfl ?_
          rw [HE.out.1, HE.out.2.1, HE.out.2.2.1, HSL.out.1, HWQ.out.2]
          exact ⟨rfl, H6.out.1.below⟩
        · have HE := Lib.hid (HPE.out.trans HSL.out.2)
          have HN0 := Lib.hid (decP_no (by rw [HE.out]; exact hse))
          have hsb : (se != 0) = true := by simpa using hse
          have hbn := run_build_pfx_nil
          clear hse
          go_wp2_with (first | (refine wpList_store_blk HN.out.arr 29 0 (arrV sl) (by rw [arr_size hsomeB.len, arr_size rfl]; exact Nat.le_refl _) (info_arr hsomeB.len) (arr_one _) _ _ rfl rfl rfl rfl ?_; intro w5 hg5 hs5 hb5; have H5 := Lib.hid (HN.out.s.grow hg5 (by omega) (by omega) (by omega)); clear hg5 hs5 hb5) | (refine wpList_store_blk H5.out.zero 36 0 (pfxV 0 zero16 0) (store_pfx_fit rfl rfl) (info_pfx rfl) (pfx_one _ _ _) _ _ rfl rfl rfl rfl ?_; intro w9 hg9 hs9 hb9; rw [splice_pfx _ 0 0 zero16 rfl rfl] at hb9; have H9 := Lib.hid (And.intro hg9 hb9); clear hg9 hs9 hb9))
          have hld := load_pfx zero16_B H9.out.2
          refine bodyPost_ret (results_c3 rfl rfl hld) rfl ?_
          rw [HN0.out.1, HN0.out.2, HE.out]
          exact ⟨rfl, below_grown H5.out.below H9.out.1 (by omega)⟩
  · have HE := Lib.hid (decP_ver hve)
    have HN0 := Lib.hid (decP_no (by rw [HE.out]; exact hve))
    obtain ⟨ve, hv⟩ : ∃ ve, verE xs 151 = ve := ⟨_, rfl⟩
    rw [hv] at hve HE
    rw [hv]
    have hsb : (ve != 0) = true := by simpa using hve
    have hbn := run_build_pfx_nil
    clear hve hv
    go_wp2_with (refine wpList_store_blk HD2.out.zero 36 0 (pfxV 0 zero16 0) (store_pfx_fit rfl rfl) (info_pfx rfl) (pfx_one _ _ _) _ _ rfl rfl rfl rfl ?_; intro w9 hg9 hs9 hb9; rw [splice_pfx _ 0 0 zero16 rfl rfl] at hb9; have H9 := Lib.hid (And.intro hg9 hb9); clear hg9 hs9 hb9)
    have hld := load_pfx zero16_B H9.out.2
    refine bodyPost_ret (results_c3 rfl rfl hld) rfl ?_
    rw [HN0.out.1, HN0.out.2, HE.out]
    exact ⟨rfl, below_grown HD2.out.below H9.out.1 (by omega)⟩
end Go.Proofs.YtihfaknflfmohaaDoor

/- Layer 5: wakes. -/
namespace Go.Proofs.YtihfaknflfmohaaDoor
open Go.RowKit
set_option linter.unusedVariables false
set_option linter.unusedSimpArgs false
set_option maxRecDepth 4000

def tenL : List Int := [10, 1, 2, 3, 0, 0, 0, 0, 0, 0, 0, 0, 0, 0, 0, 0]
def ten8 : List Int := [10, 0, 0, 0, 0, 0, 0, 0, 0, 0, 0, 0, 0, 0, 0, 0]
theorem tenL_B : B16 tenL := ⟨rfl, fun x hx => by simp [tenL] at hx; omega⟩
theorem ten8_B : B16 ten8 := ⟨rfl, fun x hx => by simp [ten8] at hx; omega⟩
theorem ten_right : rightA 4 tenL = true := by decide
theorem ten_of : ofE 4 tenL 8 = 0 ∧ ofP 4 tenL 8 = ⟨4, ten8, 8⟩ := by
  obtain ⟨h1, h2⟩ := of_ok (k := 8) ten_right (by decide) (by decide)
  rw [h1, h2]
  exact ⟨rfl, rfl⟩
theorem ten_enc : errP 4 ten8 8 = 0 ∧ encPE ⟨4, ten8, 8⟩ = [4, 8, 10] := by
  refine ⟨by decide, by decide⟩
theorem ten_dec : decPE [4, 8, 10] = 0 ∧ decPN [4, 8, 10] = 3 ∧ decP [4, 8, 10] = ⟨4, ten8, 8⟩ := ⟨by decide, by decide, rfl⟩
theorem ten_has : Pfx.has ⟨4, ten8, 8⟩ 4 tenL = true := by decide
theorem ten_nib : nibP 4 tenL 1 = 10 := by decide
theorem ten_ok : Pfx.ok ⟨4, ten8, 8⟩ := ⟨ten8_B, by decide, by decide⟩
/-- A whole prefix stored into a cell just made. -/
structure WakS (w : World) (g h : Nat) (w0 : World) : Prop where
  below : Below w.heap.size w w0
  p : w0.heap[g]? = some (.cells (pfxV 4 ten8 8) 36 (0, 0))
  q : w0.heap[h]? = some (.cells (pfxV 4 ten8 8) 36 (0, 0))
theorem WakS.step {w w0 w1 : World} {g h : Nat} (s : WakS w g h w0) (hb : Below w0.heap.size w0 w1) : WakS w g h w1 := ⟨below_step s.below hb, blk_below s.p hb, blk_below s.q hb⟩
end Go.Proofs.YtihfaknflfmohaaDoor

/- Layer 9 (table): wakes, copied. -/
namespace Go.Proofs.YtihfaknflfmohaaDoor
open Go.RowKit
set_option linter.unusedVariables false
set_option linter.unusedSimpArgs false
set_option maxRecDepth 4000
theorem eight_any (w : World) : Calls Tryd.prog 61 #[] w fun e w' => e = .returned (.agg (pfxV 4 ten8 8)) ∧ Below w.heap.size w w' := by
  have hz := blk_new w (.cells (pfxV 0 zero16 0) 36)
  go_enter Tryd.func61, Tryd.ntmps61
  go_wp2_with (refine wpList_store_blk hz 36 0 (pfxV 4 ten8 8) (store_pfx_fit rfl rfl) (info_pfx rfl) (pfx_one _ _ _) _ _ rfl rfl rfl rfl ?_; intro w9 hg9 hs9 hb9; rw [splice_pfx _ _ _ ten8 rfl rfl] at hb9; have H9 := Lib.hid (And.intro hg9 hb9); clear hg9 hs9 hb9)
  have hld := ((pfx_at ten8_B H9.out.2).all _ (Below.refl _ _)).2.2.2.2
  refine bodyPost_ret (results_c1 rfl rfl hld) rfl ⟨rfl, below_grown (below_alloc (Below.refl _ _) _) H9.out.1 (Nat.le_refl _)⟩
theorem copiedT_any (A : Option Addr) (n c : Nat) (t : List Row) (w : World) (ht : RT w A n c t) (hn : n ≤ 1000000) : Calls Tryd.prog 24 #[.agg (tabV A n c)] w fun e w' => ∃ A' c', e = .returned (.agg (tabV A' n c')) ∧ OT w' w.heap.size A' n c' t ∧ Below w.heap.size w w' := by
  have hblk1 := blk_new w (.cells (tabV A n c) 28)
  have hbel1 : Below w.heap.size w (w.alloc (.cells (tabV A n c) 28)) := below_alloc (Below.refl _ _) _
  have HP1 := Lib.hid (tab_at hblk1)
  have HBK1 := Lib.hid hblk1
  have HBE := Lib.hid hbel1
  obtain ⟨cs1, hcs1⟩ : ∃ cs, tabV A n c = cs := ⟨_, rfl⟩
  simp only [hcs1] at HBE HP1 HBK1 ⊢
  have HC1 := Lib.hid hcs1
  clear hcs1 hblk1 hbel1
  have HT := Lib.hid (ht.below HBE.out)
  have hs : (w.alloc (.cells cs1 28)).heap.size = w.heap.size + 1 := by simp
  obtain ⟨W1, hW1⟩ : ∃ W1, (w.alloc (.cells cs1 28)).alloc (.cells #[.slice none 0 0] 28) = W1 := ⟨_, rfl⟩
  have hz : W1.heap[w.heap.size + 1]? = some (.cells (tabV none 0 0) 28 (0, 0)) := by
    rw [← hW1, ← hs]
    exact blk_new _ _
  have HZ := Lib.hid hz
  have hsz : W1.heap.size = w.heap.size + 2 := by rw [← hW1]; simp
  have HSZ := Lib.hid hsz
  have HB1 : Hid (Below (w.alloc (.cells cs1 28)).heap.size (w.alloc (.cells cs1 28)) W1) := Lib.hid (hW1 ▸ below_alloc (Below.refl _ _) _)
  have hl1 := (HP1.out.all _ (below_step HB1.out (below_alloc (Below.refl _ _) (.cells #[] 38)))).2
  clear ht hz hs hsz
  go_enter Tryd.func24, Tryd.ntmps24
  go_wp2_with (first | ((with_reducible show wpList _ _ _ (Oper.mk _ (Op.load _ _) _ _ _ _ :: _) _ _); refine wpList_load_g hl1 _ rfl rfl (by go_simp) ?_) | (at_builtin; refine wpList_append_shp rowK rfl (.tmp 3) (.tmp 5) rfl rfl rfl (OS.empty rowK W1 W1.heap.size (Nat.le_refl _)) ((HT.out.below HB1.out).below (below_alloc (Below.refl _ _) _)) (by simp) (by omega) ?_; intro A3 c3 w3 h1 h2 h3; rw [Nat.zero_add, List.nil_append] at h1; rw [Nat.zero_add]; have H3 := Lib.hid (And.intro h1 (And.intro (below_own (below_alloc (Below.refl W1.heap.size W1) (.cells #[] 38)) h2 (fun ad h => by injection h with h; subst h; exact Nat.le_refl _)) h1.base_)); clear h1 h2 h3) | ((with_reducible show wpList _ _ _ (Oper.mk _ (Op.store _ _ _) _ _ _ _ :: _) _ _); refine wpList_store_blk (blk_below HZ.out H3.out.2.1) 28 0 (tabV A3 n c3) (Nat.le_refl _) (info_tab _ _ _) (tab_one _ _ _) _ _ rfl rfl rfl rfl ?_; intro w4 hg9 hs9 hb9; rw [splice_tab] at hb9; have H4 := Lib.hid (And.intro hg9 hb9); clear hg9 hs9 hb9))
  have hld := load_tab H4.out.2
  refine bodyPost_ret (results_c1 rfl rfl hld) rfl ?_
  have hsz := HSZ.out
  refine ⟨_, _, rfl, (H3.out.1.grown H4.out.1 (fun ad e h => by have := H3.out.2.2 ad e; injection h with h; omega)).lower (by omega), below_grown (below_step (below_step HBE.out HB1.out) H3.out.2.1) H4.out.1 (by omega)⟩
def tenB : List Int := [10, 1, 0, 0, 0, 0, 0, 0, 0, 0, 0, 0, 0, 0, 0, 0]
def tenD : List Int := [10, 2, 0, 0, 0, 0, 0, 0, 0, 0, 0, 0, 0, 0, 0, 0]
theorem tenB_B : B16 tenB := ⟨rfl, fun x hx => by simp [tenB] at hx; omega⟩
theorem tenD_B : B16 tenD := ⟨rfl, fun x hx => by simp [tenD] at hx; omega⟩
def wkT1 : List Row := setL [] ⟨4, ten8, 8⟩ 1
def wkT2 : List Row := setL wkT1 ⟨4, tenB, 16⟩ 2
theorem wk_e1 : setE [] ⟨4, ten8, 8⟩ 1 = 0 := by decide +kernel
theorem wk_e2 : setE wkT1 ⟨4, tenB, 16⟩ 2 = 0 := by decide +kernel
theorem wk_l1 : wkT1.length = 1 := by decide +kernel
theorem wk_l2 : wkT2.length = 2 := by decide +kernel
theorem wk_q1 : longE wkT2 4 tenL = 0 ∧ longBE wkT2 4 tenL = true ∧ (longRE wkT2 4 tenL).h = 2 := by decide +kernel
theorem wk_q2 : longE wkT2 4 tenD = 0 ∧ longBE wkT2 4 tenD = true ∧ (longRE wkT2 4 tenD).h = 1 := by decide +kernel
theorem longRE_fits {t : List Row} (h : Fits t) (v : Int) (l : List Int) : (longRE t v l).fits := by
  unfold longRE
  split
  · exact longR_fits h v l
  · exact rowZ_fits
set_option maxHeartbeats 4000000 in
theorem wakes09_any (w : World) (hL : Laid w) : Calls Tryd.prog 22 #[] w fun e w' => e = .returned (.bool true) ∧ Below w.heap.size w w' := by
  have HL := Lib.hid hL
  clear hL
  go_enter Tryd.func22, Tryd.ntmps22
  go_wp2_with fail
  refine (eight_any w).mono ?_
  rintro e w1 ⟨rfl, hb1⟩
  have HB1 := Lib.hid hb1
  clear hb1
  go_wp2_with fail
  refine (tset_any none 0 0 [] ⟨4, ten8, 8⟩ 1 w1 (HL.out.below HB1.out) (RS.nil rowK w1 none 0) ten8_B (by omega)).mono ?_
  rw [wk_e1]
  rintro e w2 ⟨A1, n1, c1, rfl, hO2, hb2⟩
  obtain rfl : 1 = n1 := by rw [← wk_l1]; exact hO2.len
  have HB2 := Lib.hid (below_step HB1.out hb2)
  have HO2 := Lib.hid (show OT w2 w1.heap.size A1 1 c1 wkT1 from hO2)
  have hz2 := blk_new w2 (.cells (tabV none 0 0) 28)
  clear hb2 hO2
  go_wp2_with (first | ((with_reducible show wpList _ _ _ (Oper.mk _ (Op.store _ _ _) _ _ _ _ :: _) _ _); refine wpList_store_blk hz2 28 0 (tabV A1 1 c1) (Nat.le_refl _) (info_tab _ _ _) (tab_one _ _ _) _ _ rfl rfl rfl rfl ?_; intro w3 hg9 hs9 hb9; rw [splice_tab] at hb9; have H3 := Lib.hid (And.intro hg9 hb9); clear hg9 hs9 hb9) | ((with_reducible show wpList _ _ _ (Oper.mk _ (Op.load _ _) _ _ _ _ :: _) _ _); refine wpList_load_g (load_tab H3.out.2) _ rfl rfl (by go_simp) ?_))
  clear hz2
  have HB3 := Lib.hid (below_grown (below_alloc HB2.out _) H3.out.1 HB2.out.size)
  have HO3 := Lib.hid ((HO2.out.below (below_alloc (Below.refl _ _) (.cells (tabV none 0 0) 28))).grown H3.out.1 (fun ad e h => by have := HO2.out.lt ad e; injection h with h; omega)).reads
  refine (tset_any A1 1 c1 wkT1 ⟨4, tenB, 16⟩ 2 w3 (HL.out.below HB3.out) HO3.out tenB_B (by omega)).mono ?_
  rw [wk_e2]
  rintro e w4 ⟨A2, n2, c2, rfl, hO4, hb4⟩
  obtain rfl : 2 = n2 := by rw [← wk_l2]; exact hO4.len
  have HB4 := Lib.hid (below_step HB3.out hb4)
  have HO4 := Lib.hid (show OT w4 w3.heap.size A2 2 c2 wkT2 from hO4)
  have HG4 := Lib.hid (blk_below H3.out.2 hb4)
  have hs34 := blk_lt H3.out.2
  clear hb4 hO4
  go_wp2_with (first | ((with_reducible show wpList _ _ _ (Oper.mk _ (Op.store _ _ _) _ _ _ _ :: _) _ _); refine wpList_store_blk HG4.out 28 0 (tabV A2 2 c2) (Nat.le_refl _) (info_tab _ _ _) (tab_one _ _ _) _ _ rfl rfl rfl rfl ?_; intro w5 hg9 hs9 hb9; rw [splice_tab] at hb9; have H5 := Lib.hid (And.intro hg9 hb9); clear hg9 hs9 hb9) | ((with_reducible show wpList _ _ _ (Oper.mk _ (Op.load _ _) _ _ _ _ :: _) _ _); refine wpList_load_g (load_tab H5.out.2) _ rfl rfl (by go_simp) ?_))
  have HB5 := Lib.hid (below_grown HB4.out H5.out.1 HB2.out.size)
  have HO5 := Lib.hid (HO4.out.grown H5.out.1 (fun ad e h => by have := HO4.out.base_ ad e; injection h with h; omega)).reads
  have hfit := HO4.out.fits
  refine (tlongest_any A2 2 c2 wkT2 4 tenL w5 (HL.out.below HB5.out) HO5.out tenL_B (by omega)).mono ?_
  have hR1 := longRE_fits (t := wkT2) hfit 4 tenL
  have hh1 := wk_q1.2.2
  obtain ⟨R1, hr1⟩ : ∃ R, longRE wkT2 4 tenL = R := ⟨_, rfl⟩
  rw [wk_q1.1, wk_q1.2.1, hr1]
  rw [hr1] at hR1 hh1
  have HH1 := Lib.hid hh1
  clear hr1 hh1
  rintro e w6 ⟨rfl, hb6⟩
  have HB6 := Lib.hid (below_step HB5.out hb6)
  have HO6 := Lib.hid (HO5.out.below hb6)
  have HG6 := Lib.hid (blk_below H5.out.2 hb6)
  have hs46 := blk_lt HG6.out
  have hs56 := hb6.size
  clear hb6
  go_wp2_with (first | ((with_reducible show wpList _ _ _ (Oper.mk _ (Op.store _ _ _) _ _ _ _ :: _) _ _); refine wpList_store_blk (blk_new w6 _) 38 0 (rowV R1) (store_row_fit hR1 rfl) (info_row hR1) (rowV_one _) _ _ rfl rfl rfl rfl ?_; intro w7 hg9 hs9 hb9; rw [splice_row hR1 rfl] at hb9; have H7 := Lib.hid (And.intro hg9 hb9); clear hg9 hs9 hb9) | ((with_reducible show wpList _ _ _ (Oper.mk _ (Op.load _ _) _ _ _ _ :: _) _ _); refine wpList_load_g (load_tab (blk_grown (blk_below HG6.out (below_alloc (Below.refl _ _) _)) H7.out.1 (fun e => by injection e with e; omega))) _ rfl rfl (by go_simp) ?_))
  have HA6 := Lib.hid (below_alloc (Below.refl w6.heap.size w6) (.cells (rowV rowZ) 38))
  have HB7 := Lib.hid (below_grown (below_step HB6.out HA6.out) H7.out.1 HB6.out.size)
  have HG7 := Lib.hid (blk_grown (blk_below HG6.out HA6.out) H7.out.1 (fun e => by injection e with e; omega))
  have HO7 := Lib.hid ((HO6.out.below HA6.out).grown H7.out.1 (fun ad e h => by
    have h1 := HO4.out.lt ad e
    have h2 := HB6.out.size
    injection h with h
    have h3 := (H5.out.1).size
    omega))
  refine (tlongest_any A2 2 c2 wkT2 4 tenD w7 (HL.out.below HB7.out) HO7.out tenD_B (by omega)).mono ?_
  have hR2 := longRE_fits (t := wkT2) hfit 4 tenD
  have hh2 := wk_q2.2.2
  obtain ⟨R2, hr2⟩ : ∃ R, longRE wkT2 4 tenD = R := ⟨_, rfl⟩
  rw [wk_q2.1, wk_q2.2.1, hr2]
  rw [hr2] at hR2 hh2
  have HH2 := Lib.hid hh2
  clear hr2 hh2 hfit
  rintro e w8 ⟨rfl, hb8⟩
  have HB8 := Lib.hid (below_step HB7.out hb8)
  have HR7 := Lib.hid (blk_below H7.out.2 hb8)
  have hs78 := blk_lt HR7.out
  clear hb8
  go_upto_region 5 with (first | ((with_reducible show wpList _ _ _ (Oper.mk _ (Op.store _ _ _) _ _ _ _ :: _) _ _); refine wpList_store_blk (blk_new w8 _) 38 0 (rowV R2) (store_row_fit hR2 rfl) (info_row hR2) (rowV_one _) _ _ rfl rfl rfl rfl ?_; intro w9 hg9 hs9 hb9; rw [splice_row hR2 rfl] at hb9; have H9 := Lib.hid (And.intro hg9 hb9); clear hg9 hs9 hb9))
  have HB9 := Lib.hid (below_grown (below_alloc HB8.out _) H9.out.1 HB8.out.size)
  have hla := ((row_at hR1 (blk_grown (blk_below HR7.out (below_alloc (Below.refl _ _) (.cells (rowV rowZ) 38))) H9.out.1 (fun e => by injection e with e; omega))).all w9 (Below.refl _ _)).hop
  have hlb := ((row_at hR2 H9.out.2).all w9 (Below.refl _ _)).hop
  rw [HH1.out] at hla
  rw [HH2.out] at hlb
  go_wp2_with (first | ((with_reducible show wpList _ _ _ (Oper.mk _ (Op.load _ _) _ _ _ _ :: _) _ _); refine wpList_load_g hla _ rfl rfl (by go_simp) ?_) | ((with_reducible show wpList _ _ _ (Oper.mk _ (Op.load _ _) _ _ _ _ :: _) _ _); refine wpList_load_g hlb _ rfl rfl (by go_simp) ?_))
  go_ret
  exact ⟨rfl, HB9.out⟩
end Go.Proofs.YtihfaknflfmohaaDoor

/- Layer 27 (cache): the law's ten, copied, over. -/
namespace Go.Proofs.YtihfaknflfmohaaDoor
open Go.RowKit
set_option linter.unusedVariables false
set_option linter.unusedSimpArgs false
set_option maxRecDepth 4000
def tenT : List Row := [⟨⟨4, ten8, 8⟩, 1⟩]
set_option maxHeartbeats 1000000 in
theorem ten27_any (w : World) : Calls Tryd.prog 55 #[] w fun e w' => ∃ A c, e = .returned (.agg (tabV A 1 c)) ∧ RT w' A 1 c tenT ∧ Below w.heap.size w w' := by
  have hz := blk_new w (.cells (tabV none 0 0) 28)
  have hf : (⟨⟨4, ten8, 8⟩, 1⟩ : Row).fits := ten8_B
  have hob := OS.one rowK (w.alloc (.cells (tabV none 0 0) 28)) (w.heap.size + 1) ⟨⟨4, ten8, 8⟩, 1⟩ (by simp) hf
  rw [show (w.alloc (.cells (tabV none 0 0) 28)).heap.size = w.heap.size + 1 by simp] at hob
  have hz2 := blk_below hz (below_alloc (Below.refl _ _) (.cells (rowK.enc ⟨⟨4, ten8, 8⟩, 1⟩).toArray rowK.t))
  go_enter Tryd.func55, Tryd.ntmps55
  go_wp2_with (first | ((with_reducible show wpList _ _ _ (Oper.mk _ (Op.buildSlice _ _ _) _ _ _ _ :: _) _ _); refine wpList_exw rfl (exec_lit1 rowK (x := .tmp 4) rfl ⟨⟨4, ten8, 8⟩, 1⟩ rfl hf (by show 19 ≤ _; omega) _) ?_) | ((with_reducible show wpList _ _ _ (Oper.mk _ (Op.store _ _ _) _ _ _ _ :: _) _ _); refine wpList_store_blk hz2 28 0 (tabV (some ⟨w.heap.size + 1, 0, none⟩) 1 1) (Nat.le_refl _) (info_tab _ _ _) (tab_one _ _ _) _ _ rfl rfl rfl rfl ?_; intro w9 hg9 hs9 hb9; rw [splice_tab] at hb9; have H9 := Lib.hid (And.intro hg9 hb9); clear hg9 hs9 hb9))
  refine bodyPost_ret (results_c1 rfl rfl (load_tab H9.out.2)) rfl ?_
  exact ⟨_, _, rfl, hob.reads.grown H9.out.1 (fun ad e h => by injection e with e; injection h with h; rw [← e] at h; have h : w.heap.size + 1 = w.heap.size := h; omega), below_grown (below_alloc (below_alloc (Below.refl _ _) _) _) H9.out.1 (Nat.le_refl _)⟩
theorem copiedC_any (x : Cac) (es : List Ent) (w : World) (he : RE w x.A x.n x.c es) (hn : x.n ≤ 1000000) : Calls Tryd.prog 17 #[.agg x.vv] w fun e w' => ∃ A' c', e = .returned (.agg (Cac.vv ⟨x.room, x.ver, A', x.n, c', x.hits, x.misses⟩)) ∧ OS entK w' w.heap.size A' x.n c' es ∧ Below w.heap.size w w' := by
  have hblk1 := blk_new w (.cells (x.vv) 25)
  have hbel1 : Below w.heap.size w (w.alloc (.cells (x.vv) 25)) := below_alloc (Below.refl _ _) _
  have HP1 := Lib.hid (cac_at hblk1)
  have HBK1 := Lib.hid hblk1
  have HBE := Lib.hid hbel1
  obtain ⟨cs1, hcs1⟩ : ∃ cs, x.vv = cs := ⟨_, rfl⟩
  simp only [hcs1] at HBE HP1 HBK1 ⊢
  have HC1 := Lib.hid hcs1
  clear hcs1 hblk1 hbel1
  have HE := Lib.hid (he.below HBE.out)
  have hs : (w.alloc (.cells cs1 25)).heap.size = w.heap.size + 1 := by simp
  obtain ⟨W1, hW1⟩ : ∃ W1, (w.alloc (.cells cs1 25)).alloc (.cells #[.int .i64 0, .int .u64 0, .slice none 0 0, .int .u64 0, .int .u64 0] 25) = W1 := ⟨_, rfl⟩
  have HZ : Hid (W1.heap[w.heap.size + 1]? = some (.cells cacZ.vv 25 (0, 0))) := Lib.hid (by
    rw [← hW1, ← hs]
    exact blk_new _ _)
  have HSZ : Hid (W1.heap.size = w.heap.size + 2) := Lib.hid (by rw [← hW1]; simp)
  have HB1 : Hid (Below (w.alloc (.cells cs1 25)).heap.size (w.alloc (.cells cs1 25)) W1) := Lib.hid (hW1 ▸ below_alloc (Below.refl _ _) _)
  have HK : Hid (W1.heap[w.heap.size]? = some (.cells x.vv 25 (0, 0))) := Lib.hid (blk_below (by rw [HC1.out]; exact HBK1.out) HB1.out)
  have hl1 := (HP1.out.all _ (below_step HB1.out (below_alloc (Below.refl _ _) (.cells #[] 43)))).ents
  clear he hs
  go_enter Tryd.func17, Tryd.ntmps17
  go_wp2_with (first | ((with_reducible show wpList _ _ _ (Oper.mk _ (Op.load _ _) _ _ _ _ :: _) _ _); refine wpList_load_g hl1 _ rfl rfl (by go_simp) ?_) | (at_builtin; refine wpList_append_shp entK rfl (.tmp 3) (.tmp 5) rfl rfl rfl (OS.empty entK W1 W1.heap.size (Nat.le_refl _)) ((HE.out.below HB1.out).below (below_alloc (Below.refl _ _) _)) (by simp) (by omega) ?_; intro A3 c3 w3 h1 h2 h3; rw [Nat.zero_add, List.nil_append] at h1; rw [Nat.zero_add]; have hbo := below_own (below_alloc (Below.refl W1.heap.size W1) (.cells #[] 43)) h2 (fun ad h => by injection h with h; subst h; exact Nat.le_refl _); have H3 := Lib.hid (And.intro h1 hbo); clear h1 h2 h3 hbo) | ((with_reducible show wpList _ _ _ (Oper.mk _ (Op.store _ _ _) _ _ _ _ :: _) _ _); refine wpList_store_cell (blk_below HK.out H3.out.2) 23 2 (.slice A3 x.n c3) (by show 2 < 5; omega) (by kernel_rfl) rfl rfl _ _ rfl rfl rfl rfl ?_; intro w4 hg9 hs9 hb9; have H4 := Lib.hid (And.intro hg9 (show (World.heap w4)[(w.heap.size)]? = some (.cells (Cac.vv ⟨x.room, x.ver, A3, x.n, c3, x.hits, x.misses⟩) 25 (0, 0)) from hb9)); clear hg9 hs9 hb9) | ((with_reducible show wpList _ _ _ (Oper.mk _ (Op.load _ _) _ _ _ _ :: _) _ _); refine wpList_load_g (load_cac H4.out.2) _ rfl rfl (by go_simp) ?_) | ((with_reducible show wpList _ _ _ (Oper.mk _ (Op.store _ _ _) _ _ _ _ :: _) _ _); refine wpList_store_blk (blk_grown (blk_below HZ.out H3.out.2) H4.out.1 (by simp)) 25 0 (Cac.mk x.room x.ver A3 x.n c3 x.hits x.misses).vv (Nat.le_refl _) (info_cac _) (cac_one _) _ _ rfl rfl rfl rfl ?_; intro w5 hg9 hs9 hb9; rw [splice_cac] at hb9; have H5 := Lib.hid (And.intro hg9 hb9); clear hg9 hs9 hb9))
  refine bodyPost_ret (results_c1 rfl rfl (load_cac H5.out.2)) rfl ?_
  have hb3 := H3.out.1.base_
  have hsz := HSZ.out
  refine ⟨_, _, rfl, ((H3.out.1.grown H4.out.1 (fun ad e h => by have := hb3 ad e; injection h with h; omega)).grown H5.out.1 (fun ad e h => by have := hb3 ad e; injection h with h; omega)).lower (by omega), below_grown (below_grown (below_step (below_step HBE.out HB1.out) H3.out.2) H4.out.1 (by omega)) H5.out.1 (by omega)⟩
def overB (n : Nat) (ts : List Tb) : Bool := decide (100 < n) || ts.any fun y => decide (200 < y.n)
set_option maxHeartbeats 2000000 in
theorem over_any (x : Cac) (A : Option Addr) (m c : Nat) (ts : List Tb) (w : World) (ht : RS tbK w A m c ts) (hm : m ≤ 100) :
    Calls Tryd.prog 16 #[.agg x.vv, .slice A m c] w fun r w' => r = .returned (.bool (overB x.n ts)) ∧ Below w.heap.size w w' := by
  have hblk1 := blk_new w (.cells (x.vv) 25)
  have hbel1 : Below w.heap.size w (w.alloc (.cells (x.vv) 25)) := below_alloc (Below.refl _ _) _
  have HP1 := Lib.hid (cac_at hblk1)
  have HBK1 := Lib.hid hblk1
  have HBE := Lib.hid hbel1
  obtain ⟨cs1, hcs1⟩ : ∃ cs, x.vv = cs := ⟨_, rfl⟩
  simp only [hcs1] at HBE HP1 HBK1 ⊢
  have HC1 := Lib.hid hcs1
  clear hcs1 hblk1 hbel1
  have HT := Lib.hid (ht.below HBE.out)
  have hl1 := (HP1.out.all _ (Below.refl _ _)).ents
  clear ht
  go_enter Tryd.func16, Tryd.ntmps16
  by_cases h100 : 100 < x.n
  · have hb : decide ((100 : Int) < x.n) = true := decide_eq_true (by omega)
    have HF : Hid (overB x.n ts = true) := Lib.hid (by unfold overB; rw [decide_eq_true h100]; rfl)
    go_wp2_with (first | ((with_reducible show wpList _ _ _ (Oper.mk _ (Op.load _ _) _ _ _ _ :: _) _ _); refine wpList_load_g hl1 _ rfl rfl (by go_simp) ?_))
    go_ret
    rw [HF.out]
    exact ⟨rfl, HBE.out⟩
  · have hb : decide ((100 : Int) < x.n) = false := decide_eq_false (by omega)
    have HF : Hid (overB x.n ts = ts.any fun y => decide (200 < y.n)) := Lib.hid (by unfold overB; rw [decide_eq_false h100]; rfl)
    go_wp2_with (first | ((with_reducible show wpList _ _ _ (Oper.mk _ (Op.load _ _) _ _ _ _ :: _) _ _); refine wpList_load_g hl1 _ rfl rfl (by go_simp) ?_))
    clear hl1
    go_loopw [13] (fun y wr => ∃ i : Nat, y = .int .i64 i ∧ Hid (i ≤ m ∧ (∀ k, k < i → ¬ 200 < (tbAt ts k).n) ∧ Below (w.alloc (.cells cs1 25)).heap.size (w.alloc (.cells cs1 25)) wr)) (fun y _ => m - (intOf y).toNat)
    case atStart => exact ⟨0, rfl, Nat.zero_le _, fun k h => by omega, Below.refl _ _⟩
    case round =>
      obtain ⟨i, rfl, HI⟩ := hrel
      by_cases hlt : i < m
      · have hlt' : (i : Int) < m := by omega
        obtain ⟨b, o, rfl, hc⟩ := RS.at_ HT.out (by omega)
        have hld := Shape.ld tbK wr b _ _ (RS.fits_at HT.out hlt) ((hc i hlt).below HI.out.2.2)
        rw [show o + i * tbK.sz = o + i by rw [show i * tbK.sz = i from Nat.mul_one i]] at hld
        have hld : (Instr.loadAt 28 (.pointer (some ⟨b, o + i, none⟩))).run Tryd.prog wr = .ok (.agg (tabV (tbAt ts i).A (tbAt ts i).n (tbAt ts i).c)) wr := hld
        have HIL := Lib.hid (show i < ts.length by rw [HT.out.len]; exact hlt)
        obtain ⟨q, hq⟩ : ∃ q, (tbAt ts i).n = q := ⟨_, rfl⟩
        rw [hq] at hld
        have HQ := Lib.hid hq
        clear hc hq
        by_cases h200 : 200 < q
        · have hb2 : decide ((200 : Int) < q) = true := decide_eq_true (by omega)
          have HF2 : Hid (overB x.n ts = true) := Lib.hid (by
            rw [HF.out, List.any_eq_true]
            exact ⟨tbAt ts i, List.mem_of_getElem? (Shape.at_get (S := tbK) HIL.out), by rw [HQ.out]; exact decide_eq_true h200⟩)
          go_wp2_with (first | ((with_reducible show wpList _ _ _ (Oper.mk _ (Op.load _ _) _ _ _ _ :: _) _ _); refine wpList_load_g hld _ rfl rfl (by go_simp) ?_) | ((with_reducible show wpList _ _ _ (Oper.mk _ (Op.store _ _ _) _ _ _ _ :: _) _ _); refine wpList_store_blk (blk_new wr (.cells (tabV none 0 0) 28)) 28 0 (tabV (tbAt ts i).A q (tbAt ts i).c) (Nat.le_refl _) (info_tab _ _ _) (tab_one _ _ _) _ _ rfl rfl rfl rfl ?_; intro w3 hg9 hs9 hb9; rw [splice_tab] at hb9; have H3 := Lib.hid (And.intro hg9 hb9); clear hg9 hs9 hb9) | ((with_reducible show wpList _ _ _ (Oper.mk _ (Op.load _ _) _ _ _ _ :: _) _ _); refine wpList_load_g (((tab_at H3.out.2).all _ (Below.refl _ _)).2) _ rfl rfl (by go_simp) ?_))
          go_ret
          rw [HF2.out]
          exact ⟨rfl, below_step HBE.out (below_step HI.out.2.2 (below_grown (below_alloc (Below.refl wr.heap.size wr) (.cells (tabV none 0 0) 28)) H3.out.1 (Nat.le_refl _)))⟩
        · have hb2 : decide ((200 : Int) < q) = false := decide_eq_false (by omega)
          have HN := Lib.hid h200
          clear h200
          go_wp2_with (first | ((with_reducible show wpList _ _ _ (Oper.mk _ (Op.load _ _) _ _ _ _ :: _) _ _); refine wpList_load_g hld _ rfl rfl (by go_simp) ?_) | ((with_reducible show wpList _ _ _ (Oper.mk _ (Op.store _ _ _) _ _ _ _ :: _) _ _); refine wpList_store_blk (blk_new wr (.cells (tabV none 0 0) 28)) 28 0 (tabV (tbAt ts i).A q (tbAt ts i).c) (Nat.le_refl _) (info_tab _ _ _) (tab_one _ _ _) _ _ rfl rfl rfl rfl ?_; intro w3 hg9 hs9 hb9; rw [splice_tab] at hb9; have H3 := Lib.hid (And.intro hg9 hb9); clear hg9 hs9 hb9) | ((with_reducible show wpList _ _ _ (Oper.mk _ (Op.load _ _) _ _ _ _ :: _) _ _); refine wpList_load_g (((tab_at H3.out.2).all _ (Below.refl _ _)).2) _ rfl rfl (by go_simp) ?_))
          go_roundw
          case measure => simp [intOf]; omega
          case rel =>
            refine ⟨i + 1, by go_num, by omega, fun k hk => ?_, below_step HI.out.2.2 (below_grown (below_alloc (Below.refl wr.heap.size wr) (.cells (tabV none 0 0) 28)) H3.out.1 (Nat.le_refl _))⟩
            by_cases hki : k < i
            · exact HI.out.2.1 k hki
            · rw [show k = i by omega, HQ.out]; exact HN.out
      · have hlt' : decide (i < m) = false := decide_eq_false hlt
        have HF2 : Hid (overB x.n ts = false) := Lib.hid (by
          rw [HF.out, List.any_eq_false]
          intro y hy
          obtain ⟨k, hk, e⟩ := List.getElem_of_mem hy
          have h1 := Shape.at_get (S := tbK) hk
          rw [List.getElem?_eq_getElem hk, e] at h1
          rw [Option.some.inj h1]
          have := HI.out.2.1 k (by rw [HT.out.len] at hk; omega)
          exact fun hh => this (of_decide_eq_true hh))
        have HB := Lib.hid HI.out.2.2
        clear hlt
        go_wp2
        go_ret
        rw [HF2.out]
        exact ⟨rfl, below_step HBE.out HB.out⟩
end Go.Proofs.YtihfaknflfmohaaDoor

/- Layer 27 (cache): the law's wakes. -/
namespace Go.Proofs.YtihfaknflfmohaaDoor
open Go.RowKit
set_option linter.unusedVariables false
set_option linter.unusedSimpArgs false
set_option maxRecDepth 4000
theorem new21 : newC 2 1 = ⟨2, 1, none, 0, 0, 0, 0⟩ ∧ newE 2 1 = 0 := by
  have h : newE 2 1 = 0 := by unfold newE; rw [if_neg (by decide)]
  exact ⟨by unfold newC; rw [if_pos h], h⟩
def wkC : Cac := ⟨2, 1, none, 0, 0, 0, 0⟩
theorem wkC_ok : wkC.ok := ⟨by decide, by decide, by decide, by decide⟩
def wkE : Ent := ⟨4, tenB, ⟨⟨4, ten8, 8⟩, 1⟩, true⟩
theorem wkE_ok : wkE.ok := ⟨tenB_B, by decide, ⟨⟨ten8_B, by decide, by decide⟩, by decide⟩⟩
theorem wk27_look1 : lookN wkC [] tenT 4 tenB = 0 := by decide +kernel
theorem wk27_hit1 : hitN [] 4 tenB = -1 := by decide +kernel
theorem wk27_told1 : told [] tenT 4 tenB = wkE := by
  unfold told
  rw [if_neg (by rw [wk27_hit1]; decide)]
  have h1 : longR tenT 4 tenB = ⟨⟨4, ten8, 8⟩, 1⟩ := (Row.eqB_iff _ _).1 (by decide +kernel)
  have h2 : longB tenT 4 tenB = true := by decide +kernel
  rw [h1, h2]
  rfl
theorem wk27_l1 {y : Cac} {fs : List Ent} {ro : Row} {fo : Bool} (h : LookIs wkC [] tenT 4 tenB y fs ro fo) : y.room = 2 ∧ y.ver = 1 ∧ fs = [wkE] ∧ y.hits = 0 ∧ y.misses = 1 ∧ ro = ⟨⟨4, ten8, 8⟩, 1⟩ ∧ fo = true := by
  unfold LookIs at h
  rw [if_pos wk27_look1, wk27_told1, wk27_hit1] at h
  obtain ⟨h1, h2, h3, h4, h5, h6, h7⟩ := h
  refine ⟨h1, h2, ?_, h4, h5, h6, h7⟩
  rw [h3]
  unfold lookL
  rw [wk27_hit1, wk27_told1]
  rfl
theorem wk27_look2 (y : Cac) (h1 : y.room = 2) (h2 : y.ver = 1) (h3 : y.n = 1) (h4 : y.hits = 0) (h5 : y.misses = 1) : lookN y [wkE] [] 4 tenB = 0 := by
  have hc : cacB y [wkE] = true := by
    unfold cacB headB
    rw [h1, h2, h3, h4, h5]
    decide +kernel
  unfold lookN
  rw [hc]
  decide +kernel
theorem wk27_hit2 : hitN [wkE] 4 tenB = 0 := by decide +kernel
theorem wk27_l2 {x y : Cac} {fs : List Ent} {ro : Row} {fo : Bool} (h1 : x.room = 2) (h2 : x.ver = 1) (h3 : x.n = 1) (h4 : x.hits = 0) (h5 : x.misses = 1) (h : LookIs x [wkE] [] 4 tenB y fs ro fo) : y.hits = 1 ∧ y.misses = 1 ∧ ro = ⟨⟨4, ten8, 8⟩, 1⟩ ∧ fo = true := by
  unfold LookIs at h
  rw [if_pos (wk27_look2 x h1 h2 h3 h4 h5), wk27_hit2] at h
  obtain ⟨_, _, _, k4, k5, k6, k7⟩ := h
  have ht : told [wkE] [] 4 tenB = wkE := by
    unfold told
    rw [wk27_hit2]
    rfl
  rw [ht] at k6 k7
  refine ⟨by rw [k4, h4]; rfl, by rw [k5, h5]; rfl, k6, k7⟩
theorem RS.blkLt {α : Type} {S : Shape α} {w : World} {A : Option Addr} {n c : Nat} {l : List α} (h : RS S w A n c l) (hn : 0 < n) : ∀ ad, A = some ad → ad.block < w.heap.size := by
  intro ad e
  obtain ⟨ad', e', hc⟩ := h.rv.cells hn
  rw [e] at e'
  injection e' with e'
  subst e'
  have hl := h.rv.len
  have hp : 0 < n * S.sz := Nat.mul_pos hn S.pos
  obtain ⟨v, hv⟩ : ∃ v, (Shape.cells S l)[0]? = some v := ⟨_, List.getElem?_eq_getElem (by omega)⟩
  exact World.block_lt_of_cell? _ _ (hc 0 v hv)
theorem RS.grownN {α : Type} {S : Shape α} {w0 w w1 : World} {A : Option Addr} {n c g : Nat} {l : List α} (h0 : RS S w0 A n c l) (h : RS S w A n c l) (hg : w.grownBy w1 (some g)) (hle : w0.heap.size ≤ g) : RS S w1 A n c l := by
  refine ⟨⟨h.rv.len, h.rv.cap, h.rv.small, fun hn => ?_⟩, h.fits⟩
  obtain ⟨ad, e, hc⟩ := h.rv.cells hn
  refine ⟨ad, e, fun j v hj => hg.cell (hc j v hj) (fun e2 => ?_)⟩
  rw [add_block] at e2
  injection e2 with e2
  have := RS.blkLt h0 hn ad e
  omega
theorem row_self_exec {r : Operand → Value} {o : Oper} {x y : Operand} {ty : TypeId} (ho : o.op = .binOp .eql 38 x y ty) (p : Row) (hx : r x = .agg (rowV p)) (hy : r y = .agg (rowV p)) (hp : p.ok) (w : World) : (execOp r o).run Tryd.prog w = .ok (.value (.bool true)) w := by
  rw [row_eql_exec ho p p hx hy hp hp w, (Row.eqB_iff p p).2 rfl]
set_option maxHeartbeats 4000000 in
theorem wakes27_any (w : World) (hL : Laid w) : Calls Tryd.prog 15 #[] w fun e w' => e = .returned (.bool true) ∧ Below w.heap.size w w' := by
  have HL := Lib.hid hL
  clear hL
  have hz := blk_new w (.cells (adrV 0 zero16) 31)
  go_enter Tryd.func15, Tryd.ntmps15
  go_wp2_with (((with_reducible show wpList _ _ _ (Oper.mk _ (Op.store _ _ _) _ _ _ _ :: _) _ _); refine wpList_store_blk hz 31 0 (adrV 4 tenB) (by decide) (info_adr rfl) (adr_one _ _) _ _ rfl rfl rfl rfl ?_; intro w1 hg9 hs9 hb9; rw [splice_adr0 _ 4 tenB rfl rfl] at hb9; have H1 := Lib.hid (And.intro hg9 hb9); clear hg9 hs9 hb9))
  have HB1 := Lib.hid (below_grown (below_alloc (Below.refl w.heap.size w) (.cells (adrV 0 zero16) 31)) H1.out.1 (Nat.le_refl _))
  clear hz
  refine (cnew_any 2 1 w1).mono ?_
  rintro e w2 ⟨rfl, hb2⟩
  rw [new21.1, new21.2]
  have HB2 := Lib.hid (below_step HB1.out hb2)
  have HA2 := Lib.hid (blk_below H1.out.2 hb2)
  clear hb2 H1 HB1
  go_upto_region 3 with (first | ((with_reducible show wpList _ _ _ (Oper.mk _ (Op.store _ _ _) _ _ _ _ :: _) _ _); refine wpList_store_blk (blk_new w2 (.cells cacZ.vv 25)) 25 0 wkC.vv (Nat.le_refl _) (info_cac _) (cac_one _) _ _ rfl rfl rfl rfl ?_; intro w3 hg9 hs9 hb9; rw [splice_cac] at hb9; have H3 := Lib.hid (And.intro hg9 hb9); clear hg9 hs9 hb9))
  have HB3 := Lib.hid (below_grown (below_alloc HB2.out (.cells cacZ.vv 25)) H3.out.1 HB2.out.size)
  have HA3 := Lib.hid (blk_grown (blk_below HA2.out (below_alloc (Below.refl _ _) (.cells cacZ.vv 25))) H3.out.1 (fun e => by injection e with e; have := blk_lt HA2.out; omega))
  have hg2 := blk_lt H3.out.2
  have hga := blk_lt HA2.out
  have hs2 := HB2.out.size
  have HG := Lib.hid (show w.heap.size < w2.heap.size ∧ w2.heap.size < w3.heap.size from ⟨hga, hg2⟩)
  have HW := Lib.hid hs2
  clear hg2 hga hs2
  have HBD := Lib.hid (below_drew1 w3)
  go_cut [4, 5, 6] (fun s4 s5 s6 wx => ∃ (g4 : Nat) (y : Cac), s4 = .pointer (some ⟨g4, 0, none⟩) ∧ s5 = .bool true ∧ s6 = .int .i64 0 ∧ Hid (wx.heap[w2.heap.size]? = some (.cells y.vv 25 (0, 0)) ∧ wx.heap[g4]? = some (.cells (rowV ⟨⟨4, ten8, 8⟩, 1⟩) 38 (0, 0)) ∧ w2.heap.size < g4 ∧ wx.heap[w.heap.size]? = some (.cells (adrV 4 tenB) 31 (0, 0)) ∧ y.room = 2 ∧ y.ver = 1 ∧ y.n = 1 ∧ y.hits = 0 ∧ y.misses = 1 ∧ RE wx y.A y.n y.c [wkE] ∧ Below w.heap.size w wx))
  case first =>
    refine wp_region_fork ((fun w0 => Below w3.heap.size w3 w0)) (OrdT.fork [0, 2] 1 9 (OrdT.fork [] 3 9 (OrdT.lin [4, 5, 6, 7, 8, 9, 10, 11, 12, 13]) (OrdT.lin [3, 4, 5, 6, 7, 8, 10, 11, 12, 13])) (OrdT.lin [1, 3, 4, 5, 6, 7, 8, 10, 11, 12, 13])) [(0, 0), (1, 2), (2, 0), (3, 2), (4, 4), (5, 4), (6, 4), (7, 4), (8, 4), (9, 2), (10, 3), (11, 3), (12, 3), (13, 3)] (by kernel_rfl) (by kernel_rfl) (HBD.out) ?_
    simp only [wpF]
    refine wpO_loadW (t := 25) (ad := ⟨w2.heap.size, 0, none⟩) rfl rfl ?hw rfl rfl ((fun w0 hS => load_cac (blk_below H3.out.2 hS))) ?_
    case hw => go_simp
    refine wpO_loadW (t := 31) (ad := ⟨w.heap.size, 0, none⟩) rfl rfl ?hw rfl rfl ((fun w0 hS => load_adr0 tenB_B (blk_below HA3.out hS))) ?_
    case hw => go_simp
    refine wpO_nil ⟨?_, ?_⟩
    · refine wpO_step2 rfl rfl (HBD.out) (fun K hK => ?_)
      go_simp
      refine (ten27_any _).mono ?_
      rintro e w4 ⟨Ac, cc, rfl, hO9, hb9⟩
      have HBC := Lib.hid (below_step HBD.out hb9)
      have HCP := Lib.hid hO9
      have hszc := hb9.size
      try replace HZ9 := Lib.hid (blk_below HZ9.out hb9)
      clear hO9 hb9
      refine hK _ _ ⟨HBC.out, ?_⟩
      clear hK K
      refine wpO_nil (wpO_nil ⟨?_, ?_⟩)
      · refine wpO_step2 rfl rfl (HBC.out) (fun K hK => ?_)
        go_simp
        refine (clook_any wkC [] Ac 1 cc tenT 4 tenB _ (HL.out.below (below_step HB3.out HBC.out)) (RS.nil _ _ _ _) (fun e he => by cases he) (by decide) HCP.out (by omega) tenB_B (by decide) wkC_ok).mono ?_
        rintro e w5 ⟨y, fs, ro, fo, rfl, hO9, hF9, hI9, hb9⟩
        obtain ⟨k1, k2, k3, k4, k5, k6, k7⟩ := wk27_l1 hI9
        subst k3 k6 k7
        rw [wk27_look1]
        have HBK := Lib.hid (below_step HBC.out hb9)
        have HYN := Lib.hid hO9.len.symm
        have HY := Lib.hid (And.intro k1 (And.intro k2 (And.intro k4 k5)))
        have HO9 := Lib.hid hO9
        have HFR := Lib.hid (fun ad e => Nat.lt_of_lt_of_le (Nat.lt_of_lt_of_le HG.out.2 HBC.out.size) (hF9 ad e))
        try have HFZ := Lib.hid (fun ad e => Nat.lt_of_lt_of_le (blk_lt HZ9.out) (hF9 ad e))
        try replace HZ9 := Lib.hid (blk_below HZ9.out hb9)
        clear hO9 hb9 hF9 hI9 k1 k2 k4 k5
        refine hK _ _ ⟨HBK.out, ?_⟩
        clear hK K
        refine wpO_nil ?_
        iterate 5 (refine wpO_step4 rfl rfl (fun K hK => ?_); go_simp; refine hK _ _ ?_; clear hK K)
        have HFL := Lib.hid (fun ad e => RS.blkLt HO9.out (by rw [HYN.out]; decide) ad e)
        refine wpO_step2 rfl rfl (HBK.out) (fun K hK => ?_)
        go_simp
        have hz9 := blk_new w5 (.cells (rowV rowZ) 38)
        obtain ⟨w6, hw9⟩ : ∃ w9, World.alloc w5 (.cells (rowV rowZ) 38) = w9 := ⟨_, rfl⟩
        have ha9 : Below (World.heap w5).size w5 w6 := hw9 ▸ below_alloc (Below.refl _ _) _
        have HBL := Lib.hid (below_step HBK.out ha9)
        rw [show World.alloc w5 (.cells #[.int .i64 0, .int .u8 0, .int .u8 0, .int .u8 0, .int .u8 0, .int .u8 0, .int .u8 0, .int .u8 0, .int .u8 0, .int .u8 0, .int .u8 0, .int .u8 0, .int .u8 0, .int .u8 0, .int .u8 0, .int .u8 0, .int .u8 0, .int .i64 0, .int .i64 0] 38) = w6 from hw9]
        rw [hw9] at hz9
        have hzl9 := blk_lt hz9
        have HZ9 := Lib.hid hz9
        try replace HCP := Lib.hid (HCP.out.below ha9)
        try replace HO9 := Lib.hid (HO9.out.below ha9)
        clear hw9 hz9 ha9
        refine hK _ _ ⟨HBL.out, ?_⟩
        clear hK K
        refine wpO_step3 rfl rfl (fun K hK => ?_)
        rw [if_pos (show Region.wanted _ _ = true from rfl)]
        refine oper_store_blk (blk_below H3.out.2 HBL.out) 25 0 y.vv (Nat.le_refl _) (info_cac _) (cac_one _) _ _ rfl rfl rfl ?_
        intro u1 hg8 hs8 hb8
        rw [splice_cac] at hb8
        have U1 := Lib.hid (And.intro hg8 hb8)
        clear hg8 hs8 hb8
        refine hK _ _ ?_
        clear hK K
        refine wpO_step3 rfl rfl (fun K hK => ?_)
        rw [if_pos (show Region.wanted _ _ = true from rfl)]
        refine oper_store_blk (blk_grown HZ9.out U1.out.1 (fun e => by injection e with e; have := (Nat.lt_of_lt_of_le HG.out.2 HBK.out.size); omega)) 38 0 (rowV ⟨⟨4, ten8, 8⟩, 1⟩) (store_row_fit (r := ⟨⟨4, ten8, 8⟩, 1⟩) ten8_B (rowV_size rowZ_fits)) (info_row (r := ⟨⟨4, ten8, 8⟩, 1⟩) ten8_B) (rowV_one _) _ _ rfl rfl rfl ?_
        intro u2 hg9 hs9 hb9
        rw [splice_row (r := ⟨⟨4, ten8, 8⟩, 1⟩) ten8_B (rowV_size rowZ_fits)] at hb9
        have U2 := Lib.hid (And.intro hg9 hb9)
        clear hg9 hs9 hb9
        refine hK _ _ ?_
        clear hK K
        refine wpO_step3 rfl rfl (fun K hK => ?_); go_simp; refine hK _ _ ?_; clear hK K
        refine wpO_step3 rfl rfl (fun K hK => ?_); go_simp; refine hK _ _ ?_; clear hK K
        refine wpO_nil ?_
        go_wp2_with fail
        go_meet
        have hq := (Nat.lt_of_lt_of_le HG.out.2 HBK.out.size)
        have hg := HG.out
        exact ⟨w5.heap.size, y, rfl, rfl, rfl, blk_grown U1.out.2 U2.out.1 (fun e => by injection e with e; omega), U2.out.2, hq, blk_grown (blk_grown (blk_below HA3.out HBL.out) U1.out.1 (fun e => by injection e with e; omega)) U2.out.1 (fun e => by injection e with e; omega), HY.out.1, HY.out.2.1, HYN.out, HY.out.2.2.1, HY.out.2.2.2, ((HO9.out.grown U1.out.1 (fun ad e h => by injection h with h; have := HFR.out ad e; omega)).grown U2.out.1 (fun ad e h => by injection h with h; have := HFL.out ad e; omega)), below_grown (below_grown (below_step HB3.out HBL.out) U1.out.1 (by omega)) U2.out.1 (by omega)⟩
      · refine wpO_step2 rfl rfl (HBC.out) (fun K hK => ?_)
        go_simp
        have hz9 := blk_new w4 (.cells (rowV rowZ) 38)
        obtain ⟨w5, hw9⟩ : ∃ w9, World.alloc w4 (.cells (rowV rowZ) 38) = w9 := ⟨_, rfl⟩
        have ha9 : Below (World.heap w4).size w4 w5 := hw9 ▸ below_alloc (Below.refl _ _) _
        have HBK := Lib.hid (below_step HBC.out ha9)
        rw [show World.alloc w4 (.cells #[.int .i64 0, .int .u8 0, .int .u8 0, .int .u8 0, .int .u8 0, .int .u8 0, .int .u8 0, .int .u8 0, .int .u8 0, .int .u8 0, .int .u8 0, .int .u8 0, .int .u8 0, .int .u8 0, .int .u8 0, .int .u8 0, .int .u8 0, .int .i64 0, .int .i64 0] 38) = w5 from hw9]
        rw [hw9] at hz9
        have hzl9 := blk_lt hz9
        have HZ9 := Lib.hid hz9
        try replace HCP := Lib.hid (HCP.out.below ha9)
        try replace HO9 := Lib.hid (HO9.out.below ha9)
        clear hw9 hz9 ha9
        refine hK _ _ ⟨HBK.out, ?_⟩
        clear hK K
        refine wpO_nil ?_
        refine wpO_step2 rfl rfl (HBK.out) (fun K hK => ?_)
        go_simp
        refine (clook_any wkC [] Ac 1 cc tenT 4 tenB _ (HL.out.below (below_step HB3.out HBK.out)) (RS.nil _ _ _ _) (fun e he => by cases he) (by decide) HCP.out (by omega) tenB_B (by decide) wkC_ok).mono ?_
        rintro e w6 ⟨y, fs, ro, fo, rfl, hO9, hF9, hI9, hb9⟩
        obtain ⟨k1, k2, k3, k4, k5, k6, k7⟩ := wk27_l1 hI9
        subst k3 k6 k7
        rw [wk27_look1]
        have HBL := Lib.hid (below_step HBK.out hb9)
        have HYN := Lib.hid hO9.len.symm
        have HY := Lib.hid (And.intro k1 (And.intro k2 (And.intro k4 k5)))
        have HO9 := Lib.hid hO9
        have HFR := Lib.hid (fun ad e => Nat.lt_of_lt_of_le (Nat.lt_of_lt_of_le HG.out.2 HBK.out.size) (hF9 ad e))
        try have HFZ := Lib.hid (fun ad e => Nat.lt_of_lt_of_le (blk_lt HZ9.out) (hF9 ad e))
        try replace HZ9 := Lib.hid (blk_below HZ9.out hb9)
        clear hO9 hb9 hF9 hI9 k1 k2 k4 k5
        refine hK _ _ ⟨HBL.out, ?_⟩
        clear hK K
        iterate 5 (refine wpO_step4 rfl rfl (fun K hK => ?_); go_simp; refine hK _ _ ?_; clear hK K)
        refine wpO_step3 rfl rfl (fun K hK => ?_)
        rw [if_pos (show Region.wanted _ _ = true from rfl)]
        refine oper_store_blk (blk_below H3.out.2 HBL.out) 25 0 y.vv (Nat.le_refl _) (info_cac _) (cac_one _) _ _ rfl rfl rfl ?_
        intro u1 hg8 hs8 hb8
        rw [splice_cac] at hb8
        have U1 := Lib.hid (And.intro hg8 hb8)
        clear hg8 hs8 hb8
        refine hK _ _ ?_
        clear hK K
        refine wpO_step3 rfl rfl (fun K hK => ?_)
        rw [if_pos (show Region.wanted _ _ = true from rfl)]
        refine oper_store_blk (blk_grown HZ9.out U1.out.1 (fun e => by injection e with e; have := (Nat.lt_of_lt_of_le HG.out.2 HBC.out.size); omega)) 38 0 (rowV ⟨⟨4, ten8, 8⟩, 1⟩) (store_row_fit (r := ⟨⟨4, ten8, 8⟩, 1⟩) ten8_B (rowV_size rowZ_fits)) (info_row (r := ⟨⟨4, ten8, 8⟩, 1⟩) ten8_B) (rowV_one _) _ _ rfl rfl rfl ?_
        intro u2 hg9 hs9 hb9
        rw [splice_row (r := ⟨⟨4, ten8, 8⟩, 1⟩) ten8_B (rowV_size rowZ_fits)] at hb9
        have U2 := Lib.hid (And.intro hg9 hb9)
        clear hg9 hs9 hb9
        refine hK _ _ ?_
        clear hK K
        refine wpO_step3 rfl rfl (fun K hK => ?_); go_simp; refine hK _ _ ?_; clear hK K
        refine wpO_step3 rfl rfl (fun K hK => ?_); go_simp; refine hK _ _ ?_; clear hK K
        refine wpO_nil ?_
        go_wp2_with fail
        go_meet
        have hq := (Nat.lt_of_lt_of_le HG.out.2 HBC.out.size)
        have hg := HG.out
        exact ⟨w4.heap.size, y, rfl, rfl, rfl, blk_grown U1.out.2 U2.out.1 (fun e => by injection e with e; omega), U2.out.2, hq, blk_grown (blk_grown (blk_below HA3.out HBL.out) U1.out.1 (fun e => by injection e with e; omega)) U2.out.1 (fun e => by injection e with e; omega), HY.out.1, HY.out.2.1, HYN.out, HY.out.2.2.1, HY.out.2.2.2, ((HO9.out.grown U1.out.1 (fun ad e h => by injection h with h; have := HFR.out ad e; omega)).grown U2.out.1 (fun ad e h => by injection h with h; have := HFZ.out ad e; omega)), below_grown (below_grown (below_step HB3.out HBL.out) U1.out.1 (by omega)) U2.out.1 (by omega)⟩
    · refine wpO_step2 rfl rfl (HBD.out) (fun K hK => ?_)
      go_simp
      have hz9 := blk_new w3 (.cells (rowV rowZ) 38)
      obtain ⟨w4, hw9⟩ : ∃ w9, (World.alloc w3 (.cells (rowV rowZ) 38)).drew = w9 := ⟨_, rfl⟩
      have ha9 : Below (World.heap w3).size w3 w4 := hw9 ▸ below_step (below_alloc (Below.refl _ _) _) (below_drew1 _)
      have HBC := Lib.hid ha9
      rw [show (World.alloc w3 (.cells #[.int .i64 0, .int .u8 0, .int .u8 0, .int .u8 0, .int .u8 0, .int .u8 0, .int .u8 0, .int .u8 0, .int .u8 0, .int .u8 0, .int .u8 0, .int .u8 0, .int .u8 0, .int .u8 0, .int .u8 0, .int .u8 0, .int .u8 0, .int .i64 0, .int .i64 0] 38)).drew = w4 from hw9]
      replace hz9 : (World.heap w4)[(World.heap w3).size]? = some (.cells (rowV rowZ) 38 (0, 0)) := by rw [← hw9]; exact hz9
      have hzl9 := blk_lt hz9
      have HZ9 := Lib.hid hz9
      clear hw9 hz9 ha9
      refine hK _ _ ⟨HBC.out, ?_⟩
      clear hK K
      refine wpO_nil ?_
      refine wpO_step2 rfl rfl (HBC.out) (fun K hK => ?_)
      go_simp
      refine (ten27_any _).mono ?_
      rintro e w5 ⟨Ac, cc, rfl, hO9, hb9⟩
      have HBK := Lib.hid (below_step HBC.out hb9)
      have HCP := Lib.hid hO9
      have hszc := hb9.size
      try replace HZ9 := Lib.hid (blk_below HZ9.out hb9)
      clear hO9 hb9
      refine hK _ _ ⟨HBK.out, ?_⟩
      clear hK K
      refine wpO_step2 rfl rfl (HBK.out) (fun K hK => ?_)
      go_simp
      refine (clook_any wkC [] Ac 1 cc tenT 4 tenB _ (HL.out.below (below_step HB3.out HBK.out)) (RS.nil _ _ _ _) (fun e he => by cases he) (by decide) HCP.out (by omega) tenB_B (by decide) wkC_ok).mono ?_
      rintro e w6 ⟨y, fs, ro, fo, rfl, hO9, hF9, hI9, hb9⟩
      obtain ⟨k1, k2, k3, k4, k5, k6, k7⟩ := wk27_l1 hI9
      subst k3 k6 k7
      rw [wk27_look1]
      have HBL := Lib.hid (below_step HBK.out hb9)
      have HYN := Lib.hid hO9.len.symm
      have HY := Lib.hid (And.intro k1 (And.intro k2 (And.intro k4 k5)))
      have HO9 := Lib.hid hO9
      have HFR := Lib.hid (fun ad e => Nat.lt_of_lt_of_le (Nat.lt_of_lt_of_le HG.out.2 HBK.out.size) (hF9 ad e))
      try have HFZ := Lib.hid (fun ad e => Nat.lt_of_lt_of_le (blk_lt HZ9.out) (hF9 ad e))
      try replace HZ9 := Lib.hid (blk_below HZ9.out hb9)
      clear hO9 hb9 hF9 hI9 k1 k2 k4 k5
      refine hK _ _ ⟨HBL.out, ?_⟩
      clear hK K
      iterate 5 (refine wpO_step4 rfl rfl (fun K hK => ?_); go_simp; refine hK _ _ ?_; clear hK K)
      refine wpO_step3 rfl rfl (fun K hK => ?_)
      rw [if_pos (show Region.wanted _ _ = true from rfl)]
      refine oper_store_blk (blk_below H3.out.2 HBL.out) 25 0 y.vv (Nat.le_refl _) (info_cac _) (cac_one _) _ _ rfl rfl rfl ?_
      intro u1 hg8 hs8 hb8
      rw [splice_cac] at hb8
      have U1 := Lib.hid (And.intro hg8 hb8)
      clear hg8 hs8 hb8
      refine hK _ _ ?_
      clear hK K
      refine wpO_step3 rfl rfl (fun K hK => ?_)
      rw [if_pos (show Region.wanted _ _ = true from rfl)]
      refine oper_store_blk (blk_grown HZ9.out U1.out.1 (fun e => by injection e with e; have := HG.out.2; omega)) 38 0 (rowV ⟨⟨4, ten8, 8⟩, 1⟩) (store_row_fit (r := ⟨⟨4, ten8, 8⟩, 1⟩) ten8_B (rowV_size rowZ_fits)) (info_row (r := ⟨⟨4, ten8, 8⟩, 1⟩) ten8_B) (rowV_one _) _ _ rfl rfl rfl ?_
      intro u2 hg9 hs9 hb9
      rw [splice_row (r := ⟨⟨4, ten8, 8⟩, 1⟩) ten8_B (rowV_size rowZ_fits)] at hb9
      have U2 := Lib.hid (And.intro hg9 hb9)
      clear hg9 hs9 hb9
      refine hK _ _ ?_
      clear hK K
      refine wpO_step3 rfl rfl (fun K hK => ?_); go_simp; refine hK _ _ ?_; clear hK K
      refine wpO_step3 rfl rfl (fun K hK => ?_); go_simp; refine hK _ _ ?_; clear hK K
      refine wpO_nil ?_
      go_wp2_with fail
      go_meet
      have hq := HG.out.2
      have hg := HG.out
      exact ⟨w3.heap.size, y, rfl, rfl, rfl, blk_grown U1.out.2 U2.out.1 (fun e => by injection e with e; omega), U2.out.2, hq, blk_grown (blk_grown (blk_below HA3.out HBL.out) U1.out.1 (fun e => by injection e with e; omega)) U2.out.1 (fun e => by injection e with e; omega), HY.out.1, HY.out.2.1, HYN.out, HY.out.2.2.1, HY.out.2.2.2, ((HO9.out.grown U1.out.1 (fun ad e h => by injection h with h; have := HFR.out ad e; omega)).grown U2.out.1 (fun ad e h => by injection h with h; have := HFZ.out ad e; omega)), below_grown (below_grown (below_step HB3.out HBL.out) U1.out.1 (by omega)) U2.out.1 (by omega)⟩
  case rest =>
    obtain ⟨g4, y, rfl, rfl, rfl, HC⟩ := hcut
    obtain ⟨hq1, hq2, hq3, hq4, hq5, hq6, hq7, hq8, hq9, hq10, hq11⟩ := HC.out
    have HQ := Lib.hid (And.intro hq5 (And.intro hq6 (And.intro hq7 (And.intro hq8 hq9))))
    have HCB := Lib.hid hq1
    have HRB := Lib.hid hq2
    have HG4 := Lib.hid hq3
    have HAB := Lib.hid hq4
    have HRE := Lib.hid hq10
    have HBC := Lib.hid hq11
    have HYO : Hid y.ok := Lib.hid ⟨by rw [hq5]; decide, by rw [hq6]; decide, by rw [hq8]; decide, by rw [hq9]; decide⟩
    have hyn : y.n ≤ 100000 := by rw [hq7]; decide
    have hbt := run_build_tab_nil
    clear hq1 hq2 hq3 hq4 hq5 hq6 hq7 hq8 hq9 hq10 hq11
    obtain ⟨v1, rfl⟩ : ∃ v1, v1 = wc := ⟨wc, rfl⟩
    go_wp2_with (first | ((with_reducible show wpList _ _ _ (Oper.mk _ (Op.load _ _) _ _ _ _ :: _) _ _); refine wpList_load_g (load_cac HCB.out) _ rfl rfl (by go_simp) ?_) | ((with_reducible show wpList _ _ _ (Oper.mk _ (Op.build _ _) _ _ _ _ :: _) _ _); refine wpList_exw rfl (exec_build 28 #[] rfl #[] rfl (hbt _)) ?_) | ((with_reducible show wpList _ _ _ (Oper.mk _ (Op.load _ _) _ _ _ _ :: _) _ _); refine wpList_load_g (load_adr0 tenB_B HAB.out) _ rfl rfl (by go_simp) ?_))
    refine (clook_any y [wkE] none 0 0 [] 4 tenB v1 (HL.out.below HBC.out) HRE.out (fun e he => by rw [List.mem_singleton] at he; subst he; exact wkE_ok) hyn (RS.nil _ _ _ _) (by decide) tenB_B (by decide) HYO.out).mono ?_
    rintro e v2 ⟨y2, fs2, ro2, fo2, rfl, hO2, hF2, hI2, hb2⟩
    rw [wk27_look2 y HQ.out.1 HQ.out.2.1 HQ.out.2.2.1 HQ.out.2.2.2.1 HQ.out.2.2.2.2]
    obtain ⟨k1, k2, k3, k4⟩ := wk27_l2 HQ.out.1 HQ.out.2.1 HQ.out.2.2.1 HQ.out.2.2.2.1 HQ.out.2.2.2.2 hI2
    subst k3 k4
    have HK := Lib.hid (And.intro k1 k2)
    have HB2' := Lib.hid (below_step HBC.out hb2)
    have HC2 := Lib.hid (blk_below HCB.out hb2)
    have HR2 := Lib.hid (blk_below HRB.out hb2)
    have hg4 := blk_lt HR2.out
    have hgg := HG4.out
    have hW2 := HW.out
    clear k1 k2 hI2 hF2 hO2 hb2
    have hrf : (⟨⟨4, ten8, 8⟩, 1⟩ : Row).fits := ten8_B
    go_upto_region 5 with (first | ((with_reducible show wpList _ _ _ (Oper.mk _ (Op.store _ _ _) _ _ _ _ :: _) _ _); refine wpList_store_blk (blk_below HC2.out (below_alloc (Below.refl _ _) (.cells (rowV rowZ) 38))) 25 0 y2.vv (Nat.le_refl _) (info_cac _) (cac_one _) _ _ rfl rfl rfl rfl ?_; intro v3 hg9 hs9 hb9; rw [splice_cac] at hb9; have H9 := Lib.hid (And.intro hg9 hb9); clear hg9 hs9 hb9) | ((with_reducible show wpList _ _ _ (Oper.mk _ (Op.store _ _ _) _ _ _ _ :: _) _ _); refine wpList_store_blk (blk_grown (blk_new v2 (.cells (rowV rowZ) 38)) H9.out.1 (fun e => by injection e with e; omega)) 38 0 (rowV (Row.mk ⟨4, ten8, 8⟩ 1)) (store_row_fit hrf (rowV_size rowZ_fits)) (info_row hrf) (rowV_one _) _ _ rfl rfl rfl rfl ?_; intro v4 hg9 hs9 hb9; rw [splice_row hrf (rowV_size rowZ_fits)] at hb9; have H10 := Lib.hid (And.intro hg9 hb9); clear hg9 hs9 hb9))
    have hlr1 := (row_at hrf (blk_grown (blk_grown (blk_below HR2.out (below_alloc (Below.refl _ _) (.cells (rowV rowZ) 38))) H9.out.1 (fun e => by injection e with e; omega)) H10.out.1 (fun e => by injection e with e; omega))).all v4 (Below.refl _ _)
    have hlr2 := (row_at hrf H10.out.2).all v4 (Below.refl _ _)
    have hlc := (cac_at (blk_grown H9.out.2 H10.out.1 (fun e => by injection e with e; omega))).all v4 (Below.refl _ _)
    have hlch := hlc.hits
    have hlcm := hlc.misses
    rw [HK.out.1] at hlch
    rw [HK.out.2] at hlcm
    have hlh := hlr1.hop
    have hlr1' := hlr1.row
    have hlr2' := hlr2.row
    have hro : (⟨⟨4, ten8, 8⟩, 1⟩ : Row).ok := wkE_ok.r
    clear hlr1 hlr2 hlc
    have HBF := Lib.hid (below_grown (below_grown (below_alloc HB2'.out (.cells (rowV rowZ) 38)) H9.out.1 (by omega)) H10.out.1 (by omega))
    go_wp2_with (first | ((with_reducible show wpList _ _ _ (Oper.mk _ (Op.load _ _) _ _ _ _ :: _) _ _); refine wpList_load_g hlh _ rfl rfl (by go_simp) ?_) | ((with_reducible show wpList _ _ _ (Oper.mk _ (Op.load _ _) _ _ _ _ :: _) _ _); refine wpList_load_g hlr1' _ rfl rfl (by go_simp) ?_) | ((with_reducible show wpList _ _ _ (Oper.mk _ (Op.load _ _) _ _ _ _ :: _) _ _); refine wpList_load_g hlr2' _ rfl rfl (by go_simp) ?_) | ((with_reducible show wpList _ _ _ (Oper.mk _ (Op.load _ _) _ _ _ _ :: _) _ _); refine wpList_load_g hlch _ rfl rfl (by go_simp) ?_) | ((with_reducible show wpList _ _ _ (Oper.mk _ (Op.load _ _) _ _ _ _ :: _) _ _); refine wpList_load_g hlcm _ rfl rfl (by go_simp) ?_) | ((with_reducible show wpList _ _ _ (Oper.mk _ (Op.binOp _ _ _ _ _) _ _ _ _ :: _) _ _); refine wpList_exw rfl (row_self_exec rfl (Row.mk ⟨4, ten8, 8⟩ 1) rfl rfl hro _) ?_))
    go_ret
    exact ⟨rfl, HBF.out⟩
end Go.Proofs.YtihfaknflfmohaaDoor

/- Layer 27 (cache): the law CacheLooks. -/
namespace Go.Proofs.YtihfaknflfmohaaDoor
open Go.RowKit
set_option linter.unusedVariables false
set_option linter.unusedSimpArgs false
set_option maxRecDepth 4000
theorem longR_okk {t : List Row} (h : Oks t) (v : Int) (l : List Int) : (longR t v l).ok := by
  unfold longR
  rcases longest_spec v l t with ⟨h1, _⟩ | ⟨i, r, h1, h2⟩
  · rw [h1]; exact rowZ_okk
  · rw [h1]
    exact h r (List.mem_of_getElem? h2.at_)
theorem told_ok {es : List Ent} {t : List Row} {v : Int} {l : List Int} (oe : Oke es) (ot : Oks t) (hl : B16 l) (hv : (Lit.int .i64 v).wf = true) : (told es t v l).ok := by
  unfold told
  split
  · rename_i h
    rcases hit_cases es v l with hm | ⟨j, hj, hm⟩
    · omega
    · rw [show (hitN es v l).toNat = j by omega]
      exact oe.at_ hj
  · exact ⟨hl, hv, longR_okk ot v l⟩
theorem look_ok {x y : Cac} {es fs : List Ent} {t : List Row} {v : Int} {l : List Int} {ro : Row} {fo : Bool} (oe : Oke es) (ot : Oks t) (hl : B16 l) (hv : (Lit.int .i64 v).wf = true) (h : LookIs x es t v l y fs ro fo) : Oke fs ∧ ro.ok ∧ fs.length ≤ es.length + 1 := by
  unfold LookIs at h
  split at h
  · obtain ⟨_, _, h3, _, _, h6, _⟩ := h
    have ht := told_ok oe ot hl hv
    refine ⟨?_, by rw [h6]; exact ht.r, ?_⟩
    · rw [h3]
      unfold lookL
      split
      · intro e he
        rcases List.mem_cons.1 he with rfl | he
        · exact ht
        · rcases List.mem_append.1 he with he | he
          · exact oe e (List.mem_of_mem_take he)
          · exact oe e (List.mem_of_mem_drop he)
      · intro e he
        rcases List.mem_cons.1 (List.mem_of_mem_take he) with rfl | he
        · exact ht
        · exact oe e he
    · rw [h3]
      unfold lookL
      split
      · simp only [List.length_cons, List.length_append, List.length_take, List.length_drop]
        omega
      · simp only [List.length_take, List.length_cons]
        omega
  · obtain ⟨_, h2, h3, _⟩ := h
    rw [h2, h3]
    exact ⟨fun e he => (by cases he), rowZ_okk, by simp⟩
theorem look_same {x y z : Cac} {es fs gs : List Ent} {t : List Row} {v : Int} {l : List Int} {ro so : Row} {fo go : Bool} (h : LookIs x es t v l y fs ro fo) (k : LookIs x es t v l z gs so go) : (y.room = z.room ∧ y.ver = z.ver ∧ y.hits = z.hits ∧ y.misses = z.misses ∧ fs = gs) ∧ ro = so ∧ fo = go := by
  unfold LookIs at h k
  split at h
  · rename_i hc
    rw [if_pos hc] at k
    obtain ⟨h1, h2, h3, h4, h5, h6, h7⟩ := h
    obtain ⟨k1, k2, k3, k4, k5, k6, k7⟩ := k
    exact ⟨⟨h1.trans k1.symm, h2.trans k2.symm, h4.trans k4.symm, h5.trans k5.symm, h3.trans k3.symm⟩, h6.trans k6.symm, h7.trans k7.symm⟩
  · rename_i hc
    rw [if_neg hc] at k
    obtain ⟨rfl, rfl, rfl, rfl⟩ := h
    obtain ⟨rfl, rfl, rfl, rfl⟩ := k
    exact ⟨⟨rfl, rfl, rfl, rfl, rfl⟩, rfl, rfl⟩
theorem overB_one (n : Nat) (y : Tb) : overB n [y] = (decide (100 < n) || decide (200 < y.n)) := by simp [overB]
set_option maxRecDepth 100000 in
set_option maxHeartbeats 8000000 in
theorem looks27_any (x : Cac) (es : List Ent) (A : Option Addr) (n c : Nat) (t : List Row) (v : Int) (l : List Int) (w : World) (hL : Laid w) (he : RE w x.A x.n x.c es) (oe : Oke es) (hx : x.ok) (ht : RT w A n c t) (ot : Oks t) (hl : B16 l) (hv : (Lit.int .i64 v).wf = true) :
    Calls Tryd.prog 3 #[.agg x.vv, .agg (tabV A n c), .agg (adrV v l)] w fun r w' => r = .returned (.bool true) ∧ Below w.heap.size w w' := by
  have hblk1 := blk_new w (.cells (x.vv) 25)
  have hbel1 : Below w.heap.size w (w.alloc (.cells (x.vv) 25)) := below_alloc (Below.refl _ _) _
  have hblk2 := blk_new (w.alloc (.cells (x.vv) 25)) (.cells (tabV A n c) 28)
  have hbel2 : Below w.heap.size w ((w.alloc (.cells (x.vv) 25)).alloc (.cells (tabV A n c) 28)) := below_alloc (hbel1) _
  rw [show (w.alloc (.cells (x.vv) 25)).heap.size = w.heap.size + 1 by simp] at hblk2
  replace hblk1 := blk_below hblk1 (below_alloc (Below.refl _ _) (.cells (tabV A n c) 28))
  have hblk3 := blk_new ((w.alloc (.cells (x.vv) 25)).alloc (.cells (tabV A n c) 28)) (.cells (adrV v l) 31)
  have hbel3 : Below w.heap.size w (((w.alloc (.cells (x.vv) 25)).alloc (.cells (tabV A n c) 28)).alloc (.cells (adrV v l) 31)) := below_alloc (hbel2) _
  rw [show ((w.alloc (.cells (x.vv) 25)).alloc (.cells (tabV A n c) 28)).heap.size = w.heap.size + 2 by simp] at hblk3
  replace hblk1 := blk_below hblk1 (below_alloc (Below.refl _ _) (.cells (adrV v l) 31))
  replace hblk2 := blk_below hblk2 (below_alloc (Below.refl _ _) (.cells (adrV v l) 31))
  have HP1 := Lib.hid (cac_at hblk1)
  have HBK1 := Lib.hid hblk1
  have HP2 := Lib.hid (tab_at hblk2)
  have HBK2 := Lib.hid hblk2
  have HP3 := Lib.hid (adr_at hl hblk3)
  have HBK3 := Lib.hid hblk3
  have HBE := Lib.hid hbel3
  have HL := Lib.hid (hL.below HBE.out)
  obtain ⟨cs1, hcs1⟩ : ∃ cs, x.vv = cs := ⟨_, rfl⟩
  obtain ⟨cs2, hcs2⟩ : ∃ cs, tabV A n c = cs := ⟨_, rfl⟩
  obtain ⟨cs3, hcs3⟩ : ∃ cs, adrV v l = cs := ⟨_, rfl⟩
  simp only [hcs1, hcs2, hcs3] at HBE HL HP1 HP2 HP3 HBK1 HBK2 HBK3 ⊢
  have HC1 := Lib.hid hcs1
  have HC2 := Lib.hid hcs2
  have HC3 := Lib.hid hcs3
  clear hL hcs1 hblk1 hbel1 hcs2 hblk2 hbel2 hcs3 hblk3 hbel3
  have HE := Lib.hid (he.below HBE.out)
  have HT := Lib.hid (ht.below HBE.out)
  have OE := Lib.hid oe
  have OT1 := Lib.hid ot
  clear he ht oe ot
  go_enter Tryd.func3, Tryd.ntmps3
  go_wp2_with fail
  refine (wakes27_any _ HL.out).mono ?_
  rintro e w1 ⟨rfl, hb1⟩
  have HB1 := Lib.hid hb1
  clear hb1
  go_wp2_with (first | ((with_reducible show wpList _ _ _ (Oper.mk _ (Op.load _ _) _ _ _ _ :: _) _ _); refine wpList_load_g ((HP1.out.all _ HB1.out).cac) _ rfl rfl (by go_simp) ?_) | ((with_reducible show wpList _ _ _ (Oper.mk _ (Op.load _ _) _ _ _ _ :: _) _ _); refine wpList_load_g ((HP2.out.all _ HB1.out).1) _ rfl rfl (by go_simp) ?_) | ((with_reducible show wpList _ _ _ (Oper.mk _ (Op.buildSlice _ _ _) _ _ _ _ :: _) _ _); refine wpList_exw rfl (exec_lit1 tbK (x := .tmp 18) rfl ⟨A, n, c, t⟩ rfl trivial (by show 1 ≤ _; omega) _) ?_))
  have hcall := over_any x _ 1 1 [⟨A, n, c, t⟩] _ (OS.one tbK w1 0 ⟨A, n, c, t⟩ (Nat.zero_le _) trivial).reads (by omega)
  refine hcall.mono ?_
  clear hcall
  rintro e w2 ⟨rfl, hb2⟩
  rw [overB_one]
  have HB2 := Lib.hid (below_step (below_alloc HB1.out (.cells (tbK.enc ⟨A, n, c, t⟩).toArray tbK.t)) hb2)
  clear hb2 HB1
  by_cases h1 : 100 < x.n
  · have h1b : (decide (100 < x.n) || decide (200 < n)) = true := by rw [decide_eq_true h1]; rfl
    rw [h1b]
    go_wp2
    go_ret
    exact ⟨rfl, below_step HBE.out HB2.out⟩
  · by_cases h2 : 200 < n
    · have h1b : (decide (100 < x.n) || decide (200 < n)) = true := by rw [decide_eq_true h2, Bool.or_true]
      rw [h1b]
      go_wp2
      go_ret
      exact ⟨rfl, below_step HBE.out HB2.out⟩
    · have h1b : (decide (100 < x.n) || decide (200 < n)) = false := by rw [decide_eq_false h1, decide_eq_false h2]; rfl
      rw [h1b]
      have HN := Lib.hid (And.intro h1 h2)
      clear h1 h2 h1b
      go_wp2_with (first | ((with_reducible show wpList _ _ _ (Oper.mk _ (Op.load _ _) _ _ _ _ :: _) _ _); refine wpList_load_g ((HP1.out.all _ HB2.out).cac) _ rfl rfl (by go_simp) ?_))
      have hnn := HN.out
      refine (copiedC_any x es w2 (HE.out.below HB2.out) (by omega)).mono ?_
      rintro e w3 ⟨A3, c3, rfl, hO3, hb3⟩
      have HO3 := Lib.hid hO3.reads
      have HB3 := Lib.hid (below_step HB2.out hb3)
      have HA3 := Lib.hid (fun ad e => hO3.lt ad e)
      clear hO3 hb3 HB2
      have HB4f := Lib.hid (fun (W : World) (h : (w3.alloc (.cells cacZ.vv 25)).grownBy W (some w3.heap.size)) => below_grown (below_alloc HB3.out (.cells cacZ.vv 25)) h HB3.out.size)
      go_wp2_with (first | ((with_reducible show wpList _ _ _ (Oper.mk _ (Op.store _ _ _) _ _ _ _ :: _) _ _); refine wpList_store_blk (blk_new w3 (.cells cacZ.vv 25)) 25 0 (Cac.mk x.room x.ver A3 x.n c3 x.hits x.misses).vv (Nat.le_refl _) (info_cac _) (cac_one _) _ _ rfl rfl rfl rfl ?_; intro w4 hg9 hs9 hb9; rw [splice_cac] at hb9; have H4 := Lib.hid (And.intro hg9 hb9); clear hg9 hs9 hb9) | ((with_reducible show wpList _ _ _ (Oper.mk _ (Op.load _ _) _ _ _ _ :: _) _ _); refine wpList_load_g (load_cac H4.out.2) _ rfl rfl (by go_simp) ?_) | ((with_reducible show wpList _ _ _ (Oper.mk _ (Op.load _ _) _ _ _ _ :: _) _ _); refine wpList_load_g ((HP2.out.all _ (HB4f.out _ H4.out.1)).1) _ rfl rfl (by go_simp) ?_) | ((with_reducible show wpList _ _ _ (Oper.mk _ (Op.load _ _) _ _ _ _ :: _) _ _); refine wpList_load_g ((HP3.out.all _ (HB4f.out _ H4.out.1)).1) _ rfl rfl (by go_simp) ?_))
      have HB4 := Lib.hid (HB4f.out _ H4.out.1)
      have HO4 : Hid (RE w4 A3 x.n c3 es) := Lib.hid ((HO3.out.below (below_alloc (Below.refl _ _) (.cells cacZ.vv 25))).grown H4.out.1 (fun ad e h => by injection h with h; have := HA3.out ad e; omega))
      have HS3 := Lib.hid HB3.out.size
      clear HB4f HO3 HA3
      have hxo : (Cac.mk x.room x.ver A3 x.n c3 x.hits x.misses).ok := ⟨hx.room, hx.ver, hx.hits, hx.misses⟩
      refine (clook_any (Cac.mk x.room x.ver A3 x.n c3 x.hits x.misses) es A n c t v l w4 (HL.out.below HB4.out) HO4.out OE.out (by show x.n ≤ _; omega) (HT.out.below HB4.out) (by omega) hl hv hxo).mono ?_
      rintro e w5 ⟨y, fs, ro, fo, rfl, hO5, hF5, hI5, hb5⟩
      have hI5 : LookIs x es t v l y fs ro fo := hI5
      obtain ⟨k1, k2, k3⟩ := look_ok OE.out OT1.out hl hv hI5
      have HI5 := Lib.hid hI5
      have HFO := Lib.hid (And.intro k1 k2)
      have HFL : Hid (y.n ≤ 1000) := Lib.hid (by rw [← hO5.len]; have := HO4.out.len; omega)
      have HO5 := Lib.hid hO5
      have HB5 := Lib.hid (below_step HB4.out hb5)
      have HC5 := Lib.hid (blk_below H4.out.2 hb5)
      have HS5 := Lib.hid hb5.size
      have HF5 := Lib.hid hF5
      have HP5 := Lib.hid (HO4.out.below hb5)
      have hg4 := blk_lt H4.out.2
      rw [show lookN (Cac.mk x.room x.ver A3 x.n c3 x.hits x.misses) es t v l = lookN x es t v l from rfl]
      obtain ⟨N, hN⟩ : ∃ N, lookN x es t v l = N := ⟨_, rfl⟩
      have HNN := Lib.hid hN
      rw [hN]
      clear hO5 hF5 hI5 hb5 k1 k2 k3 hN H4
      have hbz := blk_new (w5.alloc (.cells cacZ.vv 25)) (.cells (rowV rowZ) 38)
      rw [show (w5.alloc (.cells cacZ.vv 25)).heap.size = w5.heap.size + 1 by simp] at hbz
      have hbc := blk_below (blk_new w5 (.cells cacZ.vv 25)) (below_alloc (Below.refl _ _) (.cells (rowV rowZ) 38))
      have HB6f := Lib.hid (fun (W U : World) (h : ((w5.alloc (.cells cacZ.vv 25)).alloc (.cells (rowV rowZ) 38)).grownBy W (some w5.heap.size)) (h2 : W.grownBy U (some (w5.heap.size + 1))) => below_grown (below_grown (below_alloc (below_alloc HB5.out (.cells cacZ.vv 25)) (.cells (rowV rowZ) 38)) h HB5.out.size) h2 (Nat.le_succ_of_le HB5.out.size))
      go_wp2_with (first | ((with_reducible show wpList _ _ _ (Oper.mk _ (Op.store _ _ _) _ _ _ _ :: _) _ _); refine wpList_store_blk hbc 25 0 y.vv (Nat.le_refl _) (info_cac _) (cac_one _) _ _ rfl rfl rfl rfl ?_; intro w6 hg9 hs9 hb9; rw [splice_cac] at hb9; have H6 := Lib.hid (And.intro hg9 hb9); clear hg9 hs9 hb9) | ((with_reducible show wpList _ _ _ (Oper.mk _ (Op.store _ _ _) _ _ _ _ :: _) _ _); refine wpList_store_blk (blk_grown hbz H6.out.1 (fun e => by injection e with e; omega)) 38 0 (rowV ro) (store_row_fit HFO.out.2.fits (rowV_size rowZ_fits)) (info_row HFO.out.2.fits) (rowV_one _) _ _ rfl rfl rfl rfl ?_; intro w7 hg9 hs9 hb9; rw [splice_row HFO.out.2.fits (rowV_size rowZ_fits)] at hb9; have H7 := Lib.hid (And.intro hg9 hb9); clear hg9 hs9 hb9) | ((with_reducible show wpList _ _ _ (Oper.mk _ (Op.load _ _) _ _ _ _ :: _) _ _); refine wpList_load_g ((HP1.out.all _ (HB6f.out _ _ H6.out.1 H7.out.1)).cac) _ rfl rfl (by go_simp) ?_) | ((with_reducible show wpList _ _ _ (Oper.mk _ (Op.load _ _) _ _ _ _ :: _) _ _); refine wpList_load_g ((HP2.out.all _ (HB6f.out _ _ H6.out.1 H7.out.1)).1) _ rfl rfl (by go_simp) ?_) | ((with_reducible show wpList _ _ _ (Oper.mk _ (Op.load _ _) _ _ _ _ :: _) _ _); refine wpList_load_g ((HP3.out.all _ (HB6f.out _ _ H6.out.1 H7.out.1)).1) _ rfl rfl (by go_simp) ?_))
      have HB7 := Lib.hid (HB6f.out _ _ H6.out.1 H7.out.1)
      have HG8 := Lib.hid (blk_grown H6.out.2 H7.out.1 (fun e => by injection e with e; omega))
      have HG9 := Lib.hid H7.out.2
      have HC7 := Lib.hid (blk_grown (blk_grown (blk_below HC5.out (below_alloc (below_alloc (Below.refl _ _) (.cells cacZ.vv 25)) (.cells (rowV rowZ) 38))) H6.out.1 (fun e => by injection e with e; have := HS5.out; omega)) H7.out.1 (fun e => by injection e with e; have := HS5.out; omega))
      have HO7 : Hid (RE w7 A3 x.n c3 es) := Lib.hid (RS.grownN HP5.out (RS.grownN HP5.out (HP5.out.below (below_alloc (below_alloc (Below.refl _ _) (.cells cacZ.vv 25)) (.cells (rowV rowZ) 38))) H6.out.1 (Nat.le_refl _)) H7.out.1 (Nat.le_succ _))
      have HY7 : Hid (RE w7 y.A y.n y.c fs) := Lib.hid (RS.grownN HO5.out (RS.grownN HO5.out (HO5.out.below (below_alloc (below_alloc (Below.refl _ _) (.cells cacZ.vv 25)) (.cells (rowV rowZ) 38))) H6.out.1 (Nat.le_refl _)) H7.out.1 (Nat.le_succ _))
      have hs7 := blk_lt HG9.out
      have HS7 := Lib.hid hs7
      clear HB6f H6 H7 HP5 HO5 HC5 hbz hbc hs7
      refine (reflook_any x es A n c t v l w7 (HE.out.below HB7.out) OE.out (by omega) (HT.out.below HB7.out) OT1.out (by omega) hl hv hx).mono ?_
      rintro e w8 ⟨z, gs, xe, rfl, hO8, hF8, hI8, hf8, hb8⟩
      obtain ⟨k1, k2, k3⟩ := look_same HI5.out hI8
      rw [HNN.out]
      have HSM := Lib.hid (cacSame_iff.2 k1)
      have HEQ := Lib.hid (And.intro k2 k3)
      have HO8 := Lib.hid hO8
      have HZL : Hid (z.n ≤ 1000) := Lib.hid (by rw [← hO8.len, ← k1.2.2.2.2, HY7.out.len]; exact HFL.out)
      have HZO : Hid (Oke gs) := Lib.hid (by rw [← k1.2.2.2.2]; exact HFO.out.1)
      have HXF := Lib.hid hf8
      have HB8 := Lib.hid (below_step HB7.out hb8)
      have HH8 := Lib.hid (blk_below HG8.out hb8)
      have HH9 := Lib.hid (blk_below HG9.out hb8)
      have HC8 := Lib.hid (blk_below HC7.out hb8)
      have HR8 := Lib.hid (HO7.out.below hb8)
      have HY8 := Lib.hid (HY7.out.below hb8)
      have HS8 := Lib.hid hb8.size
      clear hO8 hF8 hI8 hf8 hb8 k1 k2 k3 HG8 HG9 HC7 HO7 HY7
      have hbz := blk_new (w8.alloc (.cells cacZ.vv 25)) (.cells (entV entZ) 43)
      rw [show (w8.alloc (.cells cacZ.vv 25)).heap.size = w8.heap.size + 1 by simp] at hbz
      have hbc := blk_below (blk_new w8 (.cells cacZ.vv 25)) (below_alloc (Below.refl _ _) (.cells (entV entZ) 43))
      go_upto_region 8 with (first | ((with_reducible show wpList _ _ _ (Oper.mk _ (Op.store _ _ _) _ _ _ _ :: _) _ _); refine wpList_store_blk hbc 25 0 z.vv (Nat.le_refl _) (info_cac _) (cac_one _) _ _ rfl rfl rfl rfl ?_; intro w9 hg9 hs9 hb9; rw [splice_cac] at hb9; have H9 := Lib.hid (And.intro hg9 hb9); clear hg9 hs9 hb9) | ((with_reducible show wpList _ _ _ (Oper.mk _ (Op.store _ _ _) _ _ _ _ :: _) _ _); refine wpList_store_blk (blk_grown hbz H9.out.1 (fun e => by injection e with e; omega)) 43 0 (entV xe) (store_ent_fit HXF.out (entV_size entZ_fits)) (info_ent HXF.out) (entV_one _) _ _ rfl rfl rfl rfl ?_; intro w10 hg9 hs9 hb9; rw [splice_ent HXF.out (entV_size entZ_fits)] at hb9; have H10 := Lib.hid (And.intro hg9 hb9); clear hg9 hs9 hb9))
      have HB10 := Lib.hid (below_grown (below_grown (below_alloc (below_alloc HB8.out (.cells cacZ.vv 25)) (.cells (entV entZ) 43)) H9.out.1 HB8.out.size) H10.out.1 (Nat.le_succ_of_le HB8.out.size))
      have HK9 := Lib.hid (fun (g : Nat) (o : Obj) (hg : w8.heap[g]? = some o) => blk_grown (blk_grown (blk_below hg (below_alloc (below_alloc (Below.refl _ _) (.cells cacZ.vv 25)) (.cells (entV entZ) 43))) H9.out.1 (fun e => by injection e with e; have := blk_lt hg; omega)) H10.out.1 (fun e => by injection e with e; have := blk_lt hg; omega))
      have HKR := Lib.hid (fun (A : Option Addr) (n c : Nat) (l : List Ent) (hr : RE w8 A n c l) => RS.grownN hr (RS.grownN hr (hr.below (below_alloc (below_alloc (Below.refl _ _) (.cells cacZ.vv 25)) (.cells (entV entZ) 43))) H9.out.1 (Nat.le_refl _)) H10.out.1 (Nat.le_succ _))
      have hz12 := load_cac (blk_grown H9.out.2 H10.out.1 (fun e => by injection e with e; omega))
      have he13 := (ent_at HXF.out H10.out.2).all w10 (Below.refl _ _)
      have he13r := he13.row.row
      have he13f := (ent_at HXF.out H10.out.2).found w10 (Below.refl _ _)
      have hy8 := load_cac (HK9.out _ _ HH8.out)
      have hr9 := Shape.ld rowK w10 _ 0 _ HFO.out.2.fits (cells_blk (HK9.out _ _ HH9.out))
      rw [← HEQ.out.1] at he13r
      rw [← HEQ.out.2] at he13f
      clear hbz hbc he13
      go_wp2_with (first | ((with_reducible show wpList _ _ _ (Oper.mk _ (Op.load _ _) _ _ _ _ :: _) _ _); refine wpList_load_g hr9 _ rfl rfl (by go_simp) ?_) | ((with_reducible show wpList _ _ _ (Oper.mk _ (Op.load _ _) _ _ _ _ :: _) _ _); refine wpList_load_g he13r _ rfl rfl (by go_simp) ?_) | ((with_reducible show wpList _ _ _ (Oper.mk _ (Op.load _ _) _ _ _ _ :: _) _ _); refine wpList_load_g he13f _ rfl rfl (by go_simp) ?_) | ((with_reducible show wpList _ _ _ (Oper.mk _ (Op.load _ _) _ _ _ _ :: _) _ _); refine wpList_load_g hy8 _ rfl rfl (by go_simp) ?_) | ((with_reducible show wpList _ _ _ (Oper.mk _ (Op.load _ _) _ _ _ _ :: _) _ _); refine wpList_load_g hz12 _ rfl rfl (by go_simp) ?_) | ((with_reducible show wpList _ _ _ (Oper.mk _ (Op.binOp _ _ _ _ _) _ _ _ _ :: _) _ _); refine wpList_exw rfl (row_self_exec rfl ro rfl rfl HFO.out.2 _) ?_))
      refine (refcsame_any y fs z gs w10 (HKR.out _ _ _ _ HY8.out) (HKR.out _ _ _ _ HO8.out) HFO.out.1 HZO.out (Nat.le_trans HFL.out (by decide)) (Nat.le_trans HZL.out (by decide))).mono ?_
      rintro e w11 ⟨rfl, hb11⟩
      rw [HSM.out]
      have HB11 := Lib.hid (below_step HB10.out hb11)
      have HR11 := Lib.hid ((HKR.out _ _ _ _ HR8.out).below hb11)
      have hc7 := load_cac (blk_below (HK9.out _ _ HC8.out) hb11)
      clear hb11 hr9 he13r he13f hy8 hz12
      go_wp2_with (first | ((with_reducible show wpList _ _ _ (Oper.mk _ (Op.load _ _) _ _ _ _ :: _) _ _); refine wpList_load_g hc7 _ rfl rfl (by go_simp) ?_) | ((with_reducible show wpList _ _ _ (Oper.mk _ (Op.load _ _) _ _ _ _ :: _) _ _); refine wpList_load_g ((HP1.out.all _ HB11.out).cac) _ rfl rfl (by go_simp) ?_))
      have hsame : cacSame (Cac.mk x.room x.ver A3 x.n c3 x.hits x.misses) es x es = true := cacSame_iff.2 ⟨rfl, rfl, rfl, rfl, rfl⟩
      refine (refcsame_any (Cac.mk x.room x.ver A3 x.n c3 x.hits x.misses) es x es w11 HR11.out (HE.out.below HB11.out) OE.out OE.out (by show x.n ≤ _; omega) (by omega)).mono ?_
      rintro e w12 ⟨rfl, hb12⟩
      rw [hsame]
      have HB12 := Lib.hid (below_step HB11.out hb12)
      clear hb12 hc7
      go_wp2
      go_ret
      exact ⟨rfl, below_step HBE.out HB12.out⟩
end Go.Proofs.YtihfaknflfmohaaDoor

/- Layer 27 (cache): Clear (and without, with its closure). -/
namespace Go.Proofs.YtihfaknflfmohaaDoor
open Go.RowKit
set_option linter.unusedVariables false
set_option linter.unusedSimpArgs false
set_option maxRecDepth 4000
theorem idx_cases {α : Type} (q : α → Bool) (t : List α) : (idxE q t = -1 ∧ (t.filter fun e => !q e) = t) ∨ ∃ i, i < t.length ∧ idxE q t = ((i : Nat) : Int) ∧ (t.take (i + 1)).filter (fun e => !q e) = t.take i := by
  unfold idxE
  cases h : t.findIdx? q with
  | none =>
    rw [List.findIdx?_eq_none_iff] at h
    refine .inl ⟨rfl, ?_⟩
    rw [List.filter_eq_self]
    intro e he
    rw [h e he]
    rfl
  | some i =>
    rw [List.findIdx?_eq_some_iff_getElem] at h
    obtain ⟨hi, h1, h2⟩ := h
    refine .inr ⟨i, hi, rfl, ?_⟩
    rw [List.take_add_one, List.getElem?_eq_getElem hi, List.filter_append]
    have e1 : (t.take i).filter (fun e => !q e) = t.take i := by
      rw [List.filter_eq_self]
      intro e he
      obtain ⟨k, hk, rfl⟩ := List.getElem_of_mem he
      rw [List.length_take] at hk
      rw [List.getElem_take]
      have := h2 k (by omega)
      simpa using this
    rw [e1]
    simp [h1]
theorem at_drop_eq {α : Type} {S : Shape α} {cur t : List α} {j : Nat} (h : cur.drop j = t.drop j) (h1 : j < cur.length) (h2 : j < t.length) : S.at_ cur j = S.at_ t j := by
  have e := congrArg (fun z => z[0]?) h
  simp only [List.getElem?_drop, Nat.add_zero] at e
  rw [Shape.at_get (S := S) h1, Shape.at_get (S := S) h2] at e
  exact Option.some.inj e
theorem filter_step {α : Type} {S : Shape α} {p : α → Bool} {t : List α} {j : Nat} (h : j < t.length) : (t.take (j + 1)).filter p = (t.take j).filter p ++ (if p (S.at_ t j) = true then [S.at_ t j] else []) := by
  rw [Shape.take_succ (S := S) h, List.filter_append]
  congr 1
  by_cases hp : p (S.at_ t j) = true
  · rw [if_pos hp, List.filter_cons_of_pos hp]
    rfl
  · rw [if_neg hp, List.filter_cons_of_neg hp]
    rfl
theorem drop_more {α : Type} {cur t : List α} {j : Nat} (h : cur.drop j = t.drop j) : cur.drop (j + 1) = t.drop (j + 1) := by
  have e1 : cur.drop (j + 1) = (cur.drop j).drop 1 := by rw [List.drop_drop]
  have e2 : t.drop (j + 1) = (t.drop j).drop 1 := by rw [List.drop_drop]
  rw [e1, e2, h]
theorem put_take {α : Type} {cur : List α} {v : α} {i : Nat} (h : i ≤ cur.length) : (cur.take i ++ [v] ++ cur.drop (i + 1)).take (i + 1) = cur.take i ++ [v] :=
  List.take_left' (by rw [List.length_append, List.length_take, List.length_singleton]; omega)
theorem put_drop {α : Type} {cur t : List α} {v : α} {i j : Nat} (h : cur.drop j = t.drop j) (hij : i < j) (hj : i ≤ cur.length) : (cur.take i ++ [v] ++ cur.drop (i + 1)).drop (j + 1) = t.drop (j + 1) := by
  have hl : (cur.take i ++ [v]).length = i + 1 := by rw [List.length_append, List.length_take, List.length_singleton]; omega
  rw [List.drop_append, List.drop_of_length_le (by omega), hl, List.nil_append, List.drop_drop]
  rw [show i + 1 + (j + 1 - (i + 1)) = j + 1 by omega]
  exact drop_more h
theorem cclear1_any (e : Ent) (w : World) (he : e.fits) : Calls Tryd.prog 80 #[.agg (entV e), ] w fun x w' => x = .returned (.bool true) ∧ Below w.heap.size w w' := by
  have hblk1 := blk_new w (.cells (entV e) 43)
  have hbel1 : Below w.heap.size w (w.alloc (.cells (entV e) 43)) := below_alloc (Below.refl _ _) _
  have HP1 := Lib.hid (ent_at he hblk1)
  have HBK1 := Lib.hid hblk1
  have HBE := Lib.hid hbel1
  obtain ⟨cs1, hcs1⟩ : ∃ cs, entV e = cs := ⟨_, rfl⟩
  simp only [hcs1] at HBE HP1 HBK1 ⊢
  have HC1 := Lib.hid hcs1
  clear hcs1 hblk1 hbel1
  go_enter Tryd.func80, Tryd.ntmps80
  go_wp2
  go_ret
  exact ⟨rfl, HBE.out⟩
set_option maxHeartbeats 1000000 in
theorem indexfC_any (A : Option Addr) (n c : Nat) (t : List Ent) (w : World)  (hr : RS entK w A n c t) (hn : n ≤ 1000000) (q : Ent → Bool)
    (hq : ∀ i, i < n → ∀ w1, Below w.heap.size w w1 → Calls Tryd.prog 80 #[entK.val (entK.at_ t i), ] w1 fun e w2 => e = .returned (.bool (q (entK.at_ t i))) ∧ Below w1.heap.size w1 w2) :
    Calls Tryd.prog 101 #[.slice A n c, .func (Fn.func 80) #[] #[]] w fun e w' => e = .returned (.int .i64 (idxE q t)) ∧ Below w.heap.size w w' := by
  have HR := Lib.hid hr
  have HQ := Lib.hid hq
  clear hr hq
  go_enter Tryd.func101, Tryd.ntmps101
  go_wp2_with fail
  go_loopw [8] (fun x wr => ∃ i : Nat, x = .int .i64 i ∧ Hid (i ≤ n ∧ (∀ k, k < i → q (entK.at_ t k) = false) ∧ Below w.heap.size w wr)) (fun x _ => n - (intOf x).toNat)
  case atStart => exact ⟨0, rfl, Nat.zero_le _, fun k h => by omega, Below.refl _ _⟩
  case round =>
    obtain ⟨i, rfl, HH⟩ := hrel
    by_cases hlt : i < n
    · have hlt' : (i : Int) < n := by omega
      obtain ⟨b, o, rfl, hc⟩ := RS.at_ HR.out (by omega)
      have hld := Shape.ld entK wr b _ _ (RS.fits_at HR.out hlt) ((hc i hlt).below HH.out.2.2)
      have HIL := Lib.hid (show i < t.length by rw [HR.out.len]; exact hlt)
      clear hc
      go_wp2_with (first | ((with_reducible show wpList _ _ _ (Oper.mk _ (Op.load _ _) _ _ _ _ :: _) _ _); refine wpList_load_g hld _ rfl rfl (by go_simp) ?_))
      refine (HQ.out i hlt wr HH.out.2.2).mono ?_
      rintro e w2 ⟨rfl, hb2⟩
      have HB2 := Lib.hid (below_step HH.out.2.2 hb2)
      clear hb2 hld
      cases hqq : q (entK.at_ t i) with
      | true =>
        have HE : Hid (idxE q t = (i : Int)) := Lib.hid (idxE_at (S := entK) HIL.out hqq HH.out.2.1)
        clear hqq
        go_wp2
        go_ret
        rw [HE.out]
        exact ⟨rfl, HB2.out⟩
      | false =>
        have HN := Lib.hid hqq
        clear hqq
        go_wp2_with fail
        go_roundw
        case measure => simp [intOf]; omega
        case rel =>
          refine ⟨i + 1, by go_num, by omega, fun k hk => ?_, HB2.out⟩
          by_cases hki : k < i
          · exact HH.out.2.1 k hki
          · rw [show k = i by omega]; exact HN.out
    · have hlt' : decide (i < n) = false := decide_eq_false hlt
      have HE : Hid (idxE q t = -1) := Lib.hid (idxE_none (S := entK) (fun k hk => HH.out.2.1 k (by rw [HR.out.len] at hk; omega)))
      clear hlt
      go_wp2
      go_ret
      rw [HE.out]
      exact ⟨rfl, HH.out.2.2⟩
set_option maxHeartbeats 2000000 in
theorem deletefC_any (base : Nat) (A : Option Addr) (n c : Nat) (t : List Ent) (w : World)  (ho : OS entK w base A n c t) (hn : n ≤ 1000000) (q : Ent → Bool)
    (hq : ∀ e, e ∈ t → ∀ w1, w.grownBy w1 ((Value.slice A n c).ownBlock) → Calls Tryd.prog 80 #[entK.val e, ] w1 fun r w2 => r = .returned (.bool (q e)) ∧ Below w1.heap.size w1 w2) :
    Calls Tryd.prog 108 #[.slice A n c, .func (Fn.func 80) #[] #[]] w fun r w' => ∃ k, r = .returned (.slice A k c) ∧ OS entK w' base A k c (t.filter fun e => !q e) ∧ w.grownBy w' ((Value.slice A n c).ownBlock) := by
  have HO := Lib.hid ho
  have HQ := Lib.hid hq
  have hlen := ho.len
  have hcap := ho.cap
  have hcmax : c ≤ 9223372036854775807 := ho.ov.capmax
  clear ho hq
  go_enter Tryd.func108, Tryd.ntmps108
  go_wp2_with fail
  refine (indexfC_any A n c t w  HO.out.reads hn q (fun i hi w1 hb => HQ.out _ (List.mem_of_getElem? (Shape.at_get (S := entK) (by rw [hlen]; exact hi))) w1 (grown_of_below hb _))).mono ?_
  rintro e w1 ⟨rfl, hb1⟩
  have HB1 := Lib.hid hb1
  clear hb1
  rcases idx_cases q t with hm | ⟨i, hi, hm, hpre⟩
  · rw [hm.1]
    have HF := Lib.hid hm.2
    clear hm
    go_wp2
    go_ret
    exact ⟨n, rfl, by rw [HF.out]; exact HO.out.below HB1.out, grown_of_below HB1.out _⟩
  · rw [hm]
    have HPRE := Lib.hid hpre
    have hin : i < n := by rw [← hlen]; exact hi
    obtain ⟨b, o, rfl, -⟩ := RS.at_ HO.out.reads (by omega)
    have hiv : ((i : Int) == -1) = false := by simp
    have hi1 : IntKind.i64.wrap ((i : Int) + 1) = i + 1 := IntWalk.i64_in _ (by omega)
    have HO1 := Lib.hid (HO.out.below HB1.out)
    have hblt : b < w.heap.size := HO.out.lt _ rfl
    have HBL := Lib.hid (show b < w1.heap.size from Nat.lt_of_lt_of_le hblt HB1.out.size)
    clear hm hpre hi hblt
    go_wp2_with fail
    clear hi1 hiv
    go_loopw [5, 6] (fun s5 s6 wr => ∃ (i j : Nat) (cur : List Ent), s5 = .int .i64 i ∧ s6 = .int .i64 j ∧ Hid (i < j ∧ j ≤ n ∧ OS entK wr base (some ⟨b, o, none⟩) n c cur ∧ cur.take i = (t.take j).filter (fun e => !q e) ∧ cur.drop j = t.drop j ∧ w.grownBy wr (some b) ∧ w1.heap.size ≤ wr.heap.size)) (fun _ y _ => n - (intOf y).toNat)
    case atStart => exact ⟨i, i + 1, t, rfl, by go_num, by omega, by omega, HO1.out, HPRE.out.symm, rfl, grown_of_below HB1.out _, Nat.le_refl _⟩
    case round =>
      obtain ⟨i, j, cur, rfl, rfl, HI⟩ := hrel
      have hij := HI.out.1
      by_cases hlt : j < n
      · have hlt' : (j : Int) < n := by omega
        have hcl := HI.out.2.2.1.len
        obtain ⟨b2, o2, hbo, hc⟩ := RS.at_ HI.out.2.2.1.reads (by omega)
        obtain ⟨rfl, rfl⟩ : b = b2 ∧ o = o2 := by injection hbo with hbo; injection hbo with h1 h2; exact ⟨h1, h2⟩
        have HF := Lib.hid (RS.fits_at HI.out.2.2.1.reads hlt)
        have hld := Shape.ld entK wr b _ _ (RS.fits_at HI.out.2.2.1.reads hlt) (hc j hlt)
        have hjt : entK.at_ cur j = entK.at_ t j := at_drop_eq HI.out.2.2.2.2.1 (by rw [hcl]; exact hlt) (by rw [hlen]; exact hlt)
        obtain ⟨e, he⟩ : ∃ e, entK.at_ cur j = e := ⟨_, rfl⟩
        have HMEM : Hid (e ∈ t) := Lib.hid (by rw [← he, hjt]; exact List.mem_of_getElem? (Shape.at_get (S := entK) (by rw [hlen]; exact hlt)))
        have HSTEP := Lib.hid (filter_step (S := entK) (p := fun e => !q e) (t := t) (j := j) (by rw [hlen]; exact hlt))
        rw [← hjt, he] at HSTEP
        rw [he] at hld HF
        have hld : (Instr.loadAt 43 (.pointer (some ⟨b, o + j * 37, none⟩))).run Tryd.prog wr = .ok (entK.val e) wr := hld
        clear hc hbo hjt
        go_wp2_with (first | ((with_reducible show wpList _ _ _ (Oper.mk _ (Op.load _ _) _ _ _ _ :: _) _ _); refine wpList_load_g hld _ rfl rfl (by go_simp) ?_) | ((with_reducible show wpList _ _ _ (Oper.mk _ (Op.store _ _ _) _ _ _ _ :: _) _ _); refine wpList_store_blk (blk_new wr _) 43 0 (entV e) (store_ent_fit HF.out rfl) (info_ent HF.out) (entV_one _) _ _ rfl rfl rfl rfl ?_; intro w3 hg9 hs9 hb9; rw [splice_ent HF.out rfl] at hb9; have H3 := Lib.hid (And.intro hg9 hb9); clear hg9 hs9 hb9) | ((with_reducible show wpList _ _ _ (Oper.mk _ (Op.load _ _) _ _ _ _ :: _) _ _); refine wpList_load_g ((Shape.ld entK w3 _ 0 _ HF.out (cells_blk H3.out.2))) _ rfl rfl (by go_simp) ?_))
        have HB3 := Lib.hid (below_grown (below_alloc (Below.refl wr.heap.size wr) (.cells (entV entZ) 43)) H3.out.1 (Nat.le_refl _))
        refine (HQ.out e HMEM.out w3 (grown_trans HI.out.2.2.2.2.2.1 (grown_of_below HB3.out _))).mono ?_
        rintro r w4 ⟨rfl, hb4⟩
        have HB4 := Lib.hid (below_step HB3.out hb4)
        have HX4 := Lib.hid (blk_below H3.out.2 hb4)
        have HO4 := Lib.hid (HI.out.2.2.1.below HB4.out)
        have HG4 := Lib.hid (grown_trans HI.out.2.2.2.2.2.1 (grown_of_below HB4.out (some b)))
        have HS4 := Lib.hid (Nat.le_trans HI.out.2.2.2.2.2.2 HB4.out.size)
        clear hb4 hld
        cases hqe : q e with
        | true =>
          have HST : Hid ((t.take (j + 1)).filter (fun e => !q e) = (t.take j).filter (fun e => !q e)) := Lib.hid (by rw [HSTEP.out, if_neg (by rw [hqe]; decide), List.append_nil])
          clear hqe
          go_wp2_with fail
          go_roundw
          case measure => simp [intOf]; omega
          case rel => exact ⟨i, j + 1, cur, rfl, by go_num, by omega, by omega, HO4.out, by rw [HST.out]; exact HI.out.2.2.2.1, drop_more HI.out.2.2.2.2.1, HG4.out, HS4.out⟩
        | false =>
          have HST : Hid ((t.take (j + 1)).filter (fun e => !q e) = (t.take j).filter (fun e => !q e) ++ [e]) := Lib.hid (by rw [HSTEP.out, if_pos (by rw [hqe]; rfl)])
          clear hqe
          have hin2 : (i : Int) < n := by omega
          have hi2 : IntKind.i64.wrap ((i : Int) + 1) = i + 1 := IntWalk.i64_in _ (by omega)
          go_wp2_with (first | ((with_reducible show wpList _ _ _ (Oper.mk _ (Op.load _ _) _ _ _ _ :: _) _ _); refine wpList_load_g ((Shape.ld entK w4 _ 0 _ HF.out (cells_blk HX4.out))) _ rfl rfl (by go_simp) ?_) | ((with_reducible show wpList _ _ _ (Oper.mk _ (Op.store _ _ _) _ _ _ _ :: _) _ _); refine wpList_store_elem HO4.out i (by omega) e HF.out rfl _ _ rfl rfl rfl rfl ?_; intro w5 hg5 hs5 ho5; have H5 := Lib.hid (And.intro hg5 (And.intro hs5 ho5)); clear hg5 hs5 ho5))
          go_roundw
          case measure => simp [intOf]; omega
          case rel =>
            have hl2 := HI.out.2.2.2.1
            exact ⟨i + 1, j + 1, _, by go_num, by go_num, by omega, by omega, H5.out.2.2, by rw [HST.out, ← hl2]; exact put_take (by omega), put_drop HI.out.2.2.2.2.1 (by omega) (by omega), grown_trans HG4.out H5.out.1, by rw [H5.out.2.1]; exact HS4.out⟩
      · have hlt' : decide (j < n) = false := decide_eq_false hlt
        have hjn : j = n := by have := HI.out.2.1; omega
        have HE : Hid (cur.take i = t.filter (fun e => !q e)) := Lib.hid (by
          have := HI.out.2.2.2.1
          rwa [hjn, ← hlen, List.take_length] at this)
        have HT := Lib.hid (HI.out.2.2.1.take i c (by omega) (by omega) (Nat.le_refl _))
        obtain ⟨D, hD⟩ : ∃ D, (if c = i then some (⟨b, o, none⟩ : Addr) else some ((⟨b, o, none⟩ : Addr).add (i * 37))) = D := ⟨_, rfl⟩
        have hcut : ∀ W : World, (Instr.slice 23 (.slice (some ⟨b, o, none⟩) n c) (some (.int .i64 (i : Int))) none none).run Tryd.prog W = .ok (.slice D (n - i) (c - i)) W := fun W => by
          rw [← hD]
          exact cutL entK (some ⟨b, o, none⟩) n c _ i rfl (by omega) W
        have hcut2 : ∀ W : World, (Instr.slice 23 (.slice (some ⟨b, o, none⟩) n c) none (some (.int .i64 (i : Int))) none).run Tryd.prog W = .ok (.slice (some ⟨b, o, none⟩) i c) W := fun W => cutH entK (some ⟨b, o, none⟩) n c _ i rfl (by omega) W
        obtain ⟨w6, hr2, hO6, hg6⟩ := run_clear_shp entK wr 23 ⟨b, o, none⟩ i c (n - i) _ HT.out (by omega) (d := D) hD.symm (c - i)
        have H6 := Lib.hid (And.intro hO6 hg6)
        clear hO6 hg6 hD hjn hlt
        go_wp2_with (refine wpList_exec rfl (exec_clear (.tmp 38) _ rfl rfl hr2) ?_)
        go_ret
        exact ⟨i, rfl, by rw [← HE.out]; exact H6.out.1, grown_trans HI.out.2.2.2.2.2.1 H6.out.2⟩
set_option maxHeartbeats 2000000 in
theorem cwithoutC_any (x : Cac) (es : List Ent) (ver : Int) (w : World)  (hre : RE w x.A x.n x.c es) (hn : x.n ≤ 100000) (q : Ent → Bool)
    (hq : ∀ e, e ∈ es → ∀ w1, Below w.heap.size w w1 → Calls Tryd.prog 80 #[.agg (entV e), ] w1 fun r w2 => r = .returned (.bool (q e)) ∧ Below w1.heap.size w1 w2) :
    Calls Tryd.prog 79 #[.agg x.vv, .int .u64 ver, .func (Fn.func 80) #[] #[]] w fun r w' => ∃ A' k c', r = .returned (.agg (Cac.vv ⟨x.room, ver, A', k, c', x.hits, x.misses⟩)) ∧ RE w' A' k c' (es.filter fun e => !q e) ∧ (∀ ad, A' = some ad → w.heap.size ≤ ad.block) ∧ Below w.heap.size w w' := by
  have HQ := Lib.hid hq
  clear hq
  have hblk1 := blk_new w (.cells (x.vv) 25)
  have hbel1 : Below w.heap.size w (w.alloc (.cells (x.vv) 25)) := below_alloc (Below.refl _ _) _
  have HP1 := Lib.hid (cac_at hblk1)
  have HBK1 := Lib.hid hblk1
  have HBE := Lib.hid hbel1
  obtain ⟨cs1, hcs1⟩ : ∃ cs, x.vv = cs := ⟨_, rfl⟩
  simp only [hcs1] at HBE HP1 HBK1 ⊢
  have HC1 := Lib.hid hcs1
  clear hcs1 hblk1 hbel1
  have HE := Lib.hid (hre.below HBE.out)
  have hs : (w.alloc (.cells cs1 25)).heap.size = w.heap.size + 1 := by simp
  obtain ⟨W1, hW1⟩ : ∃ W1, (w.alloc (.cells cs1 25)).alloc (.cells #[.int .i64 0, .int .u64 0, .slice none 0 0, .int .u64 0, .int .u64 0] 25) = W1 := ⟨_, rfl⟩
  have HZ : Hid (W1.heap[w.heap.size + 1]? = some (.cells cacZ.vv 25 (0, 0))) := Lib.hid (by
    rw [← hW1, ← hs]
    exact blk_new _ _)
  have HB1 : Hid (Below (w.alloc (.cells cs1 25)).heap.size (w.alloc (.cells cs1 25)) W1) := Lib.hid (hW1 ▸ below_alloc (Below.refl _ _) _)
  have HK : Hid (W1.heap[w.heap.size]? = some (.cells x.vv 25 (0, 0))) := Lib.hid (blk_below (by rw [HC1.out]; exact HBK1.out) HB1.out)
  have hl1 := (HP1.out.all _ HB1.out).ents
  clear hre hs
  go_enter Tryd.func79, Tryd.ntmps79
  go_wp2_with (first | ((with_reducible show wpList _ _ _ (Oper.mk _ (Op.load _ _) _ _ _ _ :: _) _ _); refine wpList_load_g hl1 _ rfl rfl (by go_simp) ?_))
  refine (cloneE_any x.A x.n x.c es W1 (HE.out.below HB1.out) (by omega)).mono ?_
  rintro r w2 ⟨A2, c2, rfl, hO2, hb2⟩
  have HO2 := Lib.hid hO2
  have HB2 := Lib.hid (below_step HBE.out (below_step HB1.out hb2))
  have HK2 := Lib.hid (blk_below HK.out hb2)
  have HZ2 := Lib.hid (blk_below HZ.out hb2)
  have HZL := Lib.hid (blk_lt HZ.out)
  clear hO2 hb2 hl1 HK HZ
  go_wp2_with fail
  refine (deletefC_any W1.heap.size A2 x.n c2 es w2  HO2.out (by omega) q (fun e he w1 hg => HQ.out e he w1 (below_own HB2.out hg (fun ad h => by have := HO2.out.base_ ad h; have := HZL.out; omega)))).mono ?_
  rintro r w3 ⟨k, rfl, hO3, hg3⟩
  have HO3 := Lib.hid hO3
  have hb := HO2.out.base_
  have hzl := HZL.out
  have HB3 := Lib.hid (below_own HB2.out hg3 (fun ad h => by have := hb ad h; omega))
  have HK3 := Lib.hid (blk_ownC HK2.out hg3 (fun ad h => by have := hb ad h; omega))
  have HZ3 := Lib.hid (blk_ownC HZ2.out hg3 (fun ad h => by have := hb ad h; omega))
  clear hO3 hg3 HK2 HZ2
  go_wp2_with (first | ((with_reducible show wpList _ _ _ (Oper.mk _ (Op.store _ _ _) _ _ _ _ :: _) _ _); refine wpList_store_cell HK3.out 23 2 (.slice A2 k c2) (by show 2 < 5; omega) (by kernel_rfl) rfl rfl _ _ rfl rfl rfl rfl ?_; intro w4 hg9 hs9 hb9; have H4 := Lib.hid (And.intro hg9 (show (World.heap w4)[(w.heap.size)]? = some (.cells (Cac.vv ⟨x.room, x.ver, A2, k, c2, x.hits, x.misses⟩) 25 (0, 0)) from hb9)); clear hg9 hs9 hb9) | ((with_reducible show wpList _ _ _ (Oper.mk _ (Op.store _ _ _) _ _ _ _ :: _) _ _); refine wpList_store_cell H4.out.2 22 1 (.int .u64 ver) (by show 1 < 5; omega) (by kernel_rfl) rfl rfl _ _ rfl rfl rfl rfl ?_; intro w5 hg9 hs9 hb9; have H5 := Lib.hid (And.intro hg9 (show (World.heap w5)[(w.heap.size)]? = some (.cells (Cac.vv ⟨x.room, ver, A2, k, c2, x.hits, x.misses⟩) 25 (0, 0)) from hb9)); clear hg9 hs9 hb9) | ((with_reducible show wpList _ _ _ (Oper.mk _ (Op.load _ _) _ _ _ _ :: _) _ _); refine wpList_load_g (load_cac H5.out.2) _ rfl rfl (by go_simp) ?_) | ((with_reducible show wpList _ _ _ (Oper.mk _ (Op.store _ _ _) _ _ _ _ :: _) _ _); refine wpList_store_blk (blk_grown (blk_grown HZ3.out H4.out.1 (by simp)) H5.out.1 (by simp)) 25 0 (Cac.mk x.room ver A2 k c2 x.hits x.misses).vv (Nat.le_refl _) (info_cac _) (cac_one _) _ _ rfl rfl rfl rfl ?_; intro w6 hg9 hs9 hb9; rw [splice_cac] at hb9; have H6 := Lib.hid (And.intro hg9 hb9); clear hg9 hs9 hb9))
  refine bodyPost_ret (results_c1 rfl rfl (load_cac H6.out.2)) rfl ?_
  have hb3 := HO3.out.base_
  refine ⟨A2, k, c2, rfl, ?_, fun ad h => by have := hb3 ad h; omega, below_grown (below_grown (below_grown HB3.out H4.out.1 (by omega)) H5.out.1 (by omega)) H6.out.1 (by omega)⟩
  exact ((HO3.out.reads.grown H4.out.1 (fun ad e h => by have := hb3 ad e; injection h with h; omega)).grown H5.out.1 (fun ad e h => by have := hb3 ad e; injection h with h; omega)).grown H6.out.1 (fun ad e h => by have := hb3 ad e; injection h with h; omega)
end Go.Proofs.YtihfaknflfmohaaDoor

/- Prefixes as elements of a slice (18 cells). -/
namespace Go.Proofs.YtihfaknflfmohaaDoor
open Go.RowKit
set_option linter.unusedVariables false
set_option linter.unusedSimpArgs false
set_option maxRecDepth 4000
def pfxC (p : Pfx) : List Value := .int .i64 p.v :: (nums .u8 p.l ++ [.int .i64 p.b])
theorem pfxC_len {p : Pfx} (h : B16 p.l) : (pfxC p).length = 18 := by simp [pfxC, nums, h.len]
theorem pfxC_one (p : Pfx) : ∀ u ∈ pfxC p, u.oneCell' = true := by
  intro u hu
  simp only [pfxC, List.mem_cons, List.mem_append, List.not_mem_nil, or_false] at hu
  rcases hu with rfl | hu | rfl
  · rfl
  · exact nums_one _ _ u hu
  · rfl
def pfxZ : Pfx := ⟨0, zero16, 0⟩
theorem zero_pfx : (Tryd.prog.info? 36).map (fun i => (i.zero, i.size, i.bytes)) = some (some (.agg (pfxV 0 zero16 0)), 18, 32) := by kernel_rfl
def pfxK : Shape Pfx where
  t := 36
  ts := 86
  sz := 18
  bytes := 32
  z := pfxZ
  ok := fun p => B16 p.l
  enc := pfxC
  val := fun p => .agg (pfxV p.v p.l p.b)
  len := fun _ h => pfxC_len h
  one := pfxC_one
  okz := zero16_B
  pos := by omega
  bpos := by omega
  blt := by omega
  und := Tryd.underlying86
  info := zero_pfx
  venc := fun _ => rfl
  ld := fun _ _ _ r hr h => load_cells (cs := pfxV r.v r.l r.b) h Tryd.underlying36 rfl (info_pfx hr.len)
end Go.Proofs.YtihfaknflfmohaaDoor

/- Layer 27 (cache): Move's closures. -/
namespace Go.Proofs.YtihfaknflfmohaaDoor
open Go.RowKit
set_option linter.unusedVariables false
set_option linter.unusedSimpArgs false
set_option maxRecDepth 4000
theorem cmove11_any (p : Pfx) (e : Ent) (g : Nat) (w : World) (hL : Laid w) (hp : B16 p.l) (heo : e.fits) (ha : EntAt w g e) : Calls Tryd.prog 83 #[.agg (pfxV p.v p.l p.b), .pointer (some ⟨g, 0, none⟩)] w fun x w' => x = .returned (.bool (p.has e.v e.l)) ∧ Below w.heap.size w w' := by
  have HA := Lib.hid ((ha.all (w.alloc (.cells (pfxV p.v p.l p.b) 36)) (below_alloc (Below.refl _ _) _)).adr)
  have HPE := Lib.hid heo
  have hblk1 := blk_new w (.cells (pfxV p.v p.l p.b) 36)
  have hbel1 : Below w.heap.size w (w.alloc (.cells (pfxV p.v p.l p.b) 36)) := below_alloc (Below.refl _ _) _
  have HP1 := Lib.hid (pfx_at hp hblk1)
  have HBK1 := Lib.hid hblk1
  have HBE := Lib.hid hbel1
  have HL := Lib.hid (hL.below HBE.out)
  obtain ⟨cs1, hcs1⟩ : ∃ cs, pfxV p.v p.l p.b = cs := ⟨_, rfl⟩
  simp only [hcs1] at HBE HL HP1 HBK1 ⊢
  have HC1 := Lib.hid hcs1
  clear hL hcs1 hblk1 hbel1
  have hl1 := (HP1.out.all _ (Below.refl _ _)).2.2.2.2
  have hl2 := HA.out
  rw [HC1.out] at hl2
  clear ha HA
  go_enter Tryd.func83, Tryd.ntmps83
  go_wp2_with (first | ((with_reducible show wpList _ _ _ (Oper.mk _ (Op.load _ _) _ _ _ _ :: _) _ _); refine wpList_load_g hl1 _ rfl rfl (by go_simp) ?_) | ((with_reducible show wpList _ _ _ (Oper.mk _ (Op.load _ _) _ _ _ _ :: _) _ _); refine wpList_load_g hl2 _ rfl rfl (by go_simp) ?_))
  refine (has_any p e.v e.l _ HL.out hp HPE.out.l).mono ?_
  rintro x w1 ⟨rfl, hb1⟩
  have HB1 := Lib.hid (below_step HBE.out hb1)
  clear hb1
  go_wp2
  go_ret
  exact ⟨rfl, HB1.out⟩
set_option maxHeartbeats 1000000 in
theorem indexfV_any (A : Option Addr) (n c : Nat) (t : List Pfx) (w : World) (g : Nat) (hr : RS pfxK w A n c t) (hn : n ≤ 1000000) (q : Pfx → Bool)
    (hq : ∀ i, i < n → ∀ w1, Below w.heap.size w w1 → Calls Tryd.prog 83 #[pfxK.val (pfxK.at_ t i), .pointer (some ⟨g, 0, none⟩)] w1 fun e w2 => e = .returned (.bool (q (pfxK.at_ t i))) ∧ Below w1.heap.size w1 w2) :
    Calls Tryd.prog 110 #[.slice A n c, .func (Fn.func 83) #[] #[.pointer (some ⟨g, 0, none⟩)]] w fun e w' => e = .returned (.int .i64 (idxE q t)) ∧ Below w.heap.size w w' := by
  have HR := Lib.hid hr
  have HQ := Lib.hid hq
  clear hr hq
  go_enter Tryd.func110, Tryd.ntmps110
  go_wp2_with fail
  go_loopw [8] (fun x wr => ∃ i : Nat, x = .int .i64 i ∧ Hid (i ≤ n ∧ (∀ k, k < i → q (pfxK.at_ t k) = false) ∧ Below w.heap.size w wr)) (fun x _ => n - (intOf x).toNat)
  case atStart => exact ⟨0, rfl, Nat.zero_le _, fun k h => by omega, Below.refl _ _⟩
  case round =>
    obtain ⟨i, rfl, HH⟩ := hrel
    by_cases hlt : i < n
    · have hlt' : (i : Int) < n := by omega
      obtain ⟨b, o, rfl, hc⟩ := RS.at_ HR.out (by omega)
      have hld := Shape.ld pfxK wr b _ _ (RS.fits_at HR.out hlt) ((hc i hlt).below HH.out.2.2)
      have HIL := Lib.hid (show i < t.length by rw [HR.out.len]; exact hlt)
      clear hc
      go_wp2_with (first | ((with_reducible show wpList _ _ _ (Oper.mk _ (Op.load _ _) _ _ _ _ :: _) _ _); refine wpList_load_g hld _ rfl rfl (by go_simp) ?_))
      refine (HQ.out i hlt wr HH.out.2.2).mono ?_
      rintro e w2 ⟨rfl, hb2⟩
      have HB2 := Lib.hid (below_step HH.out.2.2 hb2)
      clear hb2 hld
      cases hqq : q (pfxK.at_ t i) with
      | true =>
        have HE : Hid (idxE q t = (i : Int)) := Lib.hid (idxE_at (S := pfxK) HIL.out hqq HH.out.2.1)
        clear hqq
        go_wp2
        go_ret
        rw [HE.out]
        exact ⟨rfl, HB2.out⟩
      | false =>
        have HN := Lib.hid hqq
        clear hqq
        go_wp2_with fail
        go_roundw
        case measure => simp [intOf]; omega
        case rel =>
          refine ⟨i + 1, by go_num, by omega, fun k hk => ?_, HB2.out⟩
          by_cases hki : k < i
          · exact HH.out.2.1 k hki
          · rw [show k = i by omega]; exact HN.out
    · have hlt' : decide (i < n) = false := decide_eq_false hlt
      have HE : Hid (idxE q t = -1) := Lib.hid (idxE_none (S := pfxK) (fun k hk => HH.out.2.1 k (by rw [HR.out.len] at hk; omega)))
      clear hlt
      go_wp2
      go_ret
      rw [HE.out]
      exact ⟨rfl, HH.out.2.2⟩
theorem idxE_any {α : Type} (q : α → Bool) (t : List α) : decide (0 ≤ idxE q t) = t.any q := by
  unfold idxE
  cases h : t.findIdx? q with
  | none =>
    rw [List.findIdx?_eq_none_iff] at h
    have : t.any q = false := by
      rw [List.any_eq_false]
      intro x hx
      rw [h x hx]
      decide
    rw [this]
    decide
  | some i =>
    rw [List.findIdx?_eq_some_iff_getElem] at h
    obtain ⟨hi, h1, _⟩ := h
    have : t.any q = true := by
      rw [List.any_eq_true]
      exact ⟨_, List.getElem_mem hi, h1⟩
    rw [this]
    exact decide_eq_true (Int.natCast_nonneg i)
theorem containsV_any (A : Option Addr) (n c : Nat) (t : List Pfx) (w : World) (g : Nat) (hr : RS pfxK w A n c t) (hn : n ≤ 1000000) (q : Pfx → Bool)
    (hq : ∀ i, i < n → ∀ w1, Below w.heap.size w w1 → Calls Tryd.prog 83 #[pfxK.val (pfxK.at_ t i), .pointer (some ⟨g, 0, none⟩)] w1 fun e w2 => e = .returned (.bool (q (pfxK.at_ t i))) ∧ Below w1.heap.size w1 w2) :
    Calls Tryd.prog 82 #[.slice A n c, .func (Fn.func 83) #[] #[.pointer (some ⟨g, 0, none⟩)]] w fun e w' => e = .returned (.bool (t.any q)) ∧ Below w.heap.size w w' := by
  have HI := Lib.hid (indexfV_any A n c t w g hr hn q hq)
  clear hq hr
  go_enter Tryd.func82, Tryd.ntmps82
  go_wp2_with fail
  refine HI.out.mono ?_
  rintro e w1 ⟨rfl, hb1⟩
  have HB1 := Lib.hid hb1
  clear hb1
  go_wp2
  go_ret
  rw [idxE_any]
  exact ⟨rfl, HB1.out⟩
end Go.Proofs.YtihfaknflfmohaaDoor

/- From the plain walk to the fenced one (in a loop's round, or at the wide fence): a list of operations, none of which defers, walked plainly serves there too. -/
namespace Go.Proofs.YtihfaknflfmohaaDoor
open Go.RowKit
set_option linter.unusedVariables false
set_option linter.unusedSimpArgs false
set_option maxRecDepth 4000
/-- A fence that shuts nothing out: the wide one, or the wide one in a round. -/
structure Open (F : Fence) : Prop where
  fn : ∀ f, F.fn f
  depth : F.depth = none
  calls : ∀ {n : Nat} {P : Program} {f : FuncId} {args : Array Value} {w : World} {R : Ending → World → Prop}, Calls P f args w R → CallsIn F n P f args w R
  rows : ∀ {n : Nat} {P : Program} {row : String} {args : Array Value} {w : World} {R : Value → World → Prop}, Rows P row args w R → RowsIn F n P row args w R
theorem open_wide : Open Fence.wide := ⟨fun _ => trivial, rfl, fun h => callsIn_wide.2 h, fun h c cs _ => let ⟨v, w', r, s⟩ := h c cs; ⟨v, w', r, stepsIn_wide.2 s⟩⟩
theorem open_round (l : Nat) : Open (Fence.wide.inRound l) := ⟨fun _ => trivial, rfl, fun h => CallsIn.inRound l (callsIn_wide.2 h), fun h c cs _ => let ⟨v, w', r, s⟩ := h c cs; ⟨v, w', r, stepsIn_wide.2 s⟩⟩
def noDefer (o : Oper) : Bool := match o.op with
  | .defer _ => false
  | _ => true
theorem noDefer_ne {o : Oper} (h : noDefer o = true) : ∀ c, o.op ≠ .defer c := by
  intro c e
  unfold noDefer at h
  rw [e] at h
  cases h
theorem listIn_of_list {F : Fence} (hF : Open F) {n : Nat} {P : Program} {ops : Array Oper} {Q : Exit → Act → World → Prop} {rest : List Oper} :
    ∀ (l : List Oper) (a : Act) (w : World), l.all noDefer = true → wpList P ops (onlyNormal (wpListIn F n P ops Q rest)) l a w → wpListIn F n P ops Q (l ++ rest) a w
  | [], a, w, _, h => h
  | o :: l, a, w, hd, h => by
    simp only [List.all_cons, Bool.and_eq_true] at hd
    have hne := noDefer_ne hd.1
    have ih := fun a w => listIn_of_list (P := P) (ops := ops) hF (n := n) (Q := Q) (rest := rest) l a w hd.2
    simp only [List.cons_append, wpListIn]
    unfold wpList at h
    split
    · rename_i hw
      rw [if_pos hw] at h
      rcases h with h | ⟨_, h⟩
      · refine ⟨fun f _ => hF.fn f, ?_⟩
        rw [Oper.semAt_eq _ _ _ hne]
        unfold Oper.wp at h
        generalize (execOp a.eval o).run P w = r at *
        cases r with
        | ok nx w' =>
          cases nx <;> simp only [Oper.upon, Oper.uponIn] at h ⊢
          case value u => exact ih _ _ h
          case skip => exact ih _ _ h
          case defer d => exact ih _ _ h
          case enter f args =>
            refine ⟨fun hs => (by rw [hF.depth] at hs; cases hs), hF.calls (Calls.mono h fun e w'' he => ?_)⟩
            cases e with
            | returned u => exact ih _ _ he
            | panicked c => exact he.elim
            | outgrown => exact (notOut _ he).elim
          case row row args => exact ⟨fun hs => (by rw [hF.depth] at hs; cases hs), hF.rows (Rows.mono h fun v w'' he => ih _ _ he)⟩
        | halt x w' =>
          cases x <;> simp only [Oper.upon, Oper.uponIn] at h ⊢
          case panic u => exact h.elim
      · exact (notOut _ h).elim
    · rename_i hw
      rw [if_neg hw] at h
      exact ⟨fun f _ => hF.fn f, ih _ _ h⟩
theorem regionIn_of_list {F : Fence} (hF : Open F) {n : Nat} {P : Program} {Q : Exit → Act → World → Prop} {id : Nat} (l : List Oper) {a : Act} {w : World} (hd : l.all noDefer = true) (h : wpList P l.toArray (onlyNormal (Q .normal)) l a w) : (Code.region id l.toArray false).wpIn F n P Q a w := by
  refine wpIn_region_lit ?_
  have := listIn_of_list (rest := []) hF (n := n) (Q := Q) (ops := l.toArray) l a w hd h
  rwa [List.append_nil] at this
theorem regionIn_of_part {F : Fence} (hF : Open F) {n : Nat} {P : Program} {Q : Exit → Act → World → Prop} {id : Nat} (l rest : List Oper) {a : Act} {w : World} (hd : l.all noDefer = true) (h : wpList P (l ++ rest).toArray (onlyNormal (wpListIn F n P (l ++ rest).toArray Q rest)) l a w) : (Code.region id (l ++ rest).toArray false).wpIn F n P Q a w :=
  wpIn_region_lit (listIn_of_list hF l a w hd h)
theorem regionIn_of_take {F : Fence} (hF : Open F) (k : Nat) {n : Nat} {P : Program} {Q : Exit → Act → World → Prop} {id : Nat} {ops : Array Oper} {a : Act} {w : World} (hd : (ops.toList.take k).all noDefer = true) (h : wpList P ops (onlyNormal (wpListIn F n P ops Q (ops.toList.drop k))) (ops.toList.take k) a w) : (Code.region id ops false).wpIn F n P Q a w := by
  refine wpIn_region_list ?_
  have := listIn_of_list hF (n := n) (Q := Q) (rest := ops.toList.drop k) (ops.toList.take k) a w hd h
  rwa [List.take_append_drop] at this
theorem regionIn_of_all {F : Fence} (hF : Open F) {n : Nat} {P : Program} {Q : Exit → Act → World → Prop} {id : Nat} {ops : Array Oper} {a : Act} {w : World} (hd : ops.toList.all noDefer = true) (h : wpList P ops (onlyNormal (Q .normal)) ops.toList a w) : (Code.region id ops false).wpIn F n P Q a w := by
  refine wpIn_region_list ?_
  have := listIn_of_list hF (n := n) (Q := Q) (rest := []) (ops := ops) ops.toList a w hd h
  rwa [List.append_nil] at this
theorem onlyNormal_in {K : Act → World → Prop} {a : Act} {w : World} (h : K a w) : onlyNormal K .normal a w := h
end Go.Proofs.YtihfaknflfmohaaDoor

/- Plain laws of tables (layer 9), seventh part: the rows of two tables in pairs. -/
namespace Go.Proofs.YtihfaknflfmohaaDoor
set_option linter.unusedVariables false
set_option linter.unusedSimpArgs false
set_option maxRecDepth 4000
def mrgP : List Row → List Row → List (Row × Row)
  | [], [] => []
  | a :: t, [] => (a, rowZ) :: mrgP t []
  | [], b :: u => (rowZ, b) :: mrgP [] u
  | a :: t, b :: u => if a.p.cmp b.p < 0 then (a, rowZ) :: mrgP t (b :: u) else if a.p.cmp b.p = 0 then (a, b) :: mrgP t u else (rowZ, b) :: mrgP (a :: t) u
termination_by t u => t.length + u.length
def difOf (x : Row × Row) : List Pfx := if x.1.eqB x.2 then [] else if 0 < x.1.h then [x.1.p] else [x.2.p]
def difsOf (l : List (Row × Row)) : List Pfx := l.flatMap difOf
theorem difsOf_snoc (l : List (Row × Row)) (x : Row × Row) : difsOf (l ++ [x]) = difsOf l ++ difOf x := by simp [difsOf]
theorem difOf_a {a : Row} (h : 1 ≤ a.h) : difOf (a, rowZ) = [a.p] := by
  unfold difOf
  rw [if_neg, if_pos (by show 0 < a.h; omega)]
  rw [Row.eqB_iff]
  intro e
  simp only at e
  rw [e] at h
  exact absurd h (by decide)
theorem difOf_b {b : Row} (h : 1 ≤ b.h) : difOf (rowZ, b) = [b.p] := by
  unfold difOf
  rw [if_neg, if_neg (by show ¬ 0 < rowZ.h; decide)]
  rw [Row.eqB_iff]
  intro e
  simp only at e
  rw [← e] at h
  exact absurd h (by decide)
theorem difOf_ab {a b : Row} (h : 1 ≤ a.h) (hp : a.p = b.p) : difOf (a, b) = if a.h = b.h then [] else [a.p] := by
  unfold difOf
  by_cases he : a.h = b.h
  · rw [if_pos he, if_pos]
    rw [Row.eqB_iff]
    cases a; cases b
    simp only at hp he
    rw [hp, he]
  · rw [if_neg he, if_neg, if_pos (by show 0 < a.h; omega)]
    rw [Row.eqB_iff]
    intro e
    exact he (congrArg Row.h e)
theorem mrgP_dif : ∀ t u : List Row, Tab t → Tab u → difsOf (mrgP t u) = mrg t u
  | [], [], _, _ => by rw [mrgP, mrg]; rfl
  | a :: t, [], ht, hu => by
    rw [mrgP, mrg, ← mrgP_dif t [] ht.tail hu]
    show difOf (a, rowZ) ++ _ = _
    rw [difOf_a (ht.hop a (by simp))]
    rfl
  | [], b :: u, ht, hu => by
    rw [mrgP, mrg, ← mrgP_dif [] u ht hu.tail]
    show difOf (rowZ, b) ++ _ = _
    rw [difOf_b (hu.hop b (by simp))]
    rfl
  | a :: t, b :: u, ht, hu => by
    rw [mrgP, mrg]
    by_cases h1 : a.p.cmp b.p < 0
    · rw [if_pos h1, if_pos h1, ← mrgP_dif t (b :: u) ht.tail hu]
      show difOf (a, rowZ) ++ _ = _
      rw [difOf_a (ht.hop a (by simp))]
      rfl
    · rw [if_neg h1, if_neg h1]
      by_cases h2 : a.p.cmp b.p = 0
      · rw [if_pos h2, if_pos h2, ← mrgP_dif t u ht.tail hu.tail]
        show difOf (a, b) ++ _ = _
        rw [difOf_ab (ht.hop a (by simp)) (eq_of_cmp (ht.fits a (by simp)) (hu.fits b (by simp)) h2)]
        by_cases h3 : a.h = b.h
        · rw [if_pos h3, if_pos h3]; rfl
        · rw [if_neg h3, if_neg h3]; rfl
      · rw [if_neg h2, if_neg h2, ← mrgP_dif (a :: t) u ht hu.tail]
        show difOf (rowZ, b) ++ _ = _
        rw [difOf_b (hu.hop b (by simp))]
        rfl
termination_by t u => t.length + u.length
theorem mrgP_len : ∀ t u : List Row, (mrgP t u).length ≤ t.length + u.length
  | [], [] => by rw [mrgP]; simp
  | a :: t, [] => by have := mrgP_len t []; rw [mrgP]; simp only [List.length_cons, List.length_nil] at *; omega
  | [], b :: u => by have := mrgP_len [] u; rw [mrgP]; simp only [List.length_cons, List.length_nil] at *; omega
  | a :: t, b :: u => by
    have h1 := mrgP_len t (b :: u)
    have h2 := mrgP_len t u
    have h3 := mrgP_len (a :: t) u
    rw [mrgP]
    split
    · simp only [List.length_cons] at *; omega
    · split
      · simp only [List.length_cons] at *; omega
      · simp only [List.length_cons] at *; omega
termination_by t u => t.length + u.length
/-! One step, by indices. -/
section
variable {a b : List Row} {i k : Nat}
theorem mrgP_end (hi : a.length ≤ i) (hk : b.length ≤ k) : mrgP (a.drop i) (b.drop k) = [] := by
  rw [List.drop_eq_nil_of_le hi, List.drop_eq_nil_of_le hk, mrgP]
theorem drop_row (hi : i < a.length) : a.drop i = rowAt a i :: a.drop (i + 1) := by
  rw [List.drop_eq_getElem_cons hi]
  congr 1
  have := rowAt_get hi
  rw [List.getElem?_eq_getElem hi] at this
  exact Option.some.inj this
theorem mrgP_left (hi : i < a.length) (hk : b.length ≤ k) : mrgP (a.drop i) (b.drop k) = (rowAt a i, rowZ) :: mrgP (a.drop (i + 1)) (b.drop k) := by
  rw [drop_row hi, List.drop_eq_nil_of_le hk, mrgP]
theorem mrgP_right (hi : a.length ≤ i) (hk : k < b.length) : mrgP (a.drop i) (b.drop k) = (rowZ, rowAt b k) :: mrgP (a.drop i) (b.drop (k + 1)) := by
  rw [drop_row hk, List.drop_eq_nil_of_le hi, mrgP]
theorem mrgP_lt (hi : i < a.length) (hk : k < b.length) (h : (rowAt a i).p.cmp (rowAt b k).p < 0) : mrgP (a.drop i) (b.drop k) = (rowAt a i, rowZ) :: mrgP (a.drop (i + 1)) (b.drop k) := by
  rw [drop_row hi, drop_row hk, mrgP, if_pos h]
theorem mrgP_eq (hi : i < a.length) (hk : k < b.length) (h : (rowAt a i).p.cmp (rowAt b k).p = 0) : mrgP (a.drop i) (b.drop k) = (rowAt a i, rowAt b k) :: mrgP (a.drop (i + 1)) (b.drop (k + 1)) := by
  rw [drop_row hi, drop_row hk, mrgP, if_neg (by omega), if_pos h]
theorem mrgP_gt (hi : i < a.length) (hk : k < b.length) (h : 0 < (rowAt a i).p.cmp (rowAt b k).p) : mrgP (a.drop i) (b.drop k) = (rowZ, rowAt b k) :: mrgP (a.drop i) (b.drop (k + 1)) := by
  rw [drop_row hi, drop_row hk, mrgP, if_neg (by omega), if_neg (by omega)]
end
end Go.Proofs.YtihfaknflfmohaaDoor
