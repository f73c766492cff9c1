/- Contracts of the reader of package octet. -/
import Derived.Test.YtcloepjeckbmoaaDoorOct
namespace Go.Proofs.YtcloepjeckbmoaaDoor
open Go.RowKit
set_option linter.unusedVariables false
set_option linter.unusedSimpArgs false

/-- The reader at block g: what is still to come, and why it is out of step (0: it is not). -/
def Rdr (w : World) (lo g : Nat) (xs : List Int) (e : Int) : Prop :=
  ∃ A n c, w.heap[g]? = some (.cells #[.slice A n c, .int .i64 e] 84 (0, 0)) ∧ RB w A n c xs ∧ ∀ ad, A = some ad → lo ≤ ad.block ∧ ad.block < g

variable {lo : Nat}
theorem left_any (g : Nat) (xs : List Int) (e0 : Int) (w : World) (h : Rdr w lo g xs e0) :
    Calls Tryd.prog 47 #[.pointer (some ⟨g, 0, none⟩)] w fun e w' => e = .returned (.int .i64 xs.length) ∧ w = w' := by
  obtain ⟨A, n, c, hb, hr, -⟩ := h
  have hl := Lib.hid hr.len
  have hc0 : w.cell? ⟨g, 0, none⟩ = some (.slice A n c) := by rw [blk_cell hb]; rfl
  clear hb hr
  go_enter Tryd.func47, Tryd.ntmps47
  go_wp2
  go_ret
  exact ⟨by rw [hl.out]; rfl, rfl⟩
theorem left_nil (w : World) : Calls Tryd.prog 47 #[.pointer none] w fun e w' => e = .returned (.int .i64 0) ∧ w = w' := by
  go_enter Tryd.func47, Tryd.ntmps47
  go_wp2
  go_ret
  exact ⟨rfl, rfl⟩
theorem err_any (g : Nat) (xs : List Int) (e0 : Int) (w : World) (h : Rdr w lo g xs e0) :
    Calls Tryd.prog 45 #[.pointer (some ⟨g, 0, none⟩)] w fun e w' => e = .returned (.int .i64 e0) ∧ w = w' := by
  obtain ⟨A, n, c, hb, hr, -⟩ := h
  have hc0 : w.cell? ⟨g, 1, none⟩ = some (.int .i64 e0) := by rw [blk_cell hb]; rfl
  clear hb hr
  go_enter Tryd.func45, Tryd.ntmps45
  go_wp2
  go_ret
  exact ⟨rfl, rfl⟩
theorem err_nil (w : World) : Calls Tryd.prog 45 #[.pointer none] w fun e w' => e = .returned (.int .i64 1) ∧ w = w' := by
  go_enter Tryd.func45, Tryd.ntmps45
  go_wp2
  go_ret
  exact ⟨rfl, rfl⟩

theorem read_any (A : Option Addr) (n c : Nat) (xs : List Int) (w : World) (hr : RB w A n c xs) (hn : n ≤ 140737488355328) :
    Calls Tryd.prog 42 #[.slice A n c] w fun e w' => ∃ g, e = .returned (.pointer (some ⟨g, 0, none⟩)) ∧ w.heap.size ≤ g ∧ Rdr w' w.heap.size g xs 0 ∧ Below w.heap.size w w' := by
  go_enter Tryd.func42, Tryd.ntmps42
  go_wp2_with fail
  refine (clone_any A n c xs w hr hn).mono ?_
  rintro e w1 ⟨A1, c1, rfl, h1, hb1⟩
  go_wp2
  go_ret
  refine ⟨_, rfl, hb1.size, ⟨A1, n, c1, blk_new _ _, h1.reads.below (below_alloc (Below.refl _ _) _), fun ad e => ⟨h1.base_ ad e, h1.lt ad e⟩⟩, hb1.alloc hb1.size _⟩

theorem xor_low (q b : Nat) (h : b < 256) : (2 ^ 8 * q) ^^^ b = 2 ^ 8 * q + b := by
  rw [Nat.two_pow_add_eq_or_of_lt (by omega)]
  apply Nat.eq_of_testBit_eq
  intro i
  rw [Nat.testBit_xor, Nat.testBit_or, Nat.testBit_two_pow_mul]
  by_cases hi : i < 8
  · simp [show ¬ 8 ≤ i by omega]
  · have : b.testBit i = false := Nat.testBit_lt_two_pow (Nat.lt_of_lt_of_le h (by rw [show 256 = 2 ^ 8 by rfl]; exact Nat.pow_le_pow_right (by omega) (by omega)))
    simp [this]
theorem shl8_xor (x c : Int) (hc0 : 0 ≤ c) (hc1 : c < 256) : bits .xor .u64 (IntKind.u64.wrap (x * 256)) c = (x * 256 + c) % 18446744073709551616 := by
  have hw : IntKind.u64.wrap (x * 256) = (x * 256) % 18446744073709551616 := by simp [IntKind.wrap, IntKind.bits, IntKind.signed]
  rw [hw, u64_xor _ _ (by omega) (by omega) hc0 (by omega)]
  obtain ⟨b, rfl⟩ := Int.eq_ofNat_of_zero_le hc0
  have hq : ∃ q : Nat, ((x * 256) % 18446744073709551616).toNat = 2 ^ 8 * q := ⟨(((x * 256) % 18446744073709551616) / 256).toNat, by omega⟩
  obtain ⟨q, hq⟩ := hq
  have hb : (b : Int).toNat = b := Int.toNat_natCast b
  rw [hq, hb, xor_low q b (by omega)]
  omega
theorem numfn_any (h : Nat) (x c : Int) (w : World) (hx0 : 0 ≤ x) (hx1 : x < 18446744073709551616) (hc0 : 0 ≤ c) (hc1 : c < 256) (hb : w.heap[h]? = some (.cells #[.int .u64 x] 85 (0, 0))) :
    Calls Tryd.prog 59 #[.int .u8 c, .pointer (some ⟨h, 0, none⟩)] w fun e w' => e = .returned (.tuple #[]) ∧ w.grownBy w' (some h) ∧ w'.heap[h]? = some (.cells #[.int .u64 ((x * 256 + c) % 18446744073709551616)] 85 (0, 0)) := by
  have HB := Lib.hid hb
  have hc0 : w.cell? ⟨h, 0, none⟩ = some (.int .u64 x) := by rw [blk_cell hb]; rfl
  have hf0 : w.frozen? ⟨h, 0, none⟩ = false := blk_frozen hb 0
  clear hb
  go_enter Tryd.func59, Tryd.ntmps59
  go_wp2
  go_end0
  rw [shl8_xor x c (by omega) hc1]
  exact ⟨rfl, grown_setCell _ _ _, blk_set HB.out 0 _⟩

/-- Bytes that are taken off a reader make a number. -/
def numOf (x : Int) (l : List Int) : Int := l.foldl (fun a c => (a * 256 + c) % 18446744073709551616) x
theorem numOf_range (l : List Int) : ∀ x : Int, 0 ≤ x → x < 18446744073709551616 → 0 ≤ numOf x l ∧ numOf x l < 18446744073709551616 := by
  induction l with
  | nil => intro x h0 h1; exact ⟨h0, h1⟩
  | cons c l ih => intro x _ _; exact ih _ (Int.emod_nonneg _ (by omega)) (Int.emod_lt_of_pos _ (by omega))
theorem numOf_snoc (x : Int) (l : List Int) (c : Int) : numOf x (l ++ [c]) = (numOf x l * 256 + c) % 18446744073709551616 := by simp [numOf]
theorem take_snoc_rd (xs : List Int) (k : Nat) (h : k < xs.length) : xs.take (k + 1) = xs.take k ++ [rd (xs.drop k) 0] := by
  rw [List.take_succ_eq_append_getElem h]
  simp [rd, List.getD_eq_getElem?_getD, List.getElem?_drop, List.getElem?_eq_getElem h]
/-- Whether so many bytes are taken off; what is left; why it is out of step then. -/
def offB (xs : List Int) (e m : Int) : Bool := e == 0 && decide (0 ≤ m) && decide (m ≤ xs.length)
def offE (xs : List Int) (e m : Int) : Int := if e ≠ 0 then e else if m < 0 then 2 else if (xs.length : Int) < m then 7 else 0
def offL (xs : List Int) (e m : Int) : List Int := if offB xs e m then xs.drop m.toNat else xs
def offT (xs : List Int) (e m : Int) : List Int := if offB xs e m then xs.take m.toNat else []

theorem Rdr.set {w : World} {g : Nat} {xs : List Int} {e : Int} (h : Rdr w lo g xs e) (e' : Int) : Rdr (w.setCell ⟨g, 1, none⟩ (.int .i64 e')) lo g xs e' := by
  obtain ⟨A, n, c, hb, hr, ha⟩ := h
  refine ⟨A, n, c, blk_set hb 1 _, hr.grown (grown_setCell _ _ _) (fun ad e h => ?_), ha⟩
  have := ha ad e
  injection h with h
  simp only at h
  omega

set_option maxHeartbeats 1000000 in
theorem off_num (g b : Nat) (xs : List Int) (e0 m x0 : Int) (w : World) (hr : Rdr w lo g xs e0) (hgh : g < b) (hb : w.heap[b]? = some (.cells #[.int .u64 x0] 85 (0, 0))) (hx0 : 0 ≤ x0) (hx1 : x0 < 18446744073709551616) (hm : m ≤ 9223372036854775807) :
    Calls Tryd.prog 58 #[.pointer (some ⟨g, 0, none⟩), .int .i64 m, .func (.func 59) #[] #[.pointer (some ⟨b, 0, none⟩)]] w fun e w' =>
      e = .returned (.bool (offB xs e0 m)) ∧ Rdr w' lo g (offL xs e0 m) (offE xs e0 m) ∧ w'.heap[b]? = some (.cells #[.int .u64 (numOf x0 (offT xs e0 m))] 85 (0, 0)) ∧ Kept2 w w' g b := by
  have HR := Lib.hid hr
  have HB := Lib.hid hb
  obtain ⟨A, n, c, hbl, hrb, ha⟩ := hr
  have hl := Lib.hid hrb.len
  have hc0 : w.cell? ⟨g, 0, none⟩ = some (.slice A n c) := by rw [blk_cell hbl]; rfl
  have hc1 : w.cell? ⟨g, 1, none⟩ = some (.int .i64 e0) := by rw [blk_cell hbl]; rfl
  have hf1 : w.frozen? ⟨g, 1, none⟩ = false := blk_frozen hbl 1
  by_cases he : e0 = 0
  · subst he
    by_cases hneg : m < 0
    · have e1 : offB xs 0 m = false := by simp [offB]; omega
      have e2 : offE xs 0 m = 2 := by simp [offE, hneg]
      have e3 : offL xs 0 m = xs := by simp [offL, e1]
      have e4 : offT xs 0 m = [] := by simp [offT, e1]
      rw [e1, e2, e3, e4]
      clear e1 e2 e3 e4 ha hb hbl
      go_enter Tryd.func58, Tryd.ntmps58
      go_wp2
      go_ret
      exact ⟨rfl, HR.out.set 2, blk_set_far HB.out (by simp; omega) _, Kept2.of_grown (grown_setCell _ _ _) (.inl rfl)⟩
    · have hneg' : 0 ≤ m := by omega
      clear hneg
      by_cases hlong : (n : Int) < m
      · have e1 : offB xs 0 m = false := by simp [offB, hl.out]; omega
        have e2 : offE xs 0 m = 7 := by rw [offE, if_neg (by simp), if_neg (by omega), hl.out, if_pos hlong]
        have e3 : offL xs 0 m = xs := by simp [offL, e1]
        have e4 : offT xs 0 m = [] := by simp [offT, e1]
        rw [e1, e2, e3, e4]
        clear e1 e2 e3 e4 ha hb hbl
        go_enter Tryd.func58, Tryd.ntmps58
        go_wp2
        go_ret
        exact ⟨rfl, HR.out.set 7, blk_set_far HB.out (by simp; omega) _, Kept2.of_grown (grown_setCell _ _ _) (.inl rfl)⟩
      · have hlong' : m ≤ n := by omega
        clear hlong
        obtain ⟨q, rfl⟩ := Int.eq_ofNat_of_zero_le hneg'
        have e1 : offB xs 0 q = true := by simp [offB, hl.out]; omega
        have e2 : offE xs 0 q = 0 := by rw [offE, if_neg (by simp), if_neg (by omega), hl.out, if_neg (by omega)]
        have e3 : offL xs 0 q = xs.drop q := by simp [offL, e1]
        have e4 : offT xs 0 q = xs.take q := by simp [offT, e1]
        rw [e1, e2, e3, e4]
        clear e1 e2 e3 e4
        have H0 : Hid (w.heap[g]? = some (.cells #[.slice A n c, .int .i64 0] 84 (0, 0)) ∧ RB w A n c xs ∧ ∀ ad, A = some ad → lo ≤ ad.block ∧ ad.block < g) := ⟨hbl, hrb, ha⟩
        clear hb hbl hrb ha
        have hdn : decide (n < q) = false := decide_eq_false (by omega)
        have hdq : decide ((q : Int) < 0) = false := decide_eq_false (by omega)
        go_enter Tryd.func58, Tryd.ntmps58
        go_wp2
        clear hdn hdq
        go_loopw [42] (fun i wr => ∃ k : Nat, i = .int .i64 k ∧ Hid (k ≤ q ∧ Rdr wr lo g (xs.drop k) 0 ∧ wr.heap[b]? = some (.cells #[.int .u64 (numOf x0 (xs.take k))] 85 (0, 0)) ∧ Kept2 w wr g b)) (fun i _ => q - (intOf i).toNat)
        case atStart => exact ⟨0, rfl, Nat.zero_le _, HR.out, HB.out, Kept2.refl _ _ _⟩
        case round =>
          obtain ⟨k, rfl, HH⟩ := hrel
          clear hc0 hc1 hf1
          have hkq := HH.out.1
          by_cases hlt : k < q
          · obtain ⟨A', n', c', hbl', hrb', ha'⟩ := HH.out.2.1
            have HB' := Lib.hid hbl'
            have HR' := Lib.hid hrb'
            have HA' := Lib.hid ha'
            have hl' : n' = n - k := by have := hrb'.len; rw [List.length_drop, hl.out] at this; exact this.symm
            have hn' : 0 < n' := by omega
            have hcap' := hrb'.cap
            have hsm' := hrb'.small
            have HL' := Lib.hid hl'
            obtain ⟨ad, rfl, hcell⟩ := hrb'.at_ 0 (by omega) (by omega)
            have hrg := hrb'.rng 0
            have hcell0 : wr.cell? ad = some (.int .u8 (rd (xs.drop k) 0)) := by simpa [Addr.add] using hcell
            clear hcell
            clear hl'
            have hc0 : wr.cell? ⟨g, 0, none⟩ = some (.slice (some ad) n' c') := by rw [blk_cell hbl']; rfl
            have hnr := numOf_range (xs.take k) x0 hx0 hx1
            have HC := Lib.hid (numfn_any b (numOf x0 (xs.take k)) (rd (xs.drop k) 0) wr hnr.1 hnr.2 hrg.1 hrg.2 HH.out.2.2.1)
            clear hbl' hrb' ha' hnr
            go_wp2_with fail
            refine HC.out.mono ?_
            rintro e w1 ⟨rfl, hg1, hh1⟩
            have hbl1 := blk_grown HB'.out hg1 (by simp; omega)
            have hd0 : w1.cell? ⟨g, 0, none⟩ = some (.slice (some ad) n' c') := by rw [blk_cell hbl1]; rfl
            have hf0 : w1.frozen? ⟨g, 0, none⟩ = false := blk_frozen hbl1 0
            have HB1 := Lib.hid hbl1
            have HH1 := Lib.hid hh1
            have HG1 := Lib.hid hg1
            clear hbl1 hh1 hg1 hc0 hcell0
            obtain ⟨A1, hsl, hsr, hsa⟩ := cut_bytes (some ad) n' c' 1 (by omega) (by omega)
            have HSR := Lib.hid (And.intro hsr hsa)
            clear hsr hsa
            go_wp2
            go_roundw
            case measure => simp [intOf]; omega
            case rel =>
              refine ⟨k + 1, by go_num, by omega, ?_, ?_, ?_⟩
              · refine ⟨A1, n' - 1, c' - 1, blk_set HB1.out 0 _, ?_, ?_⟩
                · have h2 := HSR.out.1 wr _ HR'.out
                  have h3 := (h2.grown HG1.out (fun ad' e h => ?_)).grown (grown_setCell w1 ⟨g, 0, none⟩ (.slice A1 (n' - 1) (c' - 1))) (fun ad' e h => ?_)
                  · rw [List.drop_drop] at h3
                    exact h3
                  · obtain ⟨a0, h4, h5⟩ := HSR.out.2 ad' e
                    have := HA'.out a0 h4
                    injection h with h
                    omega
                  · obtain ⟨a0, h4, h5⟩ := HSR.out.2 ad' e
                    have := HA'.out a0 h4
                    injection h with h
                    simp only at h
                    omega
                · intro ad' e
                  obtain ⟨a0, h4, h5⟩ := HSR.out.2 ad' e
                  have := HA'.out a0 h4
                  omega
              · rw [take_snoc_rd xs k (by rw [hl.out]; omega), numOf_snoc]
                exact blk_set_far HH1.out (by simp; omega) _
              · exact (HH.out.2.2.2.trans (Kept2.of_grown HG1.out (.inr rfl))).trans (Kept2.of_grown (grown_setCell _ _ _) (.inl rfl))
          · obtain rfl : k = q := by omega
            clear hlt
            go_wp2
            go_ret
            exact ⟨rfl, HH.out.2⟩
  · have e1 : offB xs e0 m = false := by simp [offB, he]
    have e2 : offE xs e0 m = e0 := by simp [offE, he]
    have e3 : offL xs e0 m = xs := by simp [offL, e1]
    have e4 : offT xs e0 m = [] := by simp [offT, e1]
    rw [e1, e2, e3, e4]
    have hb0 : (e0 == 0) = false := by simpa using he
    have hb1 : (e0 != 0) = true := by simpa using he
    clear e1 e2 e3 e4 ha hb hbl he
    go_enter Tryd.func58, Tryd.ntmps58
    go_wp2
    go_ret
    exact ⟨rfl, HR.out, HB.out, Kept2.refl _ _ _⟩

theorem Rdr.below {w w1 : World} {g : Nat} {xs : List Int} {e : Int} (h : Rdr w lo g xs e) (hb : Below w.heap.size w w1) : Rdr w1 lo g xs e := by
  obtain ⟨A, n, c, hbl, hr, ha⟩ := h
  exact ⟨A, n, c, blk_below hbl hb, hr.below hb, ha⟩
theorem Rdr.lt {w : World} {g : Nat} {xs : List Int} {e : Int} (h : Rdr w lo g xs e) : g < w.heap.size := by
  obtain ⟨A, n, c, hbl, hr, ha⟩ := h
  exact blk_lt hbl
theorem grown_of_kept2 {w w1 : World} {o : Obj} {g : Nat} (h : Kept2 (w.alloc o) w1 g w.heap.size) : w.grownBy w1 (some g) :=
  ⟨h.os, h.tape, h.output, by have := h.size; simp at this; omega, fun k hk hne => by
    rw [h.block k (by simp; omega) (fun e => hne (by rw [e])) (by omega)]
    exact Below.heap_alloc w o k hk⟩

theorem number_any (g : Nat) (xs : List Int) (e0 m : Int) (w : World) (hr : Rdr w lo g xs e0) (hm : m ≤ 9223372036854775807) :
    Calls Tryd.prog 55 #[.pointer (some ⟨g, 0, none⟩), .int .i64 m] w fun e w' =>
      e = .returned (.int .u64 (numOf 0 (offT xs e0 m))) ∧ Rdr w' lo g (offL xs e0 m) (offE xs e0 m) ∧ w.grownBy w' (some g) := by
  have HC := Lib.hid (off_num g w.heap.size xs e0 m 0 (w.alloc (.cells #[.int .u64 0] 85)) (hr.below (below_alloc (Below.refl _ _) _)) hr.lt (blk_new _ _) (by omega) (by omega) hm)
  clear hr
  go_enter Tryd.func55, Tryd.ntmps55
  go_wp2_with fail
  refine HC.out.mono ?_
  rintro e w1 ⟨rfl, h1, h2, h3⟩
  have hc : w1.cell? ⟨w.heap.size, 0, none⟩ = some (.int .u64 (numOf 0 (offT xs e0 m))) := by rw [blk_cell h2]; rfl
  have H1 := Lib.hid h1
  have H3 := Lib.hid h3
  clear h1 h2 h3
  go_wp2
  go_ret
  exact ⟨rfl, H1.out, grown_of_kept2 H3.out⟩
theorem number_nil (m : Int) (w : World) :
    Calls Tryd.prog 55 #[.pointer none, .int .i64 m] w fun e w' => e = .returned (.int .u64 0) ∧ Below w.heap.size w w' := by
  go_enter Tryd.func55, Tryd.ntmps55
  go_wp2
  go_ret
  exact ⟨rfl, below_alloc (Below.refl _ _) _⟩

theorem u8_any (g : Nat) (xs : List Int) (e0 : Int) (w : World) (hr : Rdr w lo g xs e0) :
    Calls Tryd.prog 44 #[.pointer (some ⟨g, 0, none⟩)] w fun e w' =>
      e = .returned (.int .u8 (numOf 0 (offT xs e0 1) % 256)) ∧ Rdr w' lo g (offL xs e0 1) (offE xs e0 1) ∧ w.grownBy w' (some g) := by
  go_enter Tryd.func44, Tryd.ntmps44
  go_wp2_with fail
  refine (number_any g xs e0 1 w hr (by omega)).mono ?_
  rintro e w1 ⟨rfl, h1, h2⟩
  have H1 := Lib.hid (And.intro h1 h2)
  clear h1 h2 hr
  go_wp2
  go_ret
  exact ⟨rfl, H1.out⟩
theorem u8_nil (w : World) :
    Calls Tryd.prog 44 #[.pointer none] w fun e w' => e = .returned (.int .u8 0) ∧ Below w.heap.size w w' := by
  go_enter Tryd.func44, Tryd.ntmps44
  go_wp2_with fail
  refine (number_nil 1 w).mono ?_
  rintro e w1 ⟨rfl, h1⟩
  have H1 := Lib.hid h1
  clear h1
  go_wp2
  go_ret
  exact ⟨rfl, H1.out⟩

/-- A captured slice of bytes at block b; what it holds lies behind it. -/
def Capt (w : World) (b : Nat) (xs : List Int) : Prop := ∃ A c, w.heap[b]? = some (.cells #[.slice A xs.length c] 35 (0, 0)) ∧ OB w (b + 1) A xs.length c xs
theorem Capt.start {w : World} {b : Nat} (h : w.heap[b]? = some (.cells #[.slice none 0 0] 35 (0, 0))) : Capt w b [] := ⟨none, 0, h, OB.nil _ _⟩
theorem Capt.far {w : World} {b : Nat} {xs : List Int} (h : Capt w b xs) {g : Nat} (hg : g < b) (i : Nat) (v : Value) : Capt (w.setCell ⟨g, i, none⟩ v) b xs := by
  obtain ⟨A, c, h1, h2⟩ := h
  refine ⟨A, c, blk_set_far h1 (by simp; omega) _, h2.grown (grown_setCell _ _ _) (fun ad e h => ?_)⟩
  have := h2.base_ ad e
  injection h with h
  simp only at h
  omega
theorem RB.keptB {w w1 : World} {A : Option Addr} {n c : Nat} {xs : List Int} {g b : Nat} (h : RB w A n c xs) (hk : KeptB w w1 g b) (ha : ∀ ad, A = some ad → ad.block < b ∧ ad.block ≠ g) : RB w1 A n c xs :=
  ⟨⟨h.rv.len, h.rv.cap, h.rv.small, fun hn => by
    obtain ⟨ad, e, hc⟩ := h.rv.cells hn
    obtain ⟨h1, h2⟩ := ha ad e
    exact ⟨ad, e, fun j v hj => (World.cell?_of_block (a := ad.add j) (by rw [add_block]; exact hk.block ad.block h1 h2)).trans (hc j v hj)⟩⟩, h.range⟩
theorem capt_app {w w1 : World} {b : Nat} {v : Value} {t : TypeId} {o : Obj} {A : Option Addr} {n c : Nat} (hb : w.heap[b]? = some (.cells #[v] t (0, 0))) (ha : ∀ ad, A = some ad → b + 1 ≤ ad.block)
    (hg : (w.alloc o).grownBy w1 ((Value.slice A n c).ownBlock)) : w1.cell? ⟨b, 0, none⟩ = some v ∧ w1.frozen? ⟨b, 0, none⟩ = false ∧ w1.heap[b]? = some (.cells #[v] t (0, 0)) := by
  have hb1 := blk_grown (blk_below hb (below_alloc (Below.refl _ _) o)) hg (fun e => by have := own_row ha b e.symm; omega)
  exact ⟨by rw [blk_cell hb1]; rfl, blk_frozen hb1 0, hb1⟩
theorem grown_of_keptB {w w1 : World} {o : Obj} {g : Nat} (h : KeptB (w.alloc o) w1 g w.heap.size) : w.grownBy w1 (some g) :=
  ⟨h.os, h.tape, h.output, by have := h.size; simp at this; omega, fun k hk hne => by
    rw [h.block k hk (fun e => hne (by rw [e]))]
    exact Below.heap_alloc w o k hk⟩
theorem Rdr.raise {w : World} {lo lo' g : Nat} {xs : List Int} {e : Int} (h : Rdr w lo g xs e) (hl : lo' ≤ lo) : Rdr w lo' g xs e := by
  obtain ⟨A, n, c, hb, hrb, ha⟩ := h
  exact ⟨A, n, c, hb, hrb, fun ad e => ⟨Nat.le_trans hl (ha ad e).1, (ha ad e).2⟩⟩

end Go.Proofs.YtcloepjeckbmoaaDoor
