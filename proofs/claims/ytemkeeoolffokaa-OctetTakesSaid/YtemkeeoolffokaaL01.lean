/- What the statements of layer 1 share: wakes, the references. -/
import Derived.Test.YtemkeeoolffokaaRdr
namespace Go.Proofs.Ytemkeeoolffokaa
open Go.RowKit
set_option linter.unusedVariables false
set_option linter.unusedSimpArgs false

theorem grown_below {w w1 w2 : World} {g : Nat} (hb : Below w.heap.size w w1) (hg : w1.grownBy w2 (some g)) (h : w.heap.size ≤ g) : Below w.heap.size w w2 :=
  hb.grown hg hb.size (fun k hk => by injection hk with hk; omega)
theorem lit_reads (W : World) (b : Nat) (xs : List Int) (hb : b = W.heap.size) (hn : xs.length ≤ 281474976710656) (hr : Bytes xs) : RB (W.alloc (.cells (nums .u8 xs).toArray 5)) (some ⟨b, 0, none⟩) xs.length xs.length xs := by
  subst hb
  exact (OB.new W 0 xs (by omega) hn hr).reads

theorem bytes501 : Bytes [5, 0, 1] := by intro x hx; simp at hx; omega
theorem bytes10 : Bytes [1, 0] := by intro x hx; simp at hx; omega
theorem bytes7 : Bytes [7] := by intro x hx; simp at hx; omega

set_option maxHeartbeats 1000000 in
theorem wakes_any (w : World) : Calls Try.prog 14 #[] w fun e w' => e = .returned (.bool true) ∧ Below w.heap.size w w' := by
  have q1 : numOf 0 (offT [5, 0, 1] 0 1) % 256 = 5 := by decide
  have q2 : numOf 0 (offT [0, 1] 0 4) % 4294967296 = 0 := by decide
  have q3 : numOf 0 (offT [0, 1] 7 1) % 256 = 0 := by decide
  have b1 : bitB [1, 0] 8 = true := by decide
  have b2 : bitB [1, 0] 0 = false := by decide
  go_enter Try.func14, Try.ntmps14
  go_wp2_with fail
  refine (read_any _ 3 3 [5, 0, 1] _ (lit_reads _ _ [5, 0, 1] (by simp) (by simp) bytes501) (by omega)).mono ?_
  rintro e w1 ⟨g, rfl, hg, h1, hb1⟩
  have HB := Lib.hid (below_step (below_alloc (Below.refl _ _) _) hb1)
  have HG : Hid (w.heap.size ≤ g) := by simp at hg; exact Nat.le_of_succ_le hg
  clear hb1 hg
  go_wp2_with fail
  refine (u8_any g _ _ w1 h1).mono ?_
  rintro e w2 ⟨rfl, h2, hb2⟩
  have HB2 := Lib.hid (grown_below HB.out hb2 HG.out)
  have H2 : Hid (Rdr w2 _ g [0, 1] 0) := h2
  clear h1 h2 hb2 HB
  go_wp2_with fail
  refine (u32_any g _ _ w2 H2.out).mono ?_
  rintro e w3 ⟨rfl, h3, hb3⟩
  have HB3 := Lib.hid (grown_below HB2.out hb3 HG.out)
  have H3 : Hid (Rdr w3 _ g [0, 1] 7) := h3
  clear h3 hb3 HB2 H2
  go_wp2_with fail
  refine (err_any g _ _ w3 H3.out).mono ?_
  rintro e w4 ⟨rfl, rfl⟩
  go_wp2_with fail
  refine (u8_any g _ _ w3 H3.out).mono ?_
  rintro e w4 ⟨rfl, h4, hb4⟩
  have HB4 := Lib.hid (grown_below HB3.out hb4 HG.out)
  have H4 : Hid (Rdr w4 _ g [0, 1] 7) := h4
  clear h4 hb4 HB3 H3
  go_wp2_with fail
  refine (left_any g _ _ w4 H4.out).mono ?_
  rintro e w5 ⟨rfl, rfl⟩
  go_wp2_with fail
  refine (bit_any _ 2 2 [1, 0] _ _ (lit_reads _ _ [1, 0] (by simp) (by simp) bytes10) (by omega)).mono ?_
  rintro e w5 ⟨rfl, rfl⟩
  go_wp2_with fail
  refine (bit_any _ 2 2 [1, 0] _ _ (lit_reads _ _ [1, 0] (by simp) (by simp) bytes10) (by omega)).mono ?_
  rintro e w5 ⟨rfl, rfl⟩
  go_wp2_with fail
  refine (put16_any _ 1 1 [7] _ _ (lit_reads _ _ [7] (by simp) (by simp) bytes7) (by omega) (by omega) (by omega)).mono ?_
  rintro e w5 ⟨A, rfl, h5, hb5⟩
  have HB5 := Lib.hid (below_step (below_alloc (below_alloc (below_alloc HB4.out _) _) _) hb5)
  clear h5 hb5 HB4
  go_wp2_with fail
  go_ret
  exact ⟨rfl, HB5.out⟩

theorem refbit_any (A : Option Addr) (n c : Nat) (xs : List Int) (k : Int) (w : World) (hr : RB w A n c xs) :
    Calls Try.prog 16 #[.slice A n c, .int .i64 k] w fun e w' => e = .returned (.bool (bitB xs k)) ∧ w = w' := by
  have hn := hr.small
  by_cases h0 : k < 0
  · go_enter Try.func16, Try.ntmps16
    go_wp2
    go_ret
    exact ⟨by simp [bitB, h0], rfl⟩
  · have h0' : 0 ≤ k := by omega
    clear h0
    have HL := Lib.hid hr.len
    by_cases h1 : (n : Int) ≤ k / 8
    · have h1a : 8 * (n : Int) ≤ k := by omega
      have H1 := Lib.hid h1
      clear h1
      go_enter Try.func16, Try.ntmps16
      go_wp2
      go_ret
      exact ⟨by simp [bitB, HL.out, H1.out], rfl⟩
    · have h1' : k / 8 < n := by omega
      have h1'' : 0 ≤ k / 8 := by omega
      have h1a : k < 8 * (n : Int) := by omega
      have H1 := Lib.hid h1
      clear h1
      have HG := Lib.hid (hr.rng ((n : Int) - 1 - k / 8))
      obtain ⟨ad, rfl, hc⟩ := hr.at_ ((n : Int) - 1 - k / 8) (by omega) (by omega)
      go_enter Try.func16, Try.ntmps16
      go_wp2
      go_ret
      have hd := div_lt256 (rd xs ((n : Int) - 1 - k / 8)) (k % 8).toNat HG.out.1 HG.out.2
      have hb := bits_and1 _ hd.1 hd.2
      refine ⟨?_, rfl⟩
      simp only [bitB, HL.out, if_neg (show ¬ k < 0 by omega), if_neg (show ¬ (n : Int) ≤ k / 8 by omega), ← hb]
      simp

theorem wf_i64 {x : Int} (h : (Lit.int .i64 x).wf = true) : -9223372036854775808 ≤ x ∧ x ≤ 9223372036854775807 := by
  simp [Lit.wf, IntKind.min, IntKind.max, IntKind.bits, IntKind.signed] at h
  omega
theorem wf_u64 {x : Int} (h : (Lit.int .u64 x).wf = true) : 0 ≤ x ∧ x < 18446744073709551616 := by
  simp [Lit.wf, IntKind.min, IntKind.max, IntKind.bits, IntKind.signed] at h
  omega
theorem wf_u32 {x : Int} (h : (Lit.int .u32 x).wf = true) : 0 ≤ x ∧ x < 4294967296 := by
  simp [Lit.wf, IntKind.min, IntKind.max, IntKind.bits, IntKind.signed] at h
  omega
theorem wf_u16 {x : Int} (h : (Lit.int .u16 x).wf = true) : 0 ≤ x ∧ x < 65536 := by
  simp [Lit.wf, IntKind.min, IntKind.max, IntKind.bits, IntKind.signed] at h
  omega
theorem wf_u8 {x : Int} (h : (Lit.int .u8 x).wf = true) : 0 ≤ x ∧ x < 256 := by
  simp [Lit.wf, IntKind.min, IntKind.max, IntKind.bits, IntKind.signed] at h
  omega

theorem Rdr.grown {w w1 : World} {lo g : Nat} {xs : List Int} {e : Int} {row : Option Nat} (h : Rdr w lo g xs e) (hg : w.grownBy w1 row) (hr : ∀ b, row = some b → b ≠ g ∧ (b < lo ∨ g < b)) : Rdr w1 lo g xs e := by
  obtain ⟨A, n, c, hb, hrb, ha⟩ := h
  refine ⟨A, n, c, blk_grown hb hg (fun e => (hr g e.symm).1 rfl), hrb.grown hg (fun ad e h => ?_), ha⟩
  have h1 := ha ad e
  have h2 := hr ad.block h.symm
  omega
theorem offB_true {xs : List Int} {e m : Int} (h : offB xs e m = true) : e = 0 ∧ 0 ≤ m ∧ m ≤ xs.length := by
  simp [offB] at h
  exact ⟨h.1.1, h.1.2, h.2⟩
theorem offE_true {xs : List Int} {e m : Int} (h : offB xs e m = true) : offE xs e m = 0 := by
  obtain ⟨rfl, h1, h2⟩ := offB_true h
  rw [offE, if_neg (by simp), if_neg (by omega), if_neg (by omega)]
theorem offE_false {xs : List Int} {e m : Int} (h : offB xs e m = false) : offE xs e m ≠ 0 := by
  intro h1
  unfold offE at h1
  split at h1
  · omega
  · split at h1
    · omega
    · split at h1
      · omega
      · simp [offB] at h
        omega
theorem offT_true {xs : List Int} {e m : Int} (h : offB xs e m = true) : offT xs e m = xs.take m.toNat := by simp [offT, h]
theorem offT_false {xs : List Int} {e m : Int} (h : offB xs e m = false) : offT xs e m = [] := by simp [offT, h]
theorem offL_true {xs : List Int} {e m : Int} (h : offB xs e m = true) : offL xs e m = xs.drop m.toNat := by simp [offL, h]
theorem offL_false {xs : List Int} {e m : Int} (h : offB xs e m = false) : offL xs e m = xs := by simp [offL, h]

end Go.Proofs.Ytemkeeoolffokaa
