/- What the statements of layer 1 share: wakes, the references. -/
import Derived.Test.YtcloepjeckbmoaaDoorRdr
namespace Go.Proofs.YtcloepjeckbmoaaDoor
open Go.RowKit
set_option linter.unusedVariables false
set_option linter.unusedSimpArgs false

theorem grown_below {w w1 w2 : World} {g : Nat} (hb : Below w.heap.size w w1) (hg : w1.grownBy w2 (some g)) (h : w.heap.size ≤ g) : Below w.heap.size w w2 :=
  hb.grown hg hb.size (fun k hk => by injection hk with hk; omega)
theorem lit_reads (W : World) (b : Nat) (xs : List Int) (hb : b = W.heap.size) (hn : xs.length ≤ 281474976710656) (hr : Bytes xs) : RB (W.alloc (.cells (nums .u8 xs).toArray 5)) (some ⟨b, 0, none⟩) xs.length xs.length xs := by
  subst hb
  exact (OB.new W 0 xs (by omega) hn hr).reads

theorem bytes501 : Bytes [5, 0, 1] := by intro x hx; simp at hx; omega
theorem bytes10 : Bytes [1, 0] := by intro x hx; simp at hx; omega
theorem bytes7 : Bytes [7] := by intro x hx; simp at hx; omega

theorem wf_i64 {x : Int} (h : (Lit.int .i64 x).wf = true) : -9223372036854775808 ≤ x ∧ x ≤ 9223372036854775807 := by
  simp [Lit.wf, IntKind.min, IntKind.max, IntKind.bits, IntKind.signed] at h
  omega
theorem wf_u64 {x : Int} (h : (Lit.int .u64 x).wf = true) : 0 ≤ x ∧ x < 18446744073709551616 := by
  simp [Lit.wf, IntKind.min, IntKind.max, IntKind.bits, IntKind.signed] at h
  omega
theorem wf_u32 {x : Int} (h : (Lit.int .u32 x).wf = true) : 0 ≤ x ∧ x < 4294967296 := by
  simp [Lit.wf, IntKind.min, IntKind.max, IntKind.bits, IntKind.signed] at h
  omega
theorem wf_u16 {x : Int} (h : (Lit.int .u16 x).wf = true) : 0 ≤ x ∧ x < 65536 := by
  simp [Lit.wf, IntKind.min, IntKind.max, IntKind.bits, IntKind.signed] at h
  omega
theorem wf_u8 {x : Int} (h : (Lit.int .u8 x).wf = true) : 0 ≤ x ∧ x < 256 := by
  simp [Lit.wf, IntKind.min, IntKind.max, IntKind.bits, IntKind.signed] at h
  omega

theorem Rdr.grown {w w1 : World} {lo g : Nat} {xs : List Int} {e : Int} {row : Option Nat} (h : Rdr w lo g xs e) (hg : w.grownBy w1 row) (hr : ∀ b, row = some b → b ≠ g ∧ (b < lo ∨ g < b)) : Rdr w1 lo g xs e := by
  obtain ⟨A, n, c, hb, hrb, ha⟩ := h
  refine ⟨A, n, c, blk_grown hb hg (fun e => (hr g e.symm).1 rfl), hrb.grown hg (fun ad e h => ?_), ha⟩
  have h1 := ha ad e
  have h2 := hr ad.block h.symm
  omega
theorem offB_true {xs : List Int} {e m : Int} (h : offB xs e m = true) : e = 0 ∧ 0 ≤ m ∧ m ≤ xs.length := by
  simp [offB] at h
  exact ⟨h.1.1, h.1.2, h.2⟩
theorem offE_true {xs : List Int} {e m : Int} (h : offB xs e m = true) : offE xs e m = 0 := by
  obtain ⟨rfl, h1, h2⟩ := offB_true h
  rw [offE, if_neg (by simp), if_neg (by omega), if_neg (by omega)]
theorem offE_false {xs : List Int} {e m : Int} (h : offB xs e m = false) : offE xs e m ≠ 0 := by
  intro h1
  unfold offE at h1
  split at h1
  · omega
  · split at h1
    · omega
    · split at h1
      · omega
      · simp [offB] at h
        omega
theorem offT_true {xs : List Int} {e m : Int} (h : offB xs e m = true) : offT xs e m = xs.take m.toNat := by simp [offT, h]
theorem offT_false {xs : List Int} {e m : Int} (h : offB xs e m = false) : offT xs e m = [] := by simp [offT, h]
theorem offL_true {xs : List Int} {e m : Int} (h : offB xs e m = true) : offL xs e m = xs.drop m.toNat := by simp [offL, h]
theorem offL_false {xs : List Int} {e m : Int} (h : offB xs e m = false) : offL xs e m = xs := by simp [offL, h]

end Go.Proofs.YtcloepjeckbmoaaDoor
