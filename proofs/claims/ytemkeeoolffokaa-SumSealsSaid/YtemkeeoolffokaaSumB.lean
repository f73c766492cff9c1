/- Layer 3 (sum), second part: what is sealed and opened; the statements' wakes. -/
import Derived.Test.YtemkeeoolffokaaSum
import Derived.Test.YtemkeeoolffokaaL01
namespace Go.Proofs.Ytemkeeoolffokaa
open Go.RowKit
set_option linter.unusedVariables false
set_option linter.unusedSimpArgs false

/-- Is this sealed? -/
def opensB (xs : List Int) : Bool := decide (4 ≤ xs.length) && decide (highB (sumOn 1 (xs.take (xs.length - 4))) 4 = xs.drop (xs.length - 4))
def openE (xs : List Int) : Int := if xs.length < 4 then 7 else if opensB xs then 0 else 130
def openM (xs : List Int) : Nat := if openE xs = 0 then xs.length - 4 else 0

theorem num4 (s : Int) (hs0 : 0 ≤ s) (hs1 : s < 4294967296) (l : List Int) (hl : l.length = 4) (hr : Bytes l) : numOf 0 (offT l 0 4) % 4294967296 = s ↔ highB s 4 = l := by
  match l, hl with
  | [a, b, c, d], _ =>
    have ha := hr a (by simp)
    have hb := hr b (by simp)
    have hc := hr c (by simp)
    have hd := hr d (by simp)
    have e1 : highB s 4 = [s / 2 ^ 24 % 256, s / 2 ^ 16 % 256, s / 2 ^ 8 % 256, s / 2 ^ 0 % 256] := rfl
    have e2 : numOf 0 (offT [a, b, c, d] 0 4) = ((((0 * 256 + a) % 18446744073709551616 * 256 + b) % 18446744073709551616 * 256 + c) % 18446744073709551616 * 256 + d) % 18446744073709551616 := rfl
    have p1 : (2 : Int) ^ 24 = 16777216 := rfl
    have p2 : (2 : Int) ^ 16 = 65536 := rfl
    have p3 : (2 : Int) ^ 8 = 256 := rfl
    have p4 : (2 : Int) ^ 0 = 1 := rfl
    rw [e1, e2, p1, p2, p3, p4]
    simp only [List.cons.injEq, and_true]
    omega
theorem opensB_seal (xs : List Int) : opensB (xs ++ highB (sumOn 1 xs) 4) = true := by
  have h : (xs ++ highB (sumOn 1 xs) 4).length - 4 = xs.length := by rw [List.length_append, highB_length]; omega
  unfold opensB
  rw [h, List.take_left, List.drop_left]
  simp [highB_length]

theorem bclone_any (A : Option Addr) (n c : Nat) (xs : List Int) (w : World) (hr : RB w A n c xs) (hn : n ≤ 140737488355328) :
    Calls Try.prog 32 #[.slice A n c] w fun e w' => ∃ A' c', e = .returned (.slice A' n c') ∧ OB w' w.heap.size A' n c' xs ∧ Below w.heap.size w w' := by
  cases A with
  | none =>
    have h0 : n = 0 := by
      rcases Nat.eq_zero_or_pos n with h | h
      · exact h
      · obtain ⟨ad, e, _⟩ := hr.rv.cells h
        cases e
    subst h0
    obtain rfl : xs = [] := List.eq_nil_of_length_eq_zero hr.len
    go_enter Try.func32, Try.ntmps32
    go_wp2
    go_ret
    exact ⟨_, _, rfl, OB.nil _ _, Below.refl _ _⟩
  | some ad =>
    go_enter Try.func32, Try.ntmps32
    go_wp2_with (at_builtin; refine wpList_append_bytes rfl (.tmp 5) (.tmp 6) rfl rfl rfl (OB.empty w w.heap.size (Nat.le_refl _)) (hr.below (below_alloc (Below.refl _ _) _)) (by simp) (by omega) ?_; intro A' c' w' h1 h2 h3; rw [Nat.zero_add, List.nil_append] at h1; rw [Nat.zero_add])
    go_ret
    exact ⟨_, _, rfl, h1, below_own (below_alloc (Below.refl _ _) _) h2 (fun ad h => by injection h with h; subst h; exact Nat.le_refl _)⟩

theorem refseal_any (A : Option Addr) (n c : Nat) (xs : List Int) (w : World) (hr : RB w A n c xs) (hn : n ≤ 140737300000000) :
    Calls Try.prog 29 #[.slice A n c] w fun e w' => ∃ A', e = .returned (.slice A' (n + 4) (n + 4)) ∧ OB w' w.heap.size A' (n + 4) (n + 4) (xs ++ highB (sumOn 1 xs) 4) ∧ Below w.heap.size w w' := by
  have e1 : IntKind.u64.wrap (sumOn 1 xs) = sumOn 1 xs := wrap_u64_id _ (sumOn_range _ _).1 (by have := (sumOn_range 1 xs).2; omega)
  go_enter Try.func29, Try.ntmps29
  go_wp2_with fail
  refine (refsum32_any A n c xs w hr).mono ?_
  rintro e w1 ⟨rfl, rfl⟩
  go_wp2_with fail
  refine (high_any (sumOn 1 xs) 4 w (sumOn_range _ _).1 (by have := (sumOn_range 1 xs).2; omega) (by omega)).mono ?_
  rintro e w2 ⟨A2, rfl, h2, hb2⟩
  go_wp2_with fail
  refine (both_any A n c xs A2 4 4 _ w2 (hr.below hb2) h2.reads (by omega)).mono ?_
  rintro e w3 ⟨A3, rfl, h3, hb3⟩
  go_wp2
  go_ret
  exact ⟨_, rfl, h3.lower hb2.size, below_step hb2 hb3⟩

theorem refopens_any (A : Option Addr) (n c : Nat) (xs : List Int) (w : World) (hr : RB w A n c xs) (hn : n ≤ 140737300000000) :
    Calls Try.prog 30 #[.slice A n c] w fun e w' => e = .returned (.bool (opensB xs)) ∧ Below w.heap.size w w' := by
  have hl := hr.len
  have hcap := hr.cap
  by_cases h4 : n < 4
  · have e1 : opensB xs = false := by unfold opensB; rw [hl]; simp; omega
    rw [e1]
    go_enter Try.func30, Try.ntmps30
    go_wp2
    go_ret
    exact ⟨rfl, Below.refl _ _⟩
  · obtain ⟨q, rfl⟩ : ∃ q, n = q + 4 := ⟨n - 4, by omega⟩
    have e1 : opensB xs = decide (xs.take q ++ highB (sumOn 1 (xs.take q)) 4 = xs) := by
      unfold opensB
      rw [hl, Nat.add_sub_cancel]
      rw [decide_eq_true (by omega : 4 ≤ q + 4), Bool.true_and]
      congr 1
      have hk := List.take_append_drop q xs
      refine propext ⟨fun h => ?_, fun h => ?_⟩
      · rw [h, hk]
      · have h5 : xs.take q ++ highB (sumOn 1 (xs.take q)) 4 = xs.take q ++ xs.drop q := by rw [h, hk]
        exact List.append_cancel_left h5
    have HR := Lib.hid hr
    have HT := Lib.hid (hr.take q (by omega))
    rw [e1]
    clear e1 hr h4
    have hcut := Lib.hid hcap
    go_enter Try.func30, Try.ntmps30
    go_wp2_with fail
    refine (refseal_any A q c _ w HT.out (by omega)).mono ?_
    rintro e w2 ⟨A2, rfl, h2, hb2⟩
    go_wp2_with fail
    refine (same_any A2 (q + 4) (q + 4) _ A (q + 4) c xs w2 h2.reads (HR.out.below hb2)).mono ?_
    rintro e w3 ⟨rfl, hb3⟩
    have HB := Lib.hid (below_step hb2 hb3)
    go_wp2
    go_ret
    exact ⟨rfl, HB.out⟩
end Go.Proofs.Ytemkeeoolffokaa
