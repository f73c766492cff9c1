/- Contracts of package octet. -/
import Derived.Test.YtcloepjeckbmoaaDoorLib
namespace Go.Proofs.YtcloepjeckbmoaaDoor
open Go.RowKit
set_option linter.unusedVariables false
set_option linter.unusedSimpArgs false

def bitB (xs : List Int) (k : Int) : Bool := if k < 0 then false else if (xs.length : Int) ≤ k / 8 then false else (rd xs ((xs.length : Int) - 1 - k / 8)) / 2 ^ (k % 8).toNat % 2 == 1
theorem bits_and1 (x : Int) (h0 : 0 ≤ x) (h1 : x < 256) : bits .and .u8 x 1 = x % 2 := bits_mask .u8 8 (by decide) wraps_u8 1 (by decide) x h0 h1
theorem div_lt256 (x : Int) (k : Nat) (h0 : 0 ≤ x) (h1 : x < 256) : 0 ≤ x / 2 ^ k ∧ x / 2 ^ k < 256 :=
  ⟨Int.ediv_nonneg h0 (Int.pow_nonneg (by omega)), Int.lt_of_le_of_lt (Int.ediv_le_self _ h0) h1⟩

theorem clone_any (A : Option Addr) (n c : Nat) (xs : List Int) (w : World) (hr : RB w A n c xs) (hn : n ≤ 140737488355328) :
    Calls Tryd.prog 54 #[.slice A n c] w fun e w' => ∃ A' c', e = .returned (.slice A' n c') ∧ OB w' w.heap.size A' n c' xs ∧ Below w.heap.size w w' := by
  cases A with
  | none =>
    have h0 : n = 0 := by
      rcases Nat.eq_zero_or_pos n with h | h
      · exact h
      · obtain ⟨ad, e, _⟩ := hr.rv.cells h
        cases e
    subst h0
    obtain rfl : xs = [] := List.eq_nil_of_length_eq_zero hr.len
    go_enter Tryd.func54, Tryd.ntmps54
    go_wp2
    go_ret
    exact ⟨_, _, rfl, OB.nil _ _, Below.refl _ _⟩
  | some ad =>
    go_enter Tryd.func54, Tryd.ntmps54
    go_wp2_with (at_builtin; refine wpList_append_bytes rfl (.tmp 5) (.tmp 6) rfl rfl rfl (OB.empty w w.heap.size (Nat.le_refl _)) (hr.below (below_alloc (Below.refl _ _) _)) (by simp) (by omega) ?_; intro A' c' w' h1 h2 h3; rw [Nat.zero_add, List.nil_append] at h1; rw [Nat.zero_add])
    go_ret
    exact ⟨_, _, rfl, h1, below_own (below_alloc (Below.refl _ _) _) h2 (fun ad h => by injection h with h; subst h; exact Nat.le_refl _)⟩

/-- A number's bytes, the highest first. -/
def highB (x : Int) (n : Nat) : List Int := (List.range n).map fun i => x / 2 ^ (8 * n - 8 - 8 * i) % 256
theorem highB_length (x : Int) (n : Nat) : (highB x n).length = n := by simp [highB]
theorem highB_bytes (x : Int) (n : Nat) : Bytes (highB x n) := by
  intro y hy
  simp only [highB, List.mem_map] at hy
  obtain ⟨i, _, rfl⟩ := hy
  omega
theorem highB_take (x : Int) (n k : Nat) (h : k < n) : (highB x n).take (k + 1) = (highB x n).take k ++ [x / 2 ^ (8 * n - 8 - 8 * k) % 256] := by
  rw [List.take_succ_eq_append_getElem (by rw [highB_length]; exact h)]
  simp [highB]

theorem and255 (x : Int) (h : 0 ≤ x ∧ x < 18446744073709551616) : bits .and .u64 x 255 % 256 = x % 256 := by
  rw [show bits .and .u64 x 255 = x % 256 from bits_mask .u64 64 (by decide) (fun n h0 h1 => by simp only [IntKind.wrap, IntKind.bits, IntKind.signed]; simp; omega) 8 (by decide) x h.1 h.2]
  omega
theorem div_ltu64 (x : Int) (k : Nat) (h0 : 0 ≤ x) (h1 : x < 18446744073709551616) : 0 ≤ x / 2 ^ k ∧ x / 2 ^ k < 18446744073709551616 :=
  ⟨Int.ediv_nonneg h0 (Int.pow_nonneg (by omega)), Int.lt_of_le_of_lt (Int.ediv_le_self _ h0) h1⟩
end Go.Proofs.YtcloepjeckbmoaaDoor
