/- Plain laws of the sum (layer 3): no program in sight. -/
import Derived.Test.YtemkeeoolffokaaPureA
namespace Go.Proofs.Ytemkeeoolffokaa
set_option linter.unusedVariables false

def sumStep (a c : Int) : Int := (a * 257 + c) % 4294967291
def sumF (a : Int) (l : List Int) : Int := l.foldl sumStep a
/-- The sum of bytes, on from a number. -/
def sumOn (n : Int) (l : List Int) : Int := sumF (n % 4294967291) l
theorem sumF_range (l : List Int) : ∀ a, 0 ≤ a ∧ a < 4294967291 → 0 ≤ sumF a l ∧ sumF a l < 4294967291 := by
  induction l with
  | nil => intro a h; exact h
  | cons c l ih => intro a _; exact ih _ ⟨Int.emod_nonneg _ (by omega), Int.emod_lt_of_pos _ (by omega)⟩
theorem sumOn_range (n : Int) (l : List Int) : 0 ≤ sumOn n l ∧ sumOn n l < 4294967291 := sumF_range l _ ⟨Int.emod_nonneg _ (by omega), Int.emod_lt_of_pos _ (by omega)⟩
theorem sumF_append (a : Int) (l m : List Int) : sumF a (l ++ m) = sumF (sumF a l) m := by simp [sumF]
theorem sumOn_snoc (n : Int) (l : List Int) (c : Int) : sumOn n (l ++ [c]) = (sumOn n l * 257 + c) % 4294967291 := by simp [sumOn, sumF, sumStep]
theorem sumOn_append (n : Int) (l m : List Int) : sumOn n (l ++ m) = sumOn (sumOn n l) m := by
  have h := sumOn_range n l
  show sumF _ (l ++ m) = sumF (sumOn n l % 4294967291) m
  rw [Int.emod_eq_of_lt h.1 h.2, sumF_append]
  rfl
theorem sumStep_inj {a b c : Int} (ha : 0 ≤ a ∧ a < 4294967291) (hb : 0 ≤ b ∧ b < 4294967291) (h : sumStep a c = sumStep b c) : a = b := by
  unfold sumStep at h
  omega
theorem sumF_inj (l : List Int) : ∀ a b, 0 ≤ a ∧ a < 4294967291 → 0 ≤ b ∧ b < 4294967291 → sumF a l = sumF b l → a = b := by
  induction l with
  | nil => intro a b _ _ h; exact h
  | cons c l ih =>
    intro a b ha hb h
    exact sumStep_inj ha hb (ih _ _ ⟨Int.emod_nonneg _ (by omega), Int.emod_lt_of_pos _ (by omega)⟩ ⟨Int.emod_nonneg _ (by omega), Int.emod_lt_of_pos _ (by omega)⟩ h)
theorem sumOn_inj (l : List Int) (a b : Int) (ha : 0 ≤ a ∧ a < 4294967291) (hb : 0 ≤ b ∧ b < 4294967291) : sumOn a l = sumOn b l ↔ a = b := by
  refine ⟨fun h => ?_, fun h => by rw [h]⟩
  unfold sumOn at h
  rw [Int.emod_eq_of_lt ha.1 ha.2, Int.emod_eq_of_lt hb.1 hb.2] at h
  exact sumF_inj l a b ha hb h
theorem sumF_place (l : List Int) : ∀ (a : Int) (i : Nat) (y : Int), 0 ≤ a ∧ a < 4294967291 → i < l.length → Bytes l → 0 ≤ y → y < 256 → (sumF a (l.set i y) = sumF a l ↔ y = l.getD i 0) := by
  induction l with
  | nil => intro a i y _ h; simp at h
  | cons c l ih =>
    intro a i y ha hi hl hy0 hy1
    have hc := hl c (by simp)
    cases i with
    | zero =>
      simp only [List.set_cons_zero, List.getD_cons_zero]
      refine ⟨fun h => ?_, fun h => by rw [h]⟩
      have h2 : sumStep a y = sumStep a c := sumF_inj l _ _ ⟨Int.emod_nonneg _ (by omega), Int.emod_lt_of_pos _ (by omega)⟩ ⟨Int.emod_nonneg _ (by omega), Int.emod_lt_of_pos _ (by omega)⟩ h
      unfold sumStep at h2
      omega
    | succ i =>
      simp only [List.set_cons_succ, List.getD_cons_succ]
      exact ih _ i y ⟨Int.emod_nonneg _ (by omega), Int.emod_lt_of_pos _ (by omega)⟩ (by simpa using hi) (fun x hx => hl x (by simp [hx])) hy0 hy1
theorem sumOn_place (n : Int) (l : List Int) (i : Nat) (y : Int) (hi : i < l.length) (hl : Bytes l) (hy0 : 0 ≤ y) (hy1 : y < 256) : sumOn n (l.set i y) = sumOn n l ↔ y = l.getD i 0 :=
  sumF_place l _ i y ⟨Int.emod_nonneg _ (by omega), Int.emod_lt_of_pos _ (by omega)⟩ hi hl hy0 hy1

/-- x doubled i times behind division by the prime. -/
theorem dbl_step (x z : Int) (i : Nat) (h : x = z * 2 ^ i % 4294967291) : 2 * x % 4294967291 = z * 2 ^ (i + 1) % 4294967291 := by
  subst h
  rw [Int.mul_emod, Int.emod_emod, ← Int.mul_emod, Int.pow_succ]
  congr 1
  rw [Int.mul_left_comm, Int.mul_comm 2]
theorem left_sum (s c : Int) (h0 : 0 ≤ s) : (s / 65536 * 257 * 2 ^ 16 % 4294967291 + s % 65536 * 257 + c) % 4294967291 = (s * 257 + c) % 4294967291 := by
  have h : (2 : Int) ^ 16 = 65536 := rfl
  rw [h]
  omega

/-- A byte that is changed is another one. -/
theorem xor_ne (x y : Int) (hx0 : 0 ≤ x) (hx1 : x < 256) (hy0 : 0 ≤ y) (hy1 : y < 256) : (0 ≤ bits .xor .u8 x y ∧ bits .xor .u8 x y < 256) ∧ (bits .xor .u8 x y = x ↔ y = 0) := by
  obtain ⟨a, rfl⟩ := Int.eq_ofNat_of_zero_le hx0
  obtain ⟨b, rfl⟩ := Int.eq_ofNat_of_zero_le hy0
  have ha : a < 256 := by omega
  have hb : b < 256 := by omega
  have hlt : a ^^^ b < 2 ^ 8 := Nat.xor_lt_two_pow (by omega) (by omega)
  have e : bits .xor .u8 (a : Int) (b : Int) = ((a ^^^ b : Nat) : Int) := u8_xor_nat a b ha hb
  rw [e]
  refine ⟨⟨by omega, by omega⟩, ⟨fun h => ?_, fun h => ?_⟩⟩
  · have h2 : a ^^^ b = a := by omega
    have h3 : b = 0 := by
      have := congrArg (a ^^^ ·) h2
      simpa [← Nat.xor_assoc] using this
    omega
  · obtain rfl : b = 0 := by omega
    simp
end Go.Proofs.Ytemkeeoolffokaa
