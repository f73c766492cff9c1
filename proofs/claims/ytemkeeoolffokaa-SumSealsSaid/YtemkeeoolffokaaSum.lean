/- Layer 3 (sum) and the document's answer for it: what each function does. -/
import Derived.Test.YtemkeeoolffokaaRef1b
import Derived.Test.YtemkeeoolffokaaPureS
import Derived.Test.YtemkeeoolffokaaMix
namespace Go.Proofs.Ytemkeeoolffokaa
open Go.RowKit
set_option linter.unusedVariables false
set_option linter.unusedSimpArgs false

theorem wrap_u64_id (x : Int) (h0 : 0 ≤ x) (h1 : x < 18446744073709551616) : IntKind.u64.wrap x = x := by
  simp only [IntKind.wrap, IntKind.bits, IntKind.signed]; simp; omega
theorem wrap_u32_id (x : Int) (h0 : 0 ≤ x) (h1 : x < 4294967296) : IntKind.u32.wrap x = x := by
  simp only [IntKind.wrap, IntKind.bits, IntKind.signed]; simp; omega
theorem onfn_any (h : Nat) (x c : Int) (w : World) (hx0 : 0 ≤ x) (hx1 : x < 4294967291) (hc0 : 0 ≤ c) (hc1 : c < 256) (hb : w.heap[h]? = some (.cells #[.int .u64 x] 27 (0, 0))) :
    Calls Try.prog 49 #[.int .u8 c, .pointer (some ⟨h, 0, none⟩)] w fun e w' => e = .returned (.tuple #[]) ∧ w.grownBy w' (some h) ∧ w'.heap[h]? = some (.cells #[.int .u64 ((x * 257 + c) % 4294967291)] 27 (0, 0)) := by
  have HB := Lib.hid hb
  have hcell : w.cell? ⟨h, 0, none⟩ = some (.int .u64 x) := by rw [blk_cell hb]; rfl
  have hf0 : w.frozen? ⟨h, 0, none⟩ = false := blk_frozen hb 0
  have e1 : IntKind.u64.wrap (x * 257) = x * 257 := wrap_u64_id _ (by omega) (by omega)
  have e2 : IntKind.u64.wrap (x * 257 + c) = x * 257 + c := wrap_u64_id _ (by omega) (by omega)
  have e3 : (x * 257 + c).tmod 4294967291 = (x * 257 + c) % 4294967291 := Int.tmod_eq_emod_of_nonneg (by omega)
  have e4 : IntKind.u64.wrap c = c := wrap_u64_id _ (by omega) (by omega)
  clear hb
  go_enter Try.func49, Try.ntmps49
  go_wp2
  go_end0
  exact ⟨rfl, grown_setCell _ _ _, blk_set HB.out 0 _⟩

theorem on_any (s : Int) (A : Option Addr) (n c : Nat) (xs : List Int) (w : World) (hs0 : 0 ≤ s) (hs1 : s < 4294967296) (hr : RB w A n c xs) :
    Calls Try.prog 24 #[.int .u32 s, .slice A n c] w fun e w' => e = .returned (.int .u32 (sumOn s xs)) ∧ Below w.heap.size w w' := by
  have hn := hr.small
  have HL := Lib.hid hr.len
  have e1 : s.tmod 4294967291 = s % 4294967291 := Int.tmod_eq_emod_of_nonneg hs0
  have e2 : IntKind.u64.wrap s = s := wrap_u64_id _ (by omega) (by omega)
  have HR := Lib.hid hr
  clear hr
  go_enter Try.func24, Try.ntmps24
  go_wp2_with fail
  clear e1 e2
  go_loopw [14] (fun i wr => ∃ k : Nat, i = .int .i64 k ∧ Hid (k ≤ n ∧ Below w.heap.size w wr ∧ wr.heap[w.heap.size]? = some (.cells #[.int .u64 (sumOn s (xs.take k))] 27 (0, 0)))) (fun i _ => n - (intOf i).toNat)
  case atStart =>
    exact ⟨0, rfl, Nat.zero_le _, below_alloc (Below.refl _ _) _, blk_new _ _⟩
  case round =>
    obtain ⟨k, rfl, HH⟩ := hrel
    have hkn := HH.out.1
    by_cases hlt : k < n
    · have HLT := Lib.hid hlt
      obtain ⟨ad, rfl, hc1⟩ := (HR.out.below HH.out.2.1).at_ k (by omega) (by omega)
      have hd1 : wr.cell? (ad.add k) = some (.int .u8 (rd xs k)) := hc1
      clear hc1
      go_wp2_with fail
      refine (onfn_any w.heap.size (sumOn s (xs.take k)) (rd xs k) wr (sumOn_range _ _).1 (sumOn_range _ _).2 (HR.out.rng _).1 (HR.out.rng _).2 HH.out.2.2).mono ?_
      rintro e w2 ⟨rfl, hg, hb2⟩
      have HN : Hid (Below w.heap.size w w2) := HH.out.2.1.grown hg HH.out.2.1.size (fun k hk => by injection hk with hk; omega)
      have HB2 := Lib.hid hb2
      clear hg hb2
      go_wp2_with fail
      go_roundw
      case measure => simp [intOf]; omega
      case rel =>
        refine ⟨k + 1, by go_num, by omega, HN.out, ?_⟩
        rw [take_rd xs k (by rw [HL.out]; exact HLT.out), sumOn_snoc]
        exact HB2.out
    · obtain rfl : k = n := by omega
      have hfin := HH.out.2.2
      rw [List.take_of_length_le (by rw [HL.out]; exact Nat.le_refl _)] at hfin
      have hd : wr.cell? ⟨w.heap.size, 0, none⟩ = some (.int .u64 (sumOn s xs)) := by rw [blk_cell hfin]; rfl
      have e3 : IntKind.u32.wrap (sumOn s xs) = sumOn s xs := wrap_u32_id _ (sumOn_range _ _).1 (by have := (sumOn_range s xs).2; omega)
      clear hlt hfin
      go_wp2
      go_ret
      exact ⟨rfl, HH.out.2.1⟩

theorem sum32_any (A : Option Addr) (n c : Nat) (xs : List Int) (w : World) (hr : RB w A n c xs) :
    Calls Try.prog 22 #[.slice A n c] w fun e w' => e = .returned (.int .u32 (sumOn 1 xs)) ∧ Below w.heap.size w w' := by
  go_enter Try.func22, Try.ntmps22
  go_wp2_with fail
  refine (on_any 1 A n c xs w (by omega) (by omega) hr).mono ?_
  rintro e w' ⟨rfl, hb⟩
  go_wp2
  go_ret
  exact ⟨rfl, hb⟩
theorem seal32_any (A : Option Addr) (n c : Nat) (xs : List Int) (w : World) (hr : RB w A n c xs) (hn : n ≤ 140737300000000) :
    Calls Try.prog 27 #[.slice A n c] w fun e w' => ∃ A', e = .returned (.slice A' (n + 4) (n + 4)) ∧ OB w' w.heap.size A' (n + 4) (n + 4) (xs ++ highB (sumOn 1 xs) 4) ∧ Below w.heap.size w w' := by
  go_enter Try.func27, Try.ntmps27
  go_wp2_with fail
  refine (sum32_any A n c xs w hr).mono ?_
  rintro e w1 ⟨rfl, hb⟩
  go_wp2_with fail
  refine (put32_any A n c xs (sumOn 1 xs) w1 (hr.below hb) hn (sumOn_range _ _).1 (by have := (sumOn_range 1 xs).2; omega)).mono ?_
  rintro e w2 ⟨A', rfl, h, hb2⟩
  go_wp2
  go_ret
  exact ⟨_, rfl, h.lower hb.size, below_step hb hb2⟩

theorem refleft_any (s c : Int) (w : World) (hs0 : 0 ≤ s) (hs1 : s < 4294967296) (hc0 : 0 ≤ c) (hc1 : c < 256) :
    Calls Try.prog 50 #[.int .u64 s, .int .u64 257, .int .u64 c] w fun e w' => e = .returned (.int .u64 ((s * 257 + c) % 4294967291)) ∧ w = w' := by
  have e1 : s / 2 ^ 16 = s / 65536 := rfl
  have e2 : IntKind.u64.wrap (s / 65536 * 257) = s / 65536 * 257 := wrap_u64_id _ (by omega) (by omega)
  have e3 : (s / 65536 * 257).tmod 4294967291 = s / 65536 * 257 % 4294967291 := Int.tmod_eq_emod_of_nonneg (by omega)
  go_enter Try.func50, Try.ntmps50
  go_wp2_with fail
  go_loop [7, 8] (fun v i => ∃ k : Nat, k ≤ 16 ∧ i = .int .i64 k ∧ v = .int .u64 (s / 65536 * 257 * 2 ^ k % 4294967291)) (fun _ i => 16 - (intOf i).toNat)
  case atStart => exact ⟨0, by omega, rfl, by simp⟩
  case round =>
    obtain ⟨k, hk, rfl, rfl⟩ := hrel
    clear e1 e2 e3
    by_cases hlt : k < 16
    · obtain ⟨x, hx⟩ : ∃ x, x = s / 65536 * 257 * 2 ^ k % 4294967291 := ⟨_, rfl⟩
      have hx0 : 0 ≤ x := by rw [hx]; exact Int.emod_nonneg _ (by omega)
      have hx1 : x < 4294967291 := by rw [hx]; exact Int.emod_lt_of_pos _ (by omega)
      have HX := Lib.hid hx
      have e1 : IntKind.u64.wrap (2 * x) = 2 * x := wrap_u64_id _ (by omega) (by omega)
      have e2 : (2 * x).tmod 4294967291 = 2 * x % 4294967291 := Int.tmod_eq_emod_of_nonneg (by omega)
      rw [← hx]
      clear hx
      go_wp2_with fail
      go_round
      case rel => exact ⟨k + 1, by omega, by go_num, by rw [dbl_step x _ k HX.out]⟩
      case measure => simp [intOf]; omega
    · obtain rfl : k = 16 := by omega
      clear hlt hk
      obtain ⟨x, hx⟩ : ∃ x, x = s / 65536 * 257 * 2 ^ 16 % 4294967291 := ⟨_, rfl⟩
      have hx0 : 0 ≤ x := by rw [hx]; exact Int.emod_nonneg _ (by omega)
      have hx1 : x < 4294967291 := by rw [hx]; exact Int.emod_lt_of_pos _ (by omega)
      have HX := Lib.hid hx
      have e0 : s.tmod 65536 = s % 65536 := Int.tmod_eq_emod_of_nonneg hs0
      have e1 : IntKind.u64.wrap (s % 65536 * 257) = s % 65536 * 257 := wrap_u64_id _ (by omega) (by omega)
      have e2 : IntKind.u64.wrap (x + s % 65536 * 257) = x + s % 65536 * 257 := wrap_u64_id _ (by omega) (by omega)
      have e3 : IntKind.u64.wrap (x + s % 65536 * 257 + c) = x + s % 65536 * 257 + c := wrap_u64_id _ (by omega) (by omega)
      have e4 : (x + s % 65536 * 257 + c).tmod 4294967291 = (x + s % 65536 * 257 + c) % 4294967291 := Int.tmod_eq_emod_of_nonneg (by omega)
      rw [← hx]
      clear hx
      go_wp2_with fail
      go_ret
      refine ⟨?_, rfl⟩
      rw [HX.out, left_sum s c hs0]
      rfl
theorem refon_any (s : Int) (A : Option Addr) (n c : Nat) (xs : List Int) (w : World) (hs0 : 0 ≤ s) (hs1 : s < 4294967296) (hr : RB w A n c xs) :
    Calls Try.prog 25 #[.int .u32 s, .slice A n c] w fun e w' => e = .returned (.int .u32 (sumOn s xs)) ∧ w = w' := by
  have hn := hr.small
  have HL := Lib.hid hr.len
  have e1 : s.tmod 4294967291 = s % 4294967291 := Int.tmod_eq_emod_of_nonneg hs0
  have e2 : IntKind.u64.wrap s = s := wrap_u64_id _ (by omega) (by omega)
  have HR := Lib.hid hr
  clear hr
  go_enter Try.func25, Try.ntmps25
  go_wp2_with fail
  clear e1 e2
  go_loop [5, 6] (fun v i => ∃ k : Nat, k ≤ n ∧ i = .int .i64 k ∧ v = .int .u64 (sumOn s (xs.take k))) (fun _ i => n - (intOf i).toNat)
  case atStart => exact ⟨0, Nat.zero_le _, rfl, rfl⟩
  case round =>
    obtain ⟨k, hkn, rfl, rfl⟩ := hrel
    by_cases hlt : k < n
    · have HLT := Lib.hid hlt
      obtain ⟨ad, rfl, hc1⟩ := HR.out.at_ k (by omega) (by omega)
      have hd1 : w.cell? (ad.add k) = some (.int .u8 (rd xs k)) := hc1
      have hg := HR.out.rng k
      have e3 : IntKind.u64.wrap (rd xs k) = rd xs k := wrap_u64_id _ (by omega) (by omega)
      clear hc1
      go_wp2_with fail
      refine (refleft_any (sumOn s (xs.take k)) (rd xs k) w (sumOn_range _ _).1 (by have := (sumOn_range s (xs.take k)).2; omega) hg.1 hg.2).mono ?_
      rintro e w2 ⟨rfl, rfl⟩
      go_wp2_with fail
      go_round
      case measure => simp [intOf]; omega
      case rel =>
        refine ⟨k + 1, by omega, by go_num, ?_⟩
        rw [take_rd xs k (by rw [HL.out]; exact HLT.out), sumOn_snoc]
    · obtain rfl : k = n := by omega
      have e3 : IntKind.u32.wrap (sumOn s xs) = sumOn s xs := wrap_u32_id _ (sumOn_range _ _).1 (by have := (sumOn_range s xs).2; omega)
      rw [List.take_of_length_le (by rw [HL.out]; exact Nat.le_refl _)]
      clear hlt
      go_wp2
      go_ret
      exact ⟨rfl, rfl⟩
theorem refsum32_any (A : Option Addr) (n c : Nat) (xs : List Int) (w : World) (hr : RB w A n c xs) :
    Calls Try.prog 23 #[.slice A n c] w fun e w' => e = .returned (.int .u32 (sumOn 1 xs)) ∧ w = w' := by
  go_enter Try.func23, Try.ntmps23
  go_wp2_with fail
  refine (refon_any 1 A n c xs w (by omega) (by omega) hr).mono ?_
  rintro e w' ⟨rfl, rfl⟩
  go_wp2
  go_ret
  exact ⟨rfl, rfl⟩
end Go.Proofs.Ytemkeeoolffokaa
