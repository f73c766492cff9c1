/- OctetGoes: the walk. -/
import Derived.Test.YtemkeeoolffokaaRef1b
import Derived.Lib.SlBytesConst
namespace Go.Proofs.Ytemkeeoolffokaa
open Go.RowKit
set_option linter.unusedVariables false
set_option linter.unusedSimpArgs false

def abc : List Int := [97, 98, 99, 100, 101, 102, 103, 104]
theorem abc_bytes : Bytes abc := by intro x hx; simp [abc] at hx; omega

/-- What is there while OctetGoes goes on: the room, and the three lists, each in blocks of its own. -/
structure GSt (w cur : World) (b1 b2 b3 : Nat) (ar a2 a4 a8 : Addr) (n : Nat) (room t f e : List Int) : Prop where
  below : Below w.heap.size w cur
  r : OB cur w.heap.size (some ar) (n + 8) (n + 8) room
  t : OB cur b1 (some a2) (n + 2) (n + 2) t
  f : OB cur b2 (some a4) (n + 4) (n + 4) f
  e : OB cur b3 (some a8) (n + 8) (n + 8) e
  rb : ar.block < b1
  tb : a2.block < b2
  fb : a4.block < b3
  wb : w.heap.size ≤ b1 ∧ b1 ≤ b2 ∧ b2 ≤ b3
theorem GSt.step {w cur cur' : World} {b1 b2 b3 : Nat} {ar a2 a4 a8 : Addr} {n : Nat} {room t f e : List Int} (h : GSt w cur b1 b2 b3 ar a2 a4 a8 n room t f e) (hb : Below cur.heap.size cur cur') : GSt w cur' b1 b2 b3 ar a2 a4 a8 n room t f e :=
  ⟨below_step h.below hb, h.r.below hb, h.t.below hb, h.f.below hb, h.e.below hb, h.rb, h.tb, h.fb, h.wb⟩
theorem GSt.stores {w cur : World} {b1 b2 b3 : Nat} {ar a2 a4 a8 : Addr} {n : Nat} {room t f e : List Int} (h : GSt w cur b1 b2 b3 ar a2 a4 a8 n room t f e) (i : Nat) (hi : i < n + 2) :
    (cur.cell? (a2.add i) = some (.int .u8 (rd t i)) ∧ cur.frozen? (a2.add i) = false) ∧
    ((cur.setCell (a2.add i) (.int .u8 0)).cell? (a4.add i) = some (.int .u8 (rd f i)) ∧ (cur.setCell (a2.add i) (.int .u8 0)).frozen? (a4.add i) = false) ∧
    (((cur.setCell (a2.add i) (.int .u8 0)).setCell (a4.add i) (.int .u8 0)).cell? (a8.add i) = some (.int .u8 (rd e i)) ∧ ((cur.setCell (a2.add i) (.int .u8 0)).setCell (a4.add i) (.int .u8 0)).frozen? (a8.add i) = false) ∧
    GSt w (((cur.setCell (a2.add i) (.int .u8 0)).setCell (a4.add i) (.int .u8 0)).setCell (a8.add i) (.int .u8 0)) b1 b2 b3 ar a2 a4 a8 n room (t.set i 0) (f.set i 0) (e.set i 0) := by
  have k2 : (a2.add i).block = a2.block := add_block _ _
  have k4 : (a4.add i).block = a4.block := add_block _ _
  have k8 : (a8.add i).block = a8.block := add_block _ _
  have l2 := (h.t.ov.base_ a2 rfl)
  have l4 := (h.f.ov.base_ a4 rfl)
  have l8 := (h.e.ov.base_ a8 rfl)
  have lr := (h.r.ov.base_ ar rfl)
  have hrb := h.rb
  have htb := h.tb
  have hfb := h.fb
  have hwb := h.wb
  have f1 := h.f.far (p := a2.add i) (fun ad e' => by injection e' with e'; subst e'; omega) (.int .u8 0)
  have e1 := (h.e.far (p := a2.add i) (fun ad e' => by injection e' with e'; subst e'; omega) (.int .u8 0)).far (p := a4.add i) (fun ad e' => by injection e' with e'; subst e'; omega) (.int .u8 0)
  have t1 := ((h.t.store i hi 0 (by omega) (by omega)).far (p := a4.add i) (fun ad e' => by injection e' with e'; subst e'; omega) (.int .u8 0)).far (p := a8.add i) (fun ad e' => by injection e' with e'; subst e'; omega) (.int .u8 0)
  have r1 := ((h.r.far (p := a2.add i) (fun ad e' => by injection e' with e'; subst e'; omega) (.int .u8 0)).far (p := a4.add i) (fun ad e' => by injection e' with e'; subst e'; omega) (.int .u8 0)).far (p := a8.add i) (fun ad e' => by injection e' with e'; subst e'; omega) (.int .u8 0)
  refine ⟨h.t.cellf i hi, f1.cellf i (by omega), e1.cellf i (by omega), ⟨?_, r1, t1, ?_, ?_, hrb, htb, hfb, hwb⟩⟩
  · exact ((h.below.setCell (by omega) _).setCell (by omega) _).setCell (by omega) _
  · exact (f1.store i (by omega) 0 (by omega) (by omega)).far (p := a8.add i) (fun ad e' => by injection e' with e'; subst e'; omega) (.int .u8 0)
  · exact e1.store i (by omega) 0 (by omega) (by omega)
theorem OB.some_ {w : World} {base n c : Nat} {A : Option Addr} {xs : List Int} (h : OB w base A n c xs) (hn : 0 < n) : ∃ ad, A = some ad := by
  cases A with
  | none => have := h.ov.bare rfl; have := h.cap; omega
  | some ad => exact ⟨ad, rfl⟩

set_option maxHeartbeats 4000000 in
theorem octetGoes_walk (A0 : Option Addr) (n0 c0 : Nat) (l0 : List Int) (A1 : Option Addr) (n1 c1 : Nat) (l1 : List Int) (x : Int) (w : World) (h0 : RN w .u8 A0 n0 c0 l0) (y0 : n0 * 1 ≤ 140737488351232) (h1 : RN w .u8 A1 n1 c1 l1) (y1 : n1 * 1 ≤ 140737488351232) (hx : (Lit.int .u64 x).wf = true) :
    Calls Try.prog 12 #[.slice A0 n0 c0, .slice A1 n1 c1, .int .u64 x] w fun e w' => e = .returned (.bool true) ∧ Below w.heap.size w w' := by
  have hn1 := h1.small
  obtain ⟨hx0, hx1⟩ := wf_u64 hx
  clear hx
  have kc := fun (w : World) (C : Array Value) (n c : Nat) => Lib.run_convert_bytes_const (P := Try.prog) w 22 5 C n c Try.underlying22 Try.underlying5
  by_cases hbig : 2000 < n0
  · have hb : decide ((2000 : Int) < (n0 : Int)) = true := decide_eq_true (by omega)
    go_enter Try.func12, Try.ntmps12
    go_wp2_with fail
    refine (wakes_any w).mono ?_
    rintro e w1 ⟨rfl, hb1⟩
    have HB := Lib.hid hb1
    clear hb1
    go_wp2
    go_ret
    exact ⟨rfl, HB.out⟩
  · by_cases hbig2 : 2000 < n1
    · have hb0 : decide ((2000 : Int) < (n0 : Int)) = false := decide_eq_false (by omega)
      have hb2 : decide ((2000 : Int) < (n1 : Int)) = true := decide_eq_true (by omega)
      go_enter Try.func12, Try.ntmps12
      go_wp2_with fail
      refine (wakes_any w).mono ?_
      rintro e w1 ⟨rfl, hb1⟩
      have HB := Lib.hid hb1
      clear hb1
      go_wp2
      go_ret
      exact ⟨rfl, HB.out⟩
    · have hb0 : decide ((2000 : Int) < (n0 : Int)) = false := decide_eq_false (by omega)
      have hb2 : decide ((2000 : Int) < (n1 : Int)) = false := decide_eq_false (by omega)
      have hn0 : n0 ≤ 2000 := by omega
      have hn1' : n1 ≤ 2000 := by omega
      clear hbig hbig2
      have H0 := Lib.hid h0.bytes
      have H1 := Lib.hid h1.bytes
      clear h0 h1
      go_enter Try.func12, Try.ntmps12
      go_wp2_with fail
      refine (wakes_any w).mono ?_
      rintro e w1 ⟨rfl, hb1⟩
      have HB := Lib.hid hb1
      clear hb1
      go_wp2_with fail
      refine (both_any A0 n0 c0 l0 _ 8 8 abc _ (H0.out.below (below_alloc HB.out _)) (lit_marked _ _ abc _ rfl (by simp [abc]) abc_bytes) (by omega)).mono ?_
      rintro e w2 ⟨AR, rfl, hR, hb2⟩
      have HB2 := Lib.hid (below_step (below_alloc HB.out _) hb2)
      obtain ⟨ar, rfl⟩ := hR.some_ (by omega)
      have HR := Lib.hid (hR.lower (show w.heap.size ≤ _ from Nat.le_trans HB.out.size (by simp)))
      have HRI : Hid (RB w2 (some ar) n0 (n0 + 8) l0) := by
        have := hR.reads.take n0 (by omega)
        rw [List.take_append_of_le_length (by rw [H0.out.len]; exact Nat.le_refl _), List.take_of_length_le (by rw [H0.out.len]; exact Nat.le_refl _)] at this
        exact this
      clear hR hb2
      have hw16 : IntKind.u16.wrap x = x % 65536 := by simp [IntKind.wrap, IntKind.bits, IntKind.signed]
      have hw32 : IntKind.u32.wrap x = x % 4294967296 := by simp [IntKind.wrap, IntKind.bits, IntKind.signed]
      go_wp2_with fail
      refine (put16_any (some ar) n0 (n0 + 8) l0 (x % 65536) w2 HRI.out (by omega) (by omega) (by omega)).mono ?_
      rintro e w3 ⟨AT, rfl, hT, hb3⟩
      obtain ⟨a2, rfl⟩ := hT.some_ (by omega)
      have HRI3 := Lib.hid (HRI.out.below hb3)
      have HT := Lib.hid (And.intro hT hb3)
      clear hT hb3
      go_wp2_with fail
      refine (put32_any (some ar) n0 (n0 + 8) l0 (x % 4294967296) w3 HRI3.out (by omega) (by omega) (by omega)).mono ?_
      rintro e w4 ⟨AF, rfl, hF, hb4⟩
      obtain ⟨a4, rfl⟩ := hF.some_ (by omega)
      have HRI4 := Lib.hid (HRI3.out.below hb4)
      have HF := Lib.hid (And.intro hF hb4)
      clear hF hb4
      go_wp2_with fail
      refine (put64_any (some ar) n0 (n0 + 8) l0 x w4 HRI4.out (by omega) hx0 hx1).mono ?_
      rintro e w5 ⟨AE, rfl, hE, hb5⟩
      obtain ⟨a8, rfl⟩ := hE.some_ (by omega)
      have HS : Hid (GSt w w5 w2.heap.size w3.heap.size w4.heap.size ar a2 a4 a8 n0 (l0 ++ abc) (l0 ++ highB x 2) (l0 ++ highB x 4) (l0 ++ highB x 8)) := by
        have t := HT.out.1
        have f := HF.out.1
        rw [show x % 65536 = x % 2 ^ (8 * 2) by rfl, highB_mod] at t
        rw [show x % 4294967296 = x % 2 ^ (8 * 4) by rfl, highB_mod] at f
        exact ⟨below_step (below_step (below_step HB2.out HT.out.2) HF.out.2) hb5, ((HR.out.below HT.out.2).below HF.out.2).below hb5, (t.below HF.out.2).below hb5, f.below hb5, hE,
          HR.out.lt ar rfl, t.lt a2 rfl, f.lt a4 rfl, HB2.out.size, HT.out.2.size, HF.out.2.size⟩
      clear hE hb5 HF HT HRI HRI3 HRI4 HR HB2 HB hw16 hw32
      go_wp2_with fail
      refine (high_any x 2 w5 hx0 hx1 (by omega)).mono ?_
      rintro e w6 ⟨B1, rfl, h1, hb1⟩
      have HS6 := Lib.hid (HS.out.step hb1)
      have HH := Lib.hid h1.reads
      clear h1 hb1 HS
      go_wp2_with fail
      refine (both_any A0 n0 c0 l0 B1 2 2 _ w6 (H0.out.below HS6.out.below) HH.out (by omega)).mono ?_
      rintro e w7 ⟨B2, rfl, h1, hb1⟩
      have HS7 := Lib.hid (HS6.out.step hb1)
      have HH2 := Lib.hid h1.reads
      clear h1 hb1 HS6 HH
      go_wp2_with fail
      refine (same_any (some a2) (n0 + 2) (n0 + 2) _ B2 (n0 + 2) (n0 + 2) _ w7 HS7.out.t.reads HH2.out).mono ?_
      rintro e w8 ⟨rfl, hb1⟩
      have HS8 := Lib.hid (HS7.out.step hb1)
      clear hb1 HS7 HH2
      go_wp2_with fail
      refine (high_any x 4 w8 hx0 hx1 (by omega)).mono ?_
      rintro e w6 ⟨B3, rfl, h1, hb1⟩
      have HS6 := Lib.hid (HS8.out.step hb1)
      have HH := Lib.hid h1.reads
      clear h1 hb1 HS8
      go_wp2_with fail
      refine (both_any A0 n0 c0 l0 B3 4 4 _ w6 (H0.out.below HS6.out.below) HH.out (by omega)).mono ?_
      rintro e w7 ⟨B4, rfl, h1, hb1⟩
      have HS7 := Lib.hid (HS6.out.step hb1)
      have HH2 := Lib.hid h1.reads
      clear h1 hb1 HS6 HH
      go_wp2_with fail
      refine (same_any (some a4) (n0 + 4) (n0 + 4) _ B4 (n0 + 4) (n0 + 4) _ w7 HS7.out.f.reads HH2.out).mono ?_
      rintro e w8 ⟨rfl, hb1⟩
      have HS8 := Lib.hid (HS7.out.step hb1)
      clear hb1 HS7 HH2
      go_wp2_with fail
      refine (high_any x 8 w8 hx0 hx1 (by omega)).mono ?_
      rintro e w6 ⟨B5, rfl, h1, hb1⟩
      have HS6 := Lib.hid (HS8.out.step hb1)
      have HH := Lib.hid h1.reads
      clear h1 hb1 HS8
      go_wp2_with fail
      refine (both_any A0 n0 c0 l0 B5 8 8 _ w6 (H0.out.below HS6.out.below) HH.out (by omega)).mono ?_
      rintro e w7 ⟨B6, rfl, h1, hb1⟩
      have HS7 := Lib.hid (HS6.out.step hb1)
      have HH2 := Lib.hid h1.reads
      clear h1 hb1 HS6 HH
      go_wp2_with fail
      refine (same_any (some a8) (n0 + 8) (n0 + 8) _ B6 (n0 + 8) (n0 + 8) _ w7 HS7.out.e.reads HH2.out).mono ?_
      rintro e w8 ⟨rfl, hb1⟩
      have HS8 := Lib.hid (HS7.out.step hb1)
      clear hb1 HS7 HH2 hb0 hb2
      go_wp2_with fail
      go_loopw [69] (fun i wr => ∃ (k : Nat), i = .int .i64 k ∧ Hid (k ≤ n0 + 2) ∧ Hid (∃ t f e, GSt w wr w2.heap.size w3.heap.size w4.heap.size ar a2 a4 a8 n0 (l0 ++ abc) t f e)) (fun i _ => n0 + 2 - (intOf i).toNat)
      case atStart => exact ⟨0, rfl, Nat.zero_le _, _, _, _, HS8.out⟩
      case round =>
        obtain ⟨k, rfl, HK, HG⟩ := hrel
        clear HS8
        have hk := HK.out
        by_cases hlt : k < n0 + 2
        · have HLT := Lib.hid hlt
          obtain ⟨t, f, e, hg⟩ := HG.out
          obtain ⟨⟨x1, x2⟩, ⟨x3, x4⟩, ⟨x5, x6⟩, hnext⟩ := hg.stores k hlt
          have HN := Lib.hid hnext
          have hk4 : k < n0 + 4 := by omega
          have hk8 : k < n0 + 8 := by omega
          clear hnext hg
          go_wp2_with fail
          go_roundw
          case measure => simp [intOf]; omega
          case rel => exact ⟨k + 1, by go_num, (show k + 1 ≤ n0 + 2 by omega), _, _, _, HN.out⟩
        · obtain rfl : k = n0 + 2 := by omega
          obtain ⟨t, f, e, hg⟩ := HG.out
          have HN := Lib.hid hg
          clear hg hlt
          go_wp2_with fail
          refine (both_any A0 n0 c0 l0 _ 8 8 abc _ (H0.out.below (below_alloc HN.out.below _)) (lit_marked _ _ abc _ rfl (by simp [abc]) abc_bytes) (by omega)).mono ?_
          rintro e9 w9 ⟨A9, rfl, h9, hb9⟩
          have HS9 := Lib.hid (HN.out.step (below_step (below_alloc (Below.refl _ _) _) hb9))
          have H9 := Lib.hid h9.reads
          clear h9 hb9
          go_wp2_with fail
          refine (same_any (some ar) (n0 + 8) (n0 + 8) _ A9 (n0 + 8) (n0 + 8) _ w9 HS9.out.r.reads H9.out).mono ?_
          rintro e9 w10 ⟨rfl, hb10⟩
          have HB10 := Lib.hid (below_step HS9.out.below hb10)
          clear hb10 H9 HS9 HN
          go_wp2_with fail
          refine (equal_any A0 n0 c0 l0 A1 n1 c1 l1 w10 (H0.out.below HB10.out) (H1.out.below HB10.out)).mono ?_
          rintro e9 w11 ⟨rfl, hb11⟩
          have HB11 := Lib.hid (below_step HB10.out hb11)
          clear hb11 HB10
          go_wp2_with fail
          refine (same_any A0 n0 c0 l0 A1 n1 c1 l1 w11 (H0.out.below HB11.out) (H1.out.below HB11.out)).mono ?_
          rintro e9 w12 ⟨rfl, hb12⟩
          have HB12 := Lib.hid (below_step HB11.out hb12)
          clear hb12 HB11
          go_wp2_with fail
          go_ret
          exact ⟨by simp, HB12.out⟩

end Go.Proofs.Ytemkeeoolffokaa
