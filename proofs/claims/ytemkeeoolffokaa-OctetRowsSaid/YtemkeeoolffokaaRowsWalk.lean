/- OctetRows: the walk. -/
import Derived.Test.YtemkeeoolffokaaCmp
import Derived.Test.YtemkeeoolffokaaMix
namespace Go.Proofs.Ytemkeeoolffokaa
open Go.RowKit
set_option linter.unusedVariables false
set_option linter.unusedSimpArgs false

/-- Behind k rows: the bytes of both, and how they stand to one another. -/
structure RSt (w wr : World) (AX : Option Addr) (cx : Nat) (AY : Option Addr) (cy : Nat) (m : Nat) (X Y : List Int) (k : Nat) : Prop where
  below : Below w.heap.size w wr
  x : RB wr AX m cx X
  y : RB wr AY m cy Y
  small : m ≤ 8 * k

theorem load_u64 {w : World} {ad : Addr} {v : Value} (h : w.cell? ad = some v) : (Instr.loadAt 27 (.pointer (some ad))).run Try.prog w = .ok v w := by
  go_simp
theorem RSt.next {w wr w1 w2 : World} {AX AY BX BY : Option Addr} {cx cy dx dy m d : Nat} {X Y u v : List Int} {k : Nat} (h : RSt w wr AX cx AY cy m X Y k) (hb1 : Below wr.heap.size wr w1) (hx : RB w1 BX (m + d) dx (X ++ u)) (hb2 : Below w1.heap.size w1 w2) (hy : RB w2 BY (m + d) dy (Y ++ v)) (hd : d ≤ 8) :
    RSt w w2 BX dx BY dy (m + d) (X ++ u) (Y ++ v) (k + 1) :=
  ⟨below_step (below_step h.below hb1) hb2, hx.below hb2, hy, by have := h.small; omega⟩

set_option maxHeartbeats 4000000 in
theorem octetRows_walk (A0 : Option Addr) (n0 c0 : Nat) (l0 : List Int) (A1 : Option Addr) (n1 c1 : Nat) (l1 : List Int) (A2 : Option Addr) (n2 c2 : Nat) (l2 : List Int) (w : World)
    (h0 : RN w .u64 A0 n0 c0 l0) (y0 : n0 * 8 ≤ 140737488351232) (h1 : RN w .u64 A1 n1 c1 l1) (y1 : n1 * 8 ≤ 140737488351232) (h2 : RN w .i64 A2 n2 c2 l2) (y2 : n2 * 8 ≤ 140737488351232) :
    Calls Try.prog 13 #[.slice A0 n0 c0, .slice A1 n1 c1, .slice A2 n2 c2] w fun e w' => e = .returned (.bool true) ∧ Below w.heap.size w w' := by
  have hn0 := h0.small
  have hn1 := h1.small
  have hn2 := h2.small
  have H0 := Lib.hid h0
  have H1 := Lib.hid h1
  have H2 := Lib.hid h2
  clear h0 h1 h2
  go_enter Try.func13, Try.ntmps13
  go_wp2_with fail
  refine (wakes_any w).mono ?_
  rintro e w1 ⟨rfl, hb1⟩
  have HB := Lib.hid hb1
  clear hb1
  go_wp2
  obtain ⟨nn, hnn, q0, q1, q2, q3⟩ : ∃ nn : Nat, min (n0 : Int) (min (n1 : Int) (min (n2 : Int) 100)) = (nn : Int) ∧ nn ≤ n0 ∧ nn ≤ n1 ∧ nn ≤ n2 ∧ nn ≤ 100 :=
    ⟨min n0 (min n1 (min n2 100)), by omega, by omega, by omega, by omega, by omega⟩
  rw [hnn]
  clear hnn
  go_loopw [8, 9, 10, 22] (fun vx vy vo i wr => ∃ (k : Nat) (AX : Option Addr) (cx : Nat) (AY : Option Addr) (cy m : Nat) (X Y : List Int), i = .int .i64 k ∧ vx = .slice AX m cx ∧ vy = .slice AY m cy ∧ vo = .int .i64 (cmpI X Y) ∧ Hid (k ≤ nn) ∧ Hid (RSt w wr AX cx AY cy m X Y k)) (fun _ _ _ i _ => nn - (intOf i).toNat)
  case atStart => exact ⟨0, none, 0, none, 0, 0, [], [], rfl, rfl, rfl, rfl, Nat.zero_le _, ⟨HB.out, RB.nil _ _ _, RB.nil _ _ _, by omega⟩⟩
  case round =>
    obtain ⟨k, AX, cx, AY, cy, m, X, Y, rfl, rfl, rfl, rfl, HK, HR⟩ := hrel
    have hk := HK.out
    by_cases hlt : k < nn
    · have hm := HR.out.small
      obtain ⟨ad0, rfl, d0⟩ := H0.out.at_ k (by omega) (by omega)
      obtain ⟨ad1, rfl, d1⟩ := H1.out.at_ k (by omega) (by omega)
      obtain ⟨ad2, rfl, d2⟩ := H2.out.at_ k (by omega) (by omega)
      have D0 : ∀ w0, Below wr.heap.size wr w0 → w0.cell? (ad0.add k) = some (.int .u64 (rd l0 k)) := fun w0 h => cell_below (below_step HR.out.below h) d0
      have D1 : ∀ w0, Below wr.heap.size wr w0 → w0.cell? (ad1.add k) = some (.int .u64 (rd l1 k)) := fun w0 h => cell_below (below_step HR.out.below h) d1
      have DD := Lib.hid (And.intro D0 D1)
      have hc0 := D0 wr (Below.refl _ _)
      have hc1 := D1 wr (Below.refl _ _)
      have hc2 : wr.cell? (ad2.add k) = some (.int .i64 (rd l2 k)) := cell_below HR.out.below d2
      have wf0 := wf_u64 (H0.out.wf_at k (by omega) (by omega))
      have wf1 := wf_u64 (H1.out.wf_at k (by omega) (by omega))
      have hk0 : k < n0 := by omega
      have hk1 : k < n1 := by omega
      have hk2 : k < n2 := by omega
      have hw0 : IntKind.u32.wrap (rd l0 k) = rd l0 k % 4294967296 := by simp [IntKind.wrap, IntKind.bits, IntKind.signed]
      have hw1 : IntKind.u32.wrap (rd l1 k) = rd l1 k % 4294967296 := by simp [IntKind.wrap, IntKind.bits, IntKind.signed]
      clear d0 d1 d2 D0 D1
      have hB1 : ∀ j : Nat, 0 ≤ j → True := fun _ _ => trivial
      clear hB1
      have hXY : X.length = Y.length := by rw [HR.out.x.len, HR.out.y.len]
      have HXY := Lib.hid hXY
      clear hXY
      by_cases he : (rd l2 k).tmod 2 = 0
      · have he1 : ((rd l2 k).tmod 2 == 0) = true := by simpa using he
        clear he
        by_cases ho : cmpI X Y = 0
        · have HC : Hid (cmpI (X ++ highB (rd l0 k % 4294967296) 4) (Y ++ highB (rd l1 k % 4294967296) 4) = cmpN (rd l0 k % 4294967296) (rd l1 k % 4294967296)) := by
            show _ = _
            rw [cmpI_append _ _ _ _ HXY.out, if_neg (by simp [ho]), cmpI_high 4 _ _ (by omega) (by omega) (by omega) (by omega)]
          rw [ho]
          clear ho
          go_wp2_with fail
          refine wp_region_mix (fun w0 => True) [(0, 0), (1, 0), (2, 0), (5, 0), (6, 0), (7, 0), (3, 1), (4, 0), (8, 1), (9, 0), (10, 2), (11, 0)] (by kernel_rfl) (by kernel_rfl) trivial ?_
          simp only [List.map_cons, List.map_nil]
          repeat first | (refine wpO_step0 rfl rfl (fun K hK => ?_); go_simp; refine hK _ _ ?_; clear hK K) | (refine wpO_step1 rfl rfl (fun K hK => ?_); go_simp; refine hK _ _ ?_; clear hK K)
          refine wpO_step2 rfl rfl trivial (fun K hK => ?_)
          go_simp
          refine (cmp32_any (rd l0 k % 4294967296) (rd l1 k % 4294967296) wr.drew).mono ?_
          rintro e w6 ⟨rfl, rfl⟩
          refine hK _ _ ⟨trivial, ?_⟩
          clear hK K
          repeat (refine wpO_step0 rfl rfl (fun K hK => ?_); go_simp; refine hK _ _ ?_; clear hK K)
          refine wpO_nil ?_
          go_wp2_with fail
          refine wp_region_mix (fun w0 => Below wr.heap.size wr w0) [(0, 0), (1, 0), (2, 0), (3, 0), (4, 0), (5, 0), (7, 0), (8, 0), (9, 0), (10, 0), (11, 0), (12, 0), (6, 2), (13, 2), (14, 0), (15, 0)] (by kernel_rfl) (by kernel_rfl) (below_step (below_drew1 wr) (below_drew1 wr.drew)) ?_
          simp only [List.map_cons, List.map_nil]
          repeat (refine wpO_step0 rfl rfl (fun K hK => ?_); go_simp; refine hK _ _ ?_; clear hK K)
          refine wpO_load rfl rfl rfl rfl rfl (fun w0 hS => load_u64 (DD.out.1 w0 hS)) ?_
          repeat (refine wpO_step0 rfl rfl (fun K hK => ?_); go_simp; refine hK _ _ ?_; clear hK K)
          refine wpO_load rfl rfl rfl rfl rfl (fun w0 hS => load_u64 (DD.out.2 w0 hS)) ?_
          repeat (refine wpO_step0 rfl rfl (fun K hK => ?_); go_simp; refine hK _ _ ?_; clear hK K)
          refine wpO_step2 rfl rfl (below_step (below_drew1 wr) (below_drew1 wr.drew)) (fun K hK => ?_)
          go_simp
          refine (put32_any AX m cx X (rd l0 k % 4294967296) wr.drew.drew (HR.out.x.below (below_step (below_drew1 wr) (below_drew1 wr.drew))) (by omega) (by omega) (by omega)).mono ?_
          rintro e w4 ⟨BX, rfl, hx4, hb4⟩
          have HB4 := Lib.hid (below_step (below_step (below_drew1 wr) (below_drew1 wr.drew)) hb4)
          have HX4 := Lib.hid hx4.reads
          clear hx4 hb4
          refine hK _ _ ⟨HB4.out, ?_⟩
          clear hK K
          repeat (refine wpO_step0 rfl rfl (fun K hK => ?_); go_simp; refine hK _ _ ?_; clear hK K)
          refine wpO_step2 rfl rfl HB4.out (fun K hK => ?_)
          go_simp
          refine (put32_any AY m cy Y (rd l1 k % 4294967296) w4 (HR.out.y.below HB4.out) (by omega) (by omega) (by omega)).mono ?_
          rintro e w5 ⟨BY, rfl, hy5, hb5⟩
          have HN := Lib.hid (RSt.next HR.out HB4.out HX4.out hb5 hy5.reads (by omega))
          have HB5 := Lib.hid (below_step HB4.out hb5)
          clear hy5 hb5 HX4
          refine hK _ _ ⟨HB5.out, ?_⟩
          clear hK K
          repeat (refine wpO_step0 rfl rfl (fun K hK => ?_); go_simp; refine hK _ _ ?_; clear hK K)
          refine wpO_nil ?_
          repeat go_step
          go_roundw
          case rel => exact ⟨k + 1, BX, m + 4, BY, m + 4, m + 4, _, _, by simp, rfl, rfl, by rw [HC.out], by show k + 1 ≤ nn; omega, HN.out⟩
          case measure => simp [intOf]; omega
        · have ho1 : (cmpI X Y != 0) = true := by simpa using ho
          have HC : Hid (cmpI (X ++ highB (rd l0 k % 4294967296) 4) (Y ++ highB (rd l1 k % 4294967296) 4) = cmpI X Y) := by
            show _ = _
            rw [cmpI_append _ _ _ _ HXY.out, if_pos ho]
          clear ho
          go_wp2_with fail
          refine wp_region_mix (fun w0 => Below wr.heap.size wr w0) [(0, 0), (1, 0), (2, 0), (3, 0), (4, 0), (5, 0), (7, 0), (8, 0), (9, 0), (10, 0), (11, 0), (12, 0), (6, 2), (13, 2), (14, 0), (15, 0)] (by kernel_rfl) (by kernel_rfl) (below_drew1 wr) ?_
          simp only [List.map_cons, List.map_nil]
          repeat (refine wpO_step0 rfl rfl (fun K hK => ?_); go_simp; refine hK _ _ ?_; clear hK K)
          refine wpO_load rfl rfl rfl rfl rfl (fun w0 hS => load_u64 (DD.out.1 w0 hS)) ?_
          repeat (refine wpO_step0 rfl rfl (fun K hK => ?_); go_simp; refine hK _ _ ?_; clear hK K)
          refine wpO_load rfl rfl rfl rfl rfl (fun w0 hS => load_u64 (DD.out.2 w0 hS)) ?_
          repeat (refine wpO_step0 rfl rfl (fun K hK => ?_); go_simp; refine hK _ _ ?_; clear hK K)
          refine wpO_step2 rfl rfl (below_drew1 wr) (fun K hK => ?_)
          go_simp
          refine (put32_any AX m cx X (rd l0 k % 4294967296) wr.drew (HR.out.x.below (below_drew1 wr)) (by omega) (by omega) (by omega)).mono ?_
          rintro e w4 ⟨BX, rfl, hx4, hb4⟩
          have HB4 := Lib.hid (below_step (below_drew1 wr) hb4)
          have HX4 := Lib.hid hx4.reads
          clear hx4 hb4
          refine hK _ _ ⟨HB4.out, ?_⟩
          clear hK K
          repeat (refine wpO_step0 rfl rfl (fun K hK => ?_); go_simp; refine hK _ _ ?_; clear hK K)
          refine wpO_step2 rfl rfl HB4.out (fun K hK => ?_)
          go_simp
          refine (put32_any AY m cy Y (rd l1 k % 4294967296) w4 (HR.out.y.below HB4.out) (by omega) (by omega) (by omega)).mono ?_
          rintro e w5 ⟨BY, rfl, hy5, hb5⟩
          have HN := Lib.hid (RSt.next HR.out HB4.out HX4.out hb5 hy5.reads (by omega))
          have HB5 := Lib.hid (below_step HB4.out hb5)
          clear hy5 hb5 HX4
          refine hK _ _ ⟨HB5.out, ?_⟩
          clear hK K
          repeat (refine wpO_step0 rfl rfl (fun K hK => ?_); go_simp; refine hK _ _ ?_; clear hK K)
          refine wpO_nil ?_
          repeat go_step
          go_roundw
          case rel => exact ⟨k + 1, BX, m + 4, BY, m + 4, m + 4, _, _, by simp, rfl, rfl, by rw [HC.out], by show k + 1 ≤ nn; omega, HN.out⟩
          case measure => simp [intOf]; omega
      · have he1 : ((rd l2 k).tmod 2 == 0) = false := by simpa using he
        clear he
        by_cases ho : cmpI X Y = 0
        · have HC : Hid (cmpI (X ++ highB (rd l0 k) 8) (Y ++ highB (rd l1 k) 8) = cmpN (rd l0 k) (rd l1 k)) := by
            show _ = _
            rw [cmpI_append _ _ _ _ HXY.out, if_neg (by simp [ho]), cmpI_high 8 _ _ (by omega) (by omega) (by omega) (by omega)]
          rw [ho]
          clear ho
          go_wp2_with fail
          refine wp_region_mix (fun w0 => True) [(0, 0), (1, 0), (2, 0), (4, 0), (5, 0), (6, 0), (3, 1), (7, 1), (8, 2), (9, 0)] (by kernel_rfl) (by kernel_rfl) trivial ?_
          simp only [List.map_cons, List.map_nil]
          repeat first | (refine wpO_step0 rfl rfl (fun K hK => ?_); go_simp; refine hK _ _ ?_; clear hK K) | (refine wpO_step1 rfl rfl (fun K hK => ?_); go_simp; refine hK _ _ ?_; clear hK K)
          refine wpO_step2 rfl rfl trivial (fun K hK => ?_)
          go_simp
          refine (cmp64_any (rd l0 k) (rd l1 k) wr.drew).mono ?_
          rintro e w6 ⟨rfl, rfl⟩
          refine hK _ _ ⟨trivial, ?_⟩
          clear hK K
          repeat (refine wpO_step0 rfl rfl (fun K hK => ?_); go_simp; refine hK _ _ ?_; clear hK K)
          refine wpO_nil ?_
          go_wp2_with fail
          refine wp_region_mix (fun w0 => Below wr.heap.size wr w0) [(0, 0), (1, 0), (2, 0), (3, 0), (4, 0), (6, 0), (7, 0), (8, 0), (9, 0), (10, 0), (5, 2), (11, 2), (12, 0), (13, 0)] (by kernel_rfl) (by kernel_rfl) (below_step (below_drew1 wr) (below_drew1 wr.drew)) ?_
          simp only [List.map_cons, List.map_nil]
          repeat (refine wpO_step0 rfl rfl (fun K hK => ?_); go_simp; refine hK _ _ ?_; clear hK K)
          refine wpO_load rfl rfl rfl rfl rfl (fun w0 hS => load_u64 (DD.out.1 w0 hS)) ?_
          repeat (refine wpO_step0 rfl rfl (fun K hK => ?_); go_simp; refine hK _ _ ?_; clear hK K)
          refine wpO_load rfl rfl rfl rfl rfl (fun w0 hS => load_u64 (DD.out.2 w0 hS)) ?_
          repeat (refine wpO_step0 rfl rfl (fun K hK => ?_); go_simp; refine hK _ _ ?_; clear hK K)
          refine wpO_step2 rfl rfl (below_step (below_drew1 wr) (below_drew1 wr.drew)) (fun K hK => ?_)
          go_simp
          refine (put64_any AX m cx X (rd l0 k) wr.drew.drew (HR.out.x.below (below_step (below_drew1 wr) (below_drew1 wr.drew))) (by omega) (by omega) (by omega)).mono ?_
          rintro e w4 ⟨BX, rfl, hx4, hb4⟩
          have HB4 := Lib.hid (below_step (below_step (below_drew1 wr) (below_drew1 wr.drew)) hb4)
          have HX4 := Lib.hid hx4.reads
          clear hx4 hb4
          refine hK _ _ ⟨HB4.out, ?_⟩
          clear hK K
          repeat (refine wpO_step0 rfl rfl (fun K hK => ?_); go_simp; refine hK _ _ ?_; clear hK K)
          refine wpO_step2 rfl rfl HB4.out (fun K hK => ?_)
          go_simp
          refine (put64_any AY m cy Y (rd l1 k) w4 (HR.out.y.below HB4.out) (by omega) (by omega) (by omega)).mono ?_
          rintro e w5 ⟨BY, rfl, hy5, hb5⟩
          have HN := Lib.hid (RSt.next HR.out HB4.out HX4.out hb5 hy5.reads (by omega))
          have HB5 := Lib.hid (below_step HB4.out hb5)
          clear hy5 hb5 HX4
          refine hK _ _ ⟨HB5.out, ?_⟩
          clear hK K
          repeat (refine wpO_step0 rfl rfl (fun K hK => ?_); go_simp; refine hK _ _ ?_; clear hK K)
          refine wpO_nil ?_
          repeat go_step
          go_roundw
          case rel => exact ⟨k + 1, BX, m + 8, BY, m + 8, m + 8, _, _, by simp, rfl, rfl, by rw [HC.out], by show k + 1 ≤ nn; omega, HN.out⟩
          case measure => simp [intOf]; omega
        · have ho1 : (cmpI X Y != 0) = true := by simpa using ho
          have HC : Hid (cmpI (X ++ highB (rd l0 k) 8) (Y ++ highB (rd l1 k) 8) = cmpI X Y) := by
            show _ = _
            rw [cmpI_append _ _ _ _ HXY.out, if_pos ho]
          clear ho
          go_wp2_with fail
          refine wp_region_mix (fun w0 => Below wr.heap.size wr w0) [(0, 0), (1, 0), (2, 0), (3, 0), (4, 0), (6, 0), (7, 0), (8, 0), (9, 0), (10, 0), (5, 2), (11, 2), (12, 0), (13, 0)] (by kernel_rfl) (by kernel_rfl) (below_drew1 wr) ?_
          simp only [List.map_cons, List.map_nil]
          repeat (refine wpO_step0 rfl rfl (fun K hK => ?_); go_simp; refine hK _ _ ?_; clear hK K)
          refine wpO_load rfl rfl rfl rfl rfl (fun w0 hS => load_u64 (DD.out.1 w0 hS)) ?_
          repeat (refine wpO_step0 rfl rfl (fun K hK => ?_); go_simp; refine hK _ _ ?_; clear hK K)
          refine wpO_load rfl rfl rfl rfl rfl (fun w0 hS => load_u64 (DD.out.2 w0 hS)) ?_
          repeat (refine wpO_step0 rfl rfl (fun K hK => ?_); go_simp; refine hK _ _ ?_; clear hK K)
          refine wpO_step2 rfl rfl (below_drew1 wr) (fun K hK => ?_)
          go_simp
          refine (put64_any AX m cx X (rd l0 k) wr.drew (HR.out.x.below (below_drew1 wr)) (by omega) (by omega) (by omega)).mono ?_
          rintro e w4 ⟨BX, rfl, hx4, hb4⟩
          have HB4 := Lib.hid (below_step (below_drew1 wr) hb4)
          have HX4 := Lib.hid hx4.reads
          clear hx4 hb4
          refine hK _ _ ⟨HB4.out, ?_⟩
          clear hK K
          repeat (refine wpO_step0 rfl rfl (fun K hK => ?_); go_simp; refine hK _ _ ?_; clear hK K)
          refine wpO_step2 rfl rfl HB4.out (fun K hK => ?_)
          go_simp
          refine (put64_any AY m cy Y (rd l1 k) w4 (HR.out.y.below HB4.out) (by omega) (by omega) (by omega)).mono ?_
          rintro e w5 ⟨BY, rfl, hy5, hb5⟩
          have HN := Lib.hid (RSt.next HR.out HB4.out HX4.out hb5 hy5.reads (by omega))
          have HB5 := Lib.hid (below_step HB4.out hb5)
          clear hy5 hb5 HX4
          refine hK _ _ ⟨HB5.out, ?_⟩
          clear hK K
          repeat (refine wpO_step0 rfl rfl (fun K hK => ?_); go_simp; refine hK _ _ ?_; clear hK K)
          refine wpO_nil ?_
          repeat go_step
          go_roundw
          case rel => exact ⟨k + 1, BX, m + 8, BY, m + 8, m + 8, _, _, by simp, rfl, rfl, by rw [HC.out], by show k + 1 ≤ nn; omega, HN.out⟩
          case measure => simp [intOf]; omega
    · have hk2 : k = nn := by omega
      have hxs := HR.out.x.len
      have heq : decide (X = Y) = (cmpI X Y == 0) := by
        by_cases h : X = Y
        · subst h
          simp [cmpI_refl]
        · have h2 : cmpI X Y ≠ 0 := fun e => h (cmpI_zero X Y e)
          simp [h, h2]
      go_wp2_with fail
      refine (bcompare_any AX m cx X AY m cy Y wr HR.out.x HR.out.y).mono ?_
      rintro e w6 ⟨rfl, rfl⟩
      go_wp2_with fail
      refine (equal_any AX m cx X AY m cy Y wr HR.out.x HR.out.y).mono ?_
      rintro e w6 ⟨rfl, hb6⟩
      rw [heq]
      have HB6 := Lib.hid (below_step HR.out.below hb6)
      clear hb6 heq
      go_wp2
      go_ret
      exact ⟨by simp, HB6.out⟩

end Go.Proofs.Ytemkeeoolffokaa
