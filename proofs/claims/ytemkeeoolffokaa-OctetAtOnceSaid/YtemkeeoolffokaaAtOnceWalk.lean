/- OctetAtOnce: the walk. -/
import Derived.Test.YtemkeeoolffokaaRef1
import Derived.Test.YtemkeeoolffokaaMix
namespace Go.Proofs.Ytemkeeoolffokaa
open Go.RowKit
set_option linter.unusedVariables false
set_option linter.unusedSimpArgs false

/-- How things stand behind some parts: a bytes have been taken off. -/
structure AtOnce (w wr : World) (lo f g : Nat) (l0 : List Int) (A : Option Addr) (c a : Nat) (e : Int) (top : Nat) : Prop where
  le : a ≤ l0.length
  came : OB wr top A a c (l0.take a)
  topge : w.heap.size ≤ top
  toplt : top ≤ wr.heap.size
  r : Rdr wr lo g (l0.drop a) e
  s : Rdr wr (g + 1) f l0 0
  gf : g < f
  ft : f < top
  wg : w.heap.size ≤ g
  below : Below w.heap.size w wr
theorem AtOnce.came4 {w wr w4 : World} {lo f g : Nat} {l0 : List Int} {A : Option Addr} {c a : Nat} {e : Int} {top : Nat} (h : AtOnce w wr lo f g l0 A c a e top) (hg : wr.grownBy w4 (some g)) : OB w4 top A a c (l0.take a) :=
  h.came.grown hg (fun ad e1 h1 => by
    have h2 := h.came.base_ ad e1
    have h3 := h.gf
    have h4 := h.ft
    injection h1 with h1
    omega)
theorem AtOnce.next {w wr w4 w5 : World} {lo f g : Nat} {l0 T L : List Int} {A A5 : Option Addr} {c a c5 m : Nat} {e E : Int} {top : Nat} (h : AtOnce w wr lo f g l0 A c a e top) (hg : wr.grownBy w4 (some g)) (hr : Rdr w4 lo g L E)
    (hm : a + m ≤ l0.length) (hT : T = (l0.drop a).take m) (hL : L = l0.drop (a + m)) (ho : OB w5 top A5 (a + m) c5 (l0.take a ++ T)) (hg5 : w4.grownBy w5 ((Value.slice A a c).ownBlock)) : AtOnce w w5 lo f g l0 A5 c5 (a + m) E top := by
  have hgf := h.gf
  have hft := h.ft
  have hrow : ∀ b, (Value.slice A a c).ownBlock = some b → top ≤ b := own_row h.came.base_
  subst hT; subst hL
  refine ⟨hm, ?_, h.topge, Nat.le_trans h.toplt (Nat.le_trans hg.size hg5.size), hr.grown hg5 (fun b hb => by have := hrow b hb; omega), ?_, hgf, hft, h.wg, ?_⟩
  · rw [List.take_add]
    exact ho
  · refine (h.s.grown hg (fun b hb => ?_)).grown hg5 (fun b hb => by have := hrow b hb; omega)
    injection hb with hb
    omega
  · have hb4 := h.below.grown hg h.below.size (fun k hk => by injection hk with hk; have := h.wg; omega)
    exact hb4.grown hg5 hb4.size (fun k hk => by have := hrow k hk; have := h.topge; omega)
theorem AtOnce.s4 {w wr w4 : World} {lo f g : Nat} {l0 : List Int} {A : Option Addr} {c a : Nat} {e : Int} {top : Nat} (h : AtOnce w wr lo f g l0 A c a e top) : a ≤ l0.length := h.le

set_option maxHeartbeats 2000000 in
theorem octetAtOnce_walk (A0 : Option Addr) (n0 c0 : Nat) (l0 : List Int) (A1 : Option Addr) (n1 c1 : Nat) (l1 : List Int) (w : World) (h0 : RN w .u8 A0 n0 c0 l0) (y0 : n0 * 1 ≤ 140737488351232) (h1 : RN w .i64 A1 n1 c1 l1) (y1 : n1 * 8 ≤ 140737488351232) :
    Calls Try.prog 11 #[.slice A0 n0 c0, .slice A1 n1 c1] w fun e w' => e = .returned (.bool true) ∧ Below w.heap.size w w' := by
  have hn1 := h1.small
  by_cases hbig : 2000 < n0
  · have hb : decide ((2000 : Int) < (n0 : Int)) = true := decide_eq_true (by omega)
    go_enter Try.func11, Try.ntmps11
    go_wp2_with fail
    refine (wakes_any w).mono ?_
    rintro e w1 ⟨rfl, hb1⟩
    have HB := Lib.hid hb1
    clear hb1
    go_wp2
    go_ret
    exact ⟨rfl, HB.out⟩
  · by_cases hbig2 : 200 < n1
    · have hb0 : decide ((2000 : Int) < (n0 : Int)) = false := decide_eq_false (by omega)
      have hb2 : decide ((200 : Int) < (n1 : Int)) = true := decide_eq_true (by omega)
      go_enter Try.func11, Try.ntmps11
      go_wp2_with fail
      refine (wakes_any w).mono ?_
      rintro e w1 ⟨rfl, hb1⟩
      have HB := Lib.hid hb1
      clear hb1
      go_wp2
      go_ret
      exact ⟨rfl, HB.out⟩
    · have hb0 : decide ((2000 : Int) < (n0 : Int)) = false := decide_eq_false (by omega)
      have hb2 : decide ((200 : Int) < (n1 : Int)) = false := decide_eq_false (by omega)
      have hn0 : n0 ≤ 2000 := by omega
      have hn1' : n1 ≤ 200 := by omega
      clear hbig hbig2
      go_enter Try.func11, Try.ntmps11
      go_wp2_with fail
      refine (wakes_any w).mono ?_
      rintro e w1 ⟨rfl, hb1⟩
      have H0 := Lib.hid (h0.bytes.below hb1)
      have H1 := Lib.hid h1
      have HB := Lib.hid hb1
      clear hb1 h0 h1
      go_wp2_with fail
      refine (read_any A0 n0 c0 l0 w1 H0.out (by omega)).mono ?_
      rintro e w2 ⟨g, rfl, hg, hr, hb3⟩
      have HB2 := Lib.hid (below_step HB.out hb3)
      have HR := Lib.hid hr
      have HG : Hid (w.heap.size ≤ g) := Nat.le_trans HB.out.size hg
      have H0' := Lib.hid (H0.out.below hb3)
      clear hr hg hb3 HB H0
      go_wp2_with fail
      refine (read_any A0 n0 c0 l0 w2 H0'.out (by omega)).mono ?_
      rintro e w3 ⟨f, rfl, hf, hs, hb4⟩
      have HB3 := Lib.hid (below_step HB2.out hb4)
      have HR2 := Lib.hid (HR.out.below hb4)
      have HS : Hid (AtOnce w w3 w1.heap.size f g l0 none 0 0 0 w3.heap.size) :=
        ⟨Nat.zero_le _, OB.nil _ _, HB3.out.size, Nat.le_refl _, by rw [List.drop_zero]; exact HR2.out, hs.raise HR.out.lt, Nat.lt_of_lt_of_le HR.out.lt hf, hs.lt, HG.out, HB3.out⟩
      have hlen := Lib.hid H0'.out.len
      clear hs hf hb4 HB2 H0' HR HR2 HB3 HG
      go_wp2
      clear hb0 hb2
      go_loopw [7, 8, 29] (fun v al i wr => ∃ (k : Nat) (A : Option Addr) (c a : Nat) (e : Int), i = .int .i64 k ∧ v = .slice A a c ∧ al = .int .i64 a ∧ Hid (k ≤ n1) ∧ Hid (AtOnce w wr w1.heap.size f g l0 A c a e w3.heap.size)) (fun _ _ i _ => n1 - (intOf i).toNat)
      case atStart => exact ⟨0, none, 0, 0, 0, rfl, rfl, rfl, Nat.zero_le _, HS.out⟩
      case round =>
        obtain ⟨k, A, c, a, e, rfl, rfl, rfl, HK, HH⟩ := hrel
        clear HS
        have hk := HK.out
        have hale := HH.out.le
        have hl0 := hlen.out
        have han : a ≤ n0 := by omega
        clear hale hl0
        by_cases hlt : k < n1
        · obtain ⟨ad, rfl, hc⟩ := (H1.out.below HH.out.below).at_ k (by omega) (by omega)
          have hwf := wf_i64 (H1.out.wf_at k (by omega) (by omega))
          have hcell : wr.cell? (ad.add k) = some (.int .i64 (rd l1 k)) := hc
          clear hc
          go_wp2_with fail
          refine (err_any g _ _ wr HH.out.r).mono ?_
          rintro e1 w4 ⟨rfl, rfl⟩
          go_wp2_with fail
          refine (raw_any g _ _ (rd l1 k) wr HH.out.r hwf.2 (by rw [List.length_drop]; have := hlen.out; omega)).mono ?_
          rintro e1 w4 ⟨A4, c4, rfl, h4, hr4, hg4⟩
          have HG4 := Lib.hid hg4
          have HR4 := Lib.hid hr4
          have H4 := Lib.hid h4
          clear hg4 hr4 h4 hcell
          have hxl : (l0.drop a).length = n0 - a := by rw [List.length_drop, hlen.out]
          have HX := Lib.hid hxl
          clear hxl
          have HC := Lib.hid (HH.out.came4 HG4.out)
          have HGS : Hid (w3.heap.size ≤ w4.heap.size) := Nat.le_trans HH.out.toplt HG4.out.size
          cases hB : offB (l0.drop a) e (rd l1 k) with
          | true =>
            obtain ⟨he0, hp0, hp1⟩ := offB_true hB
            subst he0
            have hE := offE_true hB
            have hT := offT_true hB
            have hL := offL_true hB
            have hp2 : a + (rd l1 k).toNat ≤ n0 := by have := HX.out; omega
            have hTl : (offT (l0.drop a) 0 (rd l1 k)).length = (rd l1 k).toNat := by rw [hT, List.length_take]; have := HX.out; omega
            have H4' : Hid (OB w4 wr.heap.size A4 (rd l1 k).toNat c4 (offT (l0.drop a) 0 (rd l1 k))) := by rw [← hTl]; exact H4.out
            have hr4 := HR4.out
            rw [hE] at hr4
            have HR4' := Lib.hid hr4
            rw [hTl]
            have HFIN := Lib.hid (And.intro hT (And.intro hL hp2))
            have hcast : ((rd l1 k).toNat : Int) = rd l1 k := Int.toNat_of_nonneg hp0
            have HCA := Lib.hid hcast
            clear hB hE hT hL hTl hr4 H4 HR4 hcast hp1
            go_wp2_with fail
            refine (err_any g _ _ w4 HR4'.out).mono ?_
            rintro e1 w5 ⟨rfl, rfl⟩
            go_wp2_with (at_builtin; refine wpList_append_bytes rfl (.tmp 51) (.tmp 52) rfl rfl rfl HC.out H4'.out.reads HGS.out (by omega) ?_; intro A5 c5 w5 h1 h2 h3; have H5 := Lib.hid (And.intro h1 h2); clear h1 h2 h3)
            go_roundw
            case measure => simp [intOf]; omega
            case rel =>
              have hl0 := hlen.out
              have hfin := HFIN.out
              have hca := HCA.out
              refine ⟨k + 1, A5, c5, a + (rd l1 k).toNat, 0, by go_num, rfl, ?_, (show k + 1 ≤ n1 by omega), ?_⟩
              · congr 1; omega
              · exact HH.out.next HG4.out HR4'.out (by omega) hfin.1 (by rw [hfin.2.1, List.drop_drop]) H5.out.1 H5.out.2
          | false =>
            have hE := offE_false hB
            have hT := offT_false hB
            have hL := offL_false hB
            have hr4 := HR4.out
            rw [hL] at hr4
            have HR4' := Lib.hid hr4
            have h4 := H4.out
            rw [hT] at h4 ⊢
            have H4' := Lib.hid h4
            have HFIN := Lib.hid (And.intro hT hL)
            obtain ⟨E, hEE⟩ : ∃ E, offE (l0.drop a) e (rd l1 k) = E := ⟨_, rfl⟩
            rw [hEE] at hE hr4
            have HR5 : Hid (Rdr w4 w1.heap.size g (l0.drop a) E) := hr4
            have hE0 : (E == 0) = false := by simpa using hE
            have hE1 : (E != 0) = true := by simpa using hE
            clear hB hE hT hL hr4 h4 H4 HR4 HR4' hEE
            simp only [List.length_nil] at H4' ⊢
            by_cases he : e = 0
            · subst he
              go_wp2_with fail
              refine (err_any g _ _ w4 HR5.out).mono ?_
              rintro e1 w5 ⟨rfl, rfl⟩
              go_wp2_with (at_builtin; refine wpList_append_bytes rfl (.tmp 51) (.tmp 52) rfl rfl rfl HC.out H4'.out.reads HGS.out (by omega) ?_; intro A5 c5 w5 h1 h2 h3; have H5 := Lib.hid (And.intro h1 h2); clear h1 h2 h3)
              go_roundw
              case measure => simp [intOf]; omega
              case rel =>
                have hl0 := hlen.out
                exact ⟨k + 1, A5, c5, a, E, by go_num, rfl, rfl, (show k + 1 ≤ n1 by omega), HH.out.next (m := 0) HG4.out HR5.out (by omega) (by simp) (by simp) H5.out.1 H5.out.2⟩
            · have he0 : (e == 0) = false := by simpa using he
              have he1 : (e != 0) = true := by simpa using he
              clear he
              go_wp2_with fail
              refine (err_any g _ _ w4 HR5.out).mono ?_
              rintro e1 w5 ⟨rfl, rfl⟩
              go_wp2_with (at_builtin; refine wpList_append_bytes rfl (.tmp 51) (.tmp 52) rfl rfl rfl HC.out H4'.out.reads HGS.out (by omega) ?_; intro A5 c5 w5 h1 h2 h3; have H5 := Lib.hid (And.intro h1 h2); clear h1 h2 h3)
              go_roundw
              case measure => simp [intOf]; omega
              case rel =>
                have hl0 := hlen.out
                exact ⟨k + 1, A5, c5, a, E, by go_num, rfl, rfl, (show k + 1 ≤ n1 by omega), HH.out.next (m := 0) HG4.out HR5.out (by omega) (by simp) (by simp) H5.out.1 H5.out.2⟩
        · have hl0 := hlen.out
          have hB : offB l0 0 a = true := by simp [offB]; omega
          have hE := offE_true hB
          have hT := offT_true hB
          have hL := offL_true hB
          have HS := Lib.hid HH.out.s
          have HR := Lib.hid HH.out.r
          have HC := Lib.hid HH.out.came
          have HBL := Lib.hid HH.out.below
          go_wp2_with fail
          refine (raw_any f _ _ (a : Int) wr HS.out (by omega) (by omega)).mono ?_
          rintro e1 w4 ⟨A4, c4, rfl, h4, hr4, hg4⟩
          have HR4 := Lib.hid (HR.out.grown hg4 (fun b hb => by injection hb with hb; have := HH.out.gf; omega))
          have HC4 := Lib.hid (HC.out.grown hg4 (fun ad e1 h1 => by have := HC.out.base_ ad e1; have := HH.out.ft; injection h1 with h1; omega))
          have HB4 := Lib.hid (HBL.out.grown hg4 HBL.out.size (fun k hk => by injection hk with hk; have := HH.out.wg; have := HH.out.gf; omega))
          rw [hE, hL] at hr4
          have HS4 := Lib.hid hr4
          have H4 := Lib.hid h4
          have heq : decide (offT l0 0 a = l0.take a) = true := by rw [hT]; simp
          clear h4 hr4 hg4 hE hT hL hB
          go_wp2_with fail
          refine (bequal_any _ _ _ _ _ _ _ _ w4 H4.out.reads HC4.out.reads).mono ?_
          rintro e1 w5 ⟨rfl, rfl⟩
          rw [heq]
          clear heq
          go_wp2_with fail
          refine (err_any f _ _ w4 HS4.out).mono ?_
          rintro e1 w5 ⟨rfl, rfl⟩
          go_wp2_with fail
          refine (left_any f _ _ w4 HS4.out).mono ?_
          rintro e1 w5 ⟨rfl, rfl⟩
          go_wp2_with fail
          refine (left_any g _ _ w4 HR4.out).mono ?_
          rintro e1 w5 ⟨rfl, rfl⟩
          go_wp2
          go_ret
          exact ⟨by simp, HB4.out⟩

end Go.Proofs.Ytemkeeoolffokaa
