/- OctetTakes: the walk. -/
import Derived.Test.YtemkeeoolffokaaL01
import Derived.Test.YtemkeeoolffokaaRef1b
import Derived.Test.YtemkeeoolffokaaMix
namespace Go.Proofs.Ytemkeeoolffokaa
open Go.RowKit
set_option linter.unusedVariables false
set_option linter.unusedSimpArgs false

/-- A row of pairs of numbers. -/
structure R2 (w : World) (A : Option Addr) (n c : Nat) (ks ns : List Int) : Prop where
  kl : ks.length = n
  nl : ns.length = n
  cap : n ≤ c
  small : n ≤ 281474976710656
  wf : ∀ i : Nat, i < n → (Lit.int .i64 (rd ks i)).wf = true ∧ (Lit.int .i64 (rd ns i)).wf = true
  cells : 0 < n → ∃ b o, A = some ⟨b, o, none⟩ ∧ ∀ i : Nat, i < n → w.cell? ⟨b, o + i * 2, none⟩ = some (.int .i64 (rd ks i)) ∧ w.cell? ⟨b, o + i * 2 + 1, none⟩ = some (.int .i64 (rd ns i))
theorem R2.below {w w1 : World} {A : Option Addr} {n c : Nat} {ks ns : List Int} (h : R2 w A n c ks ns) (hb : Below w.heap.size w w1) : R2 w1 A n c ks ns :=
  ⟨h.kl, h.nl, h.cap, h.small, h.wf, fun hn => by
    obtain ⟨b, o, e, hc⟩ := h.cells hn
    exact ⟨b, o, e, fun i hi => ⟨cell_below hb (hc i hi).1, cell_below hb (hc i hi).2⟩⟩⟩

/-- How things stand behind some takes. -/
structure TSt (w wr : World) (lo g : Nat) (X : List Int) (e : Int) (AT : Option Addr) (nT cT : Nat) : Prop where
  below : Below w.heap.size w wr
  r : Rdr wr lo g X e
  left : RB w AT nT cT X
  wg : w.heap.size ≤ g
  lg : lo ≤ g
  sm : X.length ≤ 2000

theorem pow256_le {a b : Nat} (h : a ≤ b) : (256 : Int) ^ a ≤ 256 ^ b := by
  have h1 : 256 ^ a ≤ 256 ^ b := Nat.pow_le_pow_right (by omega) h
  have h2 : ∀ k : Nat, ((256 ^ k : Nat) : Int) = (256 : Int) ^ k := fun k => by rw [Int.natCast_pow]; rfl
  rw [← h2, ← h2]
  omega
theorem numOf_small (l : List Int) (hl : Bytes l) : ∀ (x : Int) (n : Nat), 0 ≤ x → x < 256 ^ n → n + l.length ≤ 8 → 0 ≤ numOf x l ∧ numOf x l < 256 ^ (n + l.length) := by
  induction l with
  | nil => intro x n h0 h1 _; exact ⟨h0, h1⟩
  | cons c l ih =>
    intro x n h0 h1 hn
    have hc := hl c (by simp)
    rw [List.length_cons] at hn ⊢
    have hp : (256 : Int) ^ (n + 1) = 256 ^ n * 256 := Int.pow_succ _ _
    have hle : (256 : Int) ^ (n + 1) ≤ 256 ^ 8 := pow256_le (by omega)
    have h8 : (256 : Int) ^ 8 = 18446744073709551616 := rfl
    have hs : (x * 256 + c) % 18446744073709551616 = x * 256 + c := Int.emod_eq_of_lt (by omega) (by omega)
    have := ih (fun y hy => hl y (by simp [hy])) (x * 256 + c) (n + 1) (by omega) (by omega) (by omega)
    show 0 ≤ numOf ((x * 256 + c) % 18446744073709551616) l ∧ numOf ((x * 256 + c) % 18446744073709551616) l < _
    rw [hs, show n + (l.length + 1) = n + 1 + l.length by omega]
    exact this
theorem offT_len (xs : List Int) (e : Int) (m : Nat) : (offT xs e m).length ≤ m := by
  unfold offT
  split
  · rw [List.length_take]; omega
  · simp
theorem offT_bytes {xs : List Int} (h : Bytes xs) (e m : Int) : Bytes (offT xs e m) := by
  unfold offT
  split
  · exact h.take _
  · exact Bytes.nil
/-- A number of so many bytes is less than its type's bound. -/
theorem num_mod (xs : List Int) (h : Bytes xs) (e : Int) (m : Nat) (hm : m ≤ 8) (M : Int) (hM : M = 256 ^ m) : numOf 0 (offT xs e m) % M = numOf 0 (offT xs e m) := by
  have h1 := numOf_small (offT xs e m) (offT_bytes h e m) 0 0 (by omega) (by simp) (by have := offT_len xs e m; omega)
  have h2 := offT_len xs e m
  have h3 : (256 : Int) ^ (0 + (offT xs e m).length) ≤ 256 ^ m := pow256_le (by omega)
  subst hM
  exact Int.emod_eq_of_lt h1.1 (by omega)

theorem cut_upto (A : Option Addr) (n c j : Nat) (h : j ≤ c) : ∀ W : World, (Instr.slice 22 (.slice A n c) none (some (.int .i64 (j : Int))) none).run Try.prog W = .ok (.slice A j c) W := by
  intro W
  have hj : (j : Int) ≤ (c : Int) := by omega
  have h0 : (0 : Int) ≤ (j : Int) := by omega
  go_simp
theorem tk_wrap {xs : List Int} : IntKind.u64.wrap (numOf 0 xs) = numOf 0 xs := by
  have h := numOf_range xs 0 (by omega) (by omega)
  simp only [IntKind.wrap, IntKind.bits, IntKind.signed]
  simp
  omega
set_option maxRecDepth 4000 in
theorem takes_big (A0 : Option Addr) (n0 c0 : Nat) (A1 : Option Addr) (n1 c1 : Nat) (w : World) (hbig : 2000 < n0 ∨ 200 < n1) :
    Calls Try.prog 10 #[.slice A0 n0 c0, .slice A1 n1 c1] w fun e w' => e = .returned (.bool true) ∧ Below w.heap.size w w' := by
  obtain ⟨b0, h0⟩ : ∃ b, decide ((2000 : Int) < (n0 : Int)) = b := ⟨_, rfl⟩
  obtain ⟨b1, h1⟩ : ∃ b, decide ((200 : Int) < (n1 : Int)) = b := ⟨_, rfl⟩
  have hor : (b0 || b1) = true := by
    subst h0; subst h1
    simp
    omega
  clear hbig
  cases b0 <;> cases b1 <;> simp at hor <;>
  · go_enter Try.func10, Try.ntmps10
    go_wp2_with fail
    refine (wakes_any w).mono ?_
    rintro e w1 ⟨rfl, hb1⟩
    have HB := Lib.hid hb1
    clear hb1
    go_wp2
    go_ret
    exact ⟨rfl, HB.out⟩

set_option maxRecDepth 4000 in
set_option maxHeartbeats 20000000 in
theorem octetTakes_walk (A0 : Option Addr) (n0 c0 : Nat) (l0 : List Int) (A1 : Option Addr) (n1 c1 : Nat) (ks ns : List Int) (w : World) (h0 : RN w .u8 A0 n0 c0 l0) (y0 : n0 * 1 ≤ 140737488351232) (h1 : R2 w A1 n1 c1 ks ns) :
    Calls Try.prog 10 #[.slice A0 n0 c0, .slice A1 n1 c1] w fun e w' => e = .returned (.bool true) ∧ Below w.heap.size w w' := by
  have hn1 := h1.small
  by_cases hbig : 2000 < n0 ∨ 200 < n1
  · exact takes_big A0 n0 c0 A1 n1 c1 w hbig
  · have hb0 : decide ((2000 : Int) < (n0 : Int)) = false := decide_eq_false (by omega)
    have hb2 : decide ((200 : Int) < (n1 : Int)) = false := decide_eq_false (by omega)
    have hn0 : n0 ≤ 2000 := by omega
    have hn1' : n1 ≤ 200 := by omega
    have H0 := Lib.hid h0.bytes
    have H1 := Lib.hid h1
    clear hbig h0 h1
    go_enter Try.func10, Try.ntmps10
    go_wp2_with fail
    refine (wakes_any w).mono ?_
    rintro e w1 ⟨rfl, hb1⟩
    have HB := Lib.hid hb1
    clear hb1
    go_wp2_with fail
    refine (both_any A0 n0 c0 l0 none 0 0 [] w1 (H0.out.below HB.out) (RB.nil _ _ _) (by omega)).mono ?_
    rintro e w2 ⟨A2, rfl, h2, hbb2⟩
    rw [List.append_nil, Nat.add_zero] at h2
    rw [Nat.add_zero]
    have HB2 := Lib.hid (below_step HB.out hbb2)
    have H2 := Lib.hid (h2.lower (show w.heap.size ≤ _ from HB.out.size))
    clear hbb2 h2
    go_wp2_with fail
    refine (read_any A2 n0 n0 l0 w2 H2.out.reads (by omega)).mono ?_
    rintro e w3 ⟨g, rfl, hg, hr, hb3⟩
    have HB3 := Lib.hid (below_step HB2.out hb3)
    have HR := Lib.hid hr
    have HG := Lib.hid hg
    have H23 := Lib.hid (H2.out.below hb3)
    clear hr hg hb3
    go_wp2_with fail
    go_loopw [33] (fun i wr => ∃ (k : Nat) (ys : List Int), i = .int .i64 k ∧ Hid (k ≤ n0) ∧ Hid (Below w.heap.size w wr ∧ OB wr w.heap.size A2 n0 n0 ys ∧ Rdr wr w2.heap.size g l0 0)) (fun i _ => n0 - (intOf i).toNat)
    case atStart => exact ⟨0, _, rfl, Nat.zero_le _, HB3.out, H23.out, HR.out⟩
    case round =>
      obtain ⟨k, ys, rfl, HK, HH⟩ := hrel
      have hk := HK.out
      by_cases hlt : k < n0
      · have HLT := Lib.hid hlt
        obtain ⟨ad, rfl, _⟩ := HH.out.2.1.reads.at_ k (by omega) (by omega)
        obtain ⟨hc6, hf6⟩ := HH.out.2.1.cellf k hlt
        have hrg := HH.out.2.1.reads.rng k
        have hwb : 0 ≤ IntKind.u8.wrap (rd ys k + 101) ∧ IntKind.u8.wrap (rd ys k + 101) < 256 := by
          simp only [IntKind.wrap, IntKind.bits, IntKind.signed]
          simp
          omega
        have hS := HH.out.2.1.store k hlt _ hwb.1 hwb.2
        have hB := HH.out.1.setCell (p := ad.add k) (by rw [add_block]; exact HH.out.2.1.base_ ad rfl) (.int .u8 (IntKind.u8.wrap (rd ys k + 101)))
        have hR : Rdr (wr.setCell (ad.add k) (.int .u8 (IntKind.u8.wrap (rd ys k + 101)))) w2.heap.size g l0 0 := HH.out.2.2.grown (grown_setCell _ _ _) (fun b hb => by
          rw [add_block] at hb
          injection hb with hb
          have q1 := H2.out.lt ad rfl
          have q2 := HG.out
          omega)
        have HN := Lib.hid (And.intro hB (And.intro hS hR))
        clear hwb hS hB hR
        go_wp2_with fail
        go_roundw
        case measure => simp [intOf]; omega
        case rel => exact ⟨k + 1, _, by go_num, (show k + 1 ≤ n0 by omega), HN.out⟩
      · have hkn : k = n0 := by omega
        subst hkn
        have HTS : Hid (TSt w wr w2.heap.size g l0 0 A0 k c0) := ⟨HH.out.1, HH.out.2.2, H0.out, Nat.le_trans HB2.out.size HG.out, HG.out, by rw [H0.out.len]; exact hn0⟩
        clear hlt HH HK HR H23 HB3
        go_wp2_with fail
        go_loopw [8, 9, 46] (fun t s i wr2 => ∃ (j : Nat) (X : List Int) (e : Int) (AT : Option Addr) (nT cT : Nat), i = .int .i64 j ∧ t = .slice AT nT cT ∧ s = .int .i64 e ∧ Hid (j ≤ n1) ∧ Hid (TSt w wr2 w2.heap.size g X e AT nT cT)) (fun _ _ i _ => n1 - (intOf i).toNat)
        case atStart => exact ⟨0, _, _, _, _, _, rfl, rfl, rfl, Nat.zero_le _, HTS.out⟩
        case round =>
          obtain ⟨j, X, e, AT, nT, cT, rfl, rfl, rfl, HJ, HT⟩ := hrel
          clear HTS
          have hj := HJ.out
          by_cases hlt : j < n1
          · obtain ⟨b, o, rfl, hcs⟩ := (H1.out.below HT.out.below).cells (by omega)
            obtain ⟨hc1, hc2⟩ := hcs j hlt
            obtain ⟨hkwf, hnwf⟩ := H1.out.wf j hlt
            have hnd := wf_i64 hnwf
            obtain ⟨kd, hkd⟩ : ∃ kd, rd ks j = kd := ⟨_, rfl⟩
            obtain ⟨nd, hnn⟩ : ∃ nd, rd ns j = nd := ⟨_, rfl⟩
            rw [hkd] at hc1
            rw [hnn] at hc2 hnd
            have HXL := Lib.hid HT.out.left.len
            have HND := Lib.hid hnd.2
            have HBa := Lib.hid (below_alloc HT.out.below (.cells #[.int .i64 kd, .int .i64 nd] 51))
            have HRa := Lib.hid (HT.out.r.below (below_alloc (Below.refl _ _) (.cells #[.int .i64 kd, .int .i64 nd] 51)))
            have hnT : nT ≤ 2000 := by have := HT.out.sm; have := HXL.out; omega
            clear hcs hkwf hnwf hkd hnn hnd
            rcases (show kd = 0 ∨ kd = 1 ∨ kd = 2 ∨ kd = 3 ∨ (kd < 0 ∨ 3 < kd) by omega) with h9 | h9 | h9 | h9 | h9
            · subst h9
              by_cases he : e = 0
              · subst he
                cases hB : offB X 0 1 with
                | false =>
                  have hE : offE X 0 1 = if (1 : Int) < 0 then 2 else if (nT : Int) < 1 then 7 else 0 := by rw [offE, if_neg (by simp), HXL.out]
                  have hEn := offE_false hB
                  obtain ⟨E, hEE⟩ : ∃ E, E = offE X 0 1 := ⟨_, rfl⟩
                  rw [← hEE] at hE hEn
                  have hE0 : (E == 0) = false := by simpa using hEn
                  have HX2 := Lib.hid (And.intro (offT_false hB) (And.intro (offL_false hB) hEE.symm))
                  have HC := Lib.hid (RB.nil w none 0)
                  have HC2 := Lib.hid HT.out.left
                  have HLL := Lib.hid HXL.out
                  have HE := Lib.hid hE
                  clear hB hEn hEE hE
                  go_wp2_with fail
                  refine (refoff_any 1 nT _).mono ?_
                  rintro e1 w4 ⟨rfl, rfl⟩
                  rw [← HE.out]
                  go_wp2_with fail
                  refine (refnumber_any none 0 0 [] _ (HC.out.below HBa.out)).mono ?_
                  rintro e1 w4 ⟨rfl, rfl⟩
                  go_wp2_with fail
                  refine (u8_any g X 0 _ HRa.out).mono ?_
                  rintro e1 w4 ⟨rfl, hr4, hg4⟩
                  rw [HX2.out.1]
                  rw [HX2.out.2.1, HX2.out.2.2] at hr4
                  have hm : numOf 0 [] % 256 = numOf 0 [] := by
                    have this : numOf 0 (offT X 0 (1 : Int)) % 256 = numOf 0 (offT X 0 (1 : Int)) := num_mod X HT.out.left.range 0 1 (by omega) 256 rfl
                    rw [HX2.out.1] at this
                    exact this
                  rw [hm]
                  have hwr : IntKind.u64.wrap (numOf 0 []) = numOf 0 [] := tk_wrap
                  have HR4 := Lib.hid hr4
                  have HB4 := Lib.hid (grown_below HBa.out hg4 HT.out.wg)
                  clear hr4 hg4
                  have hll := HLL.out
                  go_wp2_with fail
                  refine (left_any g _ _ _ HR4.out).mono ?_
                  rintro e1 w6 ⟨rfl, rfl⟩
                  rw [hll]
                  go_wp2_with fail
                  refine (err_any g _ _ _ HR4.out).mono ?_
                  rintro e1 w6 ⟨rfl, rfl⟩
                  go_wp2_with fail
                  go_roundw
                  case measure => simp [intOf]; omega
                  case rel => exact ⟨j + 1, _, _, _, _, _, by go_num, rfl, rfl, (show j + 1 ≤ n1 by omega), ⟨HB4.out, HR4.out, HC2.out, HT.out.wg, HT.out.lg, by first | exact HT.out.sm | (rw [List.length_drop]; have := HT.out.sm; omega)⟩⟩
                | true =>
                  obtain ⟨-, hp0, hp1⟩ := offB_true hB
                  have hqn : 1 ≤ nT := by have := HXL.out; omega
                  have hE : (if ((1) : Int) < 0 then (2 : Int) else if (nT : Int) < 1 then 7 else 0) = 0 := by rw [if_neg (by omega), if_neg (by omega)]
                  have hoT : offT X 0 1 = X.take 1 := offT_true hB
                  have hoL : offL X 0 1 = X.drop 1 := offL_true hB
                  have HX2 := Lib.hid (And.intro hoT (And.intro hoL (offE_true hB)))
                  have hcT := HT.out.left.cap
                  obtain ⟨A1', hsl, hsr, -⟩ := cut_bytes AT nT cT 1 (by omega) (by omega)
                  have hd := hsr w X HT.out.left
                  rw [show (1 : Int).toNat = 1 by omega] at hsl hd
                  have HC : Hid (RB w AT 1 cT (X.take 1)) := HT.out.left.take 1 hqn
                  have HC2 := Lib.hid hd
                  have HLL := Lib.hid hd.len
                  have HE := Lib.hid hE
                  have hst := cut_upto AT nT cT 1 (Nat.le_trans hqn hcT)
                  rw [show (((1 : Nat)) : Int) = 1 from rfl] at hst
                  clear hB hE hoT hoL hsr hd hp0 hp1
                  go_wp2_with fail
                  refine (refoff_any 1 nT _).mono ?_
                  rintro e1 w4 ⟨rfl, rfl⟩
                  rw [HE.out]
                  go_wp2_with fail
                  refine wp_region_mix (fun _ => True) [(0, 0), (1, 0), (2, 0), (3, 0), (4, 0), (5, 0), (6, 0), (7, 0)] (by kernel_rfl) (by kernel_rfl) trivial ?_
                  simp only [List.map_cons, List.map_nil]
                  repeat (refine wpO_step0 rfl rfl (fun K hK => ?_); go_simp; refine hK _ _ ?_; clear hK K)
                  refine wpO_nil ?_
                  have HBd := Lib.hid (below_step HBa.out (below_drew1 _))
                  have HRd := Lib.hid (HRa.out.below (below_drew1 _))
                  go_wp2_with fail
                  refine (refnumber_any AT 1 cT (X.take 1) _ (HC.out.below HBd.out)).mono ?_
                  rintro e1 w4 ⟨rfl, rfl⟩
                  go_wp2_with fail
                  refine (u8_any g X 0 _ HRd.out).mono ?_
                  rintro e1 w4 ⟨rfl, hr4, hg4⟩
                  rw [HX2.out.1]
                  rw [HX2.out.2.1, HX2.out.2.2] at hr4
                  have hm : numOf 0 (X.take 1) % 256 = numOf 0 (X.take 1) := by
                    have this : numOf 0 (offT X 0 (1 : Int)) % 256 = numOf 0 (offT X 0 (1 : Int)) := num_mod X HT.out.left.range 0 1 (by omega) 256 rfl
                    rw [HX2.out.1] at this
                    exact this
                  rw [hm]
                  have hwr : IntKind.u64.wrap (numOf 0 (X.take 1)) = numOf 0 (X.take 1) := tk_wrap
                  have HR4 := Lib.hid hr4
                  have HB4 := Lib.hid (grown_below HBd.out hg4 HT.out.wg)
                  clear hr4 hg4
                  have hll := HLL.out
                  go_wp2_with fail
                  refine (left_any g _ _ _ HR4.out).mono ?_
                  rintro e1 w6 ⟨rfl, rfl⟩
                  rw [hll]
                  go_wp2_with fail
                  refine (err_any g _ _ _ HR4.out).mono ?_
                  rintro e1 w6 ⟨rfl, rfl⟩
                  go_wp2_with fail
                  go_roundw
                  case measure => simp [intOf]; omega
                  case rel => exact ⟨j + 1, _, _, _, _, _, by go_num, rfl, rfl, (show j + 1 ≤ n1 by omega), ⟨HB4.out, HR4.out, HC2.out, HT.out.wg, HT.out.lg, by first | exact HT.out.sm | (rw [List.length_drop]; have := HT.out.sm; omega)⟩⟩
              · have hB : offB X e 1 = false := by simp [offB, he]
                have he0 : (e == 0) = false := by simpa using he
                have HX2 := Lib.hid (And.intro (offT_false hB) (And.intro (offL_false hB) (show offE X e 1 = e by rw [offE, if_pos he])))
                have HC := Lib.hid (RB.nil w none 0)
                have HC2 := Lib.hid HT.out.left
                have HLL := Lib.hid HXL.out
                clear hB he
                go_wp2_with fail
                refine (refnumber_any none 0 0 [] _ (HC.out.below HBa.out)).mono ?_
                rintro e1 w4 ⟨rfl, rfl⟩
                go_wp2_with fail
                refine (u8_any g X e _ HRa.out).mono ?_
                rintro e1 w4 ⟨rfl, hr4, hg4⟩
                rw [HX2.out.1]
                rw [HX2.out.2.1, HX2.out.2.2] at hr4
                have hm : numOf 0 [] % 256 = numOf 0 [] := by
                  have this : numOf 0 (offT X e (1 : Int)) % 256 = numOf 0 (offT X e (1 : Int)) := num_mod X HT.out.left.range e 1 (by omega) 256 rfl
                  rw [HX2.out.1] at this
                  exact this
                rw [hm]
                have hwr : IntKind.u64.wrap (numOf 0 []) = numOf 0 [] := tk_wrap
                have HR4 := Lib.hid hr4
                have HB4 := Lib.hid (grown_below HBa.out hg4 HT.out.wg)
                clear hr4 hg4
                have hll := HLL.out
                go_wp2_with fail
                refine (left_any g _ _ _ HR4.out).mono ?_
                rintro e1 w6 ⟨rfl, rfl⟩
                rw [hll]
                go_wp2_with fail
                refine (err_any g _ _ _ HR4.out).mono ?_
                rintro e1 w6 ⟨rfl, rfl⟩
                go_wp2_with fail
                go_roundw
                case measure => simp [intOf]; omega
                case rel => exact ⟨j + 1, _, _, _, _, _, by go_num, rfl, rfl, (show j + 1 ≤ n1 by omega), ⟨HB4.out, HR4.out, HC2.out, HT.out.wg, HT.out.lg, by first | exact HT.out.sm | (rw [List.length_drop]; have := HT.out.sm; omega)⟩⟩
            · subst h9
              by_cases he : e = 0
              · subst he
                cases hB : offB X 0 2 with
                | false =>
                  have hE : offE X 0 2 = if (2 : Int) < 0 then 2 else if (nT : Int) < 2 then 7 else 0 := by rw [offE, if_neg (by simp), HXL.out]
                  have hEn := offE_false hB
                  obtain ⟨E, hEE⟩ : ∃ E, E = offE X 0 2 := ⟨_, rfl⟩
                  rw [← hEE] at hE hEn
                  have hE0 : (E == 0) = false := by simpa using hEn
                  have HX2 := Lib.hid (And.intro (offT_false hB) (And.intro (offL_false hB) hEE.symm))
                  have HC := Lib.hid (RB.nil w none 0)
                  have HC2 := Lib.hid HT.out.left
                  have HLL := Lib.hid HXL.out
                  have HE := Lib.hid hE
                  clear hB hEn hEE hE
                  go_wp2_with fail
                  refine (refoff_any 2 nT _).mono ?_
                  rintro e1 w4 ⟨rfl, rfl⟩
                  rw [← HE.out]
                  go_wp2_with fail
                  refine (refnumber_any none 0 0 [] _ (HC.out.below HBa.out)).mono ?_
                  rintro e1 w4 ⟨rfl, rfl⟩
                  go_wp2_with fail
                  refine (u16_any g X 0 _ HRa.out).mono ?_
                  rintro e1 w4 ⟨rfl, hr4, hg4⟩
                  rw [HX2.out.1]
                  rw [HX2.out.2.1, HX2.out.2.2] at hr4
                  have hm : numOf 0 [] % 65536 = numOf 0 [] := by
                    have this : numOf 0 (offT X 0 (2 : Int)) % 65536 = numOf 0 (offT X 0 (2 : Int)) := num_mod X HT.out.left.range 0 2 (by omega) 65536 rfl
                    rw [HX2.out.1] at this
                    exact this
                  rw [hm]
                  have hwr : IntKind.u64.wrap (numOf 0 []) = numOf 0 [] := tk_wrap
                  have HR4 := Lib.hid hr4
                  have HB4 := Lib.hid (grown_below HBa.out hg4 HT.out.wg)
                  clear hr4 hg4
                  have hll := HLL.out
                  go_wp2_with fail
                  refine (left_any g _ _ _ HR4.out).mono ?_
                  rintro e1 w6 ⟨rfl, rfl⟩
                  rw [hll]
                  go_wp2_with fail
                  refine (err_any g _ _ _ HR4.out).mono ?_
                  rintro e1 w6 ⟨rfl, rfl⟩
                  go_wp2_with fail
                  go_roundw
                  case measure => simp [intOf]; omega
                  case rel => exact ⟨j + 1, _, _, _, _, _, by go_num, rfl, rfl, (show j + 1 ≤ n1 by omega), ⟨HB4.out, HR4.out, HC2.out, HT.out.wg, HT.out.lg, by first | exact HT.out.sm | (rw [List.length_drop]; have := HT.out.sm; omega)⟩⟩
                | true =>
                  obtain ⟨-, hp0, hp1⟩ := offB_true hB
                  have hqn : 2 ≤ nT := by have := HXL.out; omega
                  have hE : (if ((2) : Int) < 0 then (2 : Int) else if (nT : Int) < 2 then 7 else 0) = 0 := by rw [if_neg (by omega), if_neg (by omega)]
                  have hoT : offT X 0 2 = X.take 2 := offT_true hB
                  have hoL : offL X 0 2 = X.drop 2 := offL_true hB
                  have HX2 := Lib.hid (And.intro hoT (And.intro hoL (offE_true hB)))
                  have hcT := HT.out.left.cap
                  obtain ⟨A1', hsl, hsr, -⟩ := cut_bytes AT nT cT 2 (by omega) (by omega)
                  have hd := hsr w X HT.out.left
                  rw [show (2 : Int).toNat = 2 by omega] at hsl hd
                  have HC : Hid (RB w AT 2 cT (X.take 2)) := HT.out.left.take 2 hqn
                  have HC2 := Lib.hid hd
                  have HLL := Lib.hid hd.len
                  have HE := Lib.hid hE
                  have hst := cut_upto AT nT cT 2 (Nat.le_trans hqn hcT)
                  rw [show (((2 : Nat)) : Int) = 2 from rfl] at hst
                  clear hB hE hoT hoL hsr hd hp0 hp1
                  go_wp2_with fail
                  refine (refoff_any 2 nT _).mono ?_
                  rintro e1 w4 ⟨rfl, rfl⟩
                  rw [HE.out]
                  go_wp2_with fail
                  refine wp_region_mix (fun _ => True) [(0, 0), (1, 0), (2, 0), (3, 0), (4, 0), (5, 0), (6, 0), (7, 0)] (by kernel_rfl) (by kernel_rfl) trivial ?_
                  simp only [List.map_cons, List.map_nil]
                  repeat (refine wpO_step0 rfl rfl (fun K hK => ?_); go_simp; refine hK _ _ ?_; clear hK K)
                  refine wpO_nil ?_
                  have HBd := Lib.hid (below_step HBa.out (below_drew1 _))
                  have HRd := Lib.hid (HRa.out.below (below_drew1 _))
                  go_wp2_with fail
                  refine (refnumber_any AT 2 cT (X.take 2) _ (HC.out.below HBd.out)).mono ?_
                  rintro e1 w4 ⟨rfl, rfl⟩
                  go_wp2_with fail
                  refine (u16_any g X 0 _ HRd.out).mono ?_
                  rintro e1 w4 ⟨rfl, hr4, hg4⟩
                  rw [HX2.out.1]
                  rw [HX2.out.2.1, HX2.out.2.2] at hr4
                  have hm : numOf 0 (X.take 2) % 65536 = numOf 0 (X.take 2) := by
                    have this : numOf 0 (offT X 0 (2 : Int)) % 65536 = numOf 0 (offT X 0 (2 : Int)) := num_mod X HT.out.left.range 0 2 (by omega) 65536 rfl
                    rw [HX2.out.1] at this
                    exact this
                  rw [hm]
                  have hwr : IntKind.u64.wrap (numOf 0 (X.take 2)) = numOf 0 (X.take 2) := tk_wrap
                  have HR4 := Lib.hid hr4
                  have HB4 := Lib.hid (grown_below HBd.out hg4 HT.out.wg)
                  clear hr4 hg4
                  have hll := HLL.out
                  go_wp2_with fail
                  refine (left_any g _ _ _ HR4.out).mono ?_
                  rintro e1 w6 ⟨rfl, rfl⟩
                  rw [hll]
                  go_wp2_with fail
                  refine (err_any g _ _ _ HR4.out).mono ?_
                  rintro e1 w6 ⟨rfl, rfl⟩
                  go_wp2_with fail
                  go_roundw
                  case measure => simp [intOf]; omega
                  case rel => exact ⟨j + 1, _, _, _, _, _, by go_num, rfl, rfl, (show j + 1 ≤ n1 by omega), ⟨HB4.out, HR4.out, HC2.out, HT.out.wg, HT.out.lg, by first | exact HT.out.sm | (rw [List.length_drop]; have := HT.out.sm; omega)⟩⟩
              · have hB : offB X e 2 = false := by simp [offB, he]
                have he0 : (e == 0) = false := by simpa using he
                have HX2 := Lib.hid (And.intro (offT_false hB) (And.intro (offL_false hB) (show offE X e 2 = e by rw [offE, if_pos he])))
                have HC := Lib.hid (RB.nil w none 0)
                have HC2 := Lib.hid HT.out.left
                have HLL := Lib.hid HXL.out
                clear hB he
                go_wp2_with fail
                refine (refnumber_any none 0 0 [] _ (HC.out.below HBa.out)).mono ?_
                rintro e1 w4 ⟨rfl, rfl⟩
                go_wp2_with fail
                refine (u16_any g X e _ HRa.out).mono ?_
                rintro e1 w4 ⟨rfl, hr4, hg4⟩
                rw [HX2.out.1]
                rw [HX2.out.2.1, HX2.out.2.2] at hr4
                have hm : numOf 0 [] % 65536 = numOf 0 [] := by
                  have this : numOf 0 (offT X e (2 : Int)) % 65536 = numOf 0 (offT X e (2 : Int)) := num_mod X HT.out.left.range e 2 (by omega) 65536 rfl
                  rw [HX2.out.1] at this
                  exact this
                rw [hm]
                have hwr : IntKind.u64.wrap (numOf 0 []) = numOf 0 [] := tk_wrap
                have HR4 := Lib.hid hr4
                have HB4 := Lib.hid (grown_below HBa.out hg4 HT.out.wg)
                clear hr4 hg4
                have hll := HLL.out
                go_wp2_with fail
                refine (left_any g _ _ _ HR4.out).mono ?_
                rintro e1 w6 ⟨rfl, rfl⟩
                rw [hll]
                go_wp2_with fail
                refine (err_any g _ _ _ HR4.out).mono ?_
                rintro e1 w6 ⟨rfl, rfl⟩
                go_wp2_with fail
                go_roundw
                case measure => simp [intOf]; omega
                case rel => exact ⟨j + 1, _, _, _, _, _, by go_num, rfl, rfl, (show j + 1 ≤ n1 by omega), ⟨HB4.out, HR4.out, HC2.out, HT.out.wg, HT.out.lg, by first | exact HT.out.sm | (rw [List.length_drop]; have := HT.out.sm; omega)⟩⟩
            · subst h9
              by_cases he : e = 0
              · subst he
                cases hB : offB X 0 4 with
                | false =>
                  have hE : offE X 0 4 = if (4 : Int) < 0 then 2 else if (nT : Int) < 4 then 7 else 0 := by rw [offE, if_neg (by simp), HXL.out]
                  have hEn := offE_false hB
                  obtain ⟨E, hEE⟩ : ∃ E, E = offE X 0 4 := ⟨_, rfl⟩
                  rw [← hEE] at hE hEn
                  have hE0 : (E == 0) = false := by simpa using hEn
                  have HX2 := Lib.hid (And.intro (offT_false hB) (And.intro (offL_false hB) hEE.symm))
                  have HC := Lib.hid (RB.nil w none 0)
                  have HC2 := Lib.hid HT.out.left
                  have HLL := Lib.hid HXL.out
                  have HE := Lib.hid hE
                  clear hB hEn hEE hE
                  go_wp2_with fail
                  refine (refoff_any 4 nT _).mono ?_
                  rintro e1 w4 ⟨rfl, rfl⟩
                  rw [← HE.out]
                  go_wp2_with fail
                  refine (refnumber_any none 0 0 [] _ (HC.out.below HBa.out)).mono ?_
                  rintro e1 w4 ⟨rfl, rfl⟩
                  go_wp2_with fail
                  refine (u32_any g X 0 _ HRa.out).mono ?_
                  rintro e1 w4 ⟨rfl, hr4, hg4⟩
                  rw [HX2.out.1]
                  rw [HX2.out.2.1, HX2.out.2.2] at hr4
                  have hm : numOf 0 [] % 4294967296 = numOf 0 [] := by
                    have this : numOf 0 (offT X 0 (4 : Int)) % 4294967296 = numOf 0 (offT X 0 (4 : Int)) := num_mod X HT.out.left.range 0 4 (by omega) 4294967296 rfl
                    rw [HX2.out.1] at this
                    exact this
                  rw [hm]
                  have hwr : IntKind.u64.wrap (numOf 0 []) = numOf 0 [] := tk_wrap
                  have HR4 := Lib.hid hr4
                  have HB4 := Lib.hid (grown_below HBa.out hg4 HT.out.wg)
                  clear hr4 hg4
                  have hll := HLL.out
                  go_wp2_with fail
                  refine (left_any g _ _ _ HR4.out).mono ?_
                  rintro e1 w6 ⟨rfl, rfl⟩
                  rw [hll]
                  go_wp2_with fail
                  refine (err_any g _ _ _ HR4.out).mono ?_
                  rintro e1 w6 ⟨rfl, rfl⟩
                  go_wp2_with fail
                  go_roundw
                  case measure => simp [intOf]; omega
                  case rel => exact ⟨j + 1, _, _, _, _, _, by go_num, rfl, rfl, (show j + 1 ≤ n1 by omega), ⟨HB4.out, HR4.out, HC2.out, HT.out.wg, HT.out.lg, by first | exact HT.out.sm | (rw [List.length_drop]; have := HT.out.sm; omega)⟩⟩
                | true =>
                  obtain ⟨-, hp0, hp1⟩ := offB_true hB
                  have hqn : 4 ≤ nT := by have := HXL.out; omega
                  have hE : (if ((4) : Int) < 0 then (2 : Int) else if (nT : Int) < 4 then 7 else 0) = 0 := by rw [if_neg (by omega), if_neg (by omega)]
                  have hoT : offT X 0 4 = X.take 4 := offT_true hB
                  have hoL : offL X 0 4 = X.drop 4 := offL_true hB
                  have HX2 := Lib.hid (And.intro hoT (And.intro hoL (offE_true hB)))
                  have hcT := HT.out.left.cap
                  obtain ⟨A1', hsl, hsr, -⟩ := cut_bytes AT nT cT 4 (by omega) (by omega)
                  have hd := hsr w X HT.out.left
                  rw [show (4 : Int).toNat = 4 by omega] at hsl hd
                  have HC : Hid (RB w AT 4 cT (X.take 4)) := HT.out.left.take 4 hqn
                  have HC2 := Lib.hid hd
                  have HLL := Lib.hid hd.len
                  have HE := Lib.hid hE
                  have hst := cut_upto AT nT cT 4 (Nat.le_trans hqn hcT)
                  rw [show (((4 : Nat)) : Int) = 4 from rfl] at hst
                  clear hB hE hoT hoL hsr hd hp0 hp1
                  go_wp2_with fail
                  refine (refoff_any 4 nT _).mono ?_
                  rintro e1 w4 ⟨rfl, rfl⟩
                  rw [HE.out]
                  go_wp2_with fail
                  refine wp_region_mix (fun _ => True) [(0, 0), (1, 0), (2, 0), (3, 0), (4, 0), (5, 0), (6, 0), (7, 0)] (by kernel_rfl) (by kernel_rfl) trivial ?_
                  simp only [List.map_cons, List.map_nil]
                  repeat (refine wpO_step0 rfl rfl (fun K hK => ?_); go_simp; refine hK _ _ ?_; clear hK K)
                  refine wpO_nil ?_
                  have HBd := Lib.hid (below_step HBa.out (below_drew1 _))
                  have HRd := Lib.hid (HRa.out.below (below_drew1 _))
                  go_wp2_with fail
                  refine (refnumber_any AT 4 cT (X.take 4) _ (HC.out.below HBd.out)).mono ?_
                  rintro e1 w4 ⟨rfl, rfl⟩
                  go_wp2_with fail
                  refine (u32_any g X 0 _ HRd.out).mono ?_
                  rintro e1 w4 ⟨rfl, hr4, hg4⟩
                  rw [HX2.out.1]
                  rw [HX2.out.2.1, HX2.out.2.2] at hr4
                  have hm : numOf 0 (X.take 4) % 4294967296 = numOf 0 (X.take 4) := by
                    have this : numOf 0 (offT X 0 (4 : Int)) % 4294967296 = numOf 0 (offT X 0 (4 : Int)) := num_mod X HT.out.left.range 0 4 (by omega) 4294967296 rfl
                    rw [HX2.out.1] at this
                    exact this
                  rw [hm]
                  have hwr : IntKind.u64.wrap (numOf 0 (X.take 4)) = numOf 0 (X.take 4) := tk_wrap
                  have HR4 := Lib.hid hr4
                  have HB4 := Lib.hid (grown_below HBd.out hg4 HT.out.wg)
                  clear hr4 hg4
                  have hll := HLL.out
                  go_wp2_with fail
                  refine (left_any g _ _ _ HR4.out).mono ?_
                  rintro e1 w6 ⟨rfl, rfl⟩
                  rw [hll]
                  go_wp2_with fail
                  refine (err_any g _ _ _ HR4.out).mono ?_
                  rintro e1 w6 ⟨rfl, rfl⟩
                  go_wp2_with fail
                  go_roundw
                  case measure => simp [intOf]; omega
                  case rel => exact ⟨j + 1, _, _, _, _, _, by go_num, rfl, rfl, (show j + 1 ≤ n1 by omega), ⟨HB4.out, HR4.out, HC2.out, HT.out.wg, HT.out.lg, by first | exact HT.out.sm | (rw [List.length_drop]; have := HT.out.sm; omega)⟩⟩
              · have hB : offB X e 4 = false := by simp [offB, he]
                have he0 : (e == 0) = false := by simpa using he
                have HX2 := Lib.hid (And.intro (offT_false hB) (And.intro (offL_false hB) (show offE X e 4 = e by rw [offE, if_pos he])))
                have HC := Lib.hid (RB.nil w none 0)
                have HC2 := Lib.hid HT.out.left
                have HLL := Lib.hid HXL.out
                clear hB he
                go_wp2_with fail
                refine (refnumber_any none 0 0 [] _ (HC.out.below HBa.out)).mono ?_
                rintro e1 w4 ⟨rfl, rfl⟩
                go_wp2_with fail
                refine (u32_any g X e _ HRa.out).mono ?_
                rintro e1 w4 ⟨rfl, hr4, hg4⟩
                rw [HX2.out.1]
                rw [HX2.out.2.1, HX2.out.2.2] at hr4
                have hm : numOf 0 [] % 4294967296 = numOf 0 [] := by
                  have this : numOf 0 (offT X e (4 : Int)) % 4294967296 = numOf 0 (offT X e (4 : Int)) := num_mod X HT.out.left.range e 4 (by omega) 4294967296 rfl
                  rw [HX2.out.1] at this
                  exact this
                rw [hm]
                have hwr : IntKind.u64.wrap (numOf 0 []) = numOf 0 [] := tk_wrap
                have HR4 := Lib.hid hr4
                have HB4 := Lib.hid (grown_below HBa.out hg4 HT.out.wg)
                clear hr4 hg4
                have hll := HLL.out
                go_wp2_with fail
                refine (left_any g _ _ _ HR4.out).mono ?_
                rintro e1 w6 ⟨rfl, rfl⟩
                rw [hll]
                go_wp2_with fail
                refine (err_any g _ _ _ HR4.out).mono ?_
                rintro e1 w6 ⟨rfl, rfl⟩
                go_wp2_with fail
                go_roundw
                case measure => simp [intOf]; omega
                case rel => exact ⟨j + 1, _, _, _, _, _, by go_num, rfl, rfl, (show j + 1 ≤ n1 by omega), ⟨HB4.out, HR4.out, HC2.out, HT.out.wg, HT.out.lg, by first | exact HT.out.sm | (rw [List.length_drop]; have := HT.out.sm; omega)⟩⟩
            · subst h9
              by_cases he : e = 0
              · subst he
                cases hB : offB X 0 8 with
                | false =>
                  have hE : offE X 0 8 = if (8 : Int) < 0 then 2 else if (nT : Int) < 8 then 7 else 0 := by rw [offE, if_neg (by simp), HXL.out]
                  have hEn := offE_false hB
                  obtain ⟨E, hEE⟩ : ∃ E, E = offE X 0 8 := ⟨_, rfl⟩
                  rw [← hEE] at hE hEn
                  have hE0 : (E == 0) = false := by simpa using hEn
                  have HX2 := Lib.hid (And.intro (offT_false hB) (And.intro (offL_false hB) hEE.symm))
                  have HC := Lib.hid (RB.nil w none 0)
                  have HC2 := Lib.hid HT.out.left
                  have HLL := Lib.hid HXL.out
                  have HE := Lib.hid hE
                  clear hB hEn hEE hE
                  go_wp2_with fail
                  refine (refoff_any 8 nT _).mono ?_
                  rintro e1 w4 ⟨rfl, rfl⟩
                  rw [← HE.out]
                  go_wp2_with fail
                  refine (refnumber_any none 0 0 [] _ (HC.out.below HBa.out)).mono ?_
                  rintro e1 w4 ⟨rfl, rfl⟩
                  go_wp2_with fail
                  refine (u64_any g X 0 _ HRa.out).mono ?_
                  rintro e1 w4 ⟨rfl, hr4, hg4⟩
                  rw [HX2.out.1]
                  rw [HX2.out.2.1, HX2.out.2.2] at hr4
                  have hwr : IntKind.u64.wrap (numOf 0 []) = numOf 0 [] := tk_wrap
                  have HR4 := Lib.hid hr4
                  have HB4 := Lib.hid (grown_below HBa.out hg4 HT.out.wg)
                  clear hr4 hg4
                  have hll := HLL.out
                  go_wp2_with fail
                  refine (left_any g _ _ _ HR4.out).mono ?_
                  rintro e1 w6 ⟨rfl, rfl⟩
                  rw [hll]
                  go_wp2_with fail
                  refine (err_any g _ _ _ HR4.out).mono ?_
                  rintro e1 w6 ⟨rfl, rfl⟩
                  go_wp2_with fail
                  go_roundw
                  case measure => simp [intOf]; omega
                  case rel => exact ⟨j + 1, _, _, _, _, _, by go_num, rfl, rfl, (show j + 1 ≤ n1 by omega), ⟨HB4.out, HR4.out, HC2.out, HT.out.wg, HT.out.lg, by first | exact HT.out.sm | (rw [List.length_drop]; have := HT.out.sm; omega)⟩⟩
                | true =>
                  obtain ⟨-, hp0, hp1⟩ := offB_true hB
                  have hqn : 8 ≤ nT := by have := HXL.out; omega
                  have hE : (if ((8) : Int) < 0 then (2 : Int) else if (nT : Int) < 8 then 7 else 0) = 0 := by rw [if_neg (by omega), if_neg (by omega)]
                  have hoT : offT X 0 8 = X.take 8 := offT_true hB
                  have hoL : offL X 0 8 = X.drop 8 := offL_true hB
                  have HX2 := Lib.hid (And.intro hoT (And.intro hoL (offE_true hB)))
                  have hcT := HT.out.left.cap
                  obtain ⟨A1', hsl, hsr, -⟩ := cut_bytes AT nT cT 8 (by omega) (by omega)
                  have hd := hsr w X HT.out.left
                  rw [show (8 : Int).toNat = 8 by omega] at hsl hd
                  have HC : Hid (RB w AT 8 cT (X.take 8)) := HT.out.left.take 8 hqn
                  have HC2 := Lib.hid hd
                  have HLL := Lib.hid hd.len
                  have HE := Lib.hid hE
                  have hst := cut_upto AT nT cT 8 (Nat.le_trans hqn hcT)
                  rw [show (((8 : Nat)) : Int) = 8 from rfl] at hst
                  clear hB hE hoT hoL hsr hd hp0 hp1
                  go_wp2_with fail
                  refine (refoff_any 8 nT _).mono ?_
                  rintro e1 w4 ⟨rfl, rfl⟩
                  rw [HE.out]
                  go_wp2_with fail
                  refine wp_region_mix (fun _ => True) [(0, 0), (1, 0), (2, 0), (3, 0), (4, 0), (5, 0), (6, 0), (7, 0)] (by kernel_rfl) (by kernel_rfl) trivial ?_
                  simp only [List.map_cons, List.map_nil]
                  repeat (refine wpO_step0 rfl rfl (fun K hK => ?_); go_simp; refine hK _ _ ?_; clear hK K)
                  refine wpO_nil ?_
                  have HBd := Lib.hid (below_step HBa.out (below_drew1 _))
                  have HRd := Lib.hid (HRa.out.below (below_drew1 _))
                  go_wp2_with fail
                  refine (refnumber_any AT 8 cT (X.take 8) _ (HC.out.below HBd.out)).mono ?_
                  rintro e1 w4 ⟨rfl, rfl⟩
                  go_wp2_with fail
                  refine (u64_any g X 0 _ HRd.out).mono ?_
                  rintro e1 w4 ⟨rfl, hr4, hg4⟩
                  rw [HX2.out.1]
                  rw [HX2.out.2.1, HX2.out.2.2] at hr4
                  have hwr : IntKind.u64.wrap (numOf 0 (X.take 8)) = numOf 0 (X.take 8) := tk_wrap
                  have HR4 := Lib.hid hr4
                  have HB4 := Lib.hid (grown_below HBd.out hg4 HT.out.wg)
                  clear hr4 hg4
                  have hll := HLL.out
                  go_wp2_with fail
                  refine (left_any g _ _ _ HR4.out).mono ?_
                  rintro e1 w6 ⟨rfl, rfl⟩
                  rw [hll]
                  go_wp2_with fail
                  refine (err_any g _ _ _ HR4.out).mono ?_
                  rintro e1 w6 ⟨rfl, rfl⟩
                  go_wp2_with fail
                  go_roundw
                  case measure => simp [intOf]; omega
                  case rel => exact ⟨j + 1, _, _, _, _, _, by go_num, rfl, rfl, (show j + 1 ≤ n1 by omega), ⟨HB4.out, HR4.out, HC2.out, HT.out.wg, HT.out.lg, by first | exact HT.out.sm | (rw [List.length_drop]; have := HT.out.sm; omega)⟩⟩
              · have hB : offB X e 8 = false := by simp [offB, he]
                have he0 : (e == 0) = false := by simpa using he
                have HX2 := Lib.hid (And.intro (offT_false hB) (And.intro (offL_false hB) (show offE X e 8 = e by rw [offE, if_pos he])))
                have HC := Lib.hid (RB.nil w none 0)
                have HC2 := Lib.hid HT.out.left
                have HLL := Lib.hid HXL.out
                clear hB he
                go_wp2_with fail
                refine (refnumber_any none 0 0 [] _ (HC.out.below HBa.out)).mono ?_
                rintro e1 w4 ⟨rfl, rfl⟩
                go_wp2_with fail
                refine (u64_any g X e _ HRa.out).mono ?_
                rintro e1 w4 ⟨rfl, hr4, hg4⟩
                rw [HX2.out.1]
                rw [HX2.out.2.1, HX2.out.2.2] at hr4
                have hwr : IntKind.u64.wrap (numOf 0 []) = numOf 0 [] := tk_wrap
                have HR4 := Lib.hid hr4
                have HB4 := Lib.hid (grown_below HBa.out hg4 HT.out.wg)
                clear hr4 hg4
                have hll := HLL.out
                go_wp2_with fail
                refine (left_any g _ _ _ HR4.out).mono ?_
                rintro e1 w6 ⟨rfl, rfl⟩
                rw [hll]
                go_wp2_with fail
                refine (err_any g _ _ _ HR4.out).mono ?_
                rintro e1 w6 ⟨rfl, rfl⟩
                go_wp2_with fail
                go_roundw
                case measure => simp [intOf]; omega
                case rel => exact ⟨j + 1, _, _, _, _, _, by go_num, rfl, rfl, (show j + 1 ≤ n1 by omega), ⟨HB4.out, HR4.out, HC2.out, HT.out.wg, HT.out.lg, by first | exact HT.out.sm | (rw [List.length_drop]; have := HT.out.sm; omega)⟩⟩
            · have k0 : (kd == 0) = false := by simp; omega
              have k1 : (kd == 1) = false := by simp; omega
              have k2 : (kd == 2) = false := by simp; omega
              have k3 : (kd == 3) = false := by simp; omega
              obtain ⟨bk, hbk⟩ : ∃ bk, decide (0 ≤ kd) = bk := ⟨_, rfl⟩
              obtain ⟨bk2, hbk2⟩ : ∃ bk2, decide (kd ≤ 3) = bk2 := ⟨_, rfl⟩
              have hkk : (bk && bk2) = false := by subst hbk; subst hbk2; simp; omega
              clear h9
              cases bk <;> cases bk2 <;> simp at hkk
              · by_cases he : e = 0
                · subst he
                  cases hB : offB X 0 nd with
                  | false =>
                    have hE : offE X 0 nd = if (nd : Int) < 0 then 2 else if (nT : Int) < nd then 7 else 0 := by rw [offE, if_neg (by simp), HXL.out]
                    have hEn := offE_false hB
                    obtain ⟨E, hEE⟩ : ∃ E, E = offE X 0 nd := ⟨_, rfl⟩
                    rw [← hEE] at hE hEn
                    have hE0 : (E == 0) = false := by simpa using hEn
                    have HX2 := Lib.hid (And.intro (offT_false hB) (And.intro (offL_false hB) hEE.symm))
                    have HC := Lib.hid (RB.nil w none 0)
                    have HC2 := Lib.hid HT.out.left
                    have HLL := Lib.hid HXL.out
                    have HE := Lib.hid hE
                    clear hB hEn hEE hE
                    go_wp2_with fail
                    refine (refoff_any nd nT _).mono ?_
                    rintro e1 w4 ⟨rfl, rfl⟩
                    rw [← HE.out]
                    go_wp2_with fail
                    refine (refnumber_any none 0 0 [] _ (HC.out.below HBa.out)).mono ?_
                    rintro e1 w4 ⟨rfl, rfl⟩
                    go_wp2_with fail
                    refine (raw_any g X 0 nd _ HRa.out HND.out (by have := HXL.out; omega)).mono ?_
                    rintro e1 w4 ⟨A4, c4, rfl, h4, hr4, hg4⟩
                    rw [HX2.out.1] at h4
                    rw [HX2.out.1]
                    obtain ⟨m4, hm4⟩ : ∃ m4, ([] : List Int).length = m4 := ⟨_, rfl⟩
                    rw [hm4] at h4
                    rw [hm4]
                    rw [HX2.out.2.1, HX2.out.2.2] at hr4
                    have HR3 := Lib.hid hr4
                    have HB3 := Lib.hid (grown_below HBa.out hg4 HT.out.wg)
                    have H4 := Lib.hid h4.reads
                    clear hr4 hg4 h4 hm4
                    go_wp2_with fail
                    refine (same_any A4 m4 c4 [] none 0 0 [] w4 H4.out (HC.out.below HB3.out)).mono ?_
                    rintro e1 w5 ⟨rfl, hb5⟩
                    have HR4 := Lib.hid (HR3.out.below hb5)
                    have HB4 := Lib.hid (below_step HB3.out hb5)
                    have hdT : decide (([] : List Int) = []) = true := by simp
                    clear hb5
                    have hll := HLL.out
                    go_wp2_with fail
                    refine (left_any g _ _ _ HR4.out).mono ?_
                    rintro e1 w6 ⟨rfl, rfl⟩
                    rw [hll]
                    go_wp2_with fail
                    refine (err_any g _ _ _ HR4.out).mono ?_
                    rintro e1 w6 ⟨rfl, rfl⟩
                    go_wp2_with fail
                    go_roundw
                    case measure => simp [intOf]; omega
                    case rel => exact ⟨j + 1, _, _, _, _, _, by go_num, rfl, rfl, (show j + 1 ≤ n1 by omega), ⟨HB4.out, HR4.out, HC2.out, HT.out.wg, HT.out.lg, by first | exact HT.out.sm | (rw [List.length_drop]; have := HT.out.sm; omega)⟩⟩
                  | true =>
                    obtain ⟨-, hp0, hp1⟩ := offB_true hB
                    obtain ⟨q, rfl⟩ := Int.eq_ofNat_of_zero_le hp0
                    have hqn : q ≤ nT := by have := HXL.out; omega
                    have hE : (if (((q : Int)) : Int) < 0 then (2 : Int) else if (nT : Int) < (q : Int) then 7 else 0) = 0 := by rw [if_neg (by omega), if_neg (by omega)]
                    have hoT : offT X 0 (q : Int) = X.take q := offT_true hB
                    have hoL : offL X 0 (q : Int) = X.drop q := offL_true hB
                    have HX2 := Lib.hid (And.intro hoT (And.intro hoL (offE_true hB)))
                    have hcT := HT.out.left.cap
                    obtain ⟨A1', hsl, hsr, -⟩ := cut_bytes AT nT cT (q : Int) (by omega) (by omega)
                    have hd := hsr w X HT.out.left
                    rw [show ((q : Int) : Int).toNat = q by omega] at hsl hd
                    have HC : Hid (RB w AT q cT (X.take q)) := HT.out.left.take q hqn
                    have HC2 := Lib.hid hd
                    have HLL := Lib.hid hd.len
                    have HE := Lib.hid hE
                    have hst := cut_upto AT nT cT q (Nat.le_trans hqn hcT)
                    clear hB hE hoT hoL hsr hd hp0 hp1
                    go_wp2_with fail
                    refine (refoff_any (q : Int) nT _).mono ?_
                    rintro e1 w4 ⟨rfl, rfl⟩
                    rw [HE.out]
                    go_wp2_with fail
                    refine wp_region_mix (fun _ => True) [(0, 0), (1, 0), (2, 0), (3, 0), (4, 0), (5, 0), (6, 0), (7, 0)] (by kernel_rfl) (by kernel_rfl) trivial ?_
                    simp only [List.map_cons, List.map_nil]
                    repeat (refine wpO_step0 rfl rfl (fun K hK => ?_); go_simp; refine hK _ _ ?_; clear hK K)
                    refine wpO_nil ?_
                    have HBd := Lib.hid (below_step HBa.out (below_drew1 _))
                    have HRd := Lib.hid (HRa.out.below (below_drew1 _))
                    go_wp2_with fail
                    refine (refnumber_any AT q cT (X.take q) _ (HC.out.below HBd.out)).mono ?_
                    rintro e1 w4 ⟨rfl, rfl⟩
                    go_wp2_with fail
                    refine (raw_any g X 0 (q : Int) _ HRd.out HND.out (by have := HXL.out; omega)).mono ?_
                    rintro e1 w4 ⟨A4, c4, rfl, h4, hr4, hg4⟩
                    rw [HX2.out.1] at h4
                    rw [HX2.out.1]
                    obtain ⟨m4, hm4⟩ : ∃ m4, ((X.take q) : List Int).length = m4 := ⟨_, rfl⟩
                    rw [hm4] at h4
                    rw [hm4]
                    rw [HX2.out.2.1, HX2.out.2.2] at hr4
                    have HR3 := Lib.hid hr4
                    have HB3 := Lib.hid (grown_below HBd.out hg4 HT.out.wg)
                    have H4 := Lib.hid h4.reads
                    clear hr4 hg4 h4 hm4
                    go_wp2_with fail
                    refine (same_any A4 m4 c4 (X.take q) AT q cT (X.take q) w4 H4.out (HC.out.below HB3.out)).mono ?_
                    rintro e1 w5 ⟨rfl, hb5⟩
                    have HR4 := Lib.hid (HR3.out.below hb5)
                    have HB4 := Lib.hid (below_step HB3.out hb5)
                    have hdT : decide (((X.take q) : List Int) = (X.take q)) = true := by simp
                    clear hb5
                    have hll := HLL.out
                    go_wp2_with fail
                    refine (left_any g _ _ _ HR4.out).mono ?_
                    rintro e1 w6 ⟨rfl, rfl⟩
                    rw [hll]
                    go_wp2_with fail
                    refine (err_any g _ _ _ HR4.out).mono ?_
                    rintro e1 w6 ⟨rfl, rfl⟩
                    go_wp2_with fail
                    go_roundw
                    case measure => simp [intOf]; omega
                    case rel => exact ⟨j + 1, _, _, _, _, _, by go_num, rfl, rfl, (show j + 1 ≤ n1 by omega), ⟨HB4.out, HR4.out, HC2.out, HT.out.wg, HT.out.lg, by first | exact HT.out.sm | (rw [List.length_drop]; have := HT.out.sm; omega)⟩⟩
                · have hB : offB X e nd = false := by simp [offB, he]
                  have he0 : (e == 0) = false := by simpa using he
                  have HX2 := Lib.hid (And.intro (offT_false hB) (And.intro (offL_false hB) (show offE X e nd = e by rw [offE, if_pos he])))
                  have HC := Lib.hid (RB.nil w none 0)
                  have HC2 := Lib.hid HT.out.left
                  have HLL := Lib.hid HXL.out
                  clear hB he
                  go_wp2_with fail
                  refine (refnumber_any none 0 0 [] _ (HC.out.below HBa.out)).mono ?_
                  rintro e1 w4 ⟨rfl, rfl⟩
                  go_wp2_with fail
                  refine (raw_any g X e nd _ HRa.out HND.out (by have := HXL.out; omega)).mono ?_
                  rintro e1 w4 ⟨A4, c4, rfl, h4, hr4, hg4⟩
                  rw [HX2.out.1] at h4
                  rw [HX2.out.1]
                  obtain ⟨m4, hm4⟩ : ∃ m4, ([] : List Int).length = m4 := ⟨_, rfl⟩
                  rw [hm4] at h4
                  rw [hm4]
                  rw [HX2.out.2.1, HX2.out.2.2] at hr4
                  have HR3 := Lib.hid hr4
                  have HB3 := Lib.hid (grown_below HBa.out hg4 HT.out.wg)
                  have H4 := Lib.hid h4.reads
                  clear hr4 hg4 h4 hm4
                  go_wp2_with fail
                  refine (same_any A4 m4 c4 [] none 0 0 [] w4 H4.out (HC.out.below HB3.out)).mono ?_
                  rintro e1 w5 ⟨rfl, hb5⟩
                  have HR4 := Lib.hid (HR3.out.below hb5)
                  have HB4 := Lib.hid (below_step HB3.out hb5)
                  have hdT : decide (([] : List Int) = []) = true := by simp
                  clear hb5
                  have hll := HLL.out
                  go_wp2_with fail
                  refine (left_any g _ _ _ HR4.out).mono ?_
                  rintro e1 w6 ⟨rfl, rfl⟩
                  rw [hll]
                  go_wp2_with fail
                  refine (err_any g _ _ _ HR4.out).mono ?_
                  rintro e1 w6 ⟨rfl, rfl⟩
                  go_wp2_with fail
                  go_roundw
                  case measure => simp [intOf]; omega
                  case rel => exact ⟨j + 1, _, _, _, _, _, by go_num, rfl, rfl, (show j + 1 ≤ n1 by omega), ⟨HB4.out, HR4.out, HC2.out, HT.out.wg, HT.out.lg, by first | exact HT.out.sm | (rw [List.length_drop]; have := HT.out.sm; omega)⟩⟩
              · by_cases he : e = 0
                · subst he
                  cases hB : offB X 0 nd with
                  | false =>
                    have hE : offE X 0 nd = if (nd : Int) < 0 then 2 else if (nT : Int) < nd then 7 else 0 := by rw [offE, if_neg (by simp), HXL.out]
                    have hEn := offE_false hB
                    obtain ⟨E, hEE⟩ : ∃ E, E = offE X 0 nd := ⟨_, rfl⟩
                    rw [← hEE] at hE hEn
                    have hE0 : (E == 0) = false := by simpa using hEn
                    have HX2 := Lib.hid (And.intro (offT_false hB) (And.intro (offL_false hB) hEE.symm))
                    have HC := Lib.hid (RB.nil w none 0)
                    have HC2 := Lib.hid HT.out.left
                    have HLL := Lib.hid HXL.out
                    have HE := Lib.hid hE
                    clear hB hEn hEE hE
                    go_wp2_with fail
                    refine (refoff_any nd nT _).mono ?_
                    rintro e1 w4 ⟨rfl, rfl⟩
                    rw [← HE.out]
                    go_wp2_with fail
                    refine (refnumber_any none 0 0 [] _ (HC.out.below HBa.out)).mono ?_
                    rintro e1 w4 ⟨rfl, rfl⟩
                    go_wp2_with fail
                    refine (raw_any g X 0 nd _ HRa.out HND.out (by have := HXL.out; omega)).mono ?_
                    rintro e1 w4 ⟨A4, c4, rfl, h4, hr4, hg4⟩
                    rw [HX2.out.1] at h4
                    rw [HX2.out.1]
                    obtain ⟨m4, hm4⟩ : ∃ m4, ([] : List Int).length = m4 := ⟨_, rfl⟩
                    rw [hm4] at h4
                    rw [hm4]
                    rw [HX2.out.2.1, HX2.out.2.2] at hr4
                    have HR3 := Lib.hid hr4
                    have HB3 := Lib.hid (grown_below HBa.out hg4 HT.out.wg)
                    have H4 := Lib.hid h4.reads
                    clear hr4 hg4 h4 hm4
                    go_wp2_with fail
                    refine (same_any A4 m4 c4 [] none 0 0 [] w4 H4.out (HC.out.below HB3.out)).mono ?_
                    rintro e1 w5 ⟨rfl, hb5⟩
                    have HR4 := Lib.hid (HR3.out.below hb5)
                    have HB4 := Lib.hid (below_step HB3.out hb5)
                    have hdT : decide (([] : List Int) = []) = true := by simp
                    clear hb5
                    have hll := HLL.out
                    go_wp2_with fail
                    refine (left_any g _ _ _ HR4.out).mono ?_
                    rintro e1 w6 ⟨rfl, rfl⟩
                    rw [hll]
                    go_wp2_with fail
                    refine (err_any g _ _ _ HR4.out).mono ?_
                    rintro e1 w6 ⟨rfl, rfl⟩
                    go_wp2_with fail
                    go_roundw
                    case measure => simp [intOf]; omega
                    case rel => exact ⟨j + 1, _, _, _, _, _, by go_num, rfl, rfl, (show j + 1 ≤ n1 by omega), ⟨HB4.out, HR4.out, HC2.out, HT.out.wg, HT.out.lg, by first | exact HT.out.sm | (rw [List.length_drop]; have := HT.out.sm; omega)⟩⟩
                  | true =>
                    obtain ⟨-, hp0, hp1⟩ := offB_true hB
                    obtain ⟨q, rfl⟩ := Int.eq_ofNat_of_zero_le hp0
                    have hqn : q ≤ nT := by have := HXL.out; omega
                    have hE : (if (((q : Int)) : Int) < 0 then (2 : Int) else if (nT : Int) < (q : Int) then 7 else 0) = 0 := by rw [if_neg (by omega), if_neg (by omega)]
                    have hoT : offT X 0 (q : Int) = X.take q := offT_true hB
                    have hoL : offL X 0 (q : Int) = X.drop q := offL_true hB
                    have HX2 := Lib.hid (And.intro hoT (And.intro hoL (offE_true hB)))
                    have hcT := HT.out.left.cap
                    obtain ⟨A1', hsl, hsr, -⟩ := cut_bytes AT nT cT (q : Int) (by omega) (by omega)
                    have hd := hsr w X HT.out.left
                    rw [show ((q : Int) : Int).toNat = q by omega] at hsl hd
                    have HC : Hid (RB w AT q cT (X.take q)) := HT.out.left.take q hqn
                    have HC2 := Lib.hid hd
                    have HLL := Lib.hid hd.len
                    have HE := Lib.hid hE
                    have hst := cut_upto AT nT cT q (Nat.le_trans hqn hcT)
                    clear hB hE hoT hoL hsr hd hp0 hp1
                    go_wp2_with fail
                    refine (refoff_any (q : Int) nT _).mono ?_
                    rintro e1 w4 ⟨rfl, rfl⟩
                    rw [HE.out]
                    go_wp2_with fail
                    refine wp_region_mix (fun _ => True) [(0, 0), (1, 0), (2, 0), (3, 0), (4, 0), (5, 0), (6, 0), (7, 0)] (by kernel_rfl) (by kernel_rfl) trivial ?_
                    simp only [List.map_cons, List.map_nil]
                    repeat (refine wpO_step0 rfl rfl (fun K hK => ?_); go_simp; refine hK _ _ ?_; clear hK K)
                    refine wpO_nil ?_
                    have HBd := Lib.hid (below_step HBa.out (below_drew1 _))
                    have HRd := Lib.hid (HRa.out.below (below_drew1 _))
                    go_wp2_with fail
                    refine (refnumber_any AT q cT (X.take q) _ (HC.out.below HBd.out)).mono ?_
                    rintro e1 w4 ⟨rfl, rfl⟩
                    go_wp2_with fail
                    refine (raw_any g X 0 (q : Int) _ HRd.out HND.out (by have := HXL.out; omega)).mono ?_
                    rintro e1 w4 ⟨A4, c4, rfl, h4, hr4, hg4⟩
                    rw [HX2.out.1] at h4
                    rw [HX2.out.1]
                    obtain ⟨m4, hm4⟩ : ∃ m4, ((X.take q) : List Int).length = m4 := ⟨_, rfl⟩
                    rw [hm4] at h4
                    rw [hm4]
                    rw [HX2.out.2.1, HX2.out.2.2] at hr4
                    have HR3 := Lib.hid hr4
                    have HB3 := Lib.hid (grown_below HBd.out hg4 HT.out.wg)
                    have H4 := Lib.hid h4.reads
                    clear hr4 hg4 h4 hm4
                    go_wp2_with fail
                    refine (same_any A4 m4 c4 (X.take q) AT q cT (X.take q) w4 H4.out (HC.out.below HB3.out)).mono ?_
                    rintro e1 w5 ⟨rfl, hb5⟩
                    have HR4 := Lib.hid (HR3.out.below hb5)
                    have HB4 := Lib.hid (below_step HB3.out hb5)
                    have hdT : decide (((X.take q) : List Int) = (X.take q)) = true := by simp
                    clear hb5
                    have hll := HLL.out
                    go_wp2_with fail
                    refine (left_any g _ _ _ HR4.out).mono ?_
                    rintro e1 w6 ⟨rfl, rfl⟩
                    rw [hll]
                    go_wp2_with fail
                    refine (err_any g _ _ _ HR4.out).mono ?_
                    rintro e1 w6 ⟨rfl, rfl⟩
                    go_wp2_with fail
                    go_roundw
                    case measure => simp [intOf]; omega
                    case rel => exact ⟨j + 1, _, _, _, _, _, by go_num, rfl, rfl, (show j + 1 ≤ n1 by omega), ⟨HB4.out, HR4.out, HC2.out, HT.out.wg, HT.out.lg, by first | exact HT.out.sm | (rw [List.length_drop]; have := HT.out.sm; omega)⟩⟩
                · have hB : offB X e nd = false := by simp [offB, he]
                  have he0 : (e == 0) = false := by simpa using he
                  have HX2 := Lib.hid (And.intro (offT_false hB) (And.intro (offL_false hB) (show offE X e nd = e by rw [offE, if_pos he])))
                  have HC := Lib.hid (RB.nil w none 0)
                  have HC2 := Lib.hid HT.out.left
                  have HLL := Lib.hid HXL.out
                  clear hB he
                  go_wp2_with fail
                  refine (refnumber_any none 0 0 [] _ (HC.out.below HBa.out)).mono ?_
                  rintro e1 w4 ⟨rfl, rfl⟩
                  go_wp2_with fail
                  refine (raw_any g X e nd _ HRa.out HND.out (by have := HXL.out; omega)).mono ?_
                  rintro e1 w4 ⟨A4, c4, rfl, h4, hr4, hg4⟩
                  rw [HX2.out.1] at h4
                  rw [HX2.out.1]
                  obtain ⟨m4, hm4⟩ : ∃ m4, ([] : List Int).length = m4 := ⟨_, rfl⟩
                  rw [hm4] at h4
                  rw [hm4]
                  rw [HX2.out.2.1, HX2.out.2.2] at hr4
                  have HR3 := Lib.hid hr4
                  have HB3 := Lib.hid (grown_below HBa.out hg4 HT.out.wg)
                  have H4 := Lib.hid h4.reads
                  clear hr4 hg4 h4 hm4
                  go_wp2_with fail
                  refine (same_any A4 m4 c4 [] none 0 0 [] w4 H4.out (HC.out.below HB3.out)).mono ?_
                  rintro e1 w5 ⟨rfl, hb5⟩
                  have HR4 := Lib.hid (HR3.out.below hb5)
                  have HB4 := Lib.hid (below_step HB3.out hb5)
                  have hdT : decide (([] : List Int) = []) = true := by simp
                  clear hb5
                  have hll := HLL.out
                  go_wp2_with fail
                  refine (left_any g _ _ _ HR4.out).mono ?_
                  rintro e1 w6 ⟨rfl, rfl⟩
                  rw [hll]
                  go_wp2_with fail
                  refine (err_any g _ _ _ HR4.out).mono ?_
                  rintro e1 w6 ⟨rfl, rfl⟩
                  go_wp2_with fail
                  go_roundw
                  case measure => simp [intOf]; omega
                  case rel => exact ⟨j + 1, _, _, _, _, _, by go_num, rfl, rfl, (show j + 1 ≤ n1 by omega), ⟨HB4.out, HR4.out, HC2.out, HT.out.wg, HT.out.lg, by first | exact HT.out.sm | (rw [List.length_drop]; have := HT.out.sm; omega)⟩⟩
              · by_cases he : e = 0
                · subst he
                  cases hB : offB X 0 nd with
                  | false =>
                    have hE : offE X 0 nd = if (nd : Int) < 0 then 2 else if (nT : Int) < nd then 7 else 0 := by rw [offE, if_neg (by simp), HXL.out]
                    have hEn := offE_false hB
                    obtain ⟨E, hEE⟩ : ∃ E, E = offE X 0 nd := ⟨_, rfl⟩
                    rw [← hEE] at hE hEn
                    have hE0 : (E == 0) = false := by simpa using hEn
                    have HX2 := Lib.hid (And.intro (offT_false hB) (And.intro (offL_false hB) hEE.symm))
                    have HC := Lib.hid (RB.nil w none 0)
                    have HC2 := Lib.hid HT.out.left
                    have HLL := Lib.hid HXL.out
                    have HE := Lib.hid hE
                    clear hB hEn hEE hE
                    go_wp2_with fail
                    refine (refoff_any nd nT _).mono ?_
                    rintro e1 w4 ⟨rfl, rfl⟩
                    rw [← HE.out]
                    go_wp2_with fail
                    refine (refnumber_any none 0 0 [] _ (HC.out.below HBa.out)).mono ?_
                    rintro e1 w4 ⟨rfl, rfl⟩
                    go_wp2_with fail
                    refine (raw_any g X 0 nd _ HRa.out HND.out (by have := HXL.out; omega)).mono ?_
                    rintro e1 w4 ⟨A4, c4, rfl, h4, hr4, hg4⟩
                    rw [HX2.out.1] at h4
                    rw [HX2.out.1]
                    obtain ⟨m4, hm4⟩ : ∃ m4, ([] : List Int).length = m4 := ⟨_, rfl⟩
                    rw [hm4] at h4
                    rw [hm4]
                    rw [HX2.out.2.1, HX2.out.2.2] at hr4
                    have HR3 := Lib.hid hr4
                    have HB3 := Lib.hid (grown_below HBa.out hg4 HT.out.wg)
                    have H4 := Lib.hid h4.reads
                    clear hr4 hg4 h4 hm4
                    go_wp2_with fail
                    refine (same_any A4 m4 c4 [] none 0 0 [] w4 H4.out (HC.out.below HB3.out)).mono ?_
                    rintro e1 w5 ⟨rfl, hb5⟩
                    have HR4 := Lib.hid (HR3.out.below hb5)
                    have HB4 := Lib.hid (below_step HB3.out hb5)
                    have hdT : decide (([] : List Int) = []) = true := by simp
                    clear hb5
                    have hll := HLL.out
                    go_wp2_with fail
                    refine (left_any g _ _ _ HR4.out).mono ?_
                    rintro e1 w6 ⟨rfl, rfl⟩
                    rw [hll]
                    go_wp2_with fail
                    refine (err_any g _ _ _ HR4.out).mono ?_
                    rintro e1 w6 ⟨rfl, rfl⟩
                    go_wp2_with fail
                    go_roundw
                    case measure => simp [intOf]; omega
                    case rel => exact ⟨j + 1, _, _, _, _, _, by go_num, rfl, rfl, (show j + 1 ≤ n1 by omega), ⟨HB4.out, HR4.out, HC2.out, HT.out.wg, HT.out.lg, by first | exact HT.out.sm | (rw [List.length_drop]; have := HT.out.sm; omega)⟩⟩
                  | true =>
                    obtain ⟨-, hp0, hp1⟩ := offB_true hB
                    obtain ⟨q, rfl⟩ := Int.eq_ofNat_of_zero_le hp0
                    have hqn : q ≤ nT := by have := HXL.out; omega
                    have hE : (if (((q : Int)) : Int) < 0 then (2 : Int) else if (nT : Int) < (q : Int) then 7 else 0) = 0 := by rw [if_neg (by omega), if_neg (by omega)]
                    have hoT : offT X 0 (q : Int) = X.take q := offT_true hB
                    have hoL : offL X 0 (q : Int) = X.drop q := offL_true hB
                    have HX2 := Lib.hid (And.intro hoT (And.intro hoL (offE_true hB)))
                    have hcT := HT.out.left.cap
                    obtain ⟨A1', hsl, hsr, -⟩ := cut_bytes AT nT cT (q : Int) (by omega) (by omega)
                    have hd := hsr w X HT.out.left
                    rw [show ((q : Int) : Int).toNat = q by omega] at hsl hd
                    have HC : Hid (RB w AT q cT (X.take q)) := HT.out.left.take q hqn
                    have HC2 := Lib.hid hd
                    have HLL := Lib.hid hd.len
                    have HE := Lib.hid hE
                    have hst := cut_upto AT nT cT q (Nat.le_trans hqn hcT)
                    clear hB hE hoT hoL hsr hd hp0 hp1
                    go_wp2_with fail
                    refine (refoff_any (q : Int) nT _).mono ?_
                    rintro e1 w4 ⟨rfl, rfl⟩
                    rw [HE.out]
                    go_wp2_with fail
                    refine wp_region_mix (fun _ => True) [(0, 0), (1, 0), (2, 0), (3, 0), (4, 0), (5, 0), (6, 0), (7, 0)] (by kernel_rfl) (by kernel_rfl) trivial ?_
                    simp only [List.map_cons, List.map_nil]
                    repeat (refine wpO_step0 rfl rfl (fun K hK => ?_); go_simp; refine hK _ _ ?_; clear hK K)
                    refine wpO_nil ?_
                    have HBd := Lib.hid (below_step HBa.out (below_drew1 _))
                    have HRd := Lib.hid (HRa.out.below (below_drew1 _))
                    go_wp2_with fail
                    refine (refnumber_any AT q cT (X.take q) _ (HC.out.below HBd.out)).mono ?_
                    rintro e1 w4 ⟨rfl, rfl⟩
                    go_wp2_with fail
                    refine (raw_any g X 0 (q : Int) _ HRd.out HND.out (by have := HXL.out; omega)).mono ?_
                    rintro e1 w4 ⟨A4, c4, rfl, h4, hr4, hg4⟩
                    rw [HX2.out.1] at h4
                    rw [HX2.out.1]
                    obtain ⟨m4, hm4⟩ : ∃ m4, ((X.take q) : List Int).length = m4 := ⟨_, rfl⟩
                    rw [hm4] at h4
                    rw [hm4]
                    rw [HX2.out.2.1, HX2.out.2.2] at hr4
                    have HR3 := Lib.hid hr4
                    have HB3 := Lib.hid (grown_below HBd.out hg4 HT.out.wg)
                    have H4 := Lib.hid h4.reads
                    clear hr4 hg4 h4 hm4
                    go_wp2_with fail
                    refine (same_any A4 m4 c4 (X.take q) AT q cT (X.take q) w4 H4.out (HC.out.below HB3.out)).mono ?_
                    rintro e1 w5 ⟨rfl, hb5⟩
                    have HR4 := Lib.hid (HR3.out.below hb5)
                    have HB4 := Lib.hid (below_step HB3.out hb5)
                    have hdT : decide (((X.take q) : List Int) = (X.take q)) = true := by simp
                    clear hb5
                    have hll := HLL.out
                    go_wp2_with fail
                    refine (left_any g _ _ _ HR4.out).mono ?_
                    rintro e1 w6 ⟨rfl, rfl⟩
                    rw [hll]
                    go_wp2_with fail
                    refine (err_any g _ _ _ HR4.out).mono ?_
                    rintro e1 w6 ⟨rfl, rfl⟩
                    go_wp2_with fail
                    go_roundw
                    case measure => simp [intOf]; omega
                    case rel => exact ⟨j + 1, _, _, _, _, _, by go_num, rfl, rfl, (show j + 1 ≤ n1 by omega), ⟨HB4.out, HR4.out, HC2.out, HT.out.wg, HT.out.lg, by first | exact HT.out.sm | (rw [List.length_drop]; have := HT.out.sm; omega)⟩⟩
                · have hB : offB X e nd = false := by simp [offB, he]
                  have he0 : (e == 0) = false := by simpa using he
                  have HX2 := Lib.hid (And.intro (offT_false hB) (And.intro (offL_false hB) (show offE X e nd = e by rw [offE, if_pos he])))
                  have HC := Lib.hid (RB.nil w none 0)
                  have HC2 := Lib.hid HT.out.left
                  have HLL := Lib.hid HXL.out
                  clear hB he
                  go_wp2_with fail
                  refine (refnumber_any none 0 0 [] _ (HC.out.below HBa.out)).mono ?_
                  rintro e1 w4 ⟨rfl, rfl⟩
                  go_wp2_with fail
                  refine (raw_any g X e nd _ HRa.out HND.out (by have := HXL.out; omega)).mono ?_
                  rintro e1 w4 ⟨A4, c4, rfl, h4, hr4, hg4⟩
                  rw [HX2.out.1] at h4
                  rw [HX2.out.1]
                  obtain ⟨m4, hm4⟩ : ∃ m4, ([] : List Int).length = m4 := ⟨_, rfl⟩
                  rw [hm4] at h4
                  rw [hm4]
                  rw [HX2.out.2.1, HX2.out.2.2] at hr4
                  have HR3 := Lib.hid hr4
                  have HB3 := Lib.hid (grown_below HBa.out hg4 HT.out.wg)
                  have H4 := Lib.hid h4.reads
                  clear hr4 hg4 h4 hm4
                  go_wp2_with fail
                  refine (same_any A4 m4 c4 [] none 0 0 [] w4 H4.out (HC.out.below HB3.out)).mono ?_
                  rintro e1 w5 ⟨rfl, hb5⟩
                  have HR4 := Lib.hid (HR3.out.below hb5)
                  have HB4 := Lib.hid (below_step HB3.out hb5)
                  have hdT : decide (([] : List Int) = []) = true := by simp
                  clear hb5
                  have hll := HLL.out
                  go_wp2_with fail
                  refine (left_any g _ _ _ HR4.out).mono ?_
                  rintro e1 w6 ⟨rfl, rfl⟩
                  rw [hll]
                  go_wp2_with fail
                  refine (err_any g _ _ _ HR4.out).mono ?_
                  rintro e1 w6 ⟨rfl, rfl⟩
                  go_wp2_with fail
                  go_roundw
                  case measure => simp [intOf]; omega
                  case rel => exact ⟨j + 1, _, _, _, _, _, by go_num, rfl, rfl, (show j + 1 ≤ n1 by omega), ⟨HB4.out, HR4.out, HC2.out, HT.out.wg, HT.out.lg, by first | exact HT.out.sm | (rw [List.length_drop]; have := HT.out.sm; omega)⟩⟩
          · have hjn : j = n1 := by omega
            subst hjn
            clear hlt
            go_wp2_with fail
            refine (err_nil _).mono ?_
            rintro e1 w5 ⟨rfl, rfl⟩
            go_wp2_with fail
            refine (left_nil _).mono ?_
            rintro e1 w5 ⟨rfl, rfl⟩
            go_wp2_with fail
            refine (u8_nil _).mono ?_
            rintro e1 w5 ⟨rfl, hb5⟩
            have HB5 := Lib.hid (below_step HT.out.below hb5)
            clear hb5
            go_wp2_with fail
            refine (u16_nil _).mono ?_
            rintro e1 w6 ⟨rfl, hb6⟩
            have HB6 := Lib.hid (below_step HB5.out hb6)
            clear hb6
            go_wp2_with fail
            refine (u32_nil _).mono ?_
            rintro e1 w7 ⟨rfl, hb7⟩
            have HB7 := Lib.hid (below_step HB6.out hb7)
            clear hb7
            go_wp2_with fail
            refine (u64_nil _).mono ?_
            rintro e1 w8 ⟨rfl, hb8⟩
            have HB8 := Lib.hid (below_step HB7.out hb8)
            clear hb8
            go_wp2_with fail
            refine (raw_nil _ _).mono ?_
            rintro e1 w9 ⟨rfl, hb9⟩
            have HB9 := Lib.hid (below_step HB8.out hb9)
            clear hb9
            go_wp2
            go_ret
            exact ⟨rfl, HB9.out⟩
end Go.Proofs.Ytemkeeoolffokaa
