/- Layer 11 (route): the document's DecodeBatch. -/
import Derived.Test.YtnpeedmicjeleaaDoorRouteReadsD
import Derived.Test.YtnpeedmicjeleaaDoorRouteReadsE
namespace Go.Proofs.YtnpeedmicjeleaaDoor
open Go.RowKit
set_option linter.unusedVariables false
set_option linter.unusedSimpArgs false
set_option maxRecDepth 4000
theorem built_upd5 (p : Pfx) (s : Int) (t : Bool) (f h : Int) (hl : p.l.length = 16) : Tryd.prog.built 75 [(0, .agg (pfxV p.v p.l p.b)), (1, .int .i64 s), (2, .bool t), (3, .int .i64 f), (4, .int .i64 h)] = some (updV ⟨p, s, t, f, h⟩) := by
  obtain ⟨a, b, c, d, e, f, g, h1, i, j, k, m, n, o, q, r, hh⟩ := len16 hl
  obtain ⟨v, l, x⟩ := p
  simp only at hh
  subst hh
  kernel_rfl
theorem run_build_upd5 (w : World) (p : Pfx) (s : Int) (t : Bool) (f h : Int) (hl : p.l.length = 16) : (Instr.build 75 #[(0, .agg (pfxV p.v p.l p.b)), (1, .int .i64 s), (2, .bool t), (3, .int .i64 f), (4, .int .i64 h)]).run Tryd.prog w = .ok (.agg (updV ⟨p, s, t, f, h⟩)) w := run_build w _ _ _ (built_upd5 p s t f h hl)
set_option maxRecDepth 100000 in
set_option maxHeartbeats 8000000 in
theorem refbatdec_any (A : Option Addr) (n c : Nat) (xs : List Int) (w : World) (hr : RB w A n c xs) (hn : n ≤ 100000) : Calls Tryd.prog 38 #[.slice A n c] w fun e w' => ∃ A' n' c', e = .returned (.tuple #[.agg (tabV A' n' c'), .int .i64 (batDE xs)]) ∧ OS updK w' w.heap.size A' n' c' (batDL xs) ∧ Below w.heap.size w w' := by
  have HLEN := Lib.hid hr.len
  have HZ := Lib.hid (blk_new w (.cells (tabV none 0 0) 27))
  have HBZ : Hid (Below w.heap.size w (w.alloc (.cells (tabV none 0 0) 27))) := below_alloc (Below.refl _ _) _
  have HR0 := Lib.hid hr
  have HBY := Lib.hid hr.range
  have hs0 : (w.alloc (.cells (tabV none 0 0) 27)).heap.size = w.heap.size + 1 := by simp
  have HD1 : Hid (TDS updK 27 w ((w.alloc (.cells (tabV none 0 0) 27)).alloc (.cells (tabV none 0 0) 27)) (w.heap.size + 1) none 0 0 []) :=
    ⟨blk_below HZ.out (below_alloc (Below.refl _ _) _), hs0 ▸ blk_new _ _, OS.nil _ _ _, below_alloc HBZ.out _⟩
  obtain ⟨gt, hgt⟩ : ∃ gt, w.heap.size + 1 = gt := ⟨_, rfl⟩
  have HNO : Hid (∀ e : Int, batDE xs = e → e ≠ 0 → batDE xs = e ∧ batDL xs = []) := Lib.hid (fun e h h0 => ⟨h, decIL_no (by show batDE xs ≠ 0; rw [h]; exact h0)⟩)
  by_cases hx0 : xs.length = 0
  · have hn0 : n = 0 := by rw [← HLEN.out]; exact hx0
    have HE := Lib.hid (HNO.out 7 (by unfold batDE decIE; rw [if_pos hx0]) (by decide))
    subst hn0
    clear hx0 hr
    go_enter Tryd.func38, Tryd.ntmps38
    go_wp2_with (first | ((with_reducible show wpList _ _ _ (Oper.mk _ (Op.build _ _) _ _ _ _ :: _) _ _); refine wpList_exw rfl (exec_build 27 #[] rfl #[] rfl ((run_build_bat_nil _))) ?_) | ((with_reducible show wpList _ _ _ (Oper.mk _ (Op.store _ _ _) _ _ _ _ :: _) _ _); refine wpList_store_blk HZ.out 27 0 (tabV none 0 0) (Nat.le_refl _) (info_bat _ _ _) (tab_one _ _ _) _ _ rfl rfl rfl rfl ?_; intro wc hg9 hs9 hb9; rw [splice_tab] at hb9; have Hc := Lib.hid (And.intro hg9 hb9); clear hg9 hs9 hb9))
    have hld := load_bat Hc.out.2
    refine bodyPost_ret (results_c2 rfl rfl hld) rfl ?_
    rw [HE.out.1, HE.out.2]
    exact ⟨_, _, _, rfl, OS.nil _ _ _, below_grown HBZ.out Hc.out.1 (by omega)⟩
  · have hn1 : 1 ≤ n := by rw [← HLEN.out]; omega
    obtain ⟨ad, rfl, hc00⟩ := hr.at_ 0 (by omega) (by omega)
    have HADL := Lib.hid (show ad.block < w.heap.size from World.block_lt_of_cell? _ _ hc00)
    clear hc00
    have hrx := HBY.out.getD 0
    obtain ⟨K, hK⟩ := Int.eq_ofNat_of_zero_le hrx.1
    have hK' : rd xs 0 = K := hK
    have hK1 : K < 256 := by have h1 : rd xs 0 < 256 := hrx.2; omega
    have HK := Lib.hid hK'
    have HX0 := Lib.hid hx0
    have HTR : Hid (decIR itU xs = decI itU K [] (xs.drop 1)) := Lib.hid (by unfold decIR; rw [hK']; rfl)
    have hlt1 : ¬ ((n : Int) < 1) := by omega
    clear hr hx0 hrx hK hK'
    go_enter Tryd.func38, Tryd.ntmps38
    go_wp2_with fail
    rw [hgt] at HD1
    go_loopw [5, 6] (fun y x wr => ∃ (k m : Nat) (A1 : Option Addr) (c1 : Nat) (acc : List Upd), x = .int .i64 k ∧ y = .int .i64 m ∧ Hid (k ≤ K ∧ m ≤ n ∧ TDS updK 27 w wr gt A1 k c1 acc ∧ decIR itU xs = decI itU (K - k) acc (xs.drop m) ∧ Oku acc)) (fun _ x _ => K - (intOf x).toNat)
    case atStart => exact ⟨0, 1, none, 0, [], rfl, rfl, Nat.zero_le _, hn1, HD1.out, HTR.out, fun r hr => by cases hr⟩
    case round =>
      obtain ⟨k, m, A1, c1, acc, rfl, rfl, HH⟩ := hrel
      have HD := Lib.hid HH.out.2.2.1
      have hmn := HH.out.2.1
      obtain ⟨ad', hade, hc0⟩ := (HR0.out.below HD.out.below).at_ 0 (by omega) (by omega)
      injection hade with hade
      subst hade
      rw [HK.out, show ad.add (0 : Int).toNat = ad by simp [Addr.add]] at hc0
      by_cases hlt : k < K
      · have hlt' : (k : Int) < K := by omega
        obtain ⟨ys, hys⟩ : ∃ ys, xs.drop m = ys := ⟨_, rfl⟩
        have HTE := Lib.hid HH.out.2.2.2.1
        have HOK := Lib.hid HH.out.2.2.2.2
        rw [hys] at HTE
        have HYS := Lib.hid hys
        have HYL : Hid (m + ys.length = n) := Lib.hid (by rw [← hys, List.length_drop, HLEN.out]; omega)
        obtain ⟨A2, hsl, hsr, -⟩ := cut_bytes (some ad) n c m (by omega) (by omega)
        rw [Int.toNat_natCast] at hsl hsr
        have HRB := Lib.hid (hsr wr _ (HR0.out.below HD.out.below))
        rw [hys] at HRB
        have HLT := Lib.hid hlt
        have HERR : Hid (∀ e : Int, (itU ys).1 = e → e ≠ 0 → batDE xs = e ∧ batDL xs = []) := Lib.hid (fun e h h0 => HNO.out e (decIE_of HX0.out (by rw [HTE.out]; exact decI_err (by omega) h h0) h0) h0)
        clear hys hsr HH hlt
        have hp16 : B16 (decP ys).l := decP_16 (HYS.out ▸ HBY.out.drop m)
        go_wp2_with fail
        refine (refdecode_any A2 (n - m) (c - m) ys wr HRB.out).mono ?_
        rintro e w4 ⟨rfl, hb4⟩
        have HD4 := Lib.hid (HD.out.step hb4)
        have HLT4 := Lib.hid (Nat.lt_of_lt_of_le (blk_lt HD.out.tab) hb4.size)
        have HAL := Lib.hid (fun ad e => Nat.lt_of_lt_of_le (HD.out.own.lt ad e) hb4.size)
        have HP4 := Lib.hid (blk_new w4 (.cells (pfxV 0 zero16 0) 49))
        obtain ⟨pp, hpp⟩ : ∃ pp, decP ys = pp := ⟨_, rfl⟩
        obtain ⟨ee, hee⟩ : ∃ ee, decPE ys = ee := ⟨_, rfl⟩
        obtain ⟨nn, hnn⟩ : ∃ nn, decPN ys = nn := ⟨_, rfl⟩
        rw [hpp] at hp16
        have hp16l := hp16.len
        rw [hpp, hee, hnn]
        have HPN := Lib.hid (And.intro hpp (And.intro hee hnn))
        clear hb4 HRB HD hpp hee hnn hsl hc0
        by_cases h7 : ee = 7
        · subst h7
          have HE := Lib.hid (HERR.out 7 (itU_7 HPN.out.2.1) (by decide))
          go_wp2_with (first | ((with_reducible show wpList _ _ _ (Oper.mk _ (Op.build _ _) _ _ _ _ :: _) _ _); refine wpList_exw rfl (exec_build 27 #[] rfl #[] rfl ((run_build_bat_nil _))) ?_) | ((with_reducible show wpList _ _ _ (Oper.mk _ (Op.store _ _ _) _ _ _ _ :: _) _ _); refine wpList_store_blk HP4.out 49 0 (pfxV (pp.v) (pp.l) (pp.b)) (store_pfx_fit hp16l rfl) (info_pfx hp16l) (pfx_one _ _ _) _ _ rfl rfl rfl rfl ?_; intro w5 hg9 hs9 hb9; rw [splice_pfx _ _ _ _ hp16l rfl] at hb9; have H5 := Lib.hid (And.intro hg9 hb9); have HD5 := Lib.hid (HD4.out.step (below_grown (below_alloc (Below.refl w4.heap.size w4) _) hg9 (Nat.le_refl _))); clear hg9 hs9 hb9) | ((with_reducible show wpList _ _ _ (Oper.mk _ (Op.store _ _ _) _ _ _ _ :: _) _ _); refine wpList_store_blk HD5.out.zero 27 0 (tabV none 0 0) (Nat.le_refl _) (info_bat _ _ _) (tab_one _ _ _) _ _ rfl rfl rfl rfl ?_; intro w6 hg9 hs9 hb9; rw [splice_tab] at hb9; have H6 := Lib.hid (And.intro hg9 hb9); clear hg9 hs9 hb9))
          have hld := load_bat H6.out.2
          refine bodyPost_ret (results_c2 rfl rfl hld) rfl ?_
          rw [HE.out.1, HE.out.2]
          exact ⟨_, _, _, rfl, OS.nil _ _ _, below_grown HD5.out.below H6.out.1 (by omega)⟩
        · by_cases hz : ee = 0
          · subst hz
            have hnz := dec_nat (HYS.out ▸ HBY.out.drop m) HPN.out.2.1
            rw [HPN.out.2.2] at hnz
            obtain ⟨q, hq, hql⟩ := hnz
            subst hq
            obtain ⟨a, ha⟩ : ∃ a, m + q = a := ⟨_, rfl⟩
            obtain ⟨r, hr⟩ : ∃ r, n = a + r := ⟨n - a, by have := HYL.out; omega⟩
            have hwq : IntKind.i64.wrap ((m : Int) + (q : Int)) = (a : Int) := by rw [IntWalk.i64_in _ (by omega)]; omega
            have hws : IntKind.i64.wrap ((n : Int) - (a : Int)) = (r : Int) := by rw [IntWalk.i64_in _ (by omega)]; omega
            have HAR := Lib.hid (And.intro ha (And.intro hr (show ys.length = q + r by have := HYL.out; omega)))
            clear hql h7
            have hdd : ∀ j, rd (ys.drop (q + j)) 0 = rd xs ((a + j : Nat) : Int) := fun j => by rw [← HYS.out, List.drop_drop, rd_drop2]; congr 2; omega
            have HCK : Hid (∀ j, j < r → ∀ w0, RB w0 (some ad) n c xs → w0.cell? (ad.add (a + j)) = some (.int .u8 (rd xs ((a + j : Nat) : Int)))) := Lib.hid (fun j hj w0 h0 => by
              obtain ⟨a1, x1, x2⟩ := h0.at_ ((a + j : Nat) : Int) (by omega) (by omega)
              injection x1 with x1
              subst x1
              exact x2)
            have HDD := Lib.hid hdd
            clear hdd
            by_cases h2 : r < 2
            · have h2b : ¬ ((2 : Int) ≤ (r : Int)) := by omega
              have h2c : (r : Int) < 4 := by omega
              have HE := Lib.hid (HERR.out 7 (itU_s1 HPN.out.2.1 HPN.out.2.2 (by have := HAR.out.2.2; omega)) (by decide))
              clear hr
              go_wp2_with (first | ((with_reducible show wpList _ _ _ (Oper.mk _ (Op.build _ _) _ _ _ _ :: _) _ _); refine wpList_exw rfl (exec_build 27 #[] rfl #[] rfl ((run_build_bat_nil _))) ?_) | ((with_reducible show wpList _ _ _ (Oper.mk _ (Op.store _ _ _) _ _ _ _ :: _) _ _); refine wpList_store_blk HP4.out 49 0 (pfxV (pp.v) (pp.l) (pp.b)) (store_pfx_fit hp16l rfl) (info_pfx hp16l) (pfx_one _ _ _) _ _ rfl rfl rfl rfl ?_; intro w5 hg9 hs9 hb9; rw [splice_pfx _ _ _ _ hp16l rfl] at hb9; have H5 := Lib.hid (And.intro hg9 hb9); have HD5 := Lib.hid (HD4.out.step (below_grown (below_alloc (Below.refl w4.heap.size w4) _) hg9 (Nat.le_refl _))); clear hg9 hs9 hb9) | ((with_reducible show wpList _ _ _ (Oper.mk _ (Op.store _ _ _) _ _ _ _ :: _) _ _); refine wpList_store_blk HD5.out.zero 27 0 (tabV none 0 0) (Nat.le_refl _) (info_bat _ _ _) (tab_one _ _ _) _ _ rfl rfl rfl rfl ?_; intro w6 hg9 hs9 hb9; rw [splice_tab] at hb9; have H6 := Lib.hid (And.intro hg9 hb9); clear hg9 hs9 hb9))
              have hld := load_bat H6.out.2
              refine bodyPost_ret (results_c2 rfl rfl hld) rfl ?_
              rw [HE.out.1, HE.out.2]
              exact ⟨_, _, _, rfl, OS.nil _ _ _, below_grown HD5.out.below H6.out.1 (by omega)⟩
            · have h2b : (2 : Int) ≤ (r : Int) := by omega
              have hwa1 : IntKind.i64.wrap ((a : Int) + 1) = (a : Int) + 1 := IntWalk.i64_in _ (by omega)
              have hl1 : ¬ (n : Int) ≤ (a : Int) + 1 := by omega
              have hk1 : (a : Int) + 1 < n := by omega
              have hj1 : (0 : Int) ≤ (a : Int) + 1 := by omega
              obtain ⟨v2, hv2⟩ : ∃ v, rd xs ((a + 1 : Nat) : Int) = v := ⟨_, rfl⟩
              have HC2 := Lib.hid (HCK.out 1 (by omega))
              have HG2 : Hid (rd ((ys.drop q).drop 1) 0 = v2) := Lib.hid (by rw [List.drop_drop, HDD.out 1, hv2])
              rw [hv2] at HC2
              have HV2 := Lib.hid hv2
              have hb2 : 0 ≤ v2 ∧ v2 < 256 := by rw [← hv2]; exact HBY.out.getD _
              clear hv2
              by_cases hgo : 1 < v2
              · have hgb : decide (1 < v2) = true := decide_eq_true hgo
                have HE := Lib.hid (HERR.out 210 (itU_gone HPN.out.2.1 HPN.out.2.2 (by have := HAR.out.2.2; omega) (by rw [HG2.out]; exact hgo)) (by decide))
                clear hr
                go_wp2_with (first | ((with_reducible show wpList _ _ _ (Oper.mk _ (Op.build _ _) _ _ _ _ :: _) _ _); refine wpList_exw rfl (exec_build 27 #[] rfl #[] rfl ((run_build_bat_nil _))) ?_) | ((with_reducible show wpList _ _ _ (Oper.mk _ (Op.load _ _) _ _ _ _ :: _) _ _); refine wpList_load_g (load_u8 (HC2.out _ (HR0.out.below HD5.out.below))) _ rfl rfl (by go_simp) ?_) | ((with_reducible show wpList _ _ _ (Oper.mk _ (Op.store _ _ _) _ _ _ _ :: _) _ _); refine wpList_store_blk HP4.out 49 0 (pfxV (pp.v) (pp.l) (pp.b)) (store_pfx_fit hp16l rfl) (info_pfx hp16l) (pfx_one _ _ _) _ _ rfl rfl rfl rfl ?_; intro w5 hg9 hs9 hb9; rw [splice_pfx _ _ _ _ hp16l rfl] at hb9; have H5 := Lib.hid (And.intro hg9 hb9); have HD5 := Lib.hid (HD4.out.step (below_grown (below_alloc (Below.refl w4.heap.size w4) _) hg9 (Nat.le_refl _))); clear hg9 hs9 hb9) | ((with_reducible show wpList _ _ _ (Oper.mk _ (Op.store _ _ _) _ _ _ _ :: _) _ _); refine wpList_store_blk HD5.out.zero 27 0 (tabV none 0 0) (Nat.le_refl _) (info_bat _ _ _) (tab_one _ _ _) _ _ rfl rfl rfl rfl ?_; intro w6 hg9 hs9 hb9; rw [splice_tab] at hb9; have H6 := Lib.hid (And.intro hg9 hb9); clear hg9 hs9 hb9))
                have hld := load_bat H6.out.2
                refine bodyPost_ret (results_c2 rfl rfl hld) rfl ?_
                rw [HE.out.1, HE.out.2]
                exact ⟨_, _, _, rfl, OS.nil _ _ _, below_grown HD5.out.below H6.out.1 (by omega)⟩
              · have hgb : decide (1 < v2) = false := decide_eq_false hgo
                by_cases h3 : r < 4
                · have h3b : (r : Int) < 4 := by omega
                  have HE := Lib.hid (HERR.out 7 (itU_s2 HPN.out.2.1 HPN.out.2.2 (by have := HAR.out.2.2; omega) (by rw [HG2.out]; exact hgo)) (by decide))
                  clear hr
                  go_wp2_with (first | ((with_reducible show wpList _ _ _ (Oper.mk _ (Op.build _ _) _ _ _ _ :: _) _ _); refine wpList_exw rfl (exec_build 27 #[] rfl #[] rfl ((run_build_bat_nil _))) ?_) | ((with_reducible show wpList _ _ _ (Oper.mk _ (Op.load _ _) _ _ _ _ :: _) _ _); refine wpList_load_g (load_u8 (HC2.out _ (HR0.out.below HD5.out.below))) _ rfl rfl (by go_simp) ?_) | ((with_reducible show wpList _ _ _ (Oper.mk _ (Op.store _ _ _) _ _ _ _ :: _) _ _); refine wpList_store_blk HP4.out 49 0 (pfxV (pp.v) (pp.l) (pp.b)) (store_pfx_fit hp16l rfl) (info_pfx hp16l) (pfx_one _ _ _) _ _ rfl rfl rfl rfl ?_; intro w5 hg9 hs9 hb9; rw [splice_pfx _ _ _ _ hp16l rfl] at hb9; have H5 := Lib.hid (And.intro hg9 hb9); have HD5 := Lib.hid (HD4.out.step (below_grown (below_alloc (Below.refl w4.heap.size w4) _) hg9 (Nat.le_refl _))); clear hg9 hs9 hb9) | ((with_reducible show wpList _ _ _ (Oper.mk _ (Op.store _ _ _) _ _ _ _ :: _) _ _); refine wpList_store_blk HD5.out.zero 27 0 (tabV none 0 0) (Nat.le_refl _) (info_bat _ _ _) (tab_one _ _ _) _ _ rfl rfl rfl rfl ?_; intro w6 hg9 hs9 hb9; rw [splice_tab] at hb9; have H6 := Lib.hid (And.intro hg9 hb9); clear hg9 hs9 hb9))
                  have hld := load_bat H6.out.2
                  refine bodyPost_ret (results_c2 rfl rfl hld) rfl ?_
                  rw [HE.out.1, HE.out.2]
                  exact ⟨_, _, _, rfl, OS.nil _ _ _, below_grown HD5.out.below H6.out.1 (by omega)⟩
                · have h3b : ¬ ((r : Int) < 4) := by omega
                  have HIT := Lib.hid (itU_ok HPN.out.2.1 HPN.out.2.2 (show q + 4 ≤ ys.length by have := HAR.out.2.2; omega) (by rw [HG2.out]; exact hgo))
                  have e1 := HDD.out 0
                  have e3 := HDD.out 2
                  have e4 := HDD.out 3
                  rw [HG2.out, List.drop_drop, List.drop_drop, List.drop_drop] at HIT
                  rw [show q + 0 = q from rfl] at e1
                  rw [e1, show q + 1 + 1 = q + 2 from rfl, e3, show q + 1 + 1 + 1 = q + 3 from rfl, e4, HPN.out.1] at HIT
                  obtain ⟨v1, hv1⟩ : ∃ v, rd xs ((a + 0 : Nat) : Int) = v := ⟨_, rfl⟩
                  obtain ⟨v3, hv3⟩ : ∃ v, rd xs ((a + 2 : Nat) : Int) = v := ⟨_, rfl⟩
                  obtain ⟨v4, hv4⟩ : ∃ v, rd xs ((a + 3 : Nat) : Int) = v := ⟨_, rfl⟩
                  obtain ⟨G, hG⟩ : ∃ G, (v2 == 1) = G := ⟨_, rfl⟩
                  have HGG := Lib.hid hG
                  rw [hv1, hv3, hv4, hG] at HIT
                  have hb1 : 0 ≤ v1 ∧ v1 < 256 := by rw [← hv1]; exact HBY.out.getD _
                  have hb3 : 0 ≤ v3 ∧ v3 < 256 := by rw [← hv3]; exact HBY.out.getD _
                  have hb4 : 0 ≤ v4 ∧ v4 < 256 := by rw [← hv4]; exact HBY.out.getD _
                  have hw1 : IntKind.i64.wrap v1 = v1 := IntWalk.i64_in _ (by omega)
                  have hw3 : IntKind.i64.wrap v3 = v3 := IntWalk.i64_in _ (by omega)
                  have hw4 : IntKind.i64.wrap v4 = v4 := IntWalk.i64_in _ (by omega)
                  have HCL : Hid (∀ w0, RB w0 (some ad) n c xs → w0.cell? (ad.add a) = some (.int .u8 v1) ∧ w0.cell? (ad.add (a + 1)) = some (.int .u8 v2) ∧ w0.cell? (ad.add (a + 2)) = some (.int .u8 v3) ∧ w0.cell? (ad.add (a + 3)) = some (.int .u8 v4)) := Lib.hid (fun w0 h0 =>
                    ⟨by have := HCK.out 0 (by omega) w0 h0; rw [hv1] at this; exact this, HC2.out w0 h0, by have := HCK.out 2 (by omega) w0 h0; rw [hv3] at this; exact this, by have := HCK.out 3 (by omega) w0 h0; rw [hv4] at this; exact this⟩)
                  have hwa2 : IntKind.i64.wrap ((a : Int) + 2) = (a : Int) + 2 := IntWalk.i64_in _ (by omega)
                  have hwa3 : IntKind.i64.wrap ((a : Int) + 3) = (a : Int) + 3 := IntWalk.i64_in _ (by omega)
                  have hwa4 : IntKind.i64.wrap ((a : Int) + 4) = ((a + 4 : Nat) : Int) := by rw [IntWalk.i64_in _ (by omega)]; omega
                  have hl0 : ¬ (n : Int) ≤ (a : Int) := by omega
                  have hl2 : ¬ (n : Int) ≤ (a : Int) + 2 := by omega
                  have hl3 : ¬ (n : Int) ≤ (a : Int) + 3 := by omega
                  have hk0 : (a : Int) < n := by omega
                  have hk2 : (a : Int) + 2 < n := by omega
                  have hk3 : (a : Int) + 3 < n := by omega
                  have hj2 : (0 : Int) ≤ (a : Int) + 2 := by omega
                  have hj3 : (0 : Int) ≤ (a : Int) + 3 := by omega
                  clear hr e1 e3 e4 hv1 hv3 hv4 h3 hgo
                  go_upto_region 18 with (first | ((with_reducible show wpList _ _ _ (Oper.mk _ (Op.load _ _) _ _ _ _ :: _) _ _); refine wpList_load_g (load_u8 (HC2.out _ (HR0.out.below HD5.out.below))) _ rfl rfl (by go_simp) ?_) | ((with_reducible show wpList _ _ _ (Oper.mk _ (Op.store _ _ _) _ _ _ _ :: _) _ _); refine wpList_store_blk HP4.out 49 0 (pfxV (pp.v) (pp.l) (pp.b)) (store_pfx_fit hp16l rfl) (info_pfx hp16l) (pfx_one _ _ _) _ _ rfl rfl rfl rfl ?_; intro w5 hg9 hs9 hb9; rw [splice_pfx _ _ _ _ hp16l rfl] at hb9; have H5 := Lib.hid (And.intro hg9 hb9); have HD5 := Lib.hid (HD4.out.step (below_grown (below_alloc (Below.refl w4.heap.size w4) _) hg9 (Nat.le_refl _))); clear hg9 hs9 hb9))
                  try dsimp only [Act.put]
                  have hgp := HLT4.out
                  have HRX := Lib.hid (HR0.out.below HD5.out.below)
                  obtain ⟨gp, hgpe⟩ : ∃ gp, w4.heap.size = gp := ⟨_, rfl⟩
                  rw [hgpe] at hgp H5 HAL ⊢
                  have HP5 := Lib.hid H5.out.2
                  clear HP4 HD4 H5
                  refine wp_region_mix ((fun w0 => w0.heap[gt]? = some (.cells (tabV A1 k c1) 27 (0, 0)) ∧ w0.heap[gp]? = some (.cells (pfxV pp.v pp.l pp.b) 49 (0, 0)) ∧ RB w0 (some ad) n c xs)) [(0, 0), (1, 0), (2, 0), (3, 0), (4, 0), (5, 0), (6, 0), (7, 0), (8, 0), (9, 0), (10, 0), (11, 0), (12, 0), (13, 0), (14, 0), (15, 0), (16, 0), (17, 0), (18, 0), (19, 0), (20, 0), (21, 0), (22, 0), (23, 0), (24, 0), (25, 0), (26, 0), (27, 2), (28, 2), (29, 0), (30, 3)] (by kernel_rfl) (by kernel_rfl) (⟨HD5.out.tab, HP5.out, HRX.out.below (below_drew1 _)⟩) ?_
                  simp only [List.map_cons, List.map_nil]
                  iterate 1 (refine wpO_step0 rfl rfl (fun K hK => ?_); go_simp; refine hK _ _ ?_; clear hK K)
                  refine wpO_loadW (t := 25) (ad := ⟨gt, 0, none⟩) rfl rfl ?hw rfl rfl ((fun w0 hS => ((bat_at hS.1).all _ (Below.refl _ _)).2)) ?_
                  case hw => go_simp
                  refine wpO_loadW (t := 49) (ad := ⟨gp, 0, none⟩) rfl rfl ?hw rfl rfl ((fun w0 hS => load_pfx hp16 hS.2.1)) ?_
                  case hw => go_simp
                  iterate 3 (refine wpO_step0 rfl rfl (fun K hK => ?_); go_simp; refine hK _ _ ?_; clear hK K)
                  refine wpO_loadW (t := 5) (ad := (ad.add a)) rfl rfl ?hw rfl rfl ((fun w0 hS => load_u8 (HCL.out w0 hS.2.2).1)) ?_
                  case hw => go_simp
                  iterate 5 (refine wpO_step0 rfl rfl (fun K hK => ?_); go_simp; refine hK _ _ ?_; clear hK K)
                  refine wpO_loadW (t := 5) (ad := (ad.add (a + 1))) rfl rfl ?hw rfl rfl ((fun w0 hS => load_u8 (HCL.out w0 hS.2.2).2.1)) ?_
                  case hw => go_simp
                  iterate 5 (refine wpO_step0 rfl rfl (fun K hK => ?_); go_simp; refine hK _ _ ?_; clear hK K)
                  refine wpO_loadW (t := 5) (ad := (ad.add (a + 2))) rfl rfl ?hw rfl rfl ((fun w0 hS => load_u8 (HCL.out w0 hS.2.2).2.2.1)) ?_
                  case hw => go_simp
                  iterate 5 (refine wpO_step0 rfl rfl (fun K hK => ?_); go_simp; refine hK _ _ ?_; clear hK K)
                  refine wpO_loadW (t := 5) (ad := (ad.add (a + 3))) rfl rfl ?hw rfl rfl ((fun w0 hS => load_u8 (HCL.out w0 hS.2.2).2.2.2)) ?_
                  case hw => go_simp
                  iterate 1 (refine wpO_step0 rfl rfl (fun K hK => ?_); go_simp; refine hK _ _ ?_; clear hK K)
                  refine wpO_step0 rfl rfl (fun K hK => ?_)
                  rw [if_pos (show Region.wanted _ _ = true from rfl)]
                  refine ⟨_, fun w0 => exec_build5 rfl rfl rfl rfl rfl rfl (run_build_upd5 w0 pp v1 G v3 v4 hp16l), hK _ _ ?_⟩
                  clear hK K
                  have HFIT : Hid ((⟨pp, v1, G, v3, v4⟩ : Upd).fits) := Lib.hid hp16
                  refine wpO_step2 rfl rfl (⟨HD5.out.tab, HP5.out, HRX.out.below (below_drew1 _)⟩) (fun K hK => ?_)
                  rw [if_pos (show Region.wanted _ _ = true from rfl)]
                  refine oper_exec (exec_lit1 updK (x := .tmp 85) rfl ⟨pp, v1, G, v3, v4⟩ rfl HFIT.out (by show 22 ≤ _; omega) _) ?_
                  have HD8 := Lib.hid (HD5.out.step (below_drew1 w5))
                  have HB8 := Lib.hid (below_alloc (Below.refl w5.drew.heap.size w5.drew) (.cells (updK.enc ⟨pp, v1, G, v3, v4⟩).toArray updK.t))
                  have HD8 := Lib.hid (HD8.out.step HB8.out)
                  have HP8 := Lib.hid (blk_below (show w5.drew.heap[gp]? = _ from HP5.out) HB8.out)
                  have HR8 := Lib.hid ((HRX.out.below (below_drew1 w5)).below HB8.out)
                  have hgt5 := blk_lt HD5.out.tab
                  refine hK _ _ ⟨⟨HD8.out.tab, HP8.out, HR8.out⟩, ?_⟩
                  clear hK K
                  refine wpO_step2 rfl rfl (⟨HD8.out.tab, HP8.out, HR8.out⟩) (fun K hK => ?_)
                  rw [if_pos (show Region.wanted _ _ = true from rfl)]
                  refine oper_append_shp (S := updK) (.tmp 60) (.tmp 86) rfl rfl rfl HD8.out.own (OS.one updK w5.drew 0 ⟨pp, v1, G, v3, v4⟩ (Nat.zero_le _) HFIT.out).reads (by simp; omega) (by omega) ?_
                  intro A9 c9 w9 h1 h2 h3
                  have hA8 := HD8.out.own.base_
                  have hT9 := blk_own2 HD8.out.tab h2 (fun ad e => by have := hA8 ad e; omega)
                  have hR9 := HR8.out.grown h2 (fun ad0 e hh => by
                    injection e with e
                    subst e
                    obtain ⟨ad2, x1, x2⟩ := own_of hh.symm
                    have := hA8 ad2 x1
                    have := HADL.out
                    omega)
                  have HT9 := Lib.hid hT9
                  have H9 := Lib.hid (And.intro h1 (And.intro h2 hR9))
                  clear h1 h2 h3 hT9 hR9
                  refine hK _ _ ⟨⟨HT9.out, blk_own2 HP8.out H9.out.2.1 (fun ad e => by have := HAL.out ad e; omega), H9.out.2.2⟩, ?_⟩
                  clear hK K
                  iterate 1 (refine wpO_step0 rfl rfl (fun K hK => ?_); go_simp; refine hK _ _ ?_; clear hK K)
                  refine wpO_step3 rfl rfl (fun K hK => ?_)
                  rw [if_pos (show Region.wanted _ _ = true from rfl)]
                  refine oper_store_cell HT9.out 25 0 (.slice A9 (k + 1) c9) (Nat.le_refl _) (by kernel_rfl) rfl rfl _ _ rfl rfl rfl ?_
                  intro wa hga hsa hta
                  have HDa := Lib.hid (HD8.out.push H9.out.2.1 hga H9.out.1 hta (by omega))
                  clear hga hsa hta H9 HT9 HD8 HP8 HR8 HB8 HD5 HP5 HRX hA8
                  refine hK _ _ ?_
                  clear hK K
                  refine wpO_nil ?_
                  have hwf : ∀ v : Int, 0 ≤ v ∧ v < 256 → (Lit.int .i64 v).wf = true := fun v h => wf_small (by show 0 ≤ v ∧ v ≤ 1000; omega)
                  have HOK2 : Hid (Oku (acc ++ [⟨pp, v1, G, v3, v4⟩])) := Lib.hid (fun x hx => by
                    rcases List.mem_append.1 hx with h1 | h1
                    · exact HOK.out x h1
                    · rw [List.mem_singleton] at h1
                      rw [h1]
                      exact ⟨HPN.out.1 ▸ decP_okk (HYS.out ▸ HBY.out.drop m) HPN.out.2.1, hwf _ hb1, hwf _ hb3, hwf _ hb4⟩)
                  have HST := Lib.hid (decI_step HLT.out HIT.out (acc := acc))
                  have HDR : Hid (ys.drop (q + 4) = xs.drop (a + 4)) := Lib.hid (by rw [← HYS.out, List.drop_drop]; congr 1; have := HAR.out.1; omega)
                  clear hwf
                  go_wp2
                  go_roundw
                  case measure => simp [intOf]; have := HLT.out; omega
                  case rel => exact ⟨k + 1, a + 4, A9, c9, acc ++ [⟨pp, v1, G, v3, v4⟩], by go_num, by go_num, HLT.out, by have := HAR.out.2; omega, HDa.out, by rw [HTE.out, HST.out, HDR.out], HOK2.out⟩
          · have HE := Lib.hid (HERR.out 210 (itU_bad (by rw [HPN.out.2.1]; exact h7) (by rw [HPN.out.2.1]; exact hz)) (by decide))
            have h7b : (ee == 7) = false := by simpa using h7
            have hzc : (ee == 0) = false := by simpa using hz
            have hzb : (ee != 0) = true := by simpa using hz
            clear h7 hz
            go_wp2_with (first | ((with_reducible show wpList _ _ _ (Oper.mk _ (Op.build _ _) _ _ _ _ :: _) _ _); refine wpList_exw rfl (exec_build 27 #[] rfl #[] rfl ((run_build_bat_nil _))) ?_) | ((with_reducible show wpList _ _ _ (Oper.mk _ (Op.store _ _ _) _ _ _ _ :: _) _ _); refine wpList_store_blk HP4.out 49 0 (pfxV (pp.v) (pp.l) (pp.b)) (store_pfx_fit hp16l rfl) (info_pfx hp16l) (pfx_one _ _ _) _ _ rfl rfl rfl rfl ?_; intro w5 hg9 hs9 hb9; rw [splice_pfx _ _ _ _ hp16l rfl] at hb9; have H5 := Lib.hid (And.intro hg9 hb9); have HD5 := Lib.hid (HD4.out.step (below_grown (below_alloc (Below.refl w4.heap.size w4) _) hg9 (Nat.le_refl _))); clear hg9 hs9 hb9) | ((with_reducible show wpList _ _ _ (Oper.mk _ (Op.store _ _ _) _ _ _ _ :: _) _ _); refine wpList_store_blk HD5.out.zero 27 0 (tabV none 0 0) (Nat.le_refl _) (info_bat _ _ _) (tab_one _ _ _) _ _ rfl rfl rfl rfl ?_; intro w6 hg9 hs9 hb9; rw [splice_tab] at hb9; have H6 := Lib.hid (And.intro hg9 hb9); clear hg9 hs9 hb9))
            have hld := load_bat H6.out.2
            refine bodyPost_ret (results_c2 rfl rfl hld) rfl ?_
            rw [HE.out.1, HE.out.2]
            exact ⟨_, _, _, rfl, OS.nil _ _ _, below_grown HD5.out.below H6.out.1 (by omega)⟩
      · obtain rfl : k = K := by have := HH.out.1; omega
        have HTE := Lib.hid HH.out.2.2.2.1
        have HOK := Lib.hid HH.out.2.2.2.2
        rw [Nat.sub_self, decI] at HTE
        have HTT : Hid (batDE xs = if (xs.drop m).length = 0 ∧ batB acc = true then 0 else 210) := Lib.hid (decIE_end HX0.out HTE.out)
        have HAC : Hid (batDE xs = 0 → batDL xs = acc) := Lib.hid (fun h => decIL_end HTE.out h)
        have HLL := Lib.hid (show (xs.drop m).length = n - m by rw [List.length_drop, HLEN.out])
        have hlt' : decide (k < k) = false := decide_eq_false hlt
        clear HH hlt
        by_cases hl0 : m = n
        · subst hl0
          have hlt := ((bat_at HD.out.tab).all wr (Below.refl _ _)).1
          go_wp2_with (first | ((with_reducible show wpList _ _ _ (Oper.mk _ (Op.load _ _) _ _ _ _ :: _) _ _); refine wpList_load_g hlt _ rfl rfl (by go_simp) ?_))
          refine (refbatch_any A1 k c1 acc wr HD.out.own.reads HOK.out (by omega)).mono ?_
          rintro e w8 ⟨rfl, hb8⟩
          have HD8 := Lib.hid (HD.out.step hb8)
          clear hlt hb8
          cases hR : batB acc with
          | true =>
            have hE0 : batDE xs = 0 := by rw [HTT.out, if_pos ⟨by rw [HLL.out]; omega, hR⟩]
            have HE := Lib.hid (And.intro hE0 (HAC.out hE0))
            have hlt := ((bat_at HD8.out.tab).all w8 (Below.refl _ _)).1
            clear hE0 hR
            go_wp2_with (first | ((with_reducible show wpList _ _ _ (Oper.mk _ (Op.load _ _) _ _ _ _ :: _) _ _); refine wpList_load_g hlt _ rfl rfl (by go_simp) ?_) | ((with_reducible show wpList _ _ _ (Oper.mk _ (Op.store _ _ _) _ _ _ _ :: _) _ _); refine wpList_store_blk HD8.out.zero 27 0 (tabV A1 k c1) (Nat.le_refl _) (info_bat _ _ _) (tab_one _ _ _) _ _ rfl rfl rfl rfl ?_; intro wc hg9 hs9 hb9; rw [splice_tab] at hb9; have Hc := Lib.hid (And.intro hg9 hb9); clear hg9 hs9 hb9))
            have hld := load_bat Hc.out.2
            refine bodyPost_ret (results_c2 rfl rfl hld) rfl ?_
            rw [HE.out.1, HE.out.2]
            exact ⟨_, _, _, rfl, (HD8.out.own.grown Hc.out.1 (fun ad e hh => by have := HD8.out.own.base_ ad e; injection hh with hh; omega)).lower (by omega), below_grown HD8.out.below Hc.out.1 (by omega)⟩
          | false =>
            have HE := Lib.hid (HNO.out 210 (by rw [HTT.out, if_neg (fun h => by rw [hR] at h; cases h.2)]) (by decide))
            clear hR
            go_wp2_with (first | ((with_reducible show wpList _ _ _ (Oper.mk _ (Op.build _ _) _ _ _ _ :: _) _ _); refine wpList_exw rfl (exec_build 27 #[] rfl #[] rfl ((run_build_bat_nil _))) ?_) | ((with_reducible show wpList _ _ _ (Oper.mk _ (Op.store _ _ _) _ _ _ _ :: _) _ _); refine wpList_store_blk HD8.out.zero 27 0 (tabV none 0 0) (Nat.le_refl _) (info_bat _ _ _) (tab_one _ _ _) _ _ rfl rfl rfl rfl ?_; intro wc hg9 hs9 hb9; rw [splice_tab] at hb9; have Hc := Lib.hid (And.intro hg9 hb9); clear hg9 hs9 hb9))
            have hld := load_bat Hc.out.2
            refine bodyPost_ret (results_c2 rfl rfl hld) rfl ?_
            rw [HE.out.1, HE.out.2]
            exact ⟨_, _, _, rfl, OS.nil _ _ _, below_grown HD8.out.below Hc.out.1 (by omega)⟩
        · have HE := Lib.hid (HNO.out 210 (by rw [HTT.out, if_neg (fun h => hl0 (by have := h.1; rw [HLL.out] at this; omega))]) (by decide))
          have hl1 : ((m : Int) != (n : Int)) = true := by simp; omega
          have hl2 : ((m : Int) == (n : Int)) = false := by simp; omega
          go_wp2_with (first | ((with_reducible show wpList _ _ _ (Oper.mk _ (Op.build _ _) _ _ _ _ :: _) _ _); refine wpList_exw rfl (exec_build 27 #[] rfl #[] rfl ((run_build_bat_nil _))) ?_) | ((with_reducible show wpList _ _ _ (Oper.mk _ (Op.store _ _ _) _ _ _ _ :: _) _ _); refine wpList_store_blk HD.out.zero 27 0 (tabV none 0 0) (Nat.le_refl _) (info_bat _ _ _) (tab_one _ _ _) _ _ rfl rfl rfl rfl ?_; intro wc hg9 hs9 hb9; rw [splice_tab] at hb9; have Hc := Lib.hid (And.intro hg9 hb9); clear hg9 hs9 hb9))
          have hld := load_bat Hc.out.2
          refine bodyPost_ret (results_c2 rfl rfl hld) rfl ?_
          rw [HE.out.1, HE.out.2]
          exact ⟨_, _, _, rfl, OS.nil _ _ _, below_grown HD.out.below Hc.out.1 (by omega)⟩
end Go.Proofs.YtnpeedmicjeleaaDoor

/- Layer 11 (route): the document's Apply. -/
namespace Go.Proofs.YtnpeedmicjeleaaDoor
open Go.RowKit
set_option linter.unusedVariables false
set_option linter.unusedSimpArgs false
set_option maxRecDepth 4000
end Go.Proofs.YtnpeedmicjeleaaDoor

/- Layer 11 (route): the law RouteApplies. -/
namespace Go.Proofs.YtnpeedmicjeleaaDoor
open Go.RowKit
set_option linter.unusedVariables false
set_option linter.unusedSimpArgs false
set_option maxRecDepth 4000
theorem eqL_self {α : Type} {S : Shape α} (E : ShapeEq S) (l : List α) : E.eqL l l = true := (ShapeEq.eqL_iff E l l).2 rfl
end Go.Proofs.YtnpeedmicjeleaaDoor

/- Layer 11 (route): the law RouteReads. -/
namespace Go.Proofs.YtnpeedmicjeleaaDoor
open Go.RowKit
set_option linter.unusedVariables false
set_option linter.unusedSimpArgs false
set_option maxRecDepth 4000
theorem decIL_len {α : Type} (it : List Int → Int × α × Nat) (bad : Int) (ok : List α → Bool) {xs : List Int} (hx : Bytes xs) : (decIL it bad ok xs).length ≤ 255 := by
  unfold decIL
  split
  · have h1 := decI_len (it := it) (rd xs 0).toNat [] (xs.drop 1)
    have h2 : rd xs 0 < 256 := (hx.getD 0).2
    have h3 : (decIR it xs).2.1 = (decI it (rd xs 0).toNat [] (xs.drop 1)).2.1 := rfl
    rw [h3]
    simp only [List.length_nil] at h1
    omega
  · simp
set_option maxRecDepth 100000 in
set_option maxHeartbeats 8000000 in
theorem reads11_any (A : Option Addr) (n c : Nat) (xs : List Int) (w : World) (hL : Laid w) (hr : RB w A n c xs) : Calls Tryd.prog 8 #[.slice A n c] w fun e w' => e = .returned (.bool true) ∧ Below w.heap.size w w' := by
  have HR := Lib.hid hr
  have HL := Lib.hid hL
  have HBY := Lib.hid hr.range
  have HLR := Lib.hid (decIL_len itR 211 ribB hr.range)
  have HLU := Lib.hid (decIL_len itU 210 batB hr.range)
  have OKR := Lib.hid (ribDL_ok hr.range)
  have OKU := Lib.hid (batDL_ok hr.range)
  clear hr hL
  go_enter Tryd.func8, Tryd.ntmps8
  go_wp2_with fail
  refine (wakes11_any _ HL.out).mono ?_
  rintro e w1 ⟨rfl, hb1⟩
  have HB1 := Lib.hid hb1
  clear hb1
  by_cases hn : 5000 < n
  · have hn2 : (5000 : Int) < n := by omega
    have hn' : decide ((5000 : Int) < n) = true := decide_eq_true hn2
    go_wp2_with fail
    go_ret
    exact ⟨rfl, HB1.out⟩
  · have hn2 : ¬ (5000 : Int) < n := by omega
    have hn' : decide ((5000 : Int) < n) = false := decide_eq_false hn2
    have hn3 : n ≤ 5000 := by omega
    clear hn
    go_wp2_with (first | (at_builtin; refine wpList_append_bytes rfl (.tmp 17) (.tmp 18) rfl rfl rfl (OB.empty w1 w1.heap.size (Nat.le_refl _)) (((HR.out.below HB1.out)).below (below_alloc (Below.refl _ _) _)) (by simp) (by omega) ?_; intro A2 c2 w2 h1 h2 h3; rw [Nat.zero_add, List.nil_append] at h1; rw [Nat.zero_add]; have H2 := Lib.hid (And.intro h1 ((below_alloc (Below.refl w1.heap.size w1) (.cells #[] 5)).grown h2 (by simp) (own_row (fun ad e => by injection e with e; rw [← e]; exact Nat.le_refl _)))); clear h1 h2 h3))
    clear hn2 hn'
    have HB2 := Lib.hid (below_step HB1.out H2.out.2)
    refine (rdecode_any A2 n c2 xs w2 (HL.out.below HB2.out) H2.out.1.reads (by omega)).mono ?_
    rintro e w3 ⟨A3, n3, c3, rfl, hO3, hb3⟩
    have HO3 := Lib.hid hO3.reads
    have HN3 : Hid (n3 ≤ 255) := Lib.hid (by rw [← hO3.len]; exact HLR.out)
    have HB3 := Lib.hid (below_step HB2.out hb3)
    obtain ⟨E, hE⟩ : ∃ E, ribDE xs = E := ⟨_, rfl⟩
    rw [hE]
    have HE := Lib.hid hE
    clear hO3 hb3 hE H2 HB2
    go_wp2_with (first | ((with_reducible show wpList _ _ _ (Oper.mk _ (Op.store _ _ _) _ _ _ _ :: _) _ _); refine wpList_store_blk (blk_new w3 (.cells (tabV none 0 0) 24)) 24 0 (tabV A3 n3 c3) (Nat.le_refl _) (info_rib _ _ _) (tab_one _ _ _) _ _ rfl rfl rfl rfl ?_; intro w4 hg9 hs9 hb9; rw [splice_tab] at hb9; have H4 := Lib.hid (And.intro hg9 hb9); clear hg9 hs9 hb9))
    have hb34 : Below w3.heap.size w3 w4 := below_grown (below_alloc (Below.refl _ _) _) H4.out.1 (Nat.le_refl _)
    have HB4 := Lib.hid (below_step HB3.out hb34)
    have HG4 := Lib.hid H4.out.2
    have HR4 := Lib.hid (HO3.out.below hb34)
    obtain ⟨g3, hg3⟩ : ∃ g, w3.heap.size = g := ⟨_, rfl⟩
    rw [hg3] at HG4 ⊢
    clear H4 HO3 hb34 HB3 hg3
    refine (refribdec_any A n c xs w4 (HR.out.below HB4.out) (by omega)).mono ?_
    rw [HE.out]
    rintro e w5 ⟨A5, n5, c5, rfl, hO5, hb5⟩
    have HO5 := Lib.hid hO5.reads
    have HN5 : Hid (n5 ≤ 255) := Lib.hid (by rw [← hO5.len]; exact HLR.out)
    have HB5 := Lib.hid (below_step HB4.out hb5)
    have HG5 := Lib.hid (blk_below HG4.out hb5)
    have HR5 := Lib.hid (HR4.out.below hb5)
    clear hO5 hb5 HG4 HR4 HB4
    have HZf := Lib.hid (fun (W : World) (h : (w5.alloc (.cells (tabV none 0 0) 24)).grownBy W (some w5.heap.size)) => below_grown (below_alloc (Below.refl w5.heap.size w5) (.cells (tabV none 0 0) 24)) h (Nat.le_refl _))
    go_wp2_with (first | ((with_reducible show wpList _ _ _ (Oper.mk _ (Op.store _ _ _) _ _ _ _ :: _) _ _); refine wpList_store_blk (blk_new w5 (.cells (tabV none 0 0) 24)) 24 0 (tabV A5 n5 c5) (Nat.le_refl _) (info_rib _ _ _) (tab_one _ _ _) _ _ rfl rfl rfl rfl ?_; intro w6 hg9 hs9 hb9; rw [splice_tab] at hb9; have H6 := Lib.hid (And.intro hg9 hb9); clear hg9 hs9 hb9) | (at_builtin; refine wpList_append_bytes rfl (.tmp 29) (.tmp 30) rfl rfl rfl (OB.empty w6 w6.heap.size (Nat.le_refl _)) (((HR.out.below (below_step HB5.out (HZf.out _ H6.out.1)))).below (below_alloc (Below.refl _ _) _)) (by simp) (by omega) ?_; intro A7 c7 w7 h1 h2 h3; rw [Nat.zero_add, List.nil_append] at h1; rw [Nat.zero_add]; have H7 := Lib.hid (And.intro h1 ((below_alloc (Below.refl w6.heap.size w6) (.cells #[] 5)).grown h2 (by simp) (own_row (fun ad e => by injection e with e; rw [← e]; exact Nat.le_refl _)))); clear h1 h2 h3))
    have hb56 := HZf.out _ H6.out.1
    have HB6 := Lib.hid (below_step HB5.out hb56)
    have HB7 := Lib.hid (below_step HB6.out H7.out.2)
    have HG7 := Lib.hid (blk_below (blk_below HG5.out hb56) H7.out.2)
    have HK7 := Lib.hid (blk_below H6.out.2 H7.out.2)
    have HR7 := Lib.hid ((HR5.out.below hb56).below H7.out.2)
    have HS7 := Lib.hid ((HO5.out.below hb56).below H7.out.2)
    obtain ⟨g5, hg5⟩ : ∃ g, w5.heap.size = g := ⟨_, rfl⟩
    rw [hg5] at HK7 ⊢
    clear HZf H6 hb56 HB6 HG5 HR5 HO5 HB5 hg5
    refine (rdecodeb_any A7 n c7 xs w7 (HL.out.below HB7.out) H7.out.1.reads (by omega)).mono ?_
    rintro e w8 ⟨A8, n8, c8, rfl, hO8, hb8⟩
    have HO8 := Lib.hid hO8.reads
    have HN8 : Hid (n8 ≤ 255) := Lib.hid (by rw [← hO8.len]; exact HLU.out)
    have HB8 := Lib.hid (below_step HB7.out hb8)
    have HG8 := Lib.hid (blk_below HG7.out hb8)
    have HK8 := Lib.hid (blk_below HK7.out hb8)
    have HR8 := Lib.hid (HR7.out.below hb8)
    have HS8 := Lib.hid (HS7.out.below hb8)
    obtain ⟨F, hF⟩ : ∃ F, batDE xs = F := ⟨_, rfl⟩
    rw [hF]
    have HF := Lib.hid hF
    clear hO8 hb8 hF H7 HB7 HG7 HK7 HR7 HS7
    go_wp2_with (first | ((with_reducible show wpList _ _ _ (Oper.mk _ (Op.store _ _ _) _ _ _ _ :: _) _ _); refine wpList_store_blk (blk_new w8 (.cells (tabV none 0 0) 27)) 27 0 (tabV A8 n8 c8) (Nat.le_refl _) (info_bat _ _ _) (tab_one _ _ _) _ _ rfl rfl rfl rfl ?_; intro w9 hg9 hs9 hb9; rw [splice_tab] at hb9; have H9 := Lib.hid (And.intro hg9 hb9); clear hg9 hs9 hb9))
    have hb89 : Below w8.heap.size w8 w9 := below_grown (below_alloc (Below.refl _ _) _) H9.out.1 (Nat.le_refl _)
    have HB9 := Lib.hid (below_step HB8.out hb89)
    have HG9 := Lib.hid (blk_below HG8.out hb89)
    have HK9 := Lib.hid (blk_below HK8.out hb89)
    have HR9 := Lib.hid (HR8.out.below hb89)
    have HS9 := Lib.hid (HS8.out.below hb89)
    have HU9 := Lib.hid (HO8.out.below hb89)
    have HJ9 := Lib.hid H9.out.2
    obtain ⟨g8, hg8⟩ : ∃ g, w8.heap.size = g := ⟨_, rfl⟩
    rw [hg8] at HJ9 ⊢
    clear H9 hb89 HB8 HG8 HK8 HR8 HS8 HO8 hg8
    refine (refbatdec_any A n c xs w9 (HR.out.below HB9.out) (by omega)).mono ?_
    rw [HF.out]
    rintro e wa ⟨Aa, na, ca, rfl, hOa, hba⟩
    have HOa := Lib.hid hOa.reads
    have HNa : Hid (na ≤ 255) := Lib.hid (by rw [← hOa.len]; exact HLU.out)
    have HBa := Lib.hid (below_step HB9.out hba)
    have HGa := Lib.hid (blk_below HG9.out hba)
    have HKa := Lib.hid (blk_below HK9.out hba)
    have HJa := Lib.hid (blk_below HJ9.out hba)
    have HRa := Lib.hid (HR9.out.below hba)
    have HSa := Lib.hid (HS9.out.below hba)
    have HUa := Lib.hid (HU9.out.below hba)
    clear hOa hba HB9 HG9 HK9 HJ9 HR9 HS9 HU9
    have hee : (E == E) = true := by simp
    have hff : (F == F) = true := by simp
    have HZf := Lib.hid (fun (W : World) (h : (wa.alloc (.cells (tabV none 0 0) 27)).grownBy W (some wa.heap.size)) => below_grown (below_alloc (Below.refl wa.heap.size wa) (.cells (tabV none 0 0) 27)) h (Nat.le_refl _))
    go_wp2_with (first | ((with_reducible show wpList _ _ _ (Oper.mk _ (Op.store _ _ _) _ _ _ _ :: _) _ _); refine wpList_store_blk (blk_new wa (.cells (tabV none 0 0) 27)) 27 0 (tabV Aa na ca) (Nat.le_refl _) (info_bat _ _ _) (tab_one _ _ _) _ _ rfl rfl rfl rfl ?_; intro wb hg9 hs9 hb9; rw [splice_tab] at hb9; have Hb := Lib.hid (And.intro hg9 hb9); clear hg9 hs9 hb9) | ((with_reducible show wpList _ _ _ (Oper.mk _ (Op.load _ _) _ _ _ _ :: _) _ _); refine wpList_load_g (load_rib (blk_below HGa.out (HZf.out _ Hb.out.1))) _ rfl rfl (by go_simp) ?_) | ((with_reducible show wpList _ _ _ (Oper.mk _ (Op.load _ _) _ _ _ _ :: _) _ _); refine wpList_load_g (load_rib (blk_below HKa.out (HZf.out _ Hb.out.1))) _ rfl rfl (by go_simp) ?_))
    have hbab := HZf.out _ Hb.out.1
    have HBb := Lib.hid (below_step HBa.out hbab)
    have HJb := Lib.hid (blk_below HJa.out hbab)
    have HRb := Lib.hid (HRa.out.below hbab)
    have HSb := Lib.hid (HSa.out.below hbab)
    have HUb := Lib.hid (HUa.out.below hbab)
    have HVb := Lib.hid (HOa.out.below hbab)
    have HLb := Lib.hid Hb.out.2
    clear Hb hbab HZf HGa HKa HJa HRa HSa HUa HOa HBa hee hff
    refine (refsameQ_any A3 n3 c3 (ribDL xs) A5 n5 c5 (ribDL xs) wb HRb.out HSb.out OKR.out OKR.out (by have := HN3.out; omega) (by have := HN5.out; omega)).mono ?_
    rw [show rteE.eqL (ribDL xs) (ribDL xs) = true from eqL_self rteE _]
    rintro e wc ⟨rfl, hbc⟩
    have HBc := Lib.hid (below_step HBb.out hbc)
    have HJc := Lib.hid (blk_below HJb.out hbc)
    have HUc := Lib.hid (HUb.out.below hbc)
    have HVc := Lib.hid (HVb.out.below hbc)
    have HLc := Lib.hid (blk_below HLb.out hbc)
    clear hbc HJb HUb HVb HLb HRb HSb HBb
    go_wp2_with (first | ((with_reducible show wpList _ _ _ (Oper.mk _ (Op.load _ _) _ _ _ _ :: _) _ _); refine wpList_load_g (load_bat HJc.out) _ rfl rfl (by go_simp) ?_) | ((with_reducible show wpList _ _ _ (Oper.mk _ (Op.load _ _) _ _ _ _ :: _) _ _); refine wpList_load_g (load_bat HLc.out) _ rfl rfl (by go_simp) ?_))
    refine (refsameU_any A8 n8 c8 (batDL xs) Aa na ca (batDL xs) wc HUc.out HVc.out OKU.out OKU.out (by have := HN8.out; omega) (by have := HNa.out; omega)).mono ?_
    rw [show updE.eqL (batDL xs) (batDL xs) = true from eqL_self updE _]
    rintro e wd ⟨rfl, hbd⟩
    have HBd := Lib.hid (below_step HBc.out hbd)
    clear hbd
    go_wp2
    go_ret
    exact ⟨rfl, HBd.out⟩
end Go.Proofs.YtnpeedmicjeleaaDoor

/- The walk of RouteReads, as the row asks it. -/
namespace Go.Proofs.YtnpeedmicjeleaaDoor
open Go.RowKit
set_option linter.unusedVariables false
set_option linter.unusedSimpArgs false
set_option maxRecDepth 4000
theorem routeReads_walk (A : Option Addr) (n c : Nat) (xs : List Int) (w : World) (hL : Laid w) (hr : RN w .u8 A n c xs) (hm : n * 1 ≤ 140737488351232) : Calls Tryd.prog 8 #[.slice A n c] w fun e w' => e = .returned (.bool true) ∧ Below w.heap.size w w' := reads11_any A n c xs w hL hr.bytes
end Go.Proofs.YtnpeedmicjeleaaDoor
