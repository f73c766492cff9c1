/- Layer 11 (route): the law RouteBest. -/
import Derived.Maps.Own
import Derived.Test.YtnpeedmicjeleaaDoorRouteBestB
import Derived.Test.YtnpeedmicjeleaaDoorRouteBestC
namespace Go.Proofs.YtnpeedmicjeleaaDoor
open Go.RowKit
set_option linter.unusedVariables false
set_option linter.unusedSimpArgs false
set_option maxRecDepth 4000
set_option maxHeartbeats 8000000 in
set_option maxRecDepth 100000 in
theorem best11_any (A : Option Addr) (n c : Nat) (l : List Rte) (w : World) (hL : Laid w) (hr : RS rteK w A n c l) (ok : Okr l) :
    Calls Tryd.prog 4 #[.agg (tabV A n c)] w fun e w' => e = .returned (.bool true) ∧ Below w.heap.size w w' := by
  have hblk1 := blk_new w (.cells (tabV A n c) 24)
  have hbel1 : Below w.heap.size w (w.alloc (.cells (tabV A n c) 24)) := below_alloc (Below.refl _ _) _
  have HP1 := Lib.hid (rib_at hblk1)
  have HBK1 := Lib.hid hblk1
  have HBE := Lib.hid hbel1
  have HL := Lib.hid (hL.below HBE.out)
  obtain ⟨cs1, hcs1⟩ : ∃ cs, tabV A n c = cs := ⟨_, rfl⟩
  simp only [hcs1] at HBE HL HP1 HBK1 ⊢
  have HC1 := Lib.hid hcs1
  clear hL hcs1 hblk1 hbel1
  have HR := Lib.hid (hr.below HBE.out)
  have OK := Lib.hid ok
  have hmm := @run_makeMap Tryd.prog
  clear hr ok
  go_enter Tryd.func4, Tryd.ntmps4
  go_wp2_with fail
  refine (wakes11_any _ HL.out).mono ?_
  rintro e w1 ⟨rfl, hb1⟩
  have HB1 := Lib.hid hb1
  clear hb1
  by_cases hn : 300 < n
  · have hn2 : (300 : Int) < n := by omega
    have hn' : decide ((300 : Int) < n) = true := decide_eq_true hn2
    go_wp2_with (first | ((with_reducible show wpList _ _ _ (Oper.mk _ (Op.load _ _) _ _ _ _ :: _) _ _); refine wpList_load_g ((HP1.out.all _ HB1.out).2) _ rfl rfl (by go_simp) ?_))
    go_ret
    exact ⟨rfl, below_step HBE.out HB1.out⟩
  · have hn2 : ¬ (300 : Int) < n := by omega
    have hn' : decide ((300 : Int) < n) = false := decide_eq_false hn2
    have hn3 : n ≤ 300 := by omega
    clear hn
    go_wp2_with (first | ((with_reducible show wpList _ _ _ (Oper.mk _ (Op.load _ _) _ _ _ _ :: _) _ _); refine wpList_load_g ((HP1.out.all _ HB1.out).2) _ rfl rfl (by go_simp) ?_) | ((with_reducible show wpList _ _ _ (Oper.mk _ (Op.load _ _) _ _ _ _ :: _) _ _); refine wpList_load_g ((HP1.out.all _ HB1.out).1) _ rfl rfl (by go_simp) ?_))
    refine (rbest_any A n c l w1 (HL.out.below HB1.out) (HR.out.below HB1.out) OK.out (by omega)).mono ?_
    rintro e w2 ⟨A2, n2, c2, rfl, hO2, hb2⟩
    have HN2 := Lib.hid hO2.len
    have HO2 := Lib.hid hO2.reads
    have HB2 := Lib.hid (below_step HB1.out hb2)
    have HBAf := Lib.hid (fun (W : World) (h : (w2.alloc (.cells (tabV none 0 0) 39)).grownBy W (some w2.heap.size)) => below_grown (below_alloc (Below.refl w2.heap.size w2) (.cells (tabV none 0 0) 39)) h (Nat.le_refl _))
    clear hb2 hO2 hn2 hn'
    cases hrb : ribB l with
    | false =>
      have HE : Hid (ribE l = 211) := Lib.hid (by unfold ribE; rw [hrb]; rfl)
      rw [HE.out]
      clear hrb
      go_wp2_with (first | ((with_reducible show wpList _ _ _ (Oper.mk _ (Op.store _ _ _) _ _ _ _ :: _) _ _); refine wpList_store_blk (blk_new w2 (.cells (tabV none 0 0) 39)) 39 0 (tabV A2 n2 c2) (Nat.le_refl _) (info_tab _ _ _) (tab_one _ _ _) _ _ rfl rfl rfl rfl ?_; intro w3 hg9 hs9 hb9; rw [splice_tab] at hb9; have H3 := Lib.hid (And.intro hg9 hb9); clear hg9 hs9 hb9) | ((with_reducible show wpList _ _ _ (Oper.mk _ (Op.load _ _) _ _ _ _ :: _) _ _); refine wpList_load_g ((HP1.out.all _ (below_step HB2.out (HBAf.out _ H3.out.1))).1) _ rfl rfl (by go_simp) ?_))
      have HB3 := Lib.hid (below_step HB2.out (HBAf.out _ H3.out.1))
      refine (rcheck_any A n c l w3 (HL.out.below HB3.out) (HR.out.below HB3.out) OK.out (by omega)).mono ?_
      rintro e w4 ⟨rfl, hb4⟩
      rw [HE.out]
      have HB4 := Lib.hid (below_step HB3.out hb4)
      clear hb4
      go_wp2_with fail
      go_ret
      exact ⟨rfl, below_step HBE.out HB4.out⟩
    | true =>
      have HE : Hid (ribE l = 0) := Lib.hid (by unfold ribE; rw [hrb]; rfl)
      have HBR : Hid (bestR l = bestT l) := Lib.hid (by unfold bestR; rw [hrb]; rfl)
      have HRB := Lib.hid hrb
      have hT : tabB (bestT l) = true := by rw [← bk_all]; exact tabB_bk OK.out.fits HRB.out _
      have HT := Lib.hid hT
      have hn9 : n2 ≤ 40 := by
        rw [← HN2.out, HBR.out]
        exact (tabB_to HT.out).1
      rw [HE.out]
      clear hrb hT
      go_wp2_with (first | ((with_reducible show wpList _ _ _ (Oper.mk _ (Op.store _ _ _) _ _ _ _ :: _) _ _); refine wpList_store_blk (blk_new w2 (.cells (tabV none 0 0) 39)) 39 0 (tabV A2 n2 c2) (Nat.le_refl _) (info_tab _ _ _) (tab_one _ _ _) _ _ rfl rfl rfl rfl ?_; intro w3 hg9 hs9 hb9; rw [splice_tab] at hb9; have H3 := Lib.hid (And.intro hg9 hb9); clear hg9 hs9 hb9) | ((with_reducible show wpList _ _ _ (Oper.mk _ (Op.load _ _) _ _ _ _ :: _) _ _); refine wpList_load_g (load_tab H3.out.2) _ rfl rfl (by go_simp) ?_))
      have HB23 := Lib.hid (HBAf.out _ H3.out.1)
      have HB3 := Lib.hid (below_step HB2.out HB23.out)
      have HO3 := Lib.hid (HO2.out.below HB23.out)
      have HG3 := Lib.hid H3.out.2
      obtain ⟨g3, hg3⟩ : ∃ g, w2.heap.size = g := ⟨_, rfl⟩
      rw [hg3] at HG3 ⊢
      rw [HBR.out] at HO3 HN2
      clear HBAf H3 HB23 HB2 HO2 hg3
      refine (tcheck_any A2 n2 c2 (bestT l) w3 (HL.out.below HB3.out) HO3.out (by omega)).mono ?_
      rw [errT_true HT.out]
      rintro e w4 ⟨rfl, hb4⟩
      have HB4 := Lib.hid (below_step HB3.out hb4)
      have HG4 := Lib.hid (blk_below HG3.out hb4)
      have HO4 := Lib.hid (HO3.out.below hb4)
      clear hb4 HB3 HG3 HO3
      go_wp2_with (first | ((with_reducible show wpList _ _ _ (Oper.mk _ (Op.load _ _) _ _ _ _ :: _) _ _); refine wpList_load_g ((HP1.out.all _ (below_step HB4.out (below_alloc (Below.refl w4.heap.size w4) (.map #[] 0)))).2) _ rfl rfl (by go_simp) ?_))
      clear hmm
      go_loopw [36] (fun s36 wr => ∃ i : Nat, s36 = .int .i64 i ∧ Hid (i ≤ n ∧ MetP wr w4.heap.size ((l.take i).map (·.p)) ∧ Below w4.heap.size w4 wr)) (fun y _ => n - (intOf y).toNat)
      case atStart => exact ⟨0, rfl, Nat.zero_le _, MetP.zero w4, below_alloc (Below.refl _ _) _⟩
      case round =>
        obtain ⟨i, rfl, HI⟩ := hrel
        obtain ⟨wi, rfl⟩ : ∃ wi, wi = wr := ⟨wr, rfl⟩
        have HBI := Lib.hid (below_step HB4.out HI.out.2.2)
        by_cases hlt : i < n
        · have hlt' : (i : Int) < n := by omega
          obtain ⟨b, o, hA, hc⟩ := RS.at_ HR.out (by omega)
          have hil : i < l.length := by rw [HR.out.len]; exact hlt
          have HXO := Lib.hid (OK.out.at_ hil)
          have HCX : Hid (CellsAt wi b (o + i * 21) (rteC (rteAt l i))) := Lib.hid ((hc i hlt).below HBI.out)
          have HCA := Lib.hid hc
          have HGT := Lib.hid (best_get OK.out.fits HRB.out (show rteAt l i ∈ l from getD_mem hil))
          have HPS : Hid ((l.take (i + 1)).map (·.p) = (l.take i).map (·.p) ++ [(rteAt l i).p]) := Lib.hid (by rw [take_getD rteZ hil]; simp)
          obtain ⟨x, hx⟩ : ∃ x, rteAt l i = x := ⟨_, rfl⟩
          rw [hx] at HXO HCX HGT HPS
          have hla := (rteLd_of HXO.out.fits HCX.out).all
          have HB6f := Lib.hid (fun (W : World) (h : (wi.alloc (.cells (rteV rteZ) 51)).grownBy W (some wi.heap.size)) => below_grown (below_alloc (Below.refl wi.heap.size wi) (.cells (rteV rteZ) 51)) h (Nat.le_refl _))
          have HML : Hid (((l.take i).map (·.p)).length < maxLen) := Lib.hid (by simp; unfold maxLen; omega)
          subst hA
          clear hc hx hil
          go_wp2_with (first | ((with_reducible show wpList _ _ _ (Oper.mk _ (Op.load _ _) _ _ _ _ :: _) _ _); refine wpList_load_g hla _ rfl rfl (by go_simp) ?_) | ((with_reducible show wpList _ _ _ (Oper.mk _ (Op.store _ _ _) _ _ _ _ :: _) _ _); refine wpList_store_blk (blk_new wi _) 51 0 (rteV x) (store_rte_fit HXO.out.fits rfl) (info_rte HXO.out.fits) (rteV_one _) _ _ rfl rfl rfl rfl ?_; intro w6 hg9 hs9 hb9; rw [splice_rte HXO.out.fits rfl] at hb9; have H6 := Lib.hid (And.intro hg9 hb9); clear hg9 hs9 hb9) | ((with_reducible show wpList _ _ _ (Oper.mk _ (Op.load _ _) _ _ _ _ :: _) _ _); refine wpList_load_g (((rte_at HXO.out.fits H6.out.2).all _ (Below.refl _ _)).pfx) _ rfl rfl (by go_simp) ?_) | (at_mapUpdate; refine wpList_metP (HI.out.2.1.below (HB6f.out _ H6.out.1)) HML.out HXO.out.p _ _ _ rfl rfl rfl rfl rfl ?_; intro w7 hg7 hm7; have H7 := Lib.hid (And.intro hg7 hm7); clear hg7 hm7) | ((with_reducible show wpList _ _ _ (Oper.mk _ (Op.load _ _) _ _ _ _ :: _) _ _); refine wpList_load_g (load_tab (blk_grown (blk_below HG4.out (below_step HI.out.2.2 (HB6f.out _ H6.out.1))) H7.out.1 (fun e => by injection e with e; have := blk_lt HG4.out; omega))) _ rfl rfl (by go_simp) ?_) | ((with_reducible show wpList _ _ _ (Oper.mk _ (Op.load _ _) _ _ _ _ :: _) _ _); refine wpList_load_g (((rte_at HXO.out.fits (blk_grown H6.out.2 H7.out.1 (fun e => by injection e with e; have := HI.out.2.1.lt; omega))).all _ (Below.refl _ _)).pfx) _ rfl rfl (by go_simp) ?_))
          have HB7 := Lib.hid (below_grown (below_step HI.out.2.2 (HB6f.out _ H6.out.1)) H7.out.1 (Nat.le_refl _))
          have HX7 := Lib.hid (blk_grown H6.out.2 H7.out.1 (fun e => by injection e with e; have := HI.out.2.1.lt; omega))
          have HM7 := Lib.hid H7.out.2
          rw [← HPS.out] at HM7
          obtain ⟨gx, hgx⟩ : ∃ g, wi.heap.size = g := ⟨_, rfl⟩
          rw [hgx] at HX7 ⊢
          clear HB6f H6 H7 hla hgx HCX
          refine (tget_any A2 n2 c2 (bestT l) x.p w7 (HL.out.below (below_step HB4.out HB7.out)) (HO4.out.below HB7.out) HXO.out.p.l (by omega)).mono ?_
          rw [HGT.out.1]
          obtain ⟨h, hh⟩ : ∃ h, tgetN (bestT l) x.p = h := ⟨_, rfl⟩
          have HJ := Lib.hid HGT.out.2
          rw [hh] at HJ ⊢
          rintro e w8 ⟨rfl, hb8⟩
          have HB8 := Lib.hid (below_step HB7.out hb8)
          have HX8 := Lib.hid (blk_below HX7.out hb8)
          have HM8 := Lib.hid (HM7.out.below hb8)
          clear hb8 HB7 HX7 HM7 HGT hh HI HBI
          go_wp2_with (first | ((with_reducible show wpList _ _ _ (Oper.mk _ (Op.load _ _) _ _ _ _ :: _) _ _); refine wpList_load_g ((HP1.out.all _ (below_step HB4.out HB8.out)).2) _ rfl rfl (by go_simp) ?_))
          go_loopw [10, 55] (fun s10 s55 wr => ∃ k : Nat, s10 = .bool (okJ l x h k) ∧ s55 = .int .i64 k ∧ Hid (k ≤ n ∧ Below w8.heap.size w8 wr)) (fun _ y _ => n - (intOf y).toNat)
          case atStart => exact ⟨0, by rw [okJ_zero], rfl, Nat.zero_le _, Below.refl _ _⟩
          case round =>
            obtain ⟨k, rfl, rfl, HK⟩ := hrel
            obtain ⟨wk, rfl⟩ : ∃ wk, wk = wr := ⟨wr, rfl⟩
            by_cases hkt : k < n
            · have hkt' : (k : Int) < n := by omega
              have hkl : k < l.length := by rw [HR.out.len]; exact hkt
              have HYO := Lib.hid (OK.out.at_ hkl)
              have HCY : Hid (CellsAt wk b (o + k * 21) (rteC (rteAt l k))) := Lib.hid ((HCA.out k hkt).below (below_step HB4.out (below_step HB8.out HK.out.2)))
              have HSJ := Lib.hid (okJ_succ hkl x h)
              obtain ⟨y, hy⟩ : ∃ y, rteAt l k = y := ⟨_, rfl⟩
              rw [hy] at HYO HCY HSJ
              have hlb := (rteLd_of HYO.out.fits HCY.out).all
              have HB9f := Lib.hid (fun (W : World) (h : (wk.alloc (.cells (rteV rteZ) 51)).grownBy W (some wk.heap.size)) => below_grown (below_alloc (Below.refl wk.heap.size wk) (.cells (rteV rteZ) 51)) h (Nat.le_refl _))
              clear hy hkl
              go_upto_region 22 with (first | ((with_reducible show wpList _ _ _ (Oper.mk _ (Op.load _ _) _ _ _ _ :: _) _ _); refine wpList_load_g hlb _ rfl rfl (by go_simp) ?_) | ((with_reducible show wpList _ _ _ (Oper.mk _ (Op.store _ _ _) _ _ _ _ :: _) _ _); refine wpList_store_blk (blk_new wk _) 51 0 (rteV y) (store_rte_fit HYO.out.fits rfl) (info_rte HYO.out.fits) (rteV_one _) _ _ rfl rfl rfl rfl ?_; intro w9 hg9 hs9 hb9; rw [splice_rte HYO.out.fits rfl] at hb9; have H9 := Lib.hid (And.intro hg9 hb9); clear hg9 hs9 hb9))
              try dsimp only [Act.put]
              have HBY := Lib.hid (HB9f.out _ H9.out.1)
              have HLY := Lib.hid ((rte_at HYO.out.fits H9.out.2).all _ (Below.refl _ _))
              have HLX := Lib.hid ((rte_at HXO.out.fits (blk_below (blk_below HX8.out HK.out.2) HBY.out)).all _ (Below.refl _ _))
              clear HB9f H9 hlb HCY
              obtain ⟨O, hO⟩ : ∃ O, okJ l x h k = O := ⟨_, rfl⟩
              rw [hO] at HSJ ⊢
              clear hO
              cases O with
              | true =>
                have HV : Hid (okJ l x h (k + 1) = true) := Lib.hid (by rw [HSJ.out]; rfl)
                clear HSJ
                go_wp2_with fail
                go_roundw
                case measure => simp [intOf]; omega
                case rel => exact ⟨k + 1, by rw [HV.out], by go_num, by omega, below_step HK.out.2 HBY.out⟩
              | false =>
                have HSK : Hid (okJ l x h (k + 1) = notW x y h) := Lib.hid (by rw [HSJ.out]; rfl)
                clear HSJ
                cases h0 : y.p.eqB x.p with
                | false =>
                  have HV : Hid (okJ l x h (k + 1) = false) := Lib.hid (by rw [HSK.out]; unfold notW; rw [h0]; rfl)
                  have HEX := Lib.hid (pfx_eq_hex HYO.out.p HXO.out.p h0)
                  clear h0 HSK
                  go_wp2_with (first | ((with_reducible show wpList _ _ _ (Oper.mk _ (Op.load _ _) _ _ _ _ :: _) _ _); refine wpList_load_g (HLY.out.pfx) _ rfl rfl (by go_simp) ?_) | ((with_reducible show wpList _ _ _ (Oper.mk _ (Op.load _ _) _ _ _ _ :: _) _ _); refine wpList_load_g (HLX.out.pfx) _ rfl rfl (by go_simp) ?_) | ((with_reducible show wpList _ _ _ (Oper.mk _ (Op.binOp _ _ _ _ _) _ _ _ _ :: _) _ _); refine wpList_exw rfl (HEX.out _ _ _ _ _ rfl rfl rfl _) ?_))
                  go_roundw
                  case measure => simp [intOf]; omega
                  case rel => exact ⟨k + 1, by rw [HV.out], by go_num, by omega, below_step HK.out.2 HBY.out⟩
                | true =>
                  have HSM : Hid (okJ l x h (k + 1) = ((y.h == h) && (decide (x.f < y.f) || (y.f == x.f) && decide (y.s ≤ x.s)))) := Lib.hid (by rw [HSK.out]; unfold notW; rw [h0]; rfl)
                  have HEX := Lib.hid (pfx_eq_hex HYO.out.p HXO.out.p h0)
                  clear h0 HSK
                  cases h1 : (y.h == h) with
                  | false =>
                    have HV : Hid (okJ l x h (k + 1) = false) := Lib.hid (by rw [HSM.out, h1]; rfl)
                    clear HSM
                    go_wp2_with (first | ((with_reducible show wpList _ _ _ (Oper.mk _ (Op.load _ _) _ _ _ _ :: _) _ _); refine wpList_load_g (HLY.out.pfx) _ rfl rfl (by go_simp) ?_) | ((with_reducible show wpList _ _ _ (Oper.mk _ (Op.load _ _) _ _ _ _ :: _) _ _); refine wpList_load_g (HLX.out.pfx) _ rfl rfl (by go_simp) ?_) | ((with_reducible show wpList _ _ _ (Oper.mk _ (Op.load _ _) _ _ _ _ :: _) _ _); refine wpList_load_g (HLY.out.hop) _ rfl rfl (by go_simp) ?_) | ((with_reducible show wpList _ _ _ (Oper.mk _ (Op.binOp _ _ _ _ _) _ _ _ _ :: _) _ _); refine wpList_exw rfl (HEX.out _ _ _ _ _ rfl rfl rfl _) ?_))
                    go_roundw
                    case measure => simp [intOf]; omega
                    case rel => exact ⟨k + 1, by rw [HV.out], by go_num, by omega, below_step HK.out.2 HBY.out⟩
                  | true =>
                    by_cases h2 : x.f < y.f
                    · have HV : Hid (okJ l x h (k + 1) = true) := Lib.hid (by rw [HSM.out, h1, decide_eq_true h2]; rfl)
                      have h2' : decide (x.f < y.f) = true := decide_eq_true h2
                      clear HSM
                      go_wp2_with (first | ((with_reducible show wpList _ _ _ (Oper.mk _ (Op.load _ _) _ _ _ _ :: _) _ _); refine wpList_load_g (HLY.out.pfx) _ rfl rfl (by go_simp) ?_) | ((with_reducible show wpList _ _ _ (Oper.mk _ (Op.load _ _) _ _ _ _ :: _) _ _); refine wpList_load_g (HLX.out.pfx) _ rfl rfl (by go_simp) ?_) | ((with_reducible show wpList _ _ _ (Oper.mk _ (Op.load _ _) _ _ _ _ :: _) _ _); refine wpList_load_g (HLY.out.hop) _ rfl rfl (by go_simp) ?_) | ((with_reducible show wpList _ _ _ (Oper.mk _ (Op.load _ _) _ _ _ _ :: _) _ _); refine wpList_load_g (HLY.out.prf) _ rfl rfl (by go_simp) ?_) | ((with_reducible show wpList _ _ _ (Oper.mk _ (Op.load _ _) _ _ _ _ :: _) _ _); refine wpList_load_g (HLX.out.prf) _ rfl rfl (by go_simp) ?_) | ((with_reducible show wpList _ _ _ (Oper.mk _ (Op.binOp _ _ _ _ _) _ _ _ _ :: _) _ _); refine wpList_exw rfl (HEX.out _ _ _ _ _ rfl rfl rfl _) ?_))
                      go_roundw
                      case measure => simp [intOf]; omega
                      case rel => exact ⟨k + 1, by rw [HV.out], by go_num, by omega, below_step HK.out.2 HBY.out⟩
                    · have h2' : decide (x.f < y.f) = false := decide_eq_false h2
                      cases h3 : (y.f == x.f) with
                      | false =>
                        have HV : Hid (okJ l x h (k + 1) = false) := Lib.hid (by rw [HSM.out, h1, h2', h3]; rfl)
                        clear HSM
                        go_wp2_with (first | ((with_reducible show wpList _ _ _ (Oper.mk _ (Op.load _ _) _ _ _ _ :: _) _ _); refine wpList_load_g (HLY.out.pfx) _ rfl rfl (by go_simp) ?_) | ((with_reducible show wpList _ _ _ (Oper.mk _ (Op.load _ _) _ _ _ _ :: _) _ _); refine wpList_load_g (HLX.out.pfx) _ rfl rfl (by go_simp) ?_) | ((with_reducible show wpList _ _ _ (Oper.mk _ (Op.load _ _) _ _ _ _ :: _) _ _); refine wpList_load_g (HLY.out.hop) _ rfl rfl (by go_simp) ?_) | ((with_reducible show wpList _ _ _ (Oper.mk _ (Op.load _ _) _ _ _ _ :: _) _ _); refine wpList_load_g (HLY.out.prf) _ rfl rfl (by go_simp) ?_) | ((with_reducible show wpList _ _ _ (Oper.mk _ (Op.load _ _) _ _ _ _ :: _) _ _); refine wpList_load_g (HLX.out.prf) _ rfl rfl (by go_simp) ?_) | ((with_reducible show wpList _ _ _ (Oper.mk _ (Op.binOp _ _ _ _ _) _ _ _ _ :: _) _ _); refine wpList_exw rfl (HEX.out _ _ _ _ _ rfl rfl rfl _) ?_))
                        go_roundw
                        case measure => simp [intOf]; omega
                        case rel => exact ⟨k + 1, by rw [HV.out], by go_num, by omega, below_step HK.out.2 HBY.out⟩
                      | true =>
                        have HV : Hid (okJ l x h (k + 1) = decide (y.s ≤ x.s)) := Lib.hid (by rw [HSM.out, h1, h2', h3]; rfl)
                        clear HSM
                        go_wp2_with (first | ((with_reducible show wpList _ _ _ (Oper.mk _ (Op.load _ _) _ _ _ _ :: _) _ _); refine wpList_load_g (HLY.out.pfx) _ rfl rfl (by go_simp) ?_) | ((with_reducible show wpList _ _ _ (Oper.mk _ (Op.load _ _) _ _ _ _ :: _) _ _); refine wpList_load_g (HLX.out.pfx) _ rfl rfl (by go_simp) ?_) | ((with_reducible show wpList _ _ _ (Oper.mk _ (Op.load _ _) _ _ _ _ :: _) _ _); refine wpList_load_g (HLY.out.hop) _ rfl rfl (by go_simp) ?_) | ((with_reducible show wpList _ _ _ (Oper.mk _ (Op.load _ _) _ _ _ _ :: _) _ _); refine wpList_load_g (HLY.out.prf) _ rfl rfl (by go_simp) ?_) | ((with_reducible show wpList _ _ _ (Oper.mk _ (Op.load _ _) _ _ _ _ :: _) _ _); refine wpList_load_g (HLX.out.prf) _ rfl rfl (by go_simp) ?_) | ((with_reducible show wpList _ _ _ (Oper.mk _ (Op.load _ _) _ _ _ _ :: _) _ _); refine wpList_load_g (HLY.out.src) _ rfl rfl (by go_simp) ?_) | ((with_reducible show wpList _ _ _ (Oper.mk _ (Op.load _ _) _ _ _ _ :: _) _ _); refine wpList_load_g (HLX.out.src) _ rfl rfl (by go_simp) ?_) | ((with_reducible show wpList _ _ _ (Oper.mk _ (Op.binOp _ _ _ _ _) _ _ _ _ :: _) _ _); refine wpList_exw rfl (HEX.out _ _ _ _ _ rfl rfl rfl _) ?_))
                        go_roundw
                        case measure => simp [intOf]; omega
                        case rel => exact ⟨k + 1, by rw [HV.out], by go_num, by omega, below_step HK.out.2 HBY.out⟩
            · have hkt' : decide (k < n) = false := decide_eq_false hkt
              have hke : k = l.length := by have := HR.out.len; have := HK.out.1; omega
              have HJJ : Hid (okJ l x h k = true) := Lib.hid (by rw [hke]; exact HJ.out)
              rw [HJJ.out]
              clear hkt hke
              go_wp2_with fail
              go_roundw
              case measure => simp [intOf]; omega
              case rel => exact ⟨i + 1, by go_num, by omega, HM8.out.below HK.out.2, below_step HB8.out HK.out.2⟩
        · have hlt' : decide (i < n) = false := decide_eq_false hlt
          have hie : i = n := by have := HI.out.1; omega
          have HMI := Lib.hid HI.out.2.1
          rw [hie, ← HR.out.len, List.take_length] at HMI
          obtain ⟨qs, hq1, hq2, hq3⟩ := HMI.out.len (fun p hp => by
            obtain ⟨a, ha, rfl⟩ := List.mem_map.1 hp
            exact (OK.out a ha).p)
          have hql := best_count OK.out.fits HRB.out hq1 hq2
          rw [HN2.out] at hql
          rw [hql] at hq3
          have hq4 := hq3 3
          clear hq1 hq2 hq3 hql hie hlt
          go_wp2_with (first | ((with_reducible show wpList _ _ _ (Oper.mk _ (Op.load _ _) _ _ _ _ :: _) _ _); refine wpList_load_g (((tab_at (blk_below HG4.out HI.out.2.2)).all _ (Below.refl _ _)).2) _ rfl rfl (by go_simp) ?_))
          go_ret
          exact ⟨by simp, below_step HBE.out HBI.out⟩
end Go.Proofs.YtnpeedmicjeleaaDoor

/- The walk of RouteBest, as the row asks it. -/
namespace Go.Proofs.YtnpeedmicjeleaaDoor
open Go.RowKit
set_option linter.unusedVariables false
set_option linter.unusedSimpArgs false
set_option maxRecDepth 4000
theorem routeBest_walk (A : Option Addr) (n c : Nat) (l : List Rte) (w : World) (hL : Laid w) (hr : RS rteK w A n c l) (ok : ∀ a ∈ l, a.ok) (h0 : n * 56 ≤ 140737488351232) : Calls Tryd.prog 4 #[.agg (tabV A n c)] w fun e w' => e = .returned (.bool true) ∧ Below w.heap.size w w' := best11_any A n c l w hL hr ok
end Go.Proofs.YtnpeedmicjeleaaDoor
