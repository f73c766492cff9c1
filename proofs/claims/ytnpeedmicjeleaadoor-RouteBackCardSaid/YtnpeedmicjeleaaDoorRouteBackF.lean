/- Layer 11 (route): the law RouteBack. -/
import Derived.Test.YtnpeedmicjeleaaDoorRouteBackE
namespace Go.Proofs.YtnpeedmicjeleaaDoor
open Go.RowKit
set_option linter.unusedVariables false
set_option linter.unusedSimpArgs false
set_option maxRecDepth 4000
theorem rib_dec {l : List Rte} (ok : Okr l) (h : ribB l = true) : ribDE (encRib l) = 0 ∧ ribDL (encRib l) = l ∧ ∀ q, q < (encRib l).length → ribDE ((encRib l).take q) = 7 := by
  have hp : ∀ r ∈ l, B16 r.p.l ∧ r.fit = true := fun r hr => ⟨(ok r hr).fits, rib_fit h hr⟩
  rw [encRib_eq h]
  have h1 := decIE_enc (it := itR) (bad := 211) (ok := ribB) itR_enc hp h
  exact ⟨h1.1, h1.2, fun q hq => decIE_cut itR_enc itR_cut hp hq⟩
theorem bat_dec {l : List Upd} (ok : Oku l) (h : batB l = true) : batDE (encBat l) = 0 ∧ batDL (encBat l) = l ∧ ∀ q, q < (encBat l).length → batDE ((encBat l).take q) = 7 := by
  have hp : ∀ r ∈ l, B16 r.p.l ∧ updB r = true := fun r hr => ⟨(ok r hr).fits, bat_upd h hr⟩
  rw [encBat_eq h]
  have h1 := decIE_enc (it := itU) (bad := 210) (ok := batB) itU_enc hp h
  exact ⟨h1.1, h1.2, fun q hq => decIE_cut itU_enc itU_cut hp hq⟩
theorem mod_cut (k0 : Int) (n2 : Nat) (hn2 : 0 < n2) : ∃ q : Nat, (max k0 0).tmod (n2 : Int) = (q : Int) ∧ q < n2 := by
  have h1 : (max k0 0).tmod (n2 : Int) = (max k0 0) % n2 := Int.tmod_eq_emod_of_nonneg (by omega)
  have h2 := Int.emod_nonneg (max k0 0) (show (n2 : Int) ≠ 0 by omega)
  have h3 := Int.emod_lt_of_pos (max k0 0) (show (0 : Int) < (n2 : Int) by omega)
  exact ⟨((max k0 0) % n2).toNat, by rw [h1]; omega, by omega⟩
theorem appR_len {l : List Rte} {b : List Upd} (ok : Okr l) (oku : Oku b) : (appR l b).length ≤ l.length + b.length := by
  unfold appR
  split
  · rename_i h
    unfold appN at h
    split at h
    · rename_i h1
      split at h
      · split at h
        · rename_i m hm
          rw [hm]
          exact (appL_rok ⟨ok, (rib_to h1).2.1⟩ oku hm).2
        · cases h
      · cases h
    · cases h
  · simp
/-- What the loop keeps: the batch that takes back, in a block of its own. -/
structure BckS (w wr : World) (A : Option Addr) (n c : Nat) (t : List Upd) : Prop where
  tab : wr.heap[w.heap.size]? = some (.cells (tabV A n c) 27 (0, 0))
  own : OS updK wr (w.heap.size + 1) A n c t
  bel : Below w.heap.size w wr
theorem BckS.step {w wr w2 : World} {A : Option Addr} {n c : Nat} {t : List Upd} (h : BckS w wr A n c t) (hb : Below wr.heap.size wr w2) : BckS w w2 A n c t := ⟨blk_below h.tab hb, h.own.below hb, below_step h.bel hb⟩
theorem BckS.push {w wr w9 w10 : World} {A : Option Addr} {n c : Nat} {t : List Upd} {A' : Option Addr} {n' c' : Nat} {t' : List Upd} (h : BckS w wr A n c t) (h2 : wr.grownBy w9 ((Value.slice A n c).ownBlock)) (h3 : w9.grownBy w10 (some w.heap.size)) (ho : OS updK w9 (w.heap.size + 1) A' n' c' t') (ht : w10.heap[w.heap.size]? = some (.cells (tabV A' n' c') 27 (0, 0))) : BckS w w10 A' n' c' t' :=
  ⟨ht, ho.grown h3 (fun ad e hh => by have := ho.base_ ad e; injection hh with hh; omega), below_grown (below_own h.bel h2 (fun ad e => by have := h.own.base_ ad e; omega)) h3 (Nat.le_refl _)⟩
set_option maxRecDepth 100000 in
set_option maxHeartbeats 16000000 in
theorem back11_any (A : Option Addr) (n c : Nat) (l : List Rte) (A2 : Option Addr) (m c2 : Nat) (b : List Upd) (k0 : Int) (w : World) (hL : Laid w) (hr : RS rteK w A n c l) (ok : Okr l) (hu : RS updK w A2 m c2 b) (oku : Oku b) (hk0 : (Lit.int .i64 k0).wf = true) :
    Calls Tryd.prog 9 #[.agg (tabV A n c), .agg (tabV A2 m c2), .int .i64 k0] w fun e w' => e = .returned (.bool true) ∧ Below w.heap.size w w' := by
  have hkw := wf_i64 hk0
  have hblk1 := blk_new w (.cells (tabV A n c) 24)
  have hbel1 : Below w.heap.size w (w.alloc (.cells (tabV A n c) 24)) := below_alloc (Below.refl _ _) _
  have hblk2 := blk_new (w.alloc (.cells (tabV A n c) 24)) (.cells (tabV A2 m c2) 27)
  have hbel2 : Below w.heap.size w ((w.alloc (.cells (tabV A n c) 24)).alloc (.cells (tabV A2 m c2) 27)) := below_alloc (hbel1) _
  rw [show (w.alloc (.cells (tabV A n c) 24)).heap.size = w.heap.size + 1 by simp] at hblk2
  replace hblk1 := blk_below hblk1 (below_alloc (Below.refl _ _) (.cells (tabV A2 m c2) 27))
  have HP1 := Lib.hid (rib_at hblk1)
  have HBK1 := Lib.hid hblk1
  have HP2 := Lib.hid (bat_at hblk2)
  have HBK2 := Lib.hid hblk2
  have HBE := Lib.hid hbel2
  have HL := Lib.hid (hL.below HBE.out)
  obtain ⟨cs1, hcs1⟩ : ∃ cs, tabV A n c = cs := ⟨_, rfl⟩
  obtain ⟨cs2, hcs2⟩ : ∃ cs, tabV A2 m c2 = cs := ⟨_, rfl⟩
  simp only [hcs1, hcs2] at HBE HL HP1 HP2 HBK1 HBK2 ⊢
  have HC1 := Lib.hid hcs1
  have HC2 := Lib.hid hcs2
  clear hL hcs1 hblk1 hbel1 hcs2 hblk2 hbel2
  have HR := Lib.hid (hr.below HBE.out)
  have HU := Lib.hid (hu.below HBE.out)
  have OK := Lib.hid ok
  have OKU := Lib.hid oku
  clear hr ok hu oku
  go_enter Tryd.func9, Tryd.ntmps9
  go_wp2_with fail
  refine (wakes11_any _ HL.out).mono ?_
  rintro e w1 ⟨rfl, hb1⟩
  have HB1 := Lib.hid hb1
  clear hb1
  go_wp2_with (first | ((with_reducible show wpList _ _ _ (Oper.mk _ (Op.load _ _) _ _ _ _ :: _) _ _); refine wpList_load_g ((HP1.out.all _ HB1.out).1) _ rfl rfl (by go_simp) ?_) | ((with_reducible show wpList _ _ _ (Oper.mk _ (Op.load _ _) _ _ _ _ :: _) _ _); refine wpList_load_g ((HP2.out.all _ HB1.out).1) _ rfl rfl (by go_simp) ?_))
  refine (over11_any A n c A2 m c2 w1).mono ?_
  rintro e w2 ⟨rfl, hb2⟩
  have HB2 := Lib.hid (below_step HB1.out hb2)
  clear hb2 HB1
  by_cases hov : (decide (300 < n) || decide (100 < m)) = true
  · rw [hov]
    clear hov
    go_wp2
    go_ret
    exact ⟨rfl, below_step HBE.out HB2.out⟩
  · have hof : (decide (300 < n) || decide (100 < m)) = false := by simpa using hov
    rw [hof]
    have hnm : n ≤ 300 ∧ m ≤ 100 := by simp at hof; omega
    have HNM := Lib.hid hnm
    clear hov hof
    go_wp2_with (first | ((with_reducible show wpList _ _ _ (Oper.mk _ (Op.load _ _) _ _ _ _ :: _) _ _); refine wpList_load_g ((HP1.out.all _ HB2.out).1) _ rfl rfl (by go_simp) ?_))
    refine (rencode_any A n c l w2 (HL.out.below HB2.out) (HR.out.below HB2.out) OK.out (by omega)).mono ?_
    rintro e w3 ⟨A3, n3, c3, rfl, hO3, hn3, hb3⟩
    have HO3 := Lib.hid hO3.reads
    have HB3 := Lib.hid (below_step HB2.out hb3)
    clear hO3 hb3 HB2
    cases hrb : ribB l with
    | false =>
      have HE : Hid (ribE l = 211) := Lib.hid (by unfold ribE; rw [hrb]; rfl)
      have hz : n3 = 0 := by rw [← HO3.out.len]; unfold encRib; rw [hrb]; rfl
      rw [HE.out]
      subst hz
      clear hrb
      go_wp2_with fail
      go_ret
      exact ⟨rfl, below_step HBE.out HB3.out⟩
    | true =>
      have HE : Hid (ribE l = 0) := Lib.hid (by unfold ribE; rw [hrb]; rfl)
      have HRB := Lib.hid hrb
      have HDC := Lib.hid (rib_dec OK.out hrb)
      have h0n : 0 < n3 := by rw [← HO3.out.len, encRib_eq hrb]; simp
      rw [HE.out]
      clear hrb
      go_wp2_with fail
      refine (rdecode_any A3 n3 c3 (encRib l) w3 (HL.out.below HB3.out) HO3.out (by omega)).mono ?_
      rw [HDC.out.1, HDC.out.2.1]
      rintro e w4 ⟨A4, n4, c4, rfl, hO4, hb4⟩
      have HO4 := Lib.hid hO4.reads
      have HB4 := Lib.hid (below_step HB3.out hb4)
      have HX4 := Lib.hid (HO3.out.below hb4)
      have HN4 := Lib.hid hO4.len
      clear hO4 hb4 HB3 HO3
      obtain ⟨q, hq, hqn⟩ := mod_cut k0 n3 h0n
      have hn20 : ((n3 : Int) == 0) = false := by simp; omega
      have hn21 : ¬ (n3 : Int) = 0 := by omega
      have hwq : IntKind.i64.wrap (q : Int) = q := IntWalk.i64_in _ (by omega)
      have hcu := cut_uptoT A3 n3 c3 q (by have := HX4.out.cap; omega)
      have HQN := Lib.hid hqn
      go_wp2_with (first | ((with_reducible show wpList _ _ _ (Oper.mk _ (Op.store _ _ _) _ _ _ _ :: _) _ _); refine wpList_store_blk (blk_new w4 (.cells (tabV none 0 0) 24)) 24 0 (tabV A4 n4 c4) (Nat.le_refl _) (info_rib _ _ _) (tab_one _ _ _) _ _ rfl rfl rfl rfl ?_; intro w5 hg9 hs9 hb9; rw [splice_tab] at hb9; have H5 := Lib.hid (And.intro hg9 hb9); clear hg9 hs9 hb9))
      have hb45 : Below w4.heap.size w4 w5 := below_grown (below_alloc (Below.refl _ _) _) H5.out.1 (Nat.le_refl _)
      have HB5 := Lib.hid (below_step HB4.out hb45)
      have HG5 := Lib.hid H5.out.2
      have HX5 := Lib.hid (HX4.out.below hb45)
      have HO5 := Lib.hid (HO4.out.below hb45)
      obtain ⟨g4, hg4⟩ : ∃ g, w4.heap.size = g := ⟨_, rfl⟩
      rw [hg4] at HG5 ⊢
      clear hb45 H5 HX4 HO4 HB4 hcu hn20 hn21 hwq hq hg4
      have hde := rdecode_any A3 q c3 ((encRib l).take q) w5 (HL.out.below HB5.out) (HX5.out.take q (by omega)) (by omega)
      rw [HDC.out.2.2 q (by rw [HX5.out.len]; exact HQN.out)] at hde
      refine hde.mono ?_
      clear hde
      rintro e w6 ⟨A6, n6, c6, rfl, -, hb6⟩
      have HB6 := Lib.hid (below_step HB5.out hb6)
      have HG6 := Lib.hid (blk_below HG5.out hb6)
      have HX6 := Lib.hid (HX5.out.below hb6)
      have HO6 := Lib.hid (HO5.out.below hb6)
      clear hb6 HG5 HX5 HO5 HB5
      have HZf := Lib.hid (fun (W : World) (h : (w6.alloc (.cells (tabV none 0 0) 24)).grownBy W (some w6.heap.size)) => below_grown (below_alloc (Below.refl w6.heap.size w6) (.cells (tabV none 0 0) 24)) h (Nat.le_refl _))
      go_wp2_with (first | ((with_reducible show wpList _ _ _ (Oper.mk _ (Op.store _ _ _) _ _ _ _ :: _) _ _); refine wpList_store_blk (blk_new w6 (.cells (tabV none 0 0) 24)) 24 0 (tabV A6 n6 c6) (Nat.le_refl _) (info_rib _ _ _) (tab_one _ _ _) _ _ rfl rfl rfl rfl ?_; intro w7 hg9 hs9 hb9; rw [splice_tab] at hb9; have H7 := Lib.hid (And.intro hg9 hb9); clear hg9 hs9 hb9) | ((with_reducible show wpList _ _ _ (Oper.mk _ (Op.load _ _) _ _ _ _ :: _) _ _); refine wpList_load_g (load_rib (blk_below HG6.out (HZf.out _ H7.out.1))) _ rfl rfl (by go_simp) ?_) | ((with_reducible show wpList _ _ _ (Oper.mk _ (Op.load _ _) _ _ _ _ :: _) _ _); refine wpList_load_g ((HP1.out.all _ (below_step HB6.out (HZf.out _ H7.out.1))).1) _ rfl rfl (by go_simp) ?_))
      have hb67 := HZf.out _ H7.out.1
      have HB7 := Lib.hid (below_step HB6.out hb67)
      have HX7 := Lib.hid (HX6.out.below hb67)
      have HO7 := Lib.hid (HO6.out.below hb67)
      clear HZf H7 hb67 HG6 HX6 HO6 HB6
      refine (rsame_any A n c l A4 n4 c4 l w7 (HR.out.below HB7.out) HO7.out OK.out OK.out (by omega) (by have := HN4.out; have := HR.out.len; omega)).mono ?_
      rw [show rteE.eqL l l = true from eqL_self rteE l]
      rintro e w8 ⟨rfl, hb8⟩
      have HB8 := Lib.hid (below_step HB7.out hb8)
      have HX8 := Lib.hid (HX7.out.below hb8)
      clear hb8 HB7 HX7 HO7
      go_wp2_with (first | ((with_reducible show wpList _ _ _ (Oper.mk _ (Op.load _ _) _ _ _ _ :: _) _ _); refine wpList_load_g ((HP2.out.all _ HB8.out).1) _ rfl rfl (by go_simp) ?_))
      refine (rencodeb_any A2 m c2 b w8 (HL.out.below HB8.out) (HU.out.below HB8.out) OKU.out (by omega)).mono ?_
      rintro e w9 ⟨A9, n9, c9, rfl, hO9, hn9, hb9⟩
      have HO9 := Lib.hid hO9.reads
      have HB9 := Lib.hid (below_step HB8.out hb9)
      have HX9 := Lib.hid (HX8.out.below hb9)
      clear hO9 hb9 HB8 HX8
      cases hbb : batB b with
      | false =>
        have HE2 : Hid (batE b = 210) := Lib.hid (by unfold batE; rw [hbb]; rfl)
        have hz : n9 = 0 := by rw [← HO9.out.len]; unfold encBat; rw [hbb]; rfl
        rw [HE2.out]
        subst hz
        clear hbb
        go_wp2_with fail
        go_ret
        exact ⟨rfl, below_step HBE.out HB9.out⟩
      | true =>
        have HE2 : Hid (batE b = 0) := Lib.hid (by unfold batE; rw [hbb]; rfl)
        have HBB := Lib.hid hbb
        have HDB := Lib.hid (bat_dec OKU.out hbb)
        have h0m : 0 < n9 := by rw [← HO9.out.len, encBat_eq hbb]; simp
        rw [HE2.out]
        clear hbb
        go_wp2_with fail
        refine (rdecodeb_any A9 n9 c9 (encBat b) w9 (HL.out.below HB9.out) HO9.out (by omega)).mono ?_
        rw [HDB.out.1, HDB.out.2.1]
        rintro e wa ⟨Aa, na, ca, rfl, hOa, hba⟩
        have HOa := Lib.hid hOa.reads
        have HBa := Lib.hid (below_step HB9.out hba)
        have HXa := Lib.hid (HX9.out.below hba)
        have HYa := Lib.hid (HO9.out.below hba)
        have HNa := Lib.hid hOa.len
        clear hOa hba HB9 HX9 HO9
        obtain ⟨r, hr, hrn⟩ := mod_cut k0 n9 h0m
        have hn20 : ((n9 : Int) == 0) = false := by simp; omega
        have hn21 : ¬ (n9 : Int) = 0 := by omega
        have hwr : IntKind.i64.wrap (r : Int) = r := IntWalk.i64_in _ (by omega)
        have hcu := cut_uptoT A9 n9 c9 r (by have := HYa.out.cap; omega)
        have HRN := Lib.hid hrn
        go_wp2_with (first | ((with_reducible show wpList _ _ _ (Oper.mk _ (Op.store _ _ _) _ _ _ _ :: _) _ _); refine wpList_store_blk (blk_new wa (.cells (tabV none 0 0) 27)) 27 0 (tabV Aa na ca) (Nat.le_refl _) (info_bat _ _ _) (tab_one _ _ _) _ _ rfl rfl rfl rfl ?_; intro wb hg9 hs9 hb9; rw [splice_tab] at hb9; have Hb := Lib.hid (And.intro hg9 hb9); clear hg9 hs9 hb9))
        have hbab : Below wa.heap.size wa wb := below_grown (below_alloc (Below.refl _ _) _) Hb.out.1 (Nat.le_refl _)
        have HBb := Lib.hid (below_step HBa.out hbab)
        have HGb := Lib.hid Hb.out.2
        have HXb := Lib.hid (HXa.out.below hbab)
        have HYb := Lib.hid (HYa.out.below hbab)
        have HOb := Lib.hid (HOa.out.below hbab)
        obtain ⟨ga, hga⟩ : ∃ g, wa.heap.size = g := ⟨_, rfl⟩
        rw [hga] at HGb ⊢
        clear hbab Hb HXa HYa HOa HBa hcu hn20 hn21 hwr hr hga
        have hde := rdecodeb_any A9 r c9 ((encBat b).take r) wb (HL.out.below HBb.out) (HYb.out.take r (by omega)) (by omega)
        rw [HDB.out.2.2 r (by rw [HYb.out.len]; exact HRN.out)] at hde
        refine hde.mono ?_
        clear hde
        rintro e wc ⟨Ac, nc, cc, rfl, -, hbc⟩
        have HBc := Lib.hid (below_step HBb.out hbc)
        have HGc := Lib.hid (blk_below HGb.out hbc)
        have HXc := Lib.hid (HXb.out.below hbc)
        have HOc := Lib.hid (HOb.out.below hbc)
        clear hbc HGb HXb HYb HOb HBb
        go_wp2_with (first | ((with_reducible show wpList _ _ _ (Oper.mk _ (Op.load _ _) _ _ _ _ :: _) _ _); refine wpList_load_g (load_bat HGc.out) _ rfl rfl (by go_simp) ?_) | ((with_reducible show wpList _ _ _ (Oper.mk _ (Op.load _ _) _ _ _ _ :: _) _ _); refine wpList_load_g ((HP2.out.all _ HBc.out).1) _ rfl rfl (by go_simp) ?_))
        refine (rsameb_any A2 m c2 b Aa na ca b wc (HU.out.below HBc.out) HOc.out OKU.out OKU.out (by omega) (by have := HNa.out; have := HU.out.len; omega)).mono ?_
        rw [show updE.eqL b b = true from eqL_self updE b]
        rintro e wd ⟨rfl, hbd⟩
        have HBd := Lib.hid (below_step HBc.out hbd)
        have HXd := Lib.hid (HXc.out.below hbd)
        clear hbd HBc HXc HOc HGc
        go_wp2_with (first | ((with_reducible show wpList _ _ _ (Oper.mk _ (Op.load _ _) _ _ _ _ :: _) _ _); refine wpList_load_g ((HP1.out.all _ HBd.out).1) _ rfl rfl (by go_simp) ?_) | ((with_reducible show wpList _ _ _ (Oper.mk _ (Op.load _ _) _ _ _ _ :: _) _ _); refine wpList_load_g ((HP2.out.all _ HBd.out).1) _ rfl rfl (by go_simp) ?_))
        refine (rapply_any A n c l A2 m c2 b wd (HL.out.below HBd.out) (HR.out.below HBd.out) OK.out (by omega) (HU.out.below HBd.out) OKU.out (by omega)).mono ?_
        rintro e we ⟨Ae, ne, ce, rfl, hOe, hbe⟩
        have HOe := Lib.hid hOe.reads
        have HNe := Lib.hid hOe.len
        have HBe := Lib.hid (below_step HBd.out hbe)
        have HXe := Lib.hid (HXd.out.below hbe)
        clear hOe hbe HBd HXd
        by_cases hA0 : appN l b = 0
        · rw [hA0]
          have HA0 := Lib.hid hA0
          clear hA0
          have HZf := Lib.hid (fun (W : World) (h : (we.alloc (.cells (tabV none 0 0) 24)).grownBy W (some we.heap.size)) => below_grown (below_alloc (Below.refl we.heap.size we) (.cells (tabV none 0 0) 24)) h (Nat.le_refl _))
          go_upto_region 22 with (first | ((with_reducible show wpList _ _ _ (Oper.mk _ (Op.store _ _ _) _ _ _ _ :: _) _ _); refine wpList_store_blk (blk_new we (.cells (tabV none 0 0) 24)) 24 0 (tabV Ae ne ce) (Nat.le_refl _) (info_rib _ _ _) (tab_one _ _ _) _ _ rfl rfl rfl rfl ?_; intro wf hg9 hs9 hb9; rw [splice_tab] at hb9; have Hf := Lib.hid (And.intro hg9 hb9); clear hg9 hs9 hb9))
          have hbef := HZf.out _ Hf.out.1
          have HBf := Lib.hid (below_step HBe.out hbef)
          have HGf := Lib.hid Hf.out.2
          have HXf := Lib.hid (HXe.out.below hbef)
          have HOf := Lib.hid (HOe.out.below hbef)
          obtain ⟨ge, hge⟩ : ∃ g, we.heap.size = g := ⟨_, rfl⟩
          rw [hge] at HGf ⊢
          clear HZf Hf hbef HXe HOe HBe hge
          try dsimp only [Act.put]
          have hK0 : BckS wf (wf.alloc (.cells (tabV none 0 0) 27)) none 0 0 [] := ⟨blk_new _ _, OS.nil _ _ _, below_alloc (Below.refl _ _) _⟩
          have HK0 := Lib.hid hK0
          clear hK0
          go_wp2_with (first | ((with_reducible show wpList _ _ _ (Oper.mk _ (Op.load _ _) _ _ _ _ :: _) _ _); refine wpList_load_g ((HP2.out.all _ (below_step HBf.out HK0.out.bel)).2) _ rfl rfl (by go_simp) ?_))
          go_loopw [119] (fun x wr => ∃ (i : Nat) (Ak : Option Addr) (ck : Nat), x = .int .i64 i ∧ Hid (i ≤ m ∧ BckS wf wr Ak i ck ((b.take i).map goneU) ∧ ∀ u ∈ b.take i, u.g = false ∧ ∀ r ∈ l, ¬ (r.p = u.p ∧ r.s = u.s))) (fun x _ => m - (intOf x).toNat)
          case atStart => exact ⟨0, none, 0, rfl, Nat.zero_le _, HK0.out, fun u hu => by simp at hu⟩
          case round =>
            obtain ⟨i, Ak, ck, rfl, HI⟩ := hrel
            obtain ⟨wi, rfl⟩ : ∃ wi, wi = wr := ⟨wr, rfl⟩
            have HBI := Lib.hid (below_step HBf.out HI.out.2.1.bel)
            by_cases hlt : i < m
            · have hlt' : (i : Int) < m := by omega
              obtain ⟨bb, oo, hA2, hc⟩ := RS.at_ HU.out (by omega)
              have hil : i < b.length := by rw [HU.out.len]; exact hlt
              have HUO := Lib.hid (OKU.out.at_ hil)
              have HCU : Hid (CellsAt wi bb (oo + i * 22) (updC (updAt b i))) := Lib.hid ((hc i hlt).below HBI.out)
              have HTK : Hid (b.take (i + 1) = b.take i ++ [updAt b i]) := Lib.hid (take_getD updZ hil)
              obtain ⟨u, hu⟩ : ∃ u, updAt b i = u := ⟨_, rfl⟩
              rw [hu] at HUO HCU HTK
              have hla := (updLd_of HUO.out.fits HCU.out).all
              have HZf := Lib.hid (fun (W : World) (h : (wi.alloc (.cells (updV updZ) 75)).grownBy W (some wi.heap.size)) => below_grown (below_alloc (Below.refl wi.heap.size wi) (.cells (updV updZ) 75)) h (Nat.le_refl _))
              subst hA2
              clear hc hu hil
              go_wp2_with (first | ((with_reducible show wpList _ _ _ (Oper.mk _ (Op.load _ _) _ _ _ _ :: _) _ _); refine wpList_load_g hla _ rfl rfl (by go_simp) ?_) | ((with_reducible show wpList _ _ _ (Oper.mk _ (Op.store _ _ _) _ _ _ _ :: _) _ _); refine wpList_store_blk (blk_new wi _) 75 0 (updV u) (store_upd_fit HUO.out.fits rfl) (info_upd HUO.out.fits) (updV_one _) _ _ rfl rfl rfl rfl ?_; intro wu hg9 hs9 hb9; rw [splice_upd HUO.out.fits rfl] at hb9; have Hu := Lib.hid (And.intro hg9 hb9); clear hg9 hs9 hb9) | ((with_reducible show wpList _ _ _ (Oper.mk _ (Op.load _ _) _ _ _ _ :: _) _ _); refine wpList_load_g ((HP1.out.all _ (below_step HBI.out (HZf.out _ Hu.out.1))).2) _ rfl rfl (by go_simp) ?_))
              have hbwu := HZf.out _ Hu.out.1
              have HBU := Lib.hid (below_step HI.out.2.1.bel hbwu)
              have HKU := Lib.hid (HI.out.2.1.step hbwu)
              have HUU := Lib.hid Hu.out.2
              have HPR := Lib.hid HI.out.2.2
              obtain ⟨gu, hgu⟩ : ∃ g, wi.heap.size = g := ⟨_, rfl⟩
              rw [hgu] at HUU ⊢
              clear HZf Hu hbwu HI HBI HCU hgu hla
              go_loopw [126] (fun x wr => ∃ (j : Nat), x = .int .i64 j ∧ Hid (j ≤ n ∧ Below wu.heap.size wu wr ∧ (0 < j → u.g = false) ∧ ∀ k, k < j → ¬ ((rteAt l k).p = u.p ∧ (rteAt l k).s = u.s))) (fun x _ => n - (intOf x).toNat)
              case atStart => exact ⟨0, rfl, Nat.zero_le _, Below.refl _ _, fun h => by omega, fun k hk => by omega⟩
              case round =>
                obtain ⟨j, rfl, HJ⟩ := hrel
                obtain ⟨wj, rfl⟩ : ∃ wj, wj = wr := ⟨wr, rfl⟩
                have HBJ := Lib.hid (below_step HBf.out (below_step HBU.out HJ.out.2.1))
                have HLU := Lib.hid (upd_at HUO.out.fits (blk_below HUU.out HJ.out.2.1))
                by_cases hjt : j < n
                · have hjt' : (j : Int) < n := by omega
                  obtain ⟨b2, o2, hA, hc⟩ := RS.at_ HR.out (by omega)
                  have hjl : j < l.length := by rw [HR.out.len]; exact hjt
                  have HXO := Lib.hid (OK.out.at_ hjl)
                  have HCX : Hid (CellsAt wj b2 (o2 + j * 21) (rteC (rteAt l j))) := Lib.hid ((hc j hjt).below HBJ.out)
                  obtain ⟨x, hx⟩ : ∃ x, rteAt l j = x := ⟨_, rfl⟩
                  have HXX := Lib.hid hx
                  rw [hx] at HXO HCX
                  have hla := (rteLd_of HXO.out.fits HCX.out).all
                  have HZf := Lib.hid (fun (W : World) (h : (wj.alloc (.cells (rteV rteZ) 51)).grownBy W (some wj.heap.size)) => below_grown (below_alloc (Below.refl wj.heap.size wj) (.cells (rteV rteZ) 51)) h (Nat.le_refl _))
                  subst hA
                  clear hc hx hjl
                  go_upto_region 29 with (first | ((with_reducible show wpList _ _ _ (Oper.mk _ (Op.load _ _) _ _ _ _ :: _) _ _); refine wpList_load_g hla _ rfl rfl (by go_simp) ?_) | ((with_reducible show wpList _ _ _ (Oper.mk _ (Op.store _ _ _) _ _ _ _ :: _) _ _); refine wpList_store_blk (blk_new wj _) 51 0 (rteV x) (store_rte_fit HXO.out.fits rfl) (info_rte HXO.out.fits) (rteV_one _) _ _ rfl rfl rfl rfl ?_; intro wx hg9 hs9 hb9; rw [splice_rte HXO.out.fits rfl] at hb9; have Hx := Lib.hid (And.intro hg9 hb9); clear hg9 hs9 hb9))
                  try dsimp only [Act.put]
                  have HBX := Lib.hid (HZf.out _ Hx.out.1)
                  have HLX := Lib.hid ((rte_at HXO.out.fits Hx.out.2).all _ (Below.refl _ _))
                  have HLV := Lib.hid (HLU.out.all _ HBX.out)
                  have HBE2 := Lib.hid (below_step HBE.out (below_step HBJ.out HBX.out))
                  clear HZf Hx hla HCX
                  cases hg : u.g with
                  | true =>
                    have HGN := Lib.hid HLV.out.gon
                    rw [hg] at HGN
                    go_wp2_with (first | ((with_reducible show wpList _ _ _ (Oper.mk _ (Op.load _ _) _ _ _ _ :: _) _ _); refine wpList_load_g (HGN.out) _ rfl rfl (by go_simp) ?_))
                    go_ret
                    exact ⟨rfl, HBE2.out⟩
                  | false =>
                    have HGN := Lib.hid HLV.out.gon
                    rw [hg] at HGN
                    have HG0 := Lib.hid hg
                    clear hg
                    cases h0 : x.p.eqB u.p with
                    | false =>
                      have HEX := Lib.hid (pfx_eq_hex HXO.out.p HUO.out.p h0)
                      have HNK : Hid (¬ (x.p = u.p ∧ x.s = u.s)) := Lib.hid (fun h => by rw [(Pfx.eqB_iff _ _).2 h.1] at h0; cases h0)
                      clear h0
                      go_wp2_with (first | ((with_reducible show wpList _ _ _ (Oper.mk _ (Op.load _ _) _ _ _ _ :: _) _ _); refine wpList_load_g (HGN.out) _ rfl rfl (by go_simp) ?_) | ((with_reducible show wpList _ _ _ (Oper.mk _ (Op.load _ _) _ _ _ _ :: _) _ _); refine wpList_load_g (HLX.out.pfx) _ rfl rfl (by go_simp) ?_) | ((with_reducible show wpList _ _ _ (Oper.mk _ (Op.load _ _) _ _ _ _ :: _) _ _); refine wpList_load_g (HLV.out.pfx) _ rfl rfl (by go_simp) ?_) | ((with_reducible show wpList _ _ _ (Oper.mk _ (Op.binOp _ _ _ _ _) _ _ _ _ :: _) _ _); refine wpList_exw rfl (HEX.out _ _ _ _ _ rfl rfl rfl _) ?_))
                      go_roundw
                      case measure => simp [intOf]; omega
                      case rel =>
                        refine ⟨j + 1, by go_num, by omega, below_step HJ.out.2.1 HBX.out, fun _ => HG0.out, fun k hk => ?_⟩
                        by_cases hkj : k < j
                        · exact HJ.out.2.2.2 k hkj
                        · have : k = j := by omega
                          subst this
                          rw [HXX.out]
                          exact HNK.out
                    | true =>
                      have HEX := Lib.hid (pfx_eq_hex HXO.out.p HUO.out.p h0)
                      clear h0
                      cases h1 : (x.s == u.s) with
                      | false =>
                        have HNK : Hid (¬ (x.p = u.p ∧ x.s = u.s)) := Lib.hid (fun h => by rw [h.2] at h1; simp at h1)
                        go_wp2_with (first | ((with_reducible show wpList _ _ _ (Oper.mk _ (Op.load _ _) _ _ _ _ :: _) _ _); refine wpList_load_g (HGN.out) _ rfl rfl (by go_simp) ?_) | ((with_reducible show wpList _ _ _ (Oper.mk _ (Op.load _ _) _ _ _ _ :: _) _ _); refine wpList_load_g (HLX.out.pfx) _ rfl rfl (by go_simp) ?_) | ((with_reducible show wpList _ _ _ (Oper.mk _ (Op.load _ _) _ _ _ _ :: _) _ _); refine wpList_load_g (HLV.out.pfx) _ rfl rfl (by go_simp) ?_) | ((with_reducible show wpList _ _ _ (Oper.mk _ (Op.load _ _) _ _ _ _ :: _) _ _); refine wpList_load_g (HLX.out.src) _ rfl rfl (by go_simp) ?_) | ((with_reducible show wpList _ _ _ (Oper.mk _ (Op.load _ _) _ _ _ _ :: _) _ _); refine wpList_load_g (HLV.out.src) _ rfl rfl (by go_simp) ?_) | ((with_reducible show wpList _ _ _ (Oper.mk _ (Op.binOp _ _ _ _ _) _ _ _ _ :: _) _ _); refine wpList_exw rfl (HEX.out _ _ _ _ _ rfl rfl rfl _) ?_))
                        go_roundw
                        case measure => simp [intOf]; omega
                        case rel =>
                          refine ⟨j + 1, by go_num, by omega, below_step HJ.out.2.1 HBX.out, fun _ => HG0.out, fun k hk => ?_⟩
                          by_cases hkj : k < j
                          · exact HJ.out.2.2.2 k hkj
                          · have : k = j := by omega
                            subst this
                            rw [HXX.out]
                            exact HNK.out
                      | true =>
                        go_wp2_with (first | ((with_reducible show wpList _ _ _ (Oper.mk _ (Op.load _ _) _ _ _ _ :: _) _ _); refine wpList_load_g (HGN.out) _ rfl rfl (by go_simp) ?_) | ((with_reducible show wpList _ _ _ (Oper.mk _ (Op.load _ _) _ _ _ _ :: _) _ _); refine wpList_load_g (HLX.out.pfx) _ rfl rfl (by go_simp) ?_) | ((with_reducible show wpList _ _ _ (Oper.mk _ (Op.load _ _) _ _ _ _ :: _) _ _); refine wpList_load_g (HLV.out.pfx) _ rfl rfl (by go_simp) ?_) | ((with_reducible show wpList _ _ _ (Oper.mk _ (Op.load _ _) _ _ _ _ :: _) _ _); refine wpList_load_g (HLX.out.src) _ rfl rfl (by go_simp) ?_) | ((with_reducible show wpList _ _ _ (Oper.mk _ (Op.load _ _) _ _ _ _ :: _) _ _); refine wpList_load_g (HLV.out.src) _ rfl rfl (by go_simp) ?_) | ((with_reducible show wpList _ _ _ (Oper.mk _ (Op.binOp _ _ _ _ _) _ _ _ _ :: _) _ _); refine wpList_exw rfl (HEX.out _ _ _ _ _ rfl rfl rfl _) ?_))
                        go_ret
                        exact ⟨rfl, HBE2.out⟩
                · have hjt' : decide (j < n) = false := decide_eq_false hjt
                  have HNK : Hid (∀ r ∈ l, ¬ (r.p = u.p ∧ r.s = u.s)) := Lib.hid (fun r hr => by
                    obtain ⟨k, hk, hk2⟩ := mem_getD (z := rteZ) hr
                    have h1 := HR.out.len
                    have := HJ.out.2.2.2 k (by omega)
                    unfold rteAt at this
                    rwa [hk2] at this)
                  have HKJ := Lib.hid (HKU.out.step HJ.out.2.1)
                  have HGN := Lib.hid (HLU.out.all _ (Below.refl _ _)).gon
                  have HBJ2 := Lib.hid (below_step HBE.out HBJ.out)
                  clear hjt HJ
                  cases hg : u.g with
                  | true =>
                    rw [hg] at HGN
                    go_wp2_with (first | ((with_reducible show wpList _ _ _ (Oper.mk _ (Op.load _ _) _ _ _ _ :: _) _ _); refine wpList_load_g (HGN.out) _ rfl rfl (by go_simp) ?_))
                    go_ret
                    exact ⟨rfl, HBJ2.out⟩
                  | false =>
                    rw [hg] at HGN
                    have HG0 := Lib.hid hg
                    clear hg
                    have HF : Hid ((goneU u).fits) := Lib.hid HUO.out.fits
                    have hp16l := HUO.out.p.l.len
                    have hbz := below_alloc (Below.refl wj.heap.size wj) (.cells (updK.enc (goneU u)).toArray updK.t)
                    have HKb := Lib.hid (HKJ.out.step hbz)
                    have hwj : wf.heap.size < wj.heap.size := blk_lt HKJ.out.tab
                    clear hbz
                    go_wp2_with (first | ((with_reducible show wpList _ _ _ (Oper.mk _ (Op.load _ _) _ _ _ _ :: _) _ _); refine wpList_load_g (HGN.out) _ rfl rfl (by go_simp) ?_) | ((with_reducible show wpList _ _ _ (Oper.mk _ (Op.load _ _) _ _ _ _ :: _) _ _); refine wpList_load_g (((bat_at HKJ.out.tab).all _ (Below.refl _ _)).2) _ rfl rfl (by go_simp) ?_) | ((with_reducible show wpList _ _ _ (Oper.mk _ (Op.load _ _) _ _ _ _ :: _) _ _); refine wpList_load_g ((HLU.out.all _ (Below.refl _ _)).pfx) _ rfl rfl (by go_simp) ?_) | ((with_reducible show wpList _ _ _ (Oper.mk _ (Op.load _ _) _ _ _ _ :: _) _ _); refine wpList_load_g ((HLU.out.all _ (Below.refl _ _)).src) _ rfl rfl (by go_simp) ?_) | ((with_reducible show wpList _ _ _ (Oper.mk _ (Op.build 75 _) _ _ _ _ :: _) _ _); refine wpList_exw rfl (exec_build3 rfl rfl rfl rfl (run_build_updg _ u.p u.s true hp16l)) ?_) | ((with_reducible show wpList _ _ _ (Oper.mk _ (Op.buildSlice _ _ _) _ _ _ _ :: _) _ _); refine wpList_exw rfl (exec_lit1 updK (x := .tmp 155) rfl (goneU u) rfl HF.out (by show 22 ≤ _; omega) _) ?_) | (at_builtin; refine wpList_append_shp updK rfl (.tmp 150) (.tmp 156) rfl rfl rfl HKb.out.own (OS.one updK wj 0 (goneU u) (Nat.zero_le _) HF.out).reads (by simp; omega) (by omega) ?_; intro A9 c9 w9 h1 h2 h3; have HT9 := Lib.hid (blk_own2 HKb.out.tab h2 (fun ad e => by have := HKb.out.own.base_ ad e; omega)); have H9 := Lib.hid (And.intro h1 h2); clear h1 h2 h3) | ((with_reducible show wpList _ _ _ (Oper.mk _ (Op.store _ _ _) _ _ _ _ :: _) _ _); refine wpList_store_cell HT9.out 25 0 (.slice A9 (i + 1) c9) (Nat.le_refl _) (by kernel_rfl) rfl rfl _ _ rfl rfl rfl rfl ?_; intro wc hg9 hs9 hb9; have Hc := Lib.hid (And.intro hg9 (show (World.heap wc)[wf.heap.size]? = some (.cells (tabV A9 (i + 1) c9) 27 (0, 0)) from hb9)); clear hg9 hs9 hb9))
                    have HKc := Lib.hid (HKb.out.push H9.out.2 Hc.out.1 H9.out.1 Hc.out.2)
                    clear HKb H9 HT9 Hc
                    go_roundw
                    case measure => simp [intOf]; omega
                    case rel =>
                      refine ⟨i + 1, A9, c9, by go_num, by omega, ?_, fun v hv => ?_⟩
                      · rw [HTK.out, List.map_append]
                        exact HKc.out
                      · rw [HTK.out, List.mem_append, List.mem_singleton] at hv
                        rcases hv with hv | rfl
                        · exact HPR.out v hv
                        · exact ⟨HG0.out, HNK.out⟩
            · have hlt' : decide (i < m) = false := decide_eq_false hlt
              obtain rfl : i = m := by have := HI.out.1; omega
              have HTA : Hid (b.take i = b) := Lib.hid (by rw [← HU.out.len]; exact List.take_length)
              have HPR : Hid (∀ u ∈ b, u.g = false ∧ ∀ r ∈ l, ¬ (r.p = u.p ∧ r.s = u.s)) := Lib.hid (fun u hu => HI.out.2.2 u (by rw [HTA.out]; exact hu))
              have HKI : Hid (BckS wf wi Ak i ck (b.map goneU)) := Lib.hid (by have := HI.out.2.1; rw [HTA.out] at this; exact this)
              have HBA := Lib.hid (back_apply HRB.out HBB.out OK.out OKU.out HA0.out (fun u hu => (HPR.out u hu).1) (fun u hu => (HPR.out u hu).2))
              have HAO := Lib.hid (appR_ok OK.out OKU.out)
              have hne : ne ≤ 10000 := by
                have h1 := HNe.out
                have h2 := appR_len OK.out OKU.out
                have h3 := HR.out.len
                have h4 := HU.out.len
                omega
              clear hlt HI
              go_wp2_with (first | ((with_reducible show wpList _ _ _ (Oper.mk _ (Op.load _ _) _ _ _ _ :: _) _ _); refine wpList_load_g (load_rib (blk_below HGf.out HKI.out.bel)) _ rfl rfl (by go_simp) ?_) | ((with_reducible show wpList _ _ _ (Oper.mk _ (Op.load _ _) _ _ _ _ :: _) _ _); refine wpList_load_g (load_bat HKI.out.tab) _ rfl rfl (by go_simp) ?_))
              refine (rapply_any Ae ne ce (appR l b) Ak i ck (b.map goneU) wi (HL.out.below HBI.out) (HOf.out.below HKI.out.bel) HAO.out hne HKI.out.own.reads HBA.out.2.2 (by omega)).mono ?_
              rw [HBA.out.1, HBA.out.2.1]
              rintro e wp ⟨Ap, np, cp, rfl, hOp, hbp⟩
              have HOp := Lib.hid hOp.reads
              have HNp := Lib.hid hOp.len
              have HBp := Lib.hid (below_step HBI.out hbp)
              have HXp := Lib.hid ((HXf.out.below HKI.out.bel).below hbp)
              clear hOp hbp
              have HZf := Lib.hid (fun (W : World) (h : (wp.alloc (.cells (tabV none 0 0) 24)).grownBy W (some wp.heap.size)) => below_grown (below_alloc (Below.refl wp.heap.size wp) (.cells (tabV none 0 0) 24)) h (Nat.le_refl _))
              go_wp2_with (first | ((with_reducible show wpList _ _ _ (Oper.mk _ (Op.store _ _ _) _ _ _ _ :: _) _ _); refine wpList_store_blk (blk_new wp (.cells (tabV none 0 0) 24)) 24 0 (tabV Ap np cp) (Nat.le_refl _) (info_rib _ _ _) (tab_one _ _ _) _ _ rfl rfl rfl rfl ?_; intro wq hg9 hs9 hb9; rw [splice_tab] at hb9; have Hq := Lib.hid (And.intro hg9 hb9); clear hg9 hs9 hb9) | ((with_reducible show wpList _ _ _ (Oper.mk _ (Op.load _ _) _ _ _ _ :: _) _ _); refine wpList_load_g (load_rib Hq.out.2) _ rfl rfl (by go_simp) ?_))
              have hbpq := HZf.out _ Hq.out.1
              have HBq := Lib.hid (below_step HBp.out hbpq)
              have HXq := Lib.hid (HXp.out.below hbpq)
              have HOq := Lib.hid (HOp.out.below hbpq)
              clear HZf Hq hbpq HXp HOp HBp
              refine (rencode_any Ap np cp l wq (HL.out.below HBq.out) HOq.out OK.out (by have h1 := HNp.out; have h2 := HR.out.len; omega)).mono ?_
              rw [HE.out]
              rintro e wr ⟨Ar, nr, cr, rfl, hOr, -, hbr⟩
              have HOr := Lib.hid hOr.reads
              have HBr := Lib.hid (below_step HBq.out hbr)
              have HXr := Lib.hid (HXq.out.below hbr)
              clear hOr hbr HXq HOq HBq
              go_wp2_with fail
              refine (equal_any A3 n3 c3 (encRib l) Ar nr cr (encRib l) wr HXr.out HOr.out).mono ?_
              rintro e ws ⟨rfl, hbs⟩
              have HBs := Lib.hid (below_step HBr.out hbs)
              clear hbs
              go_wp2
              go_ret
              exact ⟨by simp, below_step HBE.out HBs.out⟩
        · have hAb : (appN l b != 0) = true := by simpa using hA0
          have HAR : Hid (appR l b = []) := Lib.hid (by unfold appR; rw [if_neg hA0])
          have hz : ne = 0 := by rw [← HNe.out, HAR.out]; rfl
          obtain ⟨E, hE⟩ : ∃ E, appN l b = E := ⟨_, rfl⟩
          rw [hE] at hAb ⊢
          subst hz
          clear hA0 hE
          have HZf := Lib.hid (fun (W : World) (h : (we.alloc (.cells (tabV none 0 0) 24)).grownBy W (some we.heap.size)) => below_grown (below_alloc (Below.refl we.heap.size we) (.cells (tabV none 0 0) 24)) h (Nat.le_refl _))
          go_wp2_with (first | ((with_reducible show wpList _ _ _ (Oper.mk _ (Op.store _ _ _) _ _ _ _ :: _) _ _); refine wpList_store_blk (blk_new we (.cells (tabV none 0 0) 24)) 24 0 (tabV Ae 0 ce) (Nat.le_refl _) (info_rib _ _ _) (tab_one _ _ _) _ _ rfl rfl rfl rfl ?_; intro wf hg9 hs9 hb9; rw [splice_tab] at hb9; have Hf := Lib.hid (And.intro hg9 hb9); clear hg9 hs9 hb9) | ((with_reducible show wpList _ _ _ (Oper.mk _ (Op.load _ _) _ _ _ _ :: _) _ _); refine wpList_load_g (((rib_at Hf.out.2).all _ (Below.refl _ _)).2) _ rfl rfl (by go_simp) ?_))
          go_ret
          exact ⟨rfl, below_step HBE.out (below_step HBe.out (HZf.out _ Hf.out.1))⟩
end Go.Proofs.YtnpeedmicjeleaaDoor

/- The walk of RouteBack, as the row asks it. -/
namespace Go.Proofs.YtnpeedmicjeleaaDoor
open Go.RowKit
set_option linter.unusedVariables false
set_option linter.unusedSimpArgs false
set_option maxRecDepth 4000
theorem routeBack_walk (A : Option Addr) (n c : Nat) (l : List Rte) (A2 : Option Addr) (m c2 : Nat) (b : List Upd) (k0 : Int) (w : World) (hL : Laid w) (hr : RS rteK w A n c l) (ok : ∀ a ∈ l, a.ok) (h0 : n * 56 ≤ 140737488351232) (hu : RS updK w A2 m c2 b) (oku : ∀ a ∈ b, a.ok) (h1 : m * 64 ≤ 140737488351232) (hk0 : (Lit.int .i64 k0).wf = true) : Calls Tryd.prog 9 #[.agg (tabV A n c), .agg (tabV A2 m c2), .int .i64 k0] w fun e w' => e = .returned (.bool true) ∧ Below w.heap.size w w' := back11_any A n c l A2 m c2 b k0 w hL hr ok hu oku hk0
end Go.Proofs.YtnpeedmicjeleaaDoor
