/- Layer 11 (route): the document's bytes of a RIB and of a batch. -/
import Derived.Test.YtnpeedmicjeleaaDoorRouteBytesA
import Derived.Test.YtnpeedmicjeleaaDoorRouteBytesD
namespace Go.Proofs.YtnpeedmicjeleaaDoor
open Go.RowKit
set_option linter.unusedVariables false
set_option linter.unusedSimpArgs false
set_option maxRecDepth 4000
set_option maxHeartbeats 4000000 in
theorem refribbytes_any (A : Option Addr) (n c : Nat) (l : List Rte) (w : World) (hr : RS rteK w A n c l) (ok : Okr l) (hrb : ribB l = true) :
    Calls Tryd.prog 33 #[.agg (tabV A n c)] w fun e w' => ∃ A' n' c', e = .returned (.slice A' n' c') ∧ OB w' w.heap.size A' n' c' ((n : Int) :: l.flatMap encRt) ∧ n' ≤ 5000 ∧ Below w.heap.size w w' := by
  have hblk1 := blk_new w (.cells (tabV A n c) 24)
  have hbel1 : Below w.heap.size w (w.alloc (.cells (tabV A n c) 24)) := below_alloc (Below.refl _ _) _
  have HP1 := Lib.hid (rib_at hblk1)
  have HBK1 := Lib.hid hblk1
  have HBE := Lib.hid hbel1
  obtain ⟨cs1, hcs1⟩ : ∃ cs, tabV A n c = cs := ⟨_, rfl⟩
  simp only [hcs1] at HBE HP1 HBK1 ⊢
  have HC1 := Lib.hid hcs1
  clear hcs1 hblk1 hbel1
  have HR := Lib.hid (hr.below HBE.out)
  have OK := Lib.hid ok
  have HRB := Lib.hid hrb
  have hn : n ≤ 160 := by
    rw [← hr.len]
    have h := hrb
    unfold ribB ribsB at h
    simp only [Bool.and_eq_true, decide_eq_true_eq] at h
    exact h.1.1.1
  have hw8 : IntKind.u8.wrap (n : Int) = n := by rw [u8w]; omega
  have HFT := Lib.hid (fun (x : Rte) (hx : x ∈ l) => show x.p.right = true from by
    have h := hrb
    unfold ribB ribsB at h
    simp only [Bool.and_eq_true, List.all_eq_true] at h
    have h1 := h.1.1.2 x hx
    unfold Rte.fit fitB at h1
    simp only [Bool.and_eq_true] at h1
    exact h1.1.1.1.1.1.1)
  have HO0 := Lib.hid ((OB.one (w.alloc (.cells cs1 24)) (n : Int) (by omega) w.heap.size (by simp)))
  clear hr ok hrb
  go_enter Tryd.func33, Tryd.ntmps33
  go_wp2_with (first | ((with_reducible show wpList _ _ _ (Oper.mk _ (Op.load _ _) _ _ _ _ :: _) _ _); refine wpList_load_g ((HP1.out.all _ (Below.refl _ _)).2) _ rfl rfl (by go_simp) ?_))
  go_loopw [3, 4] (fun s3 s4 wr => ∃ (i : Nat) (A1 : Option Addr) (n1 c1 : Nat), s4 = .int .i64 i ∧ s3 = .slice A1 n1 c1 ∧ Hid (i ≤ n ∧ n1 ≤ 1 + 22 * i ∧ OB wr w.heap.size A1 n1 c1 ((n : Int) :: (l.take i).flatMap encRt) ∧ Below (w.alloc (.cells cs1 24)).heap.size (w.alloc (.cells cs1 24)) wr)) (fun _ y _ => n - (intOf y).toNat)
  case atStart => exact ⟨0, _, 1, 1, rfl, rfl, Nat.zero_le _, by omega, by have h := HO0.out; simpa using h, below_alloc (Below.refl _ _) _⟩
  case round =>
    obtain ⟨i, A1, n1, c1, rfl, rfl, HI⟩ := hrel
    obtain ⟨wk, rfl⟩ : ∃ wk, wk = wr := ⟨wr, rfl⟩
    have hn1 := HI.out.2.1
    have HBI := Lib.hid HI.out.2.2.2
    by_cases hlt : i < n
    · have hlt' : (i : Int) < n := by omega
      obtain ⟨b, o, rfl, hc⟩ := RS.at_ HR.out (by omega)
      have hil : i < l.length := by rw [HR.out.len]; exact hlt
      have HXO := Lib.hid (OK.out.at_ hil)
      have hla := Shape.ld rteK wk b _ _ (RS.fits_at HR.out hlt) ((hc i hlt).below HBI.out)
      have hla : (Instr.loadAt 51 (.pointer (some ⟨b, o + i * 21, none⟩))).run Tryd.prog wk = .ok (.agg (rteV (rteAt l i))) wk := hla
      have HPR := Lib.hid (HFT.out _ (getD_mem (z := rteZ) hil))
      have HTS : Hid ((n : Int) :: (l.take (i + 1)).flatMap encRt = ((n : Int) :: (l.take i).flatMap encRt) ++ encP (rteAt l i).p ++ [(rteAt l i).s % 256, (rteAt l i).f % 256, (rteAt l i).h % 256]) := Lib.hid (by
        rw [take_getD rteZ hil]
        simp only [List.flatMap_append, List.flatMap_cons, List.flatMap_nil, List.append_nil, encRt, encPE_yes HPR.out, List.cons_append, List.append_assoc])
      obtain ⟨x, hx⟩ : ∃ x, rteAt l i = x := ⟨_, rfl⟩
      rw [hx] at hla HXO HTS
      have HPR : Hid (x.p.right = true) := Lib.hid (by rw [← hx]; exact HPR.out)
      have HPB : Hid (0 ≤ x.p.b ∧ x.p.b ≤ 128) := Lib.hid (by
        obtain ⟨b, hb, _, h2⟩ := right_b HPR.out
        omega)
      have HM : Hid (Bytes [x.s % 256, x.f % 256, x.h % 256]) := Lib.hid (fun y hy => by
        simp only [List.mem_cons, List.not_mem_nil, or_false] at hy
        rcases hy with rfl | rfl | rfl <;> omega)
      have HB2f := Lib.hid (fun (W : World) (h : (wk.alloc (.cells (rteV rteZ) 51)).grownBy W (some wk.heap.size)) => below_grown (below_alloc (Below.refl wk.heap.size wk) (.cells (rteV rteZ) 51)) h (Nat.le_refl _))
      clear hc hil hx
      go_upto_region 6 with (first | ((with_reducible show wpList _ _ _ (Oper.mk _ (Op.load _ _) _ _ _ _ :: _) _ _); refine wpList_load_g ((HP1.out.all _ HBI.out).2) _ rfl rfl (by go_simp) ?_) | ((with_reducible show wpList _ _ _ (Oper.mk _ (Op.load _ _) _ _ _ _ :: _) _ _); refine wpList_load_g hla _ rfl rfl (by go_simp) ?_) | ((with_reducible show wpList _ _ _ (Oper.mk _ (Op.store _ _ _) _ _ _ _ :: _) _ _); refine wpList_store_blk (blk_new wk _) 51 0 (rteV x) (store_rte_fit HXO.out.fits rfl) (info_rte HXO.out.fits) (rteV_one _) _ _ rfl rfl rfl rfl ?_; intro w2 hg9 hs9 hb9; rw [splice_rte HXO.out.fits rfl] at hb9; have H2 := Lib.hid (And.intro hg9 hb9); clear hg9 hs9 hb9))
      dsimp only [Act.put]
      have HB2 := Lib.hid (HB2f.out _ H2.out.1)
      have HBW2 := Lib.hid (below_step HBI.out HB2.out)
      have HX2 := Lib.hid (rte_at HXO.out.fits H2.out.2)
      have HO1 := Lib.hid (HI.out.2.2.1.below HB2.out)
      have HSW : Hid (w.heap.size ≤ w2.heap.size) := Lib.hid (Nat.le_trans HBE.out.size HBW2.out.size)
      obtain ⟨gx, hgx⟩ : ∃ g, wk.heap.size = g := ⟨_, rfl⟩
      rw [hgx] at HX2 ⊢
      clear HB2f H2 hla hgx
      have HBD := Lib.hid (below_drew1 w2)
      refine wp_region_fork ((fun w0 => Below w2.heap.size w2 w0)) (OrdT.fork [0, 1, 2, 5, 6, 7, 8, 9, 10, 11, 12, 13] 3 14 (OrdT.fork [] 4 14 (OrdT.lin [14, 15, 16]) (OrdT.lin [4, 15, 16])) (OrdT.lin [3, 4, 15, 16])) [(0, 0), (1, 0), (2, 0), (3, 2), (4, 2), (5, 0), (6, 0), (7, 0), (8, 0), (9, 0), (10, 0), (11, 0), (12, 0), (13, 0), (14, 2), (15, 2), (16, 0)] (by kernel_rfl) (by kernel_rfl) ((below_drew1 _)) ?_
      simp only [wpF]
      iterate 2 (refine wpO_step0 rfl rfl (fun K hK => ?_); go_simp; refine hK _ _ ?_; clear hK K)
      refine wpO_loadW (t := 49) (ad := ⟨gx, 0, none⟩) rfl rfl ?hw rfl rfl ((fun w0 hS => (HX2.out.all w0 hS).pfx)) ?_
      case hw => go_simp
      iterate 1 (refine wpO_step0 rfl rfl (fun K hK => ?_); go_simp; refine hK _ _ ?_; clear hK K)
      refine wpO_loadW (t := 3) (ad := ⟨gx, 18, none⟩) rfl rfl ?hw rfl rfl ((fun w0 hS => (HX2.out.all w0 hS).src)) ?_
      case hw => go_simp
      iterate 2 (refine wpO_step0 rfl rfl (fun K hK => ?_); go_simp; refine hK _ _ ?_; clear hK K)
      refine wpO_loadW (t := 3) (ad := ⟨gx, 19, none⟩) rfl rfl ?hw rfl rfl ((fun w0 hS => (HX2.out.all w0 hS).prf)) ?_
      case hw => go_simp
      iterate 2 (refine wpO_step0 rfl rfl (fun K hK => ?_); go_simp; refine hK _ _ ?_; clear hK K)
      refine wpO_loadW (t := 3) (ad := ⟨gx, 20, none⟩) rfl rfl ?hw rfl rfl ((fun w0 hS => (HX2.out.all w0 hS).hop)) ?_
      case hw => go_simp
      iterate 1 (refine wpO_step0 rfl rfl (fun K hK => ?_); go_simp; refine hK _ _ ?_; clear hK K)
      rw [u8w x.s, u8w x.f, u8w x.h]
      refine wpO_nil ⟨?_, ?_⟩
      · refine wpO_step2 rfl rfl (HBD.out) (fun K hK => ?_)
        go_simp
        refine (refbytes_any x.p _ HXO.out.p.l HPB.out.1 HPB.out.2).mono ?_
        rintro e w21 ⟨A2, n2, c2, rfl, hO2, hb2⟩
        have hn2 : n2 ≤ 18 := by
          have h1 := encPE_len HXO.out.p.l
          rw [encPE_yes HPR.out, hO2.len] at h1
          exact h1
        have HBC := Lib.hid (below_step HBD.out hb2)
        have HO2 := Lib.hid hO2.reads
        try replace HLB := Lib.hid (blk_below HLB.out hb2)
        clear hO2 hb2
        refine hK _ _ ⟨HBC.out, ?_⟩
        clear hK K
        refine wpO_nil (wpO_nil ⟨?_, ?_⟩)
        · refine wpO_step2 rfl rfl (HBC.out) (fun K hK => ?_)
          go_simp
          refine (both_any A1 n1 c1 _ A2 n2 c2 _ _ (HO1.out.reads.below HBC.out) HO2.out (by omega)).mono ?_
          rintro e w22 ⟨A3, rfl, hO3, hb3⟩
          have HO3 := Lib.hid (hO3.lower HBC.out.size)
          have HBK := Lib.hid (below_step HBC.out hb3)
          try replace HLB := Lib.hid (blk_below HLB.out hb3)
          clear hO3 hb3
          refine hK _ _ ⟨HBK.out, ?_⟩
          clear hK K
          refine wpO_nil ?_
          refine wpO_step2 rfl rfl (HBK.out) (fun K hK => ?_)
          go_simp
          obtain ⟨w23, hw9⟩ : ∃ w9, World.alloc w22 (.cells (nums .u8 [x.s % 256, x.f % 256, x.h % 256]).toArray 5) = w9 := ⟨_, rfl⟩
          have HLB := Lib.hid (show (World.heap w23)[(World.heap w22).size]? = some (.cells (nums .u8 [x.s % 256, x.f % 256, x.h % 256]).toArray 5 (0, 0)) from hw9 ▸ blk_new _ _)
          have ha9 : Below (World.heap w22).size w22 w23 := hw9 ▸ below_alloc (Below.refl _ _) _
          have HBL := Lib.hid (below_step HBK.out ha9)
          refine kw_cast hw9 ?_
          try replace HO2 := Lib.hid (HO2.out.below ha9)
          try replace HO3 := Lib.hid (HO3.out.below ha9)
          clear hw9 ha9
          refine hK _ _ ⟨HBL.out, ?_⟩
          clear hK K
          refine wpO_step2 rfl rfl (HBL.out) (fun K hK => ?_)
          rw [if_pos (show Region.wanted _ _ = true from rfl)]
          refine oper_append_bytes (.tmp 27) (.tmp 37) rfl rfl rfl HO3.out (rb_blk HLB.out (by simp) HM.out) HBL.out.size (by simp; omega) ?_
          intro A5 c5 w5 h1 h2 h3
          have HB5 := Lib.hid (below_own HBL.out h2 HO3.out.base_)
          have H5 := Lib.hid h1
          clear h1 h2 h3
          refine hK _ _ ⟨HB5.out, ?_⟩
          clear hK K
          iterate 1 (refine wpO_step0 rfl rfl (fun K hK => ?_); go_simp; refine hK _ _ ?_; clear hK K)
          refine wpO_nil ?_
          go_wp2_with fail
          go_roundw
          case measure => simp [intOf]; omega
          case rel => exact ⟨i + 1, A5, _, c5, by go_num, rfl, by omega, by omega, by rw [HTS.out]; exact H5.out.lower HSW.out, below_step HBW2.out HB5.out⟩
        · refine wpO_step2 rfl rfl (HBC.out) (fun K hK => ?_)
          go_simp
          obtain ⟨w22, hw9⟩ : ∃ w9, World.alloc w21 (.cells (nums .u8 [x.s % 256, x.f % 256, x.h % 256]).toArray 5) = w9 := ⟨_, rfl⟩
          have HLB := Lib.hid (show (World.heap w22)[(World.heap w21).size]? = some (.cells (nums .u8 [x.s % 256, x.f % 256, x.h % 256]).toArray 5 (0, 0)) from hw9 ▸ blk_new _ _)
          have ha9 : Below (World.heap w21).size w21 w22 := hw9 ▸ below_alloc (Below.refl _ _) _
          have HBK := Lib.hid (below_step HBC.out ha9)
          refine kw_cast hw9 ?_
          try replace HO2 := Lib.hid (HO2.out.below ha9)
          try replace HO3 := Lib.hid (HO3.out.below ha9)
          clear hw9 ha9
          refine hK _ _ ⟨HBK.out, ?_⟩
          clear hK K
          refine wpO_nil ?_
          refine wpO_step2 rfl rfl (HBK.out) (fun K hK => ?_)
          go_simp
          refine (both_any A1 n1 c1 _ A2 n2 c2 _ _ (HO1.out.reads.below HBK.out) HO2.out (by omega)).mono ?_
          rintro e w23 ⟨A3, rfl, hO3, hb3⟩
          have HO3 := Lib.hid (hO3.lower HBK.out.size)
          have HBL := Lib.hid (below_step HBK.out hb3)
          try replace HLB := Lib.hid (blk_below HLB.out hb3)
          clear hO3 hb3
          refine hK _ _ ⟨HBL.out, ?_⟩
          clear hK K
          refine wpO_step2 rfl rfl (HBL.out) (fun K hK => ?_)
          rw [if_pos (show Region.wanted _ _ = true from rfl)]
          refine oper_append_bytes (.tmp 27) (.tmp 37) rfl rfl rfl HO3.out (rb_blk HLB.out (by simp) HM.out) HBL.out.size (by simp; omega) ?_
          intro A5 c5 w5 h1 h2 h3
          have HB5 := Lib.hid (below_own HBL.out h2 HO3.out.base_)
          have H5 := Lib.hid h1
          clear h1 h2 h3
          refine hK _ _ ⟨HB5.out, ?_⟩
          clear hK K
          iterate 1 (refine wpO_step0 rfl rfl (fun K hK => ?_); go_simp; refine hK _ _ ?_; clear hK K)
          refine wpO_nil ?_
          go_wp2_with fail
          go_roundw
          case measure => simp [intOf]; omega
          case rel => exact ⟨i + 1, A5, _, c5, by go_num, rfl, by omega, by omega, by rw [HTS.out]; exact H5.out.lower HSW.out, below_step HBW2.out HB5.out⟩
      · refine wpO_step2 rfl rfl (HBD.out) (fun K hK => ?_)
        go_simp
        obtain ⟨w21, hw9⟩ : ∃ w9, World.alloc w2.drew (.cells (nums .u8 [x.s % 256, x.f % 256, x.h % 256]).toArray 5) = w9 := ⟨_, rfl⟩
        have HLB := Lib.hid (show (World.heap w21)[(World.heap w2.drew).size]? = some (.cells (nums .u8 [x.s % 256, x.f % 256, x.h % 256]).toArray 5 (0, 0)) from hw9 ▸ blk_new _ _)
        have ha9 : Below (World.heap w2.drew).size w2.drew w21 := hw9 ▸ below_alloc (Below.refl _ _) _
        have HBC := Lib.hid (below_step HBD.out ha9)
        refine kw_cast hw9 ?_
        try replace HO2 := Lib.hid (HO2.out.below ha9)
        try replace HO3 := Lib.hid (HO3.out.below ha9)
        clear hw9 ha9
        refine hK _ _ ⟨HBC.out, ?_⟩
        clear hK K
        refine wpO_nil ?_
        refine wpO_step2 rfl rfl (HBC.out) (fun K hK => ?_)
        go_simp
        refine (refbytes_any x.p _ HXO.out.p.l HPB.out.1 HPB.out.2).mono ?_
        rintro e w22 ⟨A2, n2, c2, rfl, hO2, hb2⟩
        have hn2 : n2 ≤ 18 := by
          have h1 := encPE_len HXO.out.p.l
          rw [encPE_yes HPR.out, hO2.len] at h1
          exact h1
        have HBK := Lib.hid (below_step HBC.out hb2)
        have HO2 := Lib.hid hO2.reads
        try replace HLB := Lib.hid (blk_below HLB.out hb2)
        clear hO2 hb2
        refine hK _ _ ⟨HBK.out, ?_⟩
        clear hK K
        refine wpO_step2 rfl rfl (HBK.out) (fun K hK => ?_)
        go_simp
        refine (both_any A1 n1 c1 _ A2 n2 c2 _ _ (HO1.out.reads.below HBK.out) HO2.out (by omega)).mono ?_
        rintro e w23 ⟨A3, rfl, hO3, hb3⟩
        have HO3 := Lib.hid (hO3.lower HBK.out.size)
        have HBL := Lib.hid (below_step HBK.out hb3)
        try replace HLB := Lib.hid (blk_below HLB.out hb3)
        clear hO3 hb3
        refine hK _ _ ⟨HBL.out, ?_⟩
        clear hK K
        refine wpO_step2 rfl rfl (HBL.out) (fun K hK => ?_)
        rw [if_pos (show Region.wanted _ _ = true from rfl)]
        refine oper_append_bytes (.tmp 27) (.tmp 37) rfl rfl rfl HO3.out (rb_blk HLB.out (by simp) HM.out) HBL.out.size (by simp; omega) ?_
        intro A5 c5 w5 h1 h2 h3
        have HB5 := Lib.hid (below_own HBL.out h2 HO3.out.base_)
        have H5 := Lib.hid h1
        clear h1 h2 h3
        refine hK _ _ ⟨HB5.out, ?_⟩
        clear hK K
        iterate 1 (refine wpO_step0 rfl rfl (fun K hK => ?_); go_simp; refine hK _ _ ?_; clear hK K)
        refine wpO_nil ?_
        go_wp2_with fail
        go_roundw
        case measure => simp [intOf]; omega
        case rel => exact ⟨i + 1, A5, _, c5, by go_num, rfl, by omega, by omega, by rw [HTS.out]; exact H5.out.lower HSW.out, below_step HBW2.out HB5.out⟩
    · have hlt' : decide (i < n) = false := decide_eq_false hlt
      have hi : i = l.length := by rw [HR.out.len]; have := HI.out.1; omega
      have HT : Hid (l.take i = l) := Lib.hid (by rw [hi, List.take_length])
      clear hlt hi
      go_wp2_with (first | ((with_reducible show wpList _ _ _ (Oper.mk _ (Op.load _ _) _ _ _ _ :: _) _ _); refine wpList_load_g ((HP1.out.all _ HBI.out).2) _ rfl rfl (by go_simp) ?_))
      go_ret
      refine ⟨A1, n1, c1, rfl, ?_, by have := HI.out.1; omega, below_step HBE.out HBI.out⟩
      have h := HI.out.2.2.1
      rwa [HT.out] at h
set_option maxHeartbeats 4000000 in
theorem refbatbytes_any (A : Option Addr) (n c : Nat) (l : List Upd) (w : World) (hr : RS updK w A n c l) (ok : Oku l) (hrb : batB l = true) :
    Calls Tryd.prog 34 #[.agg (tabV A n c)] w fun e w' => ∃ A' n' c', e = .returned (.slice A' n' c') ∧ OB w' w.heap.size A' n' c' ((n : Int) :: l.flatMap encUp) ∧ n' ≤ 5000 ∧ Below w.heap.size w w' := by
  have hblk1 := blk_new w (.cells (tabV A n c) 27)
  have hbel1 : Below w.heap.size w (w.alloc (.cells (tabV A n c) 27)) := below_alloc (Below.refl _ _) _
  have HP1 := Lib.hid (bat_at hblk1)
  have HBK1 := Lib.hid hblk1
  have HBE := Lib.hid hbel1
  obtain ⟨cs1, hcs1⟩ : ∃ cs, tabV A n c = cs := ⟨_, rfl⟩
  simp only [hcs1] at HBE HP1 HBK1 ⊢
  have HC1 := Lib.hid hcs1
  clear hcs1 hblk1 hbel1
  have HR := Lib.hid (hr.below HBE.out)
  have OK := Lib.hid ok
  have HRB := Lib.hid hrb
  have hn : n ≤ 160 := by
    rw [← hr.len]
    have h := batB_len hrb
    omega
  have hw8 : IntKind.u8.wrap (n : Int) = n := by rw [u8w]; omega
  have HFT := Lib.hid (fun (x : Upd) (hx : x ∈ l) => show x.p.right = true from by
    have h := hrb
    unfold batB at h
    rw [Bool.and_eq_true, batsB_iff] at h
    obtain ⟨j, hj, rfl⟩ := mem_getD (z := updZ) hx
    have h1 := (h.2 j hj).1
    unfold updB fitB at h1
    split at h1
    · simp only [Bool.and_eq_true] at h1
      exact h1.2.1.1.1.1.1.1
    · simp only [Bool.and_eq_true] at h1
      exact h1.1.1.1.1.1.1)
  have HO0 := Lib.hid ((OB.one (w.alloc (.cells cs1 27)) (n : Int) (by omega) w.heap.size (by simp)))
  clear hr ok hrb
  go_enter Tryd.func34, Tryd.ntmps34
  go_wp2_with (first | ((with_reducible show wpList _ _ _ (Oper.mk _ (Op.load _ _) _ _ _ _ :: _) _ _); refine wpList_load_g ((HP1.out.all _ (Below.refl _ _)).2) _ rfl rfl (by go_simp) ?_))
  go_loopw [3, 4] (fun s3 s4 wr => ∃ (i : Nat) (A1 : Option Addr) (n1 c1 : Nat), s4 = .int .i64 i ∧ s3 = .slice A1 n1 c1 ∧ Hid (i ≤ n ∧ n1 ≤ 1 + 22 * i ∧ OB wr w.heap.size A1 n1 c1 ((n : Int) :: (l.take i).flatMap encUp) ∧ Below (w.alloc (.cells cs1 27)).heap.size (w.alloc (.cells cs1 27)) wr)) (fun _ y _ => n - (intOf y).toNat)
  case atStart => exact ⟨0, _, 1, 1, rfl, rfl, Nat.zero_le _, by omega, by have h := HO0.out; simpa using h, below_alloc (Below.refl _ _) _⟩
  case round =>
    obtain ⟨i, A1, n1, c1, rfl, rfl, HI⟩ := hrel
    obtain ⟨wk, rfl⟩ : ∃ wk, wk = wr := ⟨wr, rfl⟩
    have hn1 := HI.out.2.1
    have HBI := Lib.hid HI.out.2.2.2
    by_cases hlt : i < n
    · have hlt' : (i : Int) < n := by omega
      obtain ⟨b, o, rfl, hc⟩ := RS.at_ HR.out (by omega)
      have hil : i < l.length := by rw [HR.out.len]; exact hlt
      have HXO := Lib.hid (OK.out.at_ hil)
      have hla := Shape.ld updK wk b _ _ (RS.fits_at HR.out hlt) ((hc i hlt).below HBI.out)
      have hla : (Instr.loadAt 75 (.pointer (some ⟨b, o + i * 22, none⟩))).run Tryd.prog wk = .ok (.agg (updV (updAt l i))) wk := hla
      have HPR := Lib.hid (HFT.out _ (getD_mem (z := updZ) hil))
      have HTS : Hid ((n : Int) :: (l.take (i + 1)).flatMap encUp = ((n : Int) :: (l.take i).flatMap encUp) ++ encP (updAt l i).p ++ [(updAt l i).s % 256, goneB (updAt l i).g, (updAt l i).f % 256, (updAt l i).h % 256]) := Lib.hid (by
        rw [take_getD updZ hil]
        simp only [List.flatMap_append, List.flatMap_cons, List.flatMap_nil, List.append_nil, encUp, encPE_yes HPR.out, List.cons_append, List.append_assoc])
      obtain ⟨x, hx⟩ : ∃ x, updAt l i = x := ⟨_, rfl⟩
      rw [hx] at hla HXO HTS
      have HPR : Hid (x.p.right = true) := Lib.hid (by rw [← hx]; exact HPR.out)
      have HPB : Hid (0 ≤ x.p.b ∧ x.p.b ≤ 128) := Lib.hid (by
        obtain ⟨b, hb, _, h2⟩ := right_b HPR.out
        omega)
      have HB2f := Lib.hid (fun (W : World) (h : (wk.alloc (.cells (updV updZ) 75)).grownBy W (some wk.heap.size)) => below_grown (below_alloc (Below.refl wk.heap.size wk) (.cells (updV updZ) 75)) h (Nat.le_refl _))
      clear hc hil hx
      go_upto_region 7 with (first | ((with_reducible show wpList _ _ _ (Oper.mk _ (Op.load _ _) _ _ _ _ :: _) _ _); refine wpList_load_g ((HP1.out.all _ HBI.out).2) _ rfl rfl (by go_simp) ?_) | ((with_reducible show wpList _ _ _ (Oper.mk _ (Op.load _ _) _ _ _ _ :: _) _ _); refine wpList_load_g hla _ rfl rfl (by go_simp) ?_) | ((with_reducible show wpList _ _ _ (Oper.mk _ (Op.store _ _ _) _ _ _ _ :: _) _ _); refine wpList_store_blk (blk_new wk _) 75 0 (updV x) (store_upd_fit HXO.out.fits rfl) (info_upd HXO.out.fits) (updV_one _) _ _ rfl rfl rfl rfl ?_; intro w2 hg9 hs9 hb9; rw [splice_upd HXO.out.fits rfl] at hb9; have H2 := Lib.hid (And.intro hg9 hb9); clear hg9 hs9 hb9))
      try dsimp only [Act.put]
      have HB2 := Lib.hid (HB2f.out _ H2.out.1)
      have HBW2 := Lib.hid (below_step HBI.out HB2.out)
      have HX2 := Lib.hid (upd_at HXO.out.fits H2.out.2)
      have HO1 := Lib.hid (HI.out.2.2.1.below HB2.out)
      have HSW : Hid (w.heap.size ≤ w2.heap.size) := Lib.hid (Nat.le_trans HBE.out.size HBW2.out.size)
      obtain ⟨gx, hgx⟩ : ∃ g, wk.heap.size = g := ⟨_, rfl⟩
      rw [hgx] at HX2 ⊢
      clear HB2f H2 hla hgx
      have HBD := Lib.hid (below_drew1 w2)
      have hgl := (HX2.out.all w2 (Below.refl _ _)).gon
      cases hg : x.g with
      | true =>
        rw [hg] at hgl HTS
        clear hg
        have HTS : Hid ((n : Int) :: (l.take (i + 1)).flatMap encUp = ((n : Int) :: (l.take i).flatMap encUp) ++ encP x.p ++ [x.s % 256, 1, x.f % 256, x.h % 256]) := HTS
        have HM : Hid (Bytes [x.s % 256, 1, x.f % 256, x.h % 256]) := Lib.hid (fun y hy => by
          simp only [List.mem_cons, List.not_mem_nil, or_false] at hy
          rcases hy with rfl | rfl | rfl | rfl <;> omega)
        go_upto_region 9 with (first | ((with_reducible show wpList _ _ _ (Oper.mk _ (Op.load _ _) _ _ _ _ :: _) _ _); refine wpList_load_g hgl _ rfl rfl (by go_simp) ?_))
        clear hgl
        refine wp_region_fork ((fun w0 => Below w2.heap.size w2 w0)) (OrdT.fork [0, 1, 2, 5, 6, 7, 8, 9, 10, 11, 12, 13, 14] 3 15 (OrdT.fork [] 4 15 (OrdT.lin [15, 16, 17]) (OrdT.lin [4, 16, 17])) (OrdT.lin [3, 4, 16, 17])) [(0, 0), (1, 0), (2, 0), (3, 2), (4, 2), (5, 0), (6, 0), (7, 0), (8, 0), (9, 0), (10, 0), (11, 0), (12, 0), (13, 0), (14, 0), (15, 2), (16, 2), (17, 0)] (by kernel_rfl) (by kernel_rfl) ((below_drew1 _)) ?_
        simp only [wpF]
        iterate 2 (refine wpO_step0 rfl rfl (fun K hK => ?_); go_simp; refine hK _ _ ?_; clear hK K)
        refine wpO_loadW (t := 49) (ad := ⟨gx, 0, none⟩) rfl rfl ?hw rfl rfl ((fun w0 hS => (HX2.out.all w0 hS).pfx)) ?_
        case hw => go_simp
        iterate 1 (refine wpO_step0 rfl rfl (fun K hK => ?_); go_simp; refine hK _ _ ?_; clear hK K)
        refine wpO_loadW (t := 3) (ad := ⟨gx, 18, none⟩) rfl rfl ?hw rfl rfl ((fun w0 hS => (HX2.out.all w0 hS).src)) ?_
        case hw => go_simp
        iterate 3 (refine wpO_step0 rfl rfl (fun K hK => ?_); go_simp; refine hK _ _ ?_; clear hK K)
        refine wpO_loadW (t := 3) (ad := ⟨gx, 20, none⟩) rfl rfl ?hw rfl rfl ((fun w0 hS => (HX2.out.all w0 hS).prf)) ?_
        case hw => go_simp
        iterate 2 (refine wpO_step0 rfl rfl (fun K hK => ?_); go_simp; refine hK _ _ ?_; clear hK K)
        refine wpO_loadW (t := 3) (ad := ⟨gx, 21, none⟩) rfl rfl ?hw rfl rfl ((fun w0 hS => (HX2.out.all w0 hS).hop)) ?_
        case hw => go_simp
        iterate 1 (refine wpO_step0 rfl rfl (fun K hK => ?_); go_simp; refine hK _ _ ?_; clear hK K)
        rw [u8w x.s, u8w x.f, u8w x.h]
        refine wpO_nil ⟨?_, ?_⟩
        · refine wpO_step2 rfl rfl (HBD.out) (fun K hK => ?_)
          go_simp
          refine (refbytes_any x.p _ HXO.out.p.l HPB.out.1 HPB.out.2).mono ?_
          rintro e w21 ⟨A2, n2, c2, rfl, hO2, hb2⟩
          have hn2 : n2 ≤ 18 := by
            have h1 := encPE_len HXO.out.p.l
            rw [encPE_yes HPR.out, hO2.len] at h1
            exact h1
          have HBC := Lib.hid (below_step HBD.out hb2)
          have HO2 := Lib.hid hO2.reads
          try replace HLB := Lib.hid (blk_below HLB.out hb2)
          clear hO2 hb2
          refine hK _ _ ⟨HBC.out, ?_⟩
          clear hK K
          refine wpO_nil (wpO_nil ⟨?_, ?_⟩)
          · refine wpO_step2 rfl rfl (HBC.out) (fun K hK => ?_)
            go_simp
            refine (both_any A1 n1 c1 _ A2 n2 c2 _ _ (HO1.out.reads.below HBC.out) HO2.out (by omega)).mono ?_
            rintro e w22 ⟨A3, rfl, hO3, hb3⟩
            have HO3 := Lib.hid (hO3.lower HBC.out.size)
            have HBK := Lib.hid (below_step HBC.out hb3)
            try replace HLB := Lib.hid (blk_below HLB.out hb3)
            clear hO3 hb3
            refine hK _ _ ⟨HBK.out, ?_⟩
            clear hK K
            refine wpO_nil ?_
            refine wpO_step2 rfl rfl (HBK.out) (fun K hK => ?_)
            go_simp
            obtain ⟨w23, hw9⟩ : ∃ w9, World.alloc w22 (.cells (nums .u8 [x.s % 256, 1, x.f % 256, x.h % 256]).toArray 5) = w9 := ⟨_, rfl⟩
            have HLB := Lib.hid (show (World.heap w23)[(World.heap w22).size]? = some (.cells (nums .u8 [x.s % 256, 1, x.f % 256, x.h % 256]).toArray 5 (0, 0)) from hw9 ▸ blk_new _ _)
            have ha9 : Below (World.heap w22).size w22 w23 := hw9 ▸ below_alloc (Below.refl _ _) _
            have HBL := Lib.hid (below_step HBK.out ha9)
            refine kw_cast hw9 ?_
            try replace HO2 := Lib.hid (HO2.out.below ha9)
            try replace HO3 := Lib.hid (HO3.out.below ha9)
            clear hw9 ha9
            refine hK _ _ ⟨HBL.out, ?_⟩
            clear hK K
            refine wpO_step2 rfl rfl (HBL.out) (fun K hK => ?_)
            rw [if_pos (show Region.wanted _ _ = true from rfl)]
            refine oper_append_bytes (.tmp 30) (.tmp 41) rfl rfl rfl HO3.out (rb_blk HLB.out (by simp) HM.out) HBL.out.size (by simp; omega) ?_
            intro A5 c5 w5 h1 h2 h3
            have HB5 := Lib.hid (below_own HBL.out h2 HO3.out.base_)
            have H5 := Lib.hid h1
            clear h1 h2 h3
            refine hK _ _ ⟨HB5.out, ?_⟩
            clear hK K
            iterate 1 (refine wpO_step0 rfl rfl (fun K hK => ?_); go_simp; refine hK _ _ ?_; clear hK K)
            refine wpO_nil ?_
            go_wp2_with fail
            go_roundw
            case measure => simp [intOf]; omega
            case rel => exact ⟨i + 1, A5, _, c5, by go_num, rfl, by omega, by omega, by rw [HTS.out]; exact H5.out.lower HSW.out, below_step HBW2.out HB5.out⟩
          · refine wpO_step2 rfl rfl (HBC.out) (fun K hK => ?_)
            go_simp
            obtain ⟨w22, hw9⟩ : ∃ w9, World.alloc w21 (.cells (nums .u8 [x.s % 256, 1, x.f % 256, x.h % 256]).toArray 5) = w9 := ⟨_, rfl⟩
            have HLB := Lib.hid (show (World.heap w22)[(World.heap w21).size]? = some (.cells (nums .u8 [x.s % 256, 1, x.f % 256, x.h % 256]).toArray 5 (0, 0)) from hw9 ▸ blk_new _ _)
            have ha9 : Below (World.heap w21).size w21 w22 := hw9 ▸ below_alloc (Below.refl _ _) _
            have HBK := Lib.hid (below_step HBC.out ha9)
            refine kw_cast hw9 ?_
            try replace HO2 := Lib.hid (HO2.out.below ha9)
            try replace HO3 := Lib.hid (HO3.out.below ha9)
            clear hw9 ha9
            refine hK _ _ ⟨HBK.out, ?_⟩
            clear hK K
            refine wpO_nil ?_
            refine wpO_step2 rfl rfl (HBK.out) (fun K hK => ?_)
            go_simp
            refine (both_any A1 n1 c1 _ A2 n2 c2 _ _ (HO1.out.reads.below HBK.out) HO2.out (by omega)).mono ?_
            rintro e w23 ⟨A3, rfl, hO3, hb3⟩
            have HO3 := Lib.hid (hO3.lower HBK.out.size)
            have HBL := Lib.hid (below_step HBK.out hb3)
            try replace HLB := Lib.hid (blk_below HLB.out hb3)
            clear hO3 hb3
            refine hK _ _ ⟨HBL.out, ?_⟩
            clear hK K
            refine wpO_step2 rfl rfl (HBL.out) (fun K hK => ?_)
            rw [if_pos (show Region.wanted _ _ = true from rfl)]
            refine oper_append_bytes (.tmp 30) (.tmp 41) rfl rfl rfl HO3.out (rb_blk HLB.out (by simp) HM.out) HBL.out.size (by simp; omega) ?_
            intro A5 c5 w5 h1 h2 h3
            have HB5 := Lib.hid (below_own HBL.out h2 HO3.out.base_)
            have H5 := Lib.hid h1
            clear h1 h2 h3
            refine hK _ _ ⟨HB5.out, ?_⟩
            clear hK K
            iterate 1 (refine wpO_step0 rfl rfl (fun K hK => ?_); go_simp; refine hK _ _ ?_; clear hK K)
            refine wpO_nil ?_
            go_wp2_with fail
            go_roundw
            case measure => simp [intOf]; omega
            case rel => exact ⟨i + 1, A5, _, c5, by go_num, rfl, by omega, by omega, by rw [HTS.out]; exact H5.out.lower HSW.out, below_step HBW2.out HB5.out⟩
        · refine wpO_step2 rfl rfl (HBD.out) (fun K hK => ?_)
          go_simp
          obtain ⟨w21, hw9⟩ : ∃ w9, World.alloc w2.drew (.cells (nums .u8 [x.s % 256, 1, x.f % 256, x.h % 256]).toArray 5) = w9 := ⟨_, rfl⟩
          have HLB := Lib.hid (show (World.heap w21)[(World.heap w2.drew).size]? = some (.cells (nums .u8 [x.s % 256, 1, x.f % 256, x.h % 256]).toArray 5 (0, 0)) from hw9 ▸ blk_new _ _)
          have ha9 : Below (World.heap w2.drew).size w2.drew w21 := hw9 ▸ below_alloc (Below.refl _ _) _
          have HBC := Lib.hid (below_step HBD.out ha9)
          refine kw_cast hw9 ?_
          try replace HO2 := Lib.hid (HO2.out.below ha9)
          try replace HO3 := Lib.hid (HO3.out.below ha9)
          clear hw9 ha9
          refine hK _ _ ⟨HBC.out, ?_⟩
          clear hK K
          refine wpO_nil ?_
          refine wpO_step2 rfl rfl (HBC.out) (fun K hK => ?_)
          go_simp
          refine (refbytes_any x.p _ HXO.out.p.l HPB.out.1 HPB.out.2).mono ?_
          rintro e w22 ⟨A2, n2, c2, rfl, hO2, hb2⟩
          have hn2 : n2 ≤ 18 := by
            have h1 := encPE_len HXO.out.p.l
            rw [encPE_yes HPR.out, hO2.len] at h1
            exact h1
          have HBK := Lib.hid (below_step HBC.out hb2)
          have HO2 := Lib.hid hO2.reads
          try replace HLB := Lib.hid (blk_below HLB.out hb2)
          clear hO2 hb2
          refine hK _ _ ⟨HBK.out, ?_⟩
          clear hK K
          refine wpO_step2 rfl rfl (HBK.out) (fun K hK => ?_)
          go_simp
          refine (both_any A1 n1 c1 _ A2 n2 c2 _ _ (HO1.out.reads.below HBK.out) HO2.out (by omega)).mono ?_
          rintro e w23 ⟨A3, rfl, hO3, hb3⟩
          have HO3 := Lib.hid (hO3.lower HBK.out.size)
          have HBL := Lib.hid (below_step HBK.out hb3)
          try replace HLB := Lib.hid (blk_below HLB.out hb3)
          clear hO3 hb3
          refine hK _ _ ⟨HBL.out, ?_⟩
          clear hK K
          refine wpO_step2 rfl rfl (HBL.out) (fun K hK => ?_)
          rw [if_pos (show Region.wanted _ _ = true from rfl)]
          refine oper_append_bytes (.tmp 30) (.tmp 41) rfl rfl rfl HO3.out (rb_blk HLB.out (by simp) HM.out) HBL.out.size (by simp; omega) ?_
          intro A5 c5 w5 h1 h2 h3
          have HB5 := Lib.hid (below_own HBL.out h2 HO3.out.base_)
          have H5 := Lib.hid h1
          clear h1 h2 h3
          refine hK _ _ ⟨HB5.out, ?_⟩
          clear hK K
          iterate 1 (refine wpO_step0 rfl rfl (fun K hK => ?_); go_simp; refine hK _ _ ?_; clear hK K)
          refine wpO_nil ?_
          go_wp2_with fail
          go_roundw
          case measure => simp [intOf]; omega
          case rel => exact ⟨i + 1, A5, _, c5, by go_num, rfl, by omega, by omega, by rw [HTS.out]; exact H5.out.lower HSW.out, below_step HBW2.out HB5.out⟩
      | false =>
        rw [hg] at hgl HTS
        clear hg
        have HTS : Hid ((n : Int) :: (l.take (i + 1)).flatMap encUp = ((n : Int) :: (l.take i).flatMap encUp) ++ encP x.p ++ [x.s % 256, 0, x.f % 256, x.h % 256]) := HTS
        have HM : Hid (Bytes [x.s % 256, 0, x.f % 256, x.h % 256]) := Lib.hid (fun y hy => by
          simp only [List.mem_cons, List.not_mem_nil, or_false] at hy
          rcases hy with rfl | rfl | rfl | rfl <;> omega)
        go_upto_region 9 with (first | ((with_reducible show wpList _ _ _ (Oper.mk _ (Op.load _ _) _ _ _ _ :: _) _ _); refine wpList_load_g hgl _ rfl rfl (by go_simp) ?_))
        clear hgl
        refine wp_region_fork ((fun w0 => Below w2.heap.size w2 w0)) (OrdT.fork [0, 1, 2, 5, 6, 7, 8, 9, 10, 11, 12, 13, 14] 3 15 (OrdT.fork [] 4 15 (OrdT.lin [15, 16, 17]) (OrdT.lin [4, 16, 17])) (OrdT.lin [3, 4, 16, 17])) [(0, 0), (1, 0), (2, 0), (3, 2), (4, 2), (5, 0), (6, 0), (7, 0), (8, 0), (9, 0), (10, 0), (11, 0), (12, 0), (13, 0), (14, 0), (15, 2), (16, 2), (17, 0)] (by kernel_rfl) (by kernel_rfl) ((below_drew1 _)) ?_
        simp only [wpF]
        iterate 2 (refine wpO_step0 rfl rfl (fun K hK => ?_); go_simp; refine hK _ _ ?_; clear hK K)
        refine wpO_loadW (t := 49) (ad := ⟨gx, 0, none⟩) rfl rfl ?hw rfl rfl ((fun w0 hS => (HX2.out.all w0 hS).pfx)) ?_
        case hw => go_simp
        iterate 1 (refine wpO_step0 rfl rfl (fun K hK => ?_); go_simp; refine hK _ _ ?_; clear hK K)
        refine wpO_loadW (t := 3) (ad := ⟨gx, 18, none⟩) rfl rfl ?hw rfl rfl ((fun w0 hS => (HX2.out.all w0 hS).src)) ?_
        case hw => go_simp
        iterate 3 (refine wpO_step0 rfl rfl (fun K hK => ?_); go_simp; refine hK _ _ ?_; clear hK K)
        refine wpO_loadW (t := 3) (ad := ⟨gx, 20, none⟩) rfl rfl ?hw rfl rfl ((fun w0 hS => (HX2.out.all w0 hS).prf)) ?_
        case hw => go_simp
        iterate 2 (refine wpO_step0 rfl rfl (fun K hK => ?_); go_simp; refine hK _ _ ?_; clear hK K)
        refine wpO_loadW (t := 3) (ad := ⟨gx, 21, none⟩) rfl rfl ?hw rfl rfl ((fun w0 hS => (HX2.out.all w0 hS).hop)) ?_
        case hw => go_simp
        iterate 1 (refine wpO_step0 rfl rfl (fun K hK => ?_); go_simp; refine hK _ _ ?_; clear hK K)
        rw [u8w x.s, u8w x.f, u8w x.h]
        refine wpO_nil ⟨?_, ?_⟩
        · refine wpO_step2 rfl rfl (HBD.out) (fun K hK => ?_)
          go_simp
          refine (refbytes_any x.p _ HXO.out.p.l HPB.out.1 HPB.out.2).mono ?_
          rintro e w21 ⟨A2, n2, c2, rfl, hO2, hb2⟩
          have hn2 : n2 ≤ 18 := by
            have h1 := encPE_len HXO.out.p.l
            rw [encPE_yes HPR.out, hO2.len] at h1
            exact h1
          have HBC := Lib.hid (below_step HBD.out hb2)
          have HO2 := Lib.hid hO2.reads
          try replace HLB := Lib.hid (blk_below HLB.out hb2)
          clear hO2 hb2
          refine hK _ _ ⟨HBC.out, ?_⟩
          clear hK K
          refine wpO_nil (wpO_nil ⟨?_, ?_⟩)
          · refine wpO_step2 rfl rfl (HBC.out) (fun K hK => ?_)
            go_simp
            refine (both_any A1 n1 c1 _ A2 n2 c2 _ _ (HO1.out.reads.below HBC.out) HO2.out (by omega)).mono ?_
            rintro e w22 ⟨A3, rfl, hO3, hb3⟩
            have HO3 := Lib.hid (hO3.lower HBC.out.size)
            have HBK := Lib.hid (below_step HBC.out hb3)
            try replace HLB := Lib.hid (blk_below HLB.out hb3)
            clear hO3 hb3
            refine hK _ _ ⟨HBK.out, ?_⟩
            clear hK K
            refine wpO_nil ?_
            refine wpO_step2 rfl rfl (HBK.out) (fun K hK => ?_)
            go_simp
            obtain ⟨w23, hw9⟩ : ∃ w9, World.alloc w22 (.cells (nums .u8 [x.s % 256, 0, x.f % 256, x.h % 256]).toArray 5) = w9 := ⟨_, rfl⟩
            have HLB := Lib.hid (show (World.heap w23)[(World.heap w22).size]? = some (.cells (nums .u8 [x.s % 256, 0, x.f % 256, x.h % 256]).toArray 5 (0, 0)) from hw9 ▸ blk_new _ _)
            have ha9 : Below (World.heap w22).size w22 w23 := hw9 ▸ below_alloc (Below.refl _ _) _
            have HBL := Lib.hid (below_step HBK.out ha9)
            refine kw_cast hw9 ?_
            try replace HO2 := Lib.hid (HO2.out.below ha9)
            try replace HO3 := Lib.hid (HO3.out.below ha9)
            clear hw9 ha9
            refine hK _ _ ⟨HBL.out, ?_⟩
            clear hK K
            refine wpO_step2 rfl rfl (HBL.out) (fun K hK => ?_)
            rw [if_pos (show Region.wanted _ _ = true from rfl)]
            refine oper_append_bytes (.tmp 30) (.tmp 41) rfl rfl rfl HO3.out (rb_blk HLB.out (by simp) HM.out) HBL.out.size (by simp; omega) ?_
            intro A5 c5 w5 h1 h2 h3
            have HB5 := Lib.hid (below_own HBL.out h2 HO3.out.base_)
            have H5 := Lib.hid h1
            clear h1 h2 h3
            refine hK _ _ ⟨HB5.out, ?_⟩
            clear hK K
            iterate 1 (refine wpO_step0 rfl rfl (fun K hK => ?_); go_simp; refine hK _ _ ?_; clear hK K)
            refine wpO_nil ?_
            go_wp2_with fail
            go_roundw
            case measure => simp [intOf]; omega
            case rel => exact ⟨i + 1, A5, _, c5, by go_num, rfl, by omega, by omega, by rw [HTS.out]; exact H5.out.lower HSW.out, below_step HBW2.out HB5.out⟩
          · refine wpO_step2 rfl rfl (HBC.out) (fun K hK => ?_)
            go_simp
            obtain ⟨w22, hw9⟩ : ∃ w9, World.alloc w21 (.cells (nums .u8 [x.s % 256, 0, x.f % 256, x.h % 256]).toArray 5) = w9 := ⟨_, rfl⟩
            have HLB := Lib.hid (show (World.heap w22)[(World.heap w21).size]? = some (.cells (nums .u8 [x.s % 256, 0, x.f % 256, x.h % 256]).toArray 5 (0, 0)) from hw9 ▸ blk_new _ _)
            have ha9 : Below (World.heap w21).size w21 w22 := hw9 ▸ below_alloc (Below.refl _ _) _
            have HBK := Lib.hid (below_step HBC.out ha9)
            refine kw_cast hw9 ?_
            try replace HO2 := Lib.hid (HO2.out.below ha9)
            try replace HO3 := Lib.hid (HO3.out.below ha9)
            clear hw9 ha9
            refine hK _ _ ⟨HBK.out, ?_⟩
            clear hK K
            refine wpO_nil ?_
            refine wpO_step2 rfl rfl (HBK.out) (fun K hK => ?_)
            go_simp
            refine (both_any A1 n1 c1 _ A2 n2 c2 _ _ (HO1.out.reads.below HBK.out) HO2.out (by omega)).mono ?_
            rintro e w23 ⟨A3, rfl, hO3, hb3⟩
            have HO3 := Lib.hid (hO3.lower HBK.out.size)
            have HBL := Lib.hid (below_step HBK.out hb3)
            try replace HLB := Lib.hid (blk_below HLB.out hb3)
            clear hO3 hb3
            refine hK _ _ ⟨HBL.out, ?_⟩
            clear hK K
            refine wpO_step2 rfl rfl (HBL.out) (fun K hK => ?_)
            rw [if_pos (show Region.wanted _ _ = true from rfl)]
            refine oper_append_bytes (.tmp 30) (.tmp 41) rfl rfl rfl HO3.out (rb_blk HLB.out (by simp) HM.out) HBL.out.size (by simp; omega) ?_
            intro A5 c5 w5 h1 h2 h3
            have HB5 := Lib.hid (below_own HBL.out h2 HO3.out.base_)
            have H5 := Lib.hid h1
            clear h1 h2 h3
            refine hK _ _ ⟨HB5.out, ?_⟩
            clear hK K
            iterate 1 (refine wpO_step0 rfl rfl (fun K hK => ?_); go_simp; refine hK _ _ ?_; clear hK K)
            refine wpO_nil ?_
            go_wp2_with fail
            go_roundw
            case measure => simp [intOf]; omega
            case rel => exact ⟨i + 1, A5, _, c5, by go_num, rfl, by omega, by omega, by rw [HTS.out]; exact H5.out.lower HSW.out, below_step HBW2.out HB5.out⟩
        · refine wpO_step2 rfl rfl (HBD.out) (fun K hK => ?_)
          go_simp
          obtain ⟨w21, hw9⟩ : ∃ w9, World.alloc w2.drew (.cells (nums .u8 [x.s % 256, 0, x.f % 256, x.h % 256]).toArray 5) = w9 := ⟨_, rfl⟩
          have HLB := Lib.hid (show (World.heap w21)[(World.heap w2.drew).size]? = some (.cells (nums .u8 [x.s % 256, 0, x.f % 256, x.h % 256]).toArray 5 (0, 0)) from hw9 ▸ blk_new _ _)
          have ha9 : Below (World.heap w2.drew).size w2.drew w21 := hw9 ▸ below_alloc (Below.refl _ _) _
          have HBC := Lib.hid (below_step HBD.out ha9)
          refine kw_cast hw9 ?_
          try replace HO2 := Lib.hid (HO2.out.below ha9)
          try replace HO3 := Lib.hid (HO3.out.below ha9)
          clear hw9 ha9
          refine hK _ _ ⟨HBC.out, ?_⟩
          clear hK K
          refine wpO_nil ?_
          refine wpO_step2 rfl rfl (HBC.out) (fun K hK => ?_)
          go_simp
          refine (refbytes_any x.p _ HXO.out.p.l HPB.out.1 HPB.out.2).mono ?_
          rintro e w22 ⟨A2, n2, c2, rfl, hO2, hb2⟩
          have hn2 : n2 ≤ 18 := by
            have h1 := encPE_len HXO.out.p.l
            rw [encPE_yes HPR.out, hO2.len] at h1
            exact h1
          have HBK := Lib.hid (below_step HBC.out hb2)
          have HO2 := Lib.hid hO2.reads
          try replace HLB := Lib.hid (blk_below HLB.out hb2)
          clear hO2 hb2
          refine hK _ _ ⟨HBK.out, ?_⟩
          clear hK K
          refine wpO_step2 rfl rfl (HBK.out) (fun K hK => ?_)
          go_simp
          refine (both_any A1 n1 c1 _ A2 n2 c2 _ _ (HO1.out.reads.below HBK.out) HO2.out (by omega)).mono ?_
          rintro e w23 ⟨A3, rfl, hO3, hb3⟩
          have HO3 := Lib.hid (hO3.lower HBK.out.size)
          have HBL := Lib.hid (below_step HBK.out hb3)
          try replace HLB := Lib.hid (blk_below HLB.out hb3)
          clear hO3 hb3
          refine hK _ _ ⟨HBL.out, ?_⟩
          clear hK K
          refine wpO_step2 rfl rfl (HBL.out) (fun K hK => ?_)
          rw [if_pos (show Region.wanted _ _ = true from rfl)]
          refine oper_append_bytes (.tmp 30) (.tmp 41) rfl rfl rfl HO3.out (rb_blk HLB.out (by simp) HM.out) HBL.out.size (by simp; omega) ?_
          intro A5 c5 w5 h1 h2 h3
          have HB5 := Lib.hid (below_own HBL.out h2 HO3.out.base_)
          have H5 := Lib.hid h1
          clear h1 h2 h3
          refine hK _ _ ⟨HB5.out, ?_⟩
          clear hK K
          iterate 1 (refine wpO_step0 rfl rfl (fun K hK => ?_); go_simp; refine hK _ _ ?_; clear hK K)
          refine wpO_nil ?_
          go_wp2_with fail
          go_roundw
          case measure => simp [intOf]; omega
          case rel => exact ⟨i + 1, A5, _, c5, by go_num, rfl, by omega, by omega, by rw [HTS.out]; exact H5.out.lower HSW.out, below_step HBW2.out HB5.out⟩
    · have hlt' : decide (i < n) = false := decide_eq_false hlt
      have hi : i = l.length := by rw [HR.out.len]; have := HI.out.1; omega
      have HT : Hid (l.take i = l) := Lib.hid (by rw [hi, List.take_length])
      clear hlt hi
      go_wp2_with (first | ((with_reducible show wpList _ _ _ (Oper.mk _ (Op.load _ _) _ _ _ _ :: _) _ _); refine wpList_load_g ((HP1.out.all _ HBI.out).2) _ rfl rfl (by go_simp) ?_))
      go_ret
      refine ⟨A1, n1, c1, rfl, ?_, by have := HI.out.1; omega, below_step HBE.out HBI.out⟩
      have h := HI.out.2.2.1
      rwa [HT.out] at h
end Go.Proofs.YtnpeedmicjeleaaDoor

/- Layer 11 (route): the law RouteBytes. -/
namespace Go.Proofs.YtnpeedmicjeleaaDoor
open Go.RowKit
set_option linter.unusedVariables false
set_option linter.unusedSimpArgs false
set_option maxRecDepth 4000
set_option maxHeartbeats 4000000 in
set_option maxRecDepth 100000 in
theorem bytes11_any (A : Option Addr) (n c : Nat) (l : List Rte) (A2 : Option Addr) (m c2 : Nat) (b : List Upd) (w : World) (hL : Laid w) (hr : RS rteK w A n c l) (ok : Okr l) (hu : RS updK w A2 m c2 b) (oku : Oku b) :
    Calls Tryd.prog 7 #[.agg (tabV A n c), .agg (tabV A2 m c2)] w fun e w' => e = .returned (.bool true) ∧ Below w.heap.size w w' := by
  have hblk1 := blk_new w (.cells (tabV A n c) 24)
  have hbel1 : Below w.heap.size w (w.alloc (.cells (tabV A n c) 24)) := below_alloc (Below.refl _ _) _
  have hblk2 := blk_new (w.alloc (.cells (tabV A n c) 24)) (.cells (tabV A2 m c2) 27)
  have hbel2 : Below w.heap.size w ((w.alloc (.cells (tabV A n c) 24)).alloc (.cells (tabV A2 m c2) 27)) := below_alloc (hbel1) _
  rw [show (w.alloc (.cells (tabV A n c) 24)).heap.size = w.heap.size + 1 by simp] at hblk2
  replace hblk1 := blk_below hblk1 (below_alloc (Below.refl _ _) (.cells (tabV A2 m c2) 27))
  have HP1 := Lib.hid (rib_at hblk1)
  have HBK1 := Lib.hid hblk1
  have HP2 := Lib.hid (bat_at hblk2)
  have HBK2 := Lib.hid hblk2
  have HBE := Lib.hid hbel2
  have HL := Lib.hid (hL.below HBE.out)
  obtain ⟨cs1, hcs1⟩ : ∃ cs, tabV A n c = cs := ⟨_, rfl⟩
  obtain ⟨cs2, hcs2⟩ : ∃ cs, tabV A2 m c2 = cs := ⟨_, rfl⟩
  simp only [hcs1, hcs2] at HBE HL HP1 HP2 HBK1 HBK2 ⊢
  have HC1 := Lib.hid hcs1
  have HC2 := Lib.hid hcs2
  clear hL hcs1 hblk1 hbel1 hcs2 hblk2 hbel2
  have HR := Lib.hid (hr.below HBE.out)
  have HU := Lib.hid (hu.below HBE.out)
  have OK := Lib.hid ok
  have OKU := Lib.hid oku
  clear hr hu ok oku
  go_enter Tryd.func7, Tryd.ntmps7
  go_wp2_with fail
  refine (wakes11_any _ HL.out).mono ?_
  rintro e w1 ⟨rfl, hb1⟩
  have HB1 := Lib.hid hb1
  clear hb1
  go_wp2_with (first | ((with_reducible show wpList _ _ _ (Oper.mk _ (Op.load _ _) _ _ _ _ :: _) _ _); refine wpList_load_g ((HP1.out.all _ HB1.out).1) _ rfl rfl (by go_simp) ?_) | ((with_reducible show wpList _ _ _ (Oper.mk _ (Op.load _ _) _ _ _ _ :: _) _ _); refine wpList_load_g ((HP2.out.all _ HB1.out).1) _ rfl rfl (by go_simp) ?_))
  refine (over11_any A n c A2 m c2 w1).mono ?_
  rintro e w2 ⟨rfl, hb2⟩
  have HB2 := Lib.hid (below_step HB1.out hb2)
  clear hb2 HB1
  by_cases hov : (decide (300 < n) || decide (100 < m)) = true
  · rw [hov]
    go_wp2
    go_ret
    exact ⟨rfl, below_step HBE.out HB2.out⟩
  · have hof : (decide (300 < n) || decide (100 < m)) = false := by simpa using hov
    rw [hof]
    have hnm : n ≤ 300 ∧ m ≤ 100 := by simp at hof; omega
    have HNM := Lib.hid hnm
    clear hov hof
    go_wp2_with (first | ((with_reducible show wpList _ _ _ (Oper.mk _ (Op.load _ _) _ _ _ _ :: _) _ _); refine wpList_load_g ((HP1.out.all _ HB2.out).1) _ rfl rfl (by go_simp) ?_))
    refine (rencode_any A n c l w2 (HL.out.below HB2.out) (HR.out.below HB2.out) OK.out (by omega)).mono ?_
    rintro e w3 ⟨A3, n3, c3, rfl, hO3, hn3, hb3⟩
    have HX3 := Lib.hid hO3.reads
    have HB3 := Lib.hid (below_step HB2.out hb3)
    clear hO3 hb3 HB2
    go_wp2_with (first | ((with_reducible show wpList _ _ _ (Oper.mk _ (Op.load _ _) _ _ _ _ :: _) _ _); refine wpList_load_g ((HP2.out.all _ HB3.out).1) _ rfl rfl (by go_simp) ?_))
    refine (rencodeb_any A2 m c2 b w3 (HL.out.below HB3.out) (HU.out.below HB3.out) OKU.out (by omega)).mono ?_
    rintro e w4 ⟨A4, n4, c4, rfl, hO4, hn4, hb4⟩
    have HX4 := Lib.hid (HX3.out.below hb4)
    have HY4 := Lib.hid hO4.reads
    have HB4 := Lib.hid (below_step HB3.out hb4)
    clear hO4 hb4 HB3 HX3
    go_wp2_with (first | ((with_reducible show wpList _ _ _ (Oper.mk _ (Op.load _ _) _ _ _ _ :: _) _ _); refine wpList_load_g ((HP1.out.all _ HB4.out).1) _ rfl rfl (by go_simp) ?_))
    refine (refrib_any A n c l w4 (HR.out.below HB4.out) OK.out (by omega)).mono ?_
    rintro e w5 ⟨rfl, hb5⟩
    have HX5 := Lib.hid (HX4.out.below hb5)
    have HY5 := Lib.hid (HY4.out.below hb5)
    have HB5 := Lib.hid (below_step HB4.out hb5)
    clear hb5 HB4 HX4 HY4
    cases hrb : ribB l with
    | true =>
      have HE : Hid (ribE l = 0 ∧ encRib l = (n : Int) :: l.flatMap encRt) := Lib.hid ⟨by unfold ribE; rw [hrb]; rfl, by unfold encRib; rw [hrb, if_pos rfl, HR.out.len]⟩
      have HRB := Lib.hid hrb
      rw [HE.out.1]
      clear hrb
      go_wp2_with (first | ((with_reducible show wpList _ _ _ (Oper.mk _ (Op.load _ _) _ _ _ _ :: _) _ _); refine wpList_load_g ((HP1.out.all _ HB5.out).1) _ rfl rfl (by go_simp) ?_))
      refine (refribbytes_any A n c l _ (HR.out.below HB5.out) OK.out HRB.out).mono ?_
      rintro e v6 ⟨A6, n6, c6, rfl, hO6, hn6, hb6⟩
      have HV6 := Lib.hid hb6
      have HO6 := Lib.hid hO6.reads
      clear hO6 hb6
      go_wp2_with fail
      refine (same_any A3 n3 c3 _ A6 n6 c6 _ _ (HX5.out.below HV6.out) HO6.out).mono ?_
      rw [show decide (encRib l = (n : Int) :: l.flatMap encRt) = true from decide_eq_true HE.out.2]
      rintro e w6 ⟨rfl, hb6⟩
      have HV7 := Lib.hid (below_step HV6.out hb6)
      clear hb6
      have HB6 := Lib.hid (below_step HB5.out HV7.out)
      have HY6 := Lib.hid (HY5.out.below HV7.out)
      clear HV6 HV7 HB5 HX5 HY5 HO6
      go_wp2_with (first | ((with_reducible show wpList _ _ _ (Oper.mk _ (Op.load _ _) _ _ _ _ :: _) _ _); refine wpList_load_g ((HP2.out.all _ HB6.out).1) _ rfl rfl (by go_simp) ?_))
      refine (refbatch_any A2 m c2 b _ (HU.out.below HB6.out) OKU.out (by omega)).mono ?_
      rintro e w7 ⟨rfl, hb7⟩
      have HB7 := Lib.hid (below_step HB6.out hb7)
      have HY7 := Lib.hid (HY6.out.below hb7)
      clear hb7 HB6 HY6
      cases hbb : batB b with
      | true =>
        have HF : Hid (batE b = 0 ∧ encBat b = (m : Int) :: b.flatMap encUp) := Lib.hid ⟨by unfold batE; rw [hbb]; rfl, by unfold encBat; rw [hbb, if_pos rfl, HU.out.len]⟩
        have HBB := Lib.hid hbb
        rw [HF.out.1]
        clear hbb
        go_wp2_with (first | ((with_reducible show wpList _ _ _ (Oper.mk _ (Op.load _ _) _ _ _ _ :: _) _ _); refine wpList_load_g ((HP2.out.all _ HB7.out).1) _ rfl rfl (by go_simp) ?_))
        refine (refbatbytes_any A2 m c2 b _ (HU.out.below HB7.out) OKU.out HBB.out).mono ?_
        rintro e v8 ⟨A8, n8, c8, rfl, hO8, hn8, hb8⟩
        have HV8 := Lib.hid hb8
        have HO8 := Lib.hid hO8.reads
        clear hO8 hb8
        go_wp2_with fail
        refine (same_any A4 n4 c4 _ A8 n8 c8 _ _ (HY7.out.below HV8.out) HO8.out).mono ?_
        rw [show decide (encBat b = (m : Int) :: b.flatMap encUp) = true from decide_eq_true HF.out.2]
        rintro e v9 ⟨rfl, hb9⟩
        have HV9 := Lib.hid (below_step HV8.out hb9)
        clear hb9
        go_wp2_with fail
        go_ret
        exact ⟨rfl, below_step HBE.out (below_step HB7.out HV9.out)⟩
      | false =>
        have HF : Hid (batE b = 210) := Lib.hid (by unfold batE; rw [hbb]; rfl)
        have hn0 : n4 = 0 := by rw [← HY7.out.len]; unfold encBat; rw [hbb]; rfl
        rw [HF.out, hn0]
        clear hbb hn0
        go_wp2_with fail
        go_ret
        exact ⟨rfl, below_step HBE.out HB7.out⟩
    | false =>
      have HE : Hid (ribE l = 211) := Lib.hid (by unfold ribE; rw [hrb]; rfl)
      have hn0 : n3 = 0 := by rw [← HX5.out.len]; unfold encRib; rw [hrb]; rfl
      rw [HE.out, hn0]
      clear hrb hn0
      have HB6 := HB5
      have HY6 := HY5
      clear HB5 HX5 HY5
      go_wp2_with (first | ((with_reducible show wpList _ _ _ (Oper.mk _ (Op.load _ _) _ _ _ _ :: _) _ _); refine wpList_load_g ((HP2.out.all _ HB6.out).1) _ rfl rfl (by go_simp) ?_))
      refine (refbatch_any A2 m c2 b _ (HU.out.below HB6.out) OKU.out (by omega)).mono ?_
      rintro e w7 ⟨rfl, hb7⟩
      have HB7 := Lib.hid (below_step HB6.out hb7)
      have HY7 := Lib.hid (HY6.out.below hb7)
      clear hb7 HB6 HY6
      cases hbb : batB b with
      | true =>
        have HF : Hid (batE b = 0 ∧ encBat b = (m : Int) :: b.flatMap encUp) := Lib.hid ⟨by unfold batE; rw [hbb]; rfl, by unfold encBat; rw [hbb, if_pos rfl, HU.out.len]⟩
        have HBB := Lib.hid hbb
        rw [HF.out.1]
        clear hbb
        go_wp2_with (first | ((with_reducible show wpList _ _ _ (Oper.mk _ (Op.load _ _) _ _ _ _ :: _) _ _); refine wpList_load_g ((HP2.out.all _ HB7.out).1) _ rfl rfl (by go_simp) ?_))
        refine (refbatbytes_any A2 m c2 b _ (HU.out.below HB7.out) OKU.out HBB.out).mono ?_
        rintro e v8 ⟨A8, n8, c8, rfl, hO8, hn8, hb8⟩
        have HV8 := Lib.hid hb8
        have HO8 := Lib.hid hO8.reads
        clear hO8 hb8
        go_wp2_with fail
        refine (same_any A4 n4 c4 _ A8 n8 c8 _ _ (HY7.out.below HV8.out) HO8.out).mono ?_
        rw [show decide (encBat b = (m : Int) :: b.flatMap encUp) = true from decide_eq_true HF.out.2]
        rintro e v9 ⟨rfl, hb9⟩
        have HV9 := Lib.hid (below_step HV8.out hb9)
        clear hb9
        go_wp2_with fail
        go_ret
        exact ⟨rfl, below_step HBE.out (below_step HB7.out HV9.out)⟩
      | false =>
        have HF : Hid (batE b = 210) := Lib.hid (by unfold batE; rw [hbb]; rfl)
        have hn0 : n4 = 0 := by rw [← HY7.out.len]; unfold encBat; rw [hbb]; rfl
        rw [HF.out, hn0]
        clear hbb hn0
        go_wp2_with fail
        go_ret
        exact ⟨rfl, below_step HBE.out HB7.out⟩
end Go.Proofs.YtnpeedmicjeleaaDoor

/- The walk of RouteBytes, as the row asks it. -/
namespace Go.Proofs.YtnpeedmicjeleaaDoor
open Go.RowKit
set_option linter.unusedVariables false
set_option linter.unusedSimpArgs false
set_option maxRecDepth 4000
theorem routeBytes_walk (A : Option Addr) (n c : Nat) (l : List Rte) (A2 : Option Addr) (m c2 : Nat) (b : List Upd) (w : World) (hL : Laid w) (hr : RS rteK w A n c l) (ok : ∀ a ∈ l, a.ok) (h0 : n * 56 ≤ 140737488351232) (hu : RS updK w A2 m c2 b) (oku : ∀ a ∈ b, a.ok) (h1 : m * 64 ≤ 140737488351232) : Calls Tryd.prog 7 #[.agg (tabV A n c), .agg (tabV A2 m c2)] w fun e w' => e = .returned (.bool true) ∧ Below w.heap.size w w' := bytes11_any A n c l A2 m c2 b w hL hr ok hu oku
end Go.Proofs.YtnpeedmicjeleaaDoor
