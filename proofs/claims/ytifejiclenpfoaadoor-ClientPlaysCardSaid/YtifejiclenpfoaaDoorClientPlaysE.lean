/- Layer 20 (client): the law's does. -/
import Derived.Test.YtifejiclenpfoaaDoorClientPlaysB
import Derived.Test.YtifejiclenpfoaaDoorClientPlaysD
namespace Go.Proofs.YtifejiclenpfoaaDoor
open Go.RowKit
set_option linter.unusedVariables false
set_option linter.unusedSimpArgs false
set_option maxRecDepth 4000
set_option maxHeartbeats 16000000 in
set_option maxRecDepth 100000 in
theorem does20_any (k : Ck) (A : Option Addr) (n c : Nat) (o : Opn) (w : World) (hL : Laid w) (hr : OS updK w 0 A n c k.t) (ok : k.ok) (hn : n ≤ 10) (ho : OpIn w o) :
    Calls Tryd.prog 12 #[.agg (cliV k A n c), .agg (opV o)] w fun e w' => ∃ k' A' n' c', e = .returned (.tuple #[.agg (cliV k' A' n' c'), .bool true]) ∧ OS updK w' 0 A' n' c' k'.t ∧ k'.ok ∧ n' ≤ 10 ∧ Below w.heap.size w w' := by
  have HLW := Lib.hid hL
  have HRW := Lib.hid hr.reads
  have HRO := Lib.hid hr
  have HOW := Lib.hid ho
  have hblk1 := blk_new w (.cells (cliV k A n c) 27)
  have hbel1 : Below w.heap.size w (w.alloc (.cells (cliV k A n c) 27)) := below_alloc (Below.refl _ _) _
  have hblk2 := blk_new (w.alloc (.cells (cliV k A n c) 27)) (.cells (opV o) 47)
  have hbel2 : Below w.heap.size w ((w.alloc (.cells (cliV k A n c) 27)).alloc (.cells (opV o) 47)) := below_alloc (hbel1) _
  rw [show (w.alloc (.cells (cliV k A n c) 27)).heap.size = w.heap.size + 1 by simp] at hblk2
  replace hblk1 := blk_below hblk1 (below_alloc (Below.refl _ _) (.cells (opV o) 47))
  have HP1 := Lib.hid (cli_at hblk1)
  have HBK1 := Lib.hid hblk1
  have HP2 := Lib.hid (op_at hblk2)
  have HBK2 := Lib.hid hblk2
  have HBE := Lib.hid hbel2
  have HL := Lib.hid (hL.below HBE.out)
  obtain ⟨cs1, hcs1⟩ : ∃ cs, cliV k A n c = cs := ⟨_, rfl⟩
  obtain ⟨cs2, hcs2⟩ : ∃ cs, opV o = cs := ⟨_, rfl⟩
  simp only [hcs1, hcs2] at HBE HL HP1 HP2 HBK1 HBK2 ⊢
  have HC1 := Lib.hid hcs1
  have HC2 := Lib.hid hcs2
  clear hL hcs1 hblk1 hbel1 hcs2 hblk2 hbel2
  have HX0 : Hid (((w.alloc (.cells cs1 27)).alloc (.cells cs2 47)).heap[w.heap.size]? = some (.cells (cliV k A n c) 27 (0, 0))) := Lib.hid (HBK1.out.trans (by rw [HC1.out]))
  have HY0 : Hid (((w.alloc (.cells cs1 27)).alloc (.cells cs2 47)).heap[w.heap.size + 1]? = some (.cells (opV o) 47 (0, 0))) := Lib.hid (HBK2.out.trans (by rw [HC2.out]))
  have OK := Lib.hid ok
  have HSK : Hid (shortK k = k ∧ min n 10 = n) := Lib.hid ⟨short_eq (by rw [hr.len]; exact hn), by omega⟩
  have hs0 : ((w.alloc (.cells cs1 27)).alloc (.cells cs2 47)).heap.size = w.heap.size + 2 := by simp
  clear hr ok ho
  obtain ⟨W0, hW0⟩ : ∃ W, ((w.alloc (.cells cs1 27)).alloc (.cells cs2 47)) = W := ⟨_, rfl⟩
  obtain ⟨W1, hW1⟩ : ∃ W, W0.alloc (.cells #[.int .i64 0, .int .u32 0, .slice none 0 0, .bool false] 27) = W := ⟨_, rfl⟩
  rw [hW0] at HBE HX0 HY0 hs0
  have HZ1 : Hid (W1.heap[W0.heap.size]? = some (.cells (cliV ckZ none 0 0) 27 (0, 0))) := Lib.hid (by rw [← hW1]; exact blk_new _ _)
  have HGR : Hid (w.heap.size + 1 < W0.heap.size ∧ W0.heap.size < W1.heap.size) := Lib.hid ⟨by omega, by rw [← hW1]; simp⟩
  have hb01 : Below W0.heap.size W0 W1 := hW1 ▸ below_alloc (Below.refl _ _) _
  have HX1 := Lib.hid (blk_below HX0.out hb01)
  have HY1 := Lib.hid (blk_below HY0.out hb01)
  have HB1 := Lib.hid (below_step HBE.out hb01)
  clear HBK1 HBK2 HP1 HP2 HL HX0 HY0 HBE hb01 hs0
  go_enter Tryd.func12, Tryd.ntmps12
  go_wp2_with (first | ((with_reducible show wpList _ _ _ (Oper.mk _ (Op.load _ _) _ _ _ _ :: _) _ _); refine wpList_load_g (load_cli HX1.out) _ rfl rfl (by go_simp) ?_))
  clear hW1 hW0
  obtain ⟨gr, hgr⟩ : ∃ g, W0.heap.size = g := ⟨_, rfl⟩
  rw [hgr] at HZ1 HGR ⊢
  clear hgr
  refine (lshort_any k A n c W1 (HRW.out.below HB1.out) (by omega)).mono ?_
  rw [HSK.out.1, HSK.out.2]
  rintro e w2 ⟨A2, c2, rfl, hO2, hb2⟩
  have HWAS := Lib.hid (hO2.lower (Nat.zero_le _))
  have HLA2 := Lib.hid hO2.lt
  have HGR := Lib.hid (And.intro HGR.out.1 (Nat.lt_of_lt_of_le HGR.out.2 hb2.size))
  (first | replace HB1 := Lib.hid (RS.below HB1.out hb2) | replace HB1 := Lib.hid (blk_below HB1.out hb2) | replace HB1 := Lib.hid (below_step HB1.out hb2) | replace HB1 := Lib.hid (HB1.out.below hb2))
  (first | replace HX1 := Lib.hid (RS.below HX1.out hb2) | replace HX1 := Lib.hid (blk_below HX1.out hb2) | replace HX1 := Lib.hid (below_step HX1.out hb2) | replace HX1 := Lib.hid (HX1.out.below hb2))
  (first | replace HY1 := Lib.hid (RS.below HY1.out hb2) | replace HY1 := Lib.hid (blk_below HY1.out hb2) | replace HY1 := Lib.hid (below_step HY1.out hb2) | replace HY1 := Lib.hid (HY1.out.below hb2))
  (first | replace HZ1 := Lib.hid (RS.below HZ1.out hb2) | replace HZ1 := Lib.hid (blk_below HZ1.out hb2) | replace HZ1 := Lib.hid (below_step HZ1.out hb2) | replace HZ1 := Lib.hid (HZ1.out.below hb2))
  clear hO2 hb2
  have hz2 := blk_new w2 (.cells (cliV ckZ none 0 0) 27)
  have HBA2 := Lib.hid (below_alloc (Below.refl w2.heap.size w2) (.cells (cliV ckZ none 0 0) 27))
  go_upto_region 2 with (first | ((with_reducible show wpList _ _ _ (Oper.mk _ (Op.store _ _ _) _ _ _ _ :: _) _ _); refine wpList_store_blk hz2 27 0 (cliV k A2 n c2) (Nat.le_refl _) (info_cli _ _ _ _) (cli_one _ _ _ _) _ _ rfl rfl rfl rfl ?_; intro w3 hg9 hs9 hb9; rw [splice_cli] at hb9; have H3 := Lib.hid (And.intro hg9 hb9); clear hg9 hs9 hb9))
  try dsimp only [Act.put]
  have hb23 := below_grown HBA2.out H3.out.1 (Nat.le_refl _)
  have HW3 := Lib.hid H3.out.2
  (first | replace HB1 := Lib.hid (RS.below HB1.out hb23) | replace HB1 := Lib.hid (blk_below HB1.out hb23) | replace HB1 := Lib.hid (below_step HB1.out hb23) | replace HB1 := Lib.hid (HB1.out.below hb23))
  (first | replace HX1 := Lib.hid (RS.below HX1.out hb23) | replace HX1 := Lib.hid (blk_below HX1.out hb23) | replace HX1 := Lib.hid (below_step HX1.out hb23) | replace HX1 := Lib.hid (HX1.out.below hb23))
  (first | replace HY1 := Lib.hid (RS.below HY1.out hb23) | replace HY1 := Lib.hid (blk_below HY1.out hb23) | replace HY1 := Lib.hid (below_step HY1.out hb23) | replace HY1 := Lib.hid (HY1.out.below hb23))
  (first | replace HZ1 := Lib.hid (RS.below HZ1.out hb23) | replace HZ1 := Lib.hid (blk_below HZ1.out hb23) | replace HZ1 := Lib.hid (below_step HZ1.out hb23) | replace HZ1 := Lib.hid (HZ1.out.below hb23))
  replace HWAS := Lib.hid (OS.below HWAS.out hb23)
  obtain ⟨gw, hgw⟩ : ∃ g, w2.heap.size = g := ⟨_, rfl⟩
  rw [hgw] at HW3 HLA2 HGR ⊢
  clear hz2 HBA2 H3 hb23 hgw
  have HS3 : Hid (w.heap.size + 1 < gr ∧ gr < gw ∧ gw < w3.heap.size) := Lib.hid ⟨HGR.out.1, HGR.out.2, blk_lt HW3.out⟩
  obtain ⟨W4, hW4⟩ : ∃ W, w3.alloc (.cells #[.int .i64 0, .int .u32 0, .slice none 0 0, .bool false] 27) = W := ⟨_, rfl⟩
  obtain ⟨W5, hW5⟩ : ∃ W, W4.alloc (.cells #[.int .i64 0, .int .u32 0, .slice none 0 0, .bool false] 27) = W := ⟨_, rfl⟩
  obtain ⟨W6, hW6⟩ : ∃ W, W5.alloc (.cells #[.bool false, .int .i64 0, .int .u32 0, .slice none 0 0, .int .u64 0] 61) = W := ⟨_, rfl⟩
  obtain ⟨W7, hW7⟩ : ∃ W, W6.alloc (.cells #[.bool false, .int .i64 0, .int .u32 0, .slice none 0 0, .int .u64 0] 61) = W := ⟨_, rfl⟩
  have b4 : Below w3.heap.size w3 W4 := hW4 ▸ below_alloc (Below.refl _ _) _
  have b5 : Below W4.heap.size W4 W5 := hW5 ▸ below_alloc (Below.refl _ _) _
  have b6 : Below W5.heap.size W5 W6 := hW6 ▸ below_alloc (Below.refl _ _) _
  have b7 : Below W6.heap.size W6 W7 := hW7 ▸ below_alloc (Below.refl _ _) _
  have s4 : W4.heap.size = w3.heap.size + 1 := by rw [← hW4]; simp
  have s5 : W5.heap.size = W4.heap.size + 1 := by rw [← hW5]; simp
  have s6 : W6.heap.size = W5.heap.size + 1 := by rw [← hW6]; simp
  have s7 : W7.heap.size = W6.heap.size + 1 := by rw [← hW7]; simp
  have n4 : W4.heap[w3.heap.size]? = some (.cells cliZ20.vv 27 (0, 0)) := hW4 ▸ blk_new _ _
  have n5 : W5.heap[W4.heap.size]? = some (.cells cliZ20.vv 27 (0, 0)) := hW5 ▸ blk_new _ _
  have n6 : W6.heap[W5.heap.size]? = some (.cells hlZ.vv 61 (0, 0)) := hW6 ▸ blk_new _ _
  have n7 : W7.heap[W6.heap.size]? = some (.cells hlZ.vv 61 (0, 0)) := hW7 ▸ blk_new _ _
  have b37 := below_step (below_step (below_step b4 b5) b6) b7
  have HD : Hid (DoesS w W7 gr gw w3.heap.size W4.heap.size W5.heap.size W6.heap.size k A n c o A2 c2 cliZ20 cliZ20 hlZ hlZ) := Lib.hid ⟨below_step HB1.out b37, ⟨HS3.out.1, HS3.out.2.1, HS3.out.2.2, by omega, by omega, by omega, by omega⟩, blk_below HX1.out b37, blk_below HY1.out b37, blk_below HZ1.out b37, blk_below HW3.out b37, HWAS.out.below b37, HLA2.out, blk_below (blk_below (blk_below n4 b5) b6) b7, blk_below (blk_below n5 b6) b7, blk_below n6 b7, n7⟩
  clear b4 b5 b6 b7 s4 s5 s6 s7 n4 n5 n6 n7 b37 HB1 HX1 HY1 HZ1 HW3 HWAS HS3 HGR HLA2
  go_upto_region 5 with fail
  clear hW4 hW5 hW6 hW7
  obtain ⟨gn, hgn⟩ : ∃ g, w3.heap.size = g := ⟨_, rfl⟩
  obtain ⟨gt, hgt⟩ : ∃ g, W4.heap.size = g := ⟨_, rfl⟩
  obtain ⟨gh, hgh⟩ : ∃ g, W5.heap.size = g := ⟨_, rfl⟩
  obtain ⟨gd, hgd⟩ : ∃ g, W6.heap.size = g := ⟨_, rfl⟩
  rw [hgn, hgt, hgh, hgd] at HD ⊢
  clear hgn hgt hgh hgd
  have HOL := Lib.hid ((op_at HD.out.y).all _ (Below.refl _ _))
  go_upto_block 0 with (first | ((with_reducible show wpList _ _ _ (Oper.mk _ (Op.load _ _) _ _ _ _ :: _) _ _); refine wpList_load_g (HOL.out.kind) _ rfl rfl (by go_simp) ?_))
  obtain ⟨q, hq⟩ : ∃ q, (IntKind.u64.wrap o.kind).tmod 4 = q := ⟨_, rfl⟩
  rw [hq]
  clear hq HOL
  go_cut [11, 12] (fun s11 s12 wx => ∃ NN : Int, s11 = .int .i64 NN ∧ s12 = .int .i64 NN ∧ Hid (∃ N T H D, DoesS w wx gr gw gn gt gh gd k A n c o A2 c2 N T H D ∧ DoesE wx gd N T H D NN))
  case first =>
    obtain ⟨q10, hq10⟩ : ∃ q10, min o.n 10 = q10 := ⟨_, rfl⟩
    have HQ := Lib.hid hq10
    have HQ10 : Hid (q10 ≤ 10) := Lib.hid (by omega)
    have HON : Hid (o.n ≤ 140737488355328 ∧ o.m.bn ≤ 140737488355328) := Lib.hid ⟨by have := HOW.out.small; omega, by have := HOW.out.m.tsm; omega⟩
    have OKU : Hid (Oku (o.t.take 10)) := Lib.hid (fun u hu => HOW.out.oku u (List.mem_of_mem_take hu))
    clear hq10
    by_cases hq0 : q = 0
    · have hqz : (q == 0) = true := by simpa using hq0
      clear hq0
      go_upto_region 12 with fail
      try dsimp only [Act.put]
      go_cut [13, 14] (fun s13 s14 wx => ∃ (g6 g7 : Nat) (Ab : Option Addr) (cb : Nat) (Ad : Option Addr) (cd : Nat), s13 = .pointer (some ⟨g6, 0, none⟩) ∧ s14 = .pointer (some ⟨g7, 0, none⟩) ∧ Hid (wx.heap[g6]? = some (.cells (tabV Ab q10 cb) 25 (0, 0)) ∧ wx.heap[g7]? = some (.cells (tabV Ad q10 cd) 25 (0, 0)) ∧ OS updK wx 0 Ab q10 cb (o.t.take 10) ∧ OS updK wx 0 Ad q10 cd (o.t.take 10) ∧ Below W7.heap.size W7 wx ∧ W7.heap.size ≤ g6 ∧ W7.heap.size ≤ g7))
      case first =>
        refine wp_region_forkN ((fun w0 => Below W7.heap.size W7 w0)) (OrdN.fork3 [0, 1, 3, 4] 2 6 7 (OrdN.fork3 [] 5 6 7 (OrdN.fork [] 6 7 (OrdN.lin [7, 8, 9]) (OrdN.lin [6, 8, 9])) (OrdN.fork [] 5 7 (OrdN.lin [7, 8, 9]) (OrdN.lin [5, 8, 9])) (OrdN.fork [] 5 6 (OrdN.lin [6, 8, 9]) (OrdN.lin [5, 8, 9]))) (OrdN.fork [] 2 7 (OrdN.fork [] 5 7 (OrdN.lin [7, 8, 9]) (OrdN.lin [5, 8, 9])) (OrdN.lin [2, 5, 8, 9])) (OrdN.fork [] 2 6 (OrdN.fork [] 5 6 (OrdN.lin [6, 8, 9]) (OrdN.lin [5, 8, 9])) (OrdN.lin [2, 5, 8, 9]))) [(0, 0), (1, 0), (2, 2), (3, 0), (4, 0), (5, 2), (6, 2), (7, 2), (8, 2), (9, 2)] (by kernel_rfl) (by kernel_rfl) ((below_drew1 _)) ?_
        simp only [wpN]
        have HV0 := Lib.hid (below_drew1 W7)
        obtain ⟨v0, hv0⟩ : ∃ v0, World.drew W7 = v0 := ⟨_, rfl⟩
        rw [hv0] at HV0 ⊢
        clear hv0
        iterate 1 (refine wpO_step0 rfl rfl (fun K hK => ?_); go_simp; refine hK _ _ ?_; clear hK K)
        refine wpO_loadW (t := 25) (ad := ⟨(w.heap.size+1), 2, none⟩) rfl rfl ?hw rfl rfl ((fun w0 hS => ((op_at HD.out.y).all _ hS).bat)) ?_
        case hw => go_simp
        iterate 1 (refine wpO_step0 rfl rfl (fun K hK => ?_); go_simp; refine hK _ _ ?_; clear hK K)
        refine wpO_loadW (t := 25) (ad := ⟨(w.heap.size+1), 2, none⟩) rfl rfl ?hw rfl rfl ((fun w0 hS => ((op_at HD.out.y).all _ hS).bat)) ?_
        case hw => go_simp
        refine wpO_nil ⟨?_, ?_, ?_⟩
        · refine wpO_step2 rfl rfl (HV0.out) (fun K hK => ?_)
          go_simp
          refine (lbatch_any o.A o.n o.c o.t v0 (HOW.out.rs.below (below_step HD.out.bel HV0.out)) HON.out.1).mono ?_
          rw [HQ.out]
          rintro e v1 ⟨Ab, cb, rfl, hO9, hb9⟩
          have HV1 := Lib.hid (below_step HV0.out hb9)
          try (first | replace HOb := Lib.hid (RS.below HOb.out hb9) | replace HOb := Lib.hid (blk_below HOb.out hb9) | replace HOb := Lib.hid (below_step HOb.out hb9) | replace HOb := Lib.hid (HOb.out.below hb9))
          try (first | replace HOd := Lib.hid (RS.below HOd.out hb9) | replace HOd := Lib.hid (blk_below HOd.out hb9) | replace HOd := Lib.hid (below_step HOd.out hb9) | replace HOd := Lib.hid (HOd.out.below hb9))
          try (first | replace HZ6 := Lib.hid (RS.below HZ6.out hb9) | replace HZ6 := Lib.hid (blk_below HZ6.out hb9) | replace HZ6 := Lib.hid (below_step HZ6.out hb9) | replace HZ6 := Lib.hid (HZ6.out.below hb9))
          try (first | replace HZ7 := Lib.hid (RS.below HZ7.out hb9) | replace HZ7 := Lib.hid (blk_below HZ7.out hb9) | replace HZ7 := Lib.hid (below_step HZ7.out hb9) | replace HZ7 := Lib.hid (HZ7.out.below hb9))
          have HOb := Lib.hid hO9
          clear hO9 hb9
          refine hK _ _ ⟨HV1.out, ?_⟩
          clear hK K
          refine wpO_nil ?_
          refine wpO_nil ⟨?_, ?_, ?_⟩
          · refine wpO_step2 rfl rfl (HV1.out) (fun K hK => ?_)
            go_simp
            refine (lbatch_any o.A o.n o.c o.t v1 (HOW.out.rs.below (below_step HD.out.bel HV1.out)) HON.out.1).mono ?_
            rw [HQ.out]
            rintro e v2 ⟨Ad, cd, rfl, hO9, hb9⟩
            have HV2 := Lib.hid (below_step HV1.out hb9)
            try (first | replace HOb := Lib.hid (RS.below HOb.out hb9) | replace HOb := Lib.hid (blk_below HOb.out hb9) | replace HOb := Lib.hid (below_step HOb.out hb9) | replace HOb := Lib.hid (HOb.out.below hb9))
            try (first | replace HOd := Lib.hid (RS.below HOd.out hb9) | replace HOd := Lib.hid (blk_below HOd.out hb9) | replace HOd := Lib.hid (below_step HOd.out hb9) | replace HOd := Lib.hid (HOd.out.below hb9))
            try (first | replace HZ6 := Lib.hid (RS.below HZ6.out hb9) | replace HZ6 := Lib.hid (blk_below HZ6.out hb9) | replace HZ6 := Lib.hid (below_step HZ6.out hb9) | replace HZ6 := Lib.hid (HZ6.out.below hb9))
            try (first | replace HZ7 := Lib.hid (RS.below HZ7.out hb9) | replace HZ7 := Lib.hid (blk_below HZ7.out hb9) | replace HZ7 := Lib.hid (below_step HZ7.out hb9) | replace HZ7 := Lib.hid (HZ7.out.below hb9))
            have HOd := Lib.hid hO9
            clear hO9 hb9
            refine hK _ _ ⟨HV2.out, ?_⟩
            clear hK K
            refine wpO_nil ?_
            refine wpO_nil ⟨?_, ?_⟩
            · refine wpO_step2 rfl rfl (HV2.out) (fun K hK => ?_)
              go_simp
              have hz9 := blk_new v2 (.cells (tabV none 0 0) 25)
              obtain ⟨v3, hw9⟩ : ∃ w9, World.alloc v2 (.cells (tabV none 0 0) 25) = w9 := ⟨_, rfl⟩
              have ha9 : Below (World.heap v2).size v2 v3 := hw9 ▸ below_alloc (Below.refl _ _) _
              have HV3 := Lib.hid (below_step HV2.out ha9)
              refine kw_cast hw9 ?_
              rw [hw9] at hz9
              refine hK _ _ ⟨HV3.out, ?_⟩
              clear hK K
              obtain ⟨g6, hg6⟩ : ∃ g, (World.heap v2).size = g := ⟨_, rfl⟩
              try have HD67 : Hid (g6 ≠ g7) := Lib.hid (by first | (have h9 := blk_lt HZ6.out; omega) | (have h9 := blk_lt HZ7.out; omega))
              rw [hg6] at hz9 ⊢
              have HZ6 := Lib.hid hz9
              have HGE6 : Hid ((World.heap W7).size ≤ g6) := Lib.hid (by have h9 := HV2.out.size; omega)
              try (first | replace HOb := Lib.hid (RS.below HOb.out ha9) | replace HOb := Lib.hid (blk_below HOb.out ha9) | replace HOb := Lib.hid (below_step HOb.out ha9) | replace HOb := Lib.hid (HOb.out.below ha9))
              try (first | replace HOd := Lib.hid (RS.below HOd.out ha9) | replace HOd := Lib.hid (blk_below HOd.out ha9) | replace HOd := Lib.hid (below_step HOd.out ha9) | replace HOd := Lib.hid (HOd.out.below ha9))
              try (first | replace HZ6 := Lib.hid (RS.below HZ6.out ha9) | replace HZ6 := Lib.hid (blk_below HZ6.out ha9) | replace HZ6 := Lib.hid (below_step HZ6.out ha9) | replace HZ6 := Lib.hid (HZ6.out.below ha9))
              try (first | replace HZ7 := Lib.hid (RS.below HZ7.out ha9) | replace HZ7 := Lib.hid (blk_below HZ7.out ha9) | replace HZ7 := Lib.hid (below_step HZ7.out ha9) | replace HZ7 := Lib.hid (HZ7.out.below ha9))
              clear hw9 hz9 ha9 hg6
              refine wpO_nil ?_
              refine wpO_step2 rfl rfl (HV3.out) (fun K hK => ?_)
              go_simp
              have hz9 := blk_new v3 (.cells (tabV none 0 0) 25)
              obtain ⟨v4, hw9⟩ : ∃ w9, World.alloc v3 (.cells (tabV none 0 0) 25) = w9 := ⟨_, rfl⟩
              have ha9 : Below (World.heap v3).size v3 v4 := hw9 ▸ below_alloc (Below.refl _ _) _
              have HV4 := Lib.hid (below_step HV3.out ha9)
              refine kw_cast hw9 ?_
              rw [hw9] at hz9
              refine hK _ _ ⟨HV4.out, ?_⟩
              clear hK K
              obtain ⟨g7, hg7⟩ : ∃ g, (World.heap v3).size = g := ⟨_, rfl⟩
              try have HD67 : Hid (g6 ≠ g7) := Lib.hid (by first | (have h9 := blk_lt HZ6.out; omega) | (have h9 := blk_lt HZ7.out; omega))
              rw [hg7] at hz9 ⊢
              have HZ7 := Lib.hid hz9
              have HGE7 : Hid ((World.heap W7).size ≤ g7) := Lib.hid (by have h9 := HV3.out.size; omega)
              try (first | replace HOb := Lib.hid (RS.below HOb.out ha9) | replace HOb := Lib.hid (blk_below HOb.out ha9) | replace HOb := Lib.hid (below_step HOb.out ha9) | replace HOb := Lib.hid (HOb.out.below ha9))
              try (first | replace HOd := Lib.hid (RS.below HOd.out ha9) | replace HOd := Lib.hid (blk_below HOd.out ha9) | replace HOd := Lib.hid (below_step HOd.out ha9) | replace HOd := Lib.hid (HOd.out.below ha9))
              try (first | replace HZ6 := Lib.hid (RS.below HZ6.out ha9) | replace HZ6 := Lib.hid (blk_below HZ6.out ha9) | replace HZ6 := Lib.hid (below_step HZ6.out ha9) | replace HZ6 := Lib.hid (HZ6.out.below ha9))
              try (first | replace HZ7 := Lib.hid (RS.below HZ7.out ha9) | replace HZ7 := Lib.hid (blk_below HZ7.out ha9) | replace HZ7 := Lib.hid (below_step HZ7.out ha9) | replace HZ7 := Lib.hid (HZ7.out.below ha9))
              clear hw9 hz9 ha9 hg7
              refine wpO_step2 rfl rfl (HV4.out) (fun K hK => ?_)
              rw [if_pos (show Region.wanted _ _ = true from rfl)]
              refine oper_store_blk HZ6.out 25 0 (tabV Ab q10 cb) (Nat.le_refl _) (info_bat _ _ _) (tab_one _ _ _) _ _ rfl rfl rfl ?_
              intro v5 hg9 hs9 hb9
              rw [splice_tab] at hb9
              have HV5 := Lib.hid (below_grown HV4.out hg9 HGE6.out)
              have HOb := Lib.hid (HOb.out.grownT HZ6.out (by decide) hg9)
              have HOd := Lib.hid (HOd.out.grownT HZ6.out (by decide) hg9)
              have HZ7 := Lib.hid (blk_grown HZ7.out hg9 (fun e => by injection e with e; have := HD67.out; omega))
              have HZ6 := Lib.hid hb9
              clear hg9 hs9 hb9
              refine hK _ _ ⟨HV5.out, ?_⟩
              clear hK K
              refine wpO_step2 rfl rfl (HV5.out) (fun K hK => ?_)
              rw [if_pos (show Region.wanted _ _ = true from rfl)]
              refine oper_store_blk HZ7.out 25 0 (tabV Ad q10 cd) (Nat.le_refl _) (info_bat _ _ _) (tab_one _ _ _) _ _ rfl rfl rfl ?_
              intro v6 hg9 hs9 hb9
              rw [splice_tab] at hb9
              have HV6 := Lib.hid (below_grown HV5.out hg9 HGE7.out)
              have HOb := Lib.hid (HOb.out.grownT HZ7.out (by decide) hg9)
              have HOd := Lib.hid (HOd.out.grownT HZ7.out (by decide) hg9)
              have HZ6 := Lib.hid (blk_grown HZ6.out hg9 (fun e => by injection e with e; have := HD67.out; omega))
              have HZ7 := Lib.hid hb9
              clear hg9 hs9 hb9
              refine hK _ _ ⟨HV6.out, ?_⟩
              clear hK K
              refine wpO_nil ?_
              go_wp2_with fail
              go_meet
              exact ⟨g6, g7, Ab, cb, Ad, cd, rfl, rfl, HZ6.out, HZ7.out, HOb.out.lower (Nat.zero_le _), HOd.out.lower (Nat.zero_le _), HV6.out, HGE6.out, HGE7.out⟩
            · refine wpO_step2 rfl rfl (HV2.out) (fun K hK => ?_)
              go_simp
              have hz9 := blk_new v2 (.cells (tabV none 0 0) 25)
              obtain ⟨v3, hw9⟩ : ∃ w9, World.alloc v2 (.cells (tabV none 0 0) 25) = w9 := ⟨_, rfl⟩
              have ha9 : Below (World.heap v2).size v2 v3 := hw9 ▸ below_alloc (Below.refl _ _) _
              have HV3 := Lib.hid (below_step HV2.out ha9)
              refine kw_cast hw9 ?_
              rw [hw9] at hz9
              refine hK _ _ ⟨HV3.out, ?_⟩
              clear hK K
              obtain ⟨g7, hg7⟩ : ∃ g, (World.heap v2).size = g := ⟨_, rfl⟩
              try have HD67 : Hid (g6 ≠ g7) := Lib.hid (by first | (have h9 := blk_lt HZ6.out; omega) | (have h9 := blk_lt HZ7.out; omega))
              rw [hg7] at hz9 ⊢
              have HZ7 := Lib.hid hz9
              have HGE7 : Hid ((World.heap W7).size ≤ g7) := Lib.hid (by have h9 := HV2.out.size; omega)
              try (first | replace HOb := Lib.hid (RS.below HOb.out ha9) | replace HOb := Lib.hid (blk_below HOb.out ha9) | replace HOb := Lib.hid (below_step HOb.out ha9) | replace HOb := Lib.hid (HOb.out.below ha9))
              try (first | replace HOd := Lib.hid (RS.below HOd.out ha9) | replace HOd := Lib.hid (blk_below HOd.out ha9) | replace HOd := Lib.hid (below_step HOd.out ha9) | replace HOd := Lib.hid (HOd.out.below ha9))
              try (first | replace HZ6 := Lib.hid (RS.below HZ6.out ha9) | replace HZ6 := Lib.hid (blk_below HZ6.out ha9) | replace HZ6 := Lib.hid (below_step HZ6.out ha9) | replace HZ6 := Lib.hid (HZ6.out.below ha9))
              try (first | replace HZ7 := Lib.hid (RS.below HZ7.out ha9) | replace HZ7 := Lib.hid (blk_below HZ7.out ha9) | replace HZ7 := Lib.hid (below_step HZ7.out ha9) | replace HZ7 := Lib.hid (HZ7.out.below ha9))
              clear hw9 hz9 ha9 hg7
              refine wpO_nil ?_
              refine wpO_step2 rfl rfl (HV3.out) (fun K hK => ?_)
              go_simp
              have hz9 := blk_new v3 (.cells (tabV none 0 0) 25)
              obtain ⟨v4, hw9⟩ : ∃ w9, World.alloc v3 (.cells (tabV none 0 0) 25) = w9 := ⟨_, rfl⟩
              have ha9 : Below (World.heap v3).size v3 v4 := hw9 ▸ below_alloc (Below.refl _ _) _
              have HV4 := Lib.hid (below_step HV3.out ha9)
              refine kw_cast hw9 ?_
              rw [hw9] at hz9
              refine hK _ _ ⟨HV4.out, ?_⟩
              clear hK K
              obtain ⟨g6, hg6⟩ : ∃ g, (World.heap v3).size = g := ⟨_, rfl⟩
              try have HD67 : Hid (g6 ≠ g7) := Lib.hid (by first | (have h9 := blk_lt HZ6.out; omega) | (have h9 := blk_lt HZ7.out; omega))
              rw [hg6] at hz9 ⊢
              have HZ6 := Lib.hid hz9
              have HGE6 : Hid ((World.heap W7).size ≤ g6) := Lib.hid (by have h9 := HV3.out.size; omega)
              try (first | replace HOb := Lib.hid (RS.below HOb.out ha9) | replace HOb := Lib.hid (blk_below HOb.out ha9) | replace HOb := Lib.hid (below_step HOb.out ha9) | replace HOb := Lib.hid (HOb.out.below ha9))
              try (first | replace HOd := Lib.hid (RS.below HOd.out ha9) | replace HOd := Lib.hid (blk_below HOd.out ha9) | replace HOd := Lib.hid (below_step HOd.out ha9) | replace HOd := Lib.hid (HOd.out.below ha9))
              try (first | replace HZ6 := Lib.hid (RS.below HZ6.out ha9) | replace HZ6 := Lib.hid (blk_below HZ6.out ha9) | replace HZ6 := Lib.hid (below_step HZ6.out ha9) | replace HZ6 := Lib.hid (HZ6.out.below ha9))
              try (first | replace HZ7 := Lib.hid (RS.below HZ7.out ha9) | replace HZ7 := Lib.hid (blk_below HZ7.out ha9) | replace HZ7 := Lib.hid (below_step HZ7.out ha9) | replace HZ7 := Lib.hid (HZ7.out.below ha9))
              clear hw9 hz9 ha9 hg6
              refine wpO_step2 rfl rfl (HV4.out) (fun K hK => ?_)
              rw [if_pos (show Region.wanted _ _ = true from rfl)]
              refine oper_store_blk HZ6.out 25 0 (tabV Ab q10 cb) (Nat.le_refl _) (info_bat _ _ _) (tab_one _ _ _) _ _ rfl rfl rfl ?_
              intro v5 hg9 hs9 hb9
              rw [splice_tab] at hb9
              have HV5 := Lib.hid (below_grown HV4.out hg9 HGE6.out)
              have HOb := Lib.hid (HOb.out.grownT HZ6.out (by decide) hg9)
              have HOd := Lib.hid (HOd.out.grownT HZ6.out (by decide) hg9)
              have HZ7 := Lib.hid (blk_grown HZ7.out hg9 (fun e => by injection e with e; have := HD67.out; omega))
              have HZ6 := Lib.hid hb9
              clear hg9 hs9 hb9
              refine hK _ _ ⟨HV5.out, ?_⟩
              clear hK K
              refine wpO_step2 rfl rfl (HV5.out) (fun K hK => ?_)
              rw [if_pos (show Region.wanted _ _ = true from rfl)]
              refine oper_store_blk HZ7.out 25 0 (tabV Ad q10 cd) (Nat.le_refl _) (info_bat _ _ _) (tab_one _ _ _) _ _ rfl rfl rfl ?_
              intro v6 hg9 hs9 hb9
              rw [splice_tab] at hb9
              have HV6 := Lib.hid (below_grown HV5.out hg9 HGE7.out)
              have HOb := Lib.hid (HOb.out.grownT HZ7.out (by decide) hg9)
              have HOd := Lib.hid (HOd.out.grownT HZ7.out (by decide) hg9)
              have HZ6 := Lib.hid (blk_grown HZ6.out hg9 (fun e => by injection e with e; have := HD67.out; omega))
              have HZ7 := Lib.hid hb9
              clear hg9 hs9 hb9
              refine hK _ _ ⟨HV6.out, ?_⟩
              clear hK K
              refine wpO_nil ?_
              go_wp2_with fail
              go_meet
              exact ⟨g6, g7, Ab, cb, Ad, cd, rfl, rfl, HZ6.out, HZ7.out, HOb.out.lower (Nat.zero_le _), HOd.out.lower (Nat.zero_le _), HV6.out, HGE6.out, HGE7.out⟩
          · refine wpO_step2 rfl rfl (HV1.out) (fun K hK => ?_)
            go_simp
            have hz9 := blk_new v1 (.cells (tabV none 0 0) 25)
            obtain ⟨v2, hw9⟩ : ∃ w9, World.alloc v1 (.cells (tabV none 0 0) 25) = w9 := ⟨_, rfl⟩
            have ha9 : Below (World.heap v1).size v1 v2 := hw9 ▸ below_alloc (Below.refl _ _) _
            have HV2 := Lib.hid (below_step HV1.out ha9)
            refine kw_cast hw9 ?_
            rw [hw9] at hz9
            refine hK _ _ ⟨HV2.out, ?_⟩
            clear hK K
            obtain ⟨g6, hg6⟩ : ∃ g, (World.heap v1).size = g := ⟨_, rfl⟩
            try have HD67 : Hid (g6 ≠ g7) := Lib.hid (by first | (have h9 := blk_lt HZ6.out; omega) | (have h9 := blk_lt HZ7.out; omega))
            rw [hg6] at hz9 ⊢
            have HZ6 := Lib.hid hz9
            have HGE6 : Hid ((World.heap W7).size ≤ g6) := Lib.hid (by have h9 := HV1.out.size; omega)
            try (first | replace HOb := Lib.hid (RS.below HOb.out ha9) | replace HOb := Lib.hid (blk_below HOb.out ha9) | replace HOb := Lib.hid (below_step HOb.out ha9) | replace HOb := Lib.hid (HOb.out.below ha9))
            try (first | replace HOd := Lib.hid (RS.below HOd.out ha9) | replace HOd := Lib.hid (blk_below HOd.out ha9) | replace HOd := Lib.hid (below_step HOd.out ha9) | replace HOd := Lib.hid (HOd.out.below ha9))
            try (first | replace HZ6 := Lib.hid (RS.below HZ6.out ha9) | replace HZ6 := Lib.hid (blk_below HZ6.out ha9) | replace HZ6 := Lib.hid (below_step HZ6.out ha9) | replace HZ6 := Lib.hid (HZ6.out.below ha9))
            try (first | replace HZ7 := Lib.hid (RS.below HZ7.out ha9) | replace HZ7 := Lib.hid (blk_below HZ7.out ha9) | replace HZ7 := Lib.hid (below_step HZ7.out ha9) | replace HZ7 := Lib.hid (HZ7.out.below ha9))
            clear hw9 hz9 ha9 hg6
            refine wpO_nil ?_
            refine wpO_nil ⟨?_, ?_⟩
            · refine wpO_step2 rfl rfl (HV2.out) (fun K hK => ?_)
              go_simp
              refine (lbatch_any o.A o.n o.c o.t v2 (HOW.out.rs.below (below_step HD.out.bel HV2.out)) HON.out.1).mono ?_
              rw [HQ.out]
              rintro e v3 ⟨Ad, cd, rfl, hO9, hb9⟩
              have HV3 := Lib.hid (below_step HV2.out hb9)
              try (first | replace HOb := Lib.hid (RS.below HOb.out hb9) | replace HOb := Lib.hid (blk_below HOb.out hb9) | replace HOb := Lib.hid (below_step HOb.out hb9) | replace HOb := Lib.hid (HOb.out.below hb9))
              try (first | replace HOd := Lib.hid (RS.below HOd.out hb9) | replace HOd := Lib.hid (blk_below HOd.out hb9) | replace HOd := Lib.hid (below_step HOd.out hb9) | replace HOd := Lib.hid (HOd.out.below hb9))
              try (first | replace HZ6 := Lib.hid (RS.below HZ6.out hb9) | replace HZ6 := Lib.hid (blk_below HZ6.out hb9) | replace HZ6 := Lib.hid (below_step HZ6.out hb9) | replace HZ6 := Lib.hid (HZ6.out.below hb9))
              try (first | replace HZ7 := Lib.hid (RS.below HZ7.out hb9) | replace HZ7 := Lib.hid (blk_below HZ7.out hb9) | replace HZ7 := Lib.hid (below_step HZ7.out hb9) | replace HZ7 := Lib.hid (HZ7.out.below hb9))
              have HOd := Lib.hid hO9
              clear hO9 hb9
              refine hK _ _ ⟨HV3.out, ?_⟩
              clear hK K
              refine wpO_nil ?_
              refine wpO_step2 rfl rfl (HV3.out) (fun K hK => ?_)
              go_simp
              have hz9 := blk_new v3 (.cells (tabV none 0 0) 25)
              obtain ⟨v4, hw9⟩ : ∃ w9, World.alloc v3 (.cells (tabV none 0 0) 25) = w9 := ⟨_, rfl⟩
              have ha9 : Below (World.heap v3).size v3 v4 := hw9 ▸ below_alloc (Below.refl _ _) _
              have HV4 := Lib.hid (below_step HV3.out ha9)
              refine kw_cast hw9 ?_
              rw [hw9] at hz9
              refine hK _ _ ⟨HV4.out, ?_⟩
              clear hK K
              obtain ⟨g7, hg7⟩ : ∃ g, (World.heap v3).size = g := ⟨_, rfl⟩
              try have HD67 : Hid (g6 ≠ g7) := Lib.hid (by first | (have h9 := blk_lt HZ6.out; omega) | (have h9 := blk_lt HZ7.out; omega))
              rw [hg7] at hz9 ⊢
              have HZ7 := Lib.hid hz9
              have HGE7 : Hid ((World.heap W7).size ≤ g7) := Lib.hid (by have h9 := HV3.out.size; omega)
              try (first | replace HOb := Lib.hid (RS.below HOb.out ha9) | replace HOb := Lib.hid (blk_below HOb.out ha9) | replace HOb := Lib.hid (below_step HOb.out ha9) | replace HOb := Lib.hid (HOb.out.below ha9))
              try (first | replace HOd := Lib.hid (RS.below HOd.out ha9) | replace HOd := Lib.hid (blk_below HOd.out ha9) | replace HOd := Lib.hid (below_step HOd.out ha9) | replace HOd := Lib.hid (HOd.out.below ha9))
              try (first | replace HZ6 := Lib.hid (RS.below HZ6.out ha9) | replace HZ6 := Lib.hid (blk_below HZ6.out ha9) | replace HZ6 := Lib.hid (below_step HZ6.out ha9) | replace HZ6 := Lib.hid (HZ6.out.below ha9))
              try (first | replace HZ7 := Lib.hid (RS.below HZ7.out ha9) | replace HZ7 := Lib.hid (blk_below HZ7.out ha9) | replace HZ7 := Lib.hid (below_step HZ7.out ha9) | replace HZ7 := Lib.hid (HZ7.out.below ha9))
              clear hw9 hz9 ha9 hg7
              refine wpO_step2 rfl rfl (HV4.out) (fun K hK => ?_)
              rw [if_pos (show Region.wanted _ _ = true from rfl)]
              refine oper_store_blk HZ6.out 25 0 (tabV Ab q10 cb) (Nat.le_refl _) (info_bat _ _ _) (tab_one _ _ _) _ _ rfl rfl rfl ?_
              intro v5 hg9 hs9 hb9
              rw [splice_tab] at hb9
              have HV5 := Lib.hid (below_grown HV4.out hg9 HGE6.out)
              have HOb := Lib.hid (HOb.out.grownT HZ6.out (by decide) hg9)
              have HOd := Lib.hid (HOd.out.grownT HZ6.out (by decide) hg9)
              have HZ7 := Lib.hid (blk_grown HZ7.out hg9 (fun e => by injection e with e; have := HD67.out; omega))
              have HZ6 := Lib.hid hb9
              clear hg9 hs9 hb9
              refine hK _ _ ⟨HV5.out, ?_⟩
              clear hK K
              refine wpO_step2 rfl rfl (HV5.out) (fun K hK => ?_)
              rw [if_pos (show Region.wanted _ _ = true from rfl)]
              refine oper_store_blk HZ7.out 25 0 (tabV Ad q10 cd) (Nat.le_refl _) (info_bat _ _ _) (tab_one _ _ _) _ _ rfl rfl rfl ?_
              intro v6 hg9 hs9 hb9
              rw [splice_tab] at hb9
              have HV6 := Lib.hid (below_grown HV5.out hg9 HGE7.out)
              have HOb := Lib.hid (HOb.out.grownT HZ7.out (by decide) hg9)
              have HOd := Lib.hid (HOd.out.grownT HZ7.out (by decide) hg9)
              have HZ6 := Lib.hid (blk_grown HZ6.out hg9 (fun e => by injection e with e; have := HD67.out; omega))
              have HZ7 := Lib.hid hb9
              clear hg9 hs9 hb9
              refine hK _ _ ⟨HV6.out, ?_⟩
              clear hK K
              refine wpO_nil ?_
              go_wp2_with fail
              go_meet
              exact ⟨g6, g7, Ab, cb, Ad, cd, rfl, rfl, HZ6.out, HZ7.out, HOb.out.lower (Nat.zero_le _), HOd.out.lower (Nat.zero_le _), HV6.out, HGE6.out, HGE7.out⟩
            · refine wpO_step2 rfl rfl (HV2.out) (fun K hK => ?_)
              go_simp
              have hz9 := blk_new v2 (.cells (tabV none 0 0) 25)
              obtain ⟨v3, hw9⟩ : ∃ w9, World.alloc v2 (.cells (tabV none 0 0) 25) = w9 := ⟨_, rfl⟩
              have ha9 : Below (World.heap v2).size v2 v3 := hw9 ▸ below_alloc (Below.refl _ _) _
              have HV3 := Lib.hid (below_step HV2.out ha9)
              refine kw_cast hw9 ?_
              rw [hw9] at hz9
              refine hK _ _ ⟨HV3.out, ?_⟩
              clear hK K
              obtain ⟨g7, hg7⟩ : ∃ g, (World.heap v2).size = g := ⟨_, rfl⟩
              try have HD67 : Hid (g6 ≠ g7) := Lib.hid (by first | (have h9 := blk_lt HZ6.out; omega) | (have h9 := blk_lt HZ7.out; omega))
              rw [hg7] at hz9 ⊢
              have HZ7 := Lib.hid hz9
              have HGE7 : Hid ((World.heap W7).size ≤ g7) := Lib.hid (by have h9 := HV2.out.size; omega)
              try (first | replace HOb := Lib.hid (RS.below HOb.out ha9) | replace HOb := Lib.hid (blk_below HOb.out ha9) | replace HOb := Lib.hid (below_step HOb.out ha9) | replace HOb := Lib.hid (HOb.out.below ha9))
              try (first | replace HOd := Lib.hid (RS.below HOd.out ha9) | replace HOd := Lib.hid (blk_below HOd.out ha9) | replace HOd := Lib.hid (below_step HOd.out ha9) | replace HOd := Lib.hid (HOd.out.below ha9))
              try (first | replace HZ6 := Lib.hid (RS.below HZ6.out ha9) | replace HZ6 := Lib.hid (blk_below HZ6.out ha9) | replace HZ6 := Lib.hid (below_step HZ6.out ha9) | replace HZ6 := Lib.hid (HZ6.out.below ha9))
              try (first | replace HZ7 := Lib.hid (RS.below HZ7.out ha9) | replace HZ7 := Lib.hid (blk_below HZ7.out ha9) | replace HZ7 := Lib.hid (below_step HZ7.out ha9) | replace HZ7 := Lib.hid (HZ7.out.below ha9))
              clear hw9 hz9 ha9 hg7
              refine wpO_nil ?_
              refine wpO_step2 rfl rfl (HV3.out) (fun K hK => ?_)
              go_simp
              refine (lbatch_any o.A o.n o.c o.t v3 (HOW.out.rs.below (below_step HD.out.bel HV3.out)) HON.out.1).mono ?_
              rw [HQ.out]
              rintro e v4 ⟨Ad, cd, rfl, hO9, hb9⟩
              have HV4 := Lib.hid (below_step HV3.out hb9)
              try (first | replace HOb := Lib.hid (RS.below HOb.out hb9) | replace HOb := Lib.hid (blk_below HOb.out hb9) | replace HOb := Lib.hid (below_step HOb.out hb9) | replace HOb := Lib.hid (HOb.out.below hb9))
              try (first | replace HOd := Lib.hid (RS.below HOd.out hb9) | replace HOd := Lib.hid (blk_below HOd.out hb9) | replace HOd := Lib.hid (below_step HOd.out hb9) | replace HOd := Lib.hid (HOd.out.below hb9))
              try (first | replace HZ6 := Lib.hid (RS.below HZ6.out hb9) | replace HZ6 := Lib.hid (blk_below HZ6.out hb9) | replace HZ6 := Lib.hid (below_step HZ6.out hb9) | replace HZ6 := Lib.hid (HZ6.out.below hb9))
              try (first | replace HZ7 := Lib.hid (RS.below HZ7.out hb9) | replace HZ7 := Lib.hid (blk_below HZ7.out hb9) | replace HZ7 := Lib.hid (below_step HZ7.out hb9) | replace HZ7 := Lib.hid (HZ7.out.below hb9))
              have HOd := Lib.hid hO9
              clear hO9 hb9
              refine hK _ _ ⟨HV4.out, ?_⟩
              clear hK K
              refine wpO_step2 rfl rfl (HV4.out) (fun K hK => ?_)
              rw [if_pos (show Region.wanted _ _ = true from rfl)]
              refine oper_store_blk HZ6.out 25 0 (tabV Ab q10 cb) (Nat.le_refl _) (info_bat _ _ _) (tab_one _ _ _) _ _ rfl rfl rfl ?_
              intro v5 hg9 hs9 hb9
              rw [splice_tab] at hb9
              have HV5 := Lib.hid (below_grown HV4.out hg9 HGE6.out)
              have HOb := Lib.hid (HOb.out.grownT HZ6.out (by decide) hg9)
              have HOd := Lib.hid (HOd.out.grownT HZ6.out (by decide) hg9)
              have HZ7 := Lib.hid (blk_grown HZ7.out hg9 (fun e => by injection e with e; have := HD67.out; omega))
              have HZ6 := Lib.hid hb9
              clear hg9 hs9 hb9
              refine hK _ _ ⟨HV5.out, ?_⟩
              clear hK K
              refine wpO_step2 rfl rfl (HV5.out) (fun K hK => ?_)
              rw [if_pos (show Region.wanted _ _ = true from rfl)]
              refine oper_store_blk HZ7.out 25 0 (tabV Ad q10 cd) (Nat.le_refl _) (info_bat _ _ _) (tab_one _ _ _) _ _ rfl rfl rfl ?_
              intro v6 hg9 hs9 hb9
              rw [splice_tab] at hb9
              have HV6 := Lib.hid (below_grown HV5.out hg9 HGE7.out)
              have HOb := Lib.hid (HOb.out.grownT HZ7.out (by decide) hg9)
              have HOd := Lib.hid (HOd.out.grownT HZ7.out (by decide) hg9)
              have HZ6 := Lib.hid (blk_grown HZ6.out hg9 (fun e => by injection e with e; have := HD67.out; omega))
              have HZ7 := Lib.hid hb9
              clear hg9 hs9 hb9
              refine hK _ _ ⟨HV6.out, ?_⟩
              clear hK K
              refine wpO_nil ?_
              go_wp2_with fail
              go_meet
              exact ⟨g6, g7, Ab, cb, Ad, cd, rfl, rfl, HZ6.out, HZ7.out, HOb.out.lower (Nat.zero_le _), HOd.out.lower (Nat.zero_le _), HV6.out, HGE6.out, HGE7.out⟩
          · refine wpO_step2 rfl rfl (HV1.out) (fun K hK => ?_)
            go_simp
            have hz9 := blk_new v1 (.cells (tabV none 0 0) 25)
            obtain ⟨v2, hw9⟩ : ∃ w9, World.alloc v1 (.cells (tabV none 0 0) 25) = w9 := ⟨_, rfl⟩
            have ha9 : Below (World.heap v1).size v1 v2 := hw9 ▸ below_alloc (Below.refl _ _) _
            have HV2 := Lib.hid (below_step HV1.out ha9)
            refine kw_cast hw9 ?_
            rw [hw9] at hz9
            refine hK _ _ ⟨HV2.out, ?_⟩
            clear hK K
            obtain ⟨g7, hg7⟩ : ∃ g, (World.heap v1).size = g := ⟨_, rfl⟩
            try have HD67 : Hid (g6 ≠ g7) := Lib.hid (by first | (have h9 := blk_lt HZ6.out; omega) | (have h9 := blk_lt HZ7.out; omega))
            rw [hg7] at hz9 ⊢
            have HZ7 := Lib.hid hz9
            have HGE7 : Hid ((World.heap W7).size ≤ g7) := Lib.hid (by have h9 := HV1.out.size; omega)
            try (first | replace HOb := Lib.hid (RS.below HOb.out ha9) | replace HOb := Lib.hid (blk_below HOb.out ha9) | replace HOb := Lib.hid (below_step HOb.out ha9) | replace HOb := Lib.hid (HOb.out.below ha9))
            try (first | replace HOd := Lib.hid (RS.below HOd.out ha9) | replace HOd := Lib.hid (blk_below HOd.out ha9) | replace HOd := Lib.hid (below_step HOd.out ha9) | replace HOd := Lib.hid (HOd.out.below ha9))
            try (first | replace HZ6 := Lib.hid (RS.below HZ6.out ha9) | replace HZ6 := Lib.hid (blk_below HZ6.out ha9) | replace HZ6 := Lib.hid (below_step HZ6.out ha9) | replace HZ6 := Lib.hid (HZ6.out.below ha9))
            try (first | replace HZ7 := Lib.hid (RS.below HZ7.out ha9) | replace HZ7 := Lib.hid (blk_below HZ7.out ha9) | replace HZ7 := Lib.hid (below_step HZ7.out ha9) | replace HZ7 := Lib.hid (HZ7.out.below ha9))
            clear hw9 hz9 ha9 hg7
            refine wpO_nil ?_
            refine wpO_nil ⟨?_, ?_⟩
            · refine wpO_step2 rfl rfl (HV2.out) (fun K hK => ?_)
              go_simp
              refine (lbatch_any o.A o.n o.c o.t v2 (HOW.out.rs.below (below_step HD.out.bel HV2.out)) HON.out.1).mono ?_
              rw [HQ.out]
              rintro e v3 ⟨Ad, cd, rfl, hO9, hb9⟩
              have HV3 := Lib.hid (below_step HV2.out hb9)
              try (first | replace HOb := Lib.hid (RS.below HOb.out hb9) | replace HOb := Lib.hid (blk_below HOb.out hb9) | replace HOb := Lib.hid (below_step HOb.out hb9) | replace HOb := Lib.hid (HOb.out.below hb9))
              try (first | replace HOd := Lib.hid (RS.below HOd.out hb9) | replace HOd := Lib.hid (blk_below HOd.out hb9) | replace HOd := Lib.hid (below_step HOd.out hb9) | replace HOd := Lib.hid (HOd.out.below hb9))
              try (first | replace HZ6 := Lib.hid (RS.below HZ6.out hb9) | replace HZ6 := Lib.hid (blk_below HZ6.out hb9) | replace HZ6 := Lib.hid (below_step HZ6.out hb9) | replace HZ6 := Lib.hid (HZ6.out.below hb9))
              try (first | replace HZ7 := Lib.hid (RS.below HZ7.out hb9) | replace HZ7 := Lib.hid (blk_below HZ7.out hb9) | replace HZ7 := Lib.hid (below_step HZ7.out hb9) | replace HZ7 := Lib.hid (HZ7.out.below hb9))
              have HOd := Lib.hid hO9
              clear hO9 hb9
              refine hK _ _ ⟨HV3.out, ?_⟩
              clear hK K
              refine wpO_nil ?_
              refine wpO_step2 rfl rfl (HV3.out) (fun K hK => ?_)
              go_simp
              have hz9 := blk_new v3 (.cells (tabV none 0 0) 25)
              obtain ⟨v4, hw9⟩ : ∃ w9, World.alloc v3 (.cells (tabV none 0 0) 25) = w9 := ⟨_, rfl⟩
              have ha9 : Below (World.heap v3).size v3 v4 := hw9 ▸ below_alloc (Below.refl _ _) _
              have HV4 := Lib.hid (below_step HV3.out ha9)
              refine kw_cast hw9 ?_
              rw [hw9] at hz9
              refine hK _ _ ⟨HV4.out, ?_⟩
              clear hK K
              obtain ⟨g6, hg6⟩ : ∃ g, (World.heap v3).size = g := ⟨_, rfl⟩
              try have HD67 : Hid (g6 ≠ g7) := Lib.hid (by first | (have h9 := blk_lt HZ6.out; omega) | (have h9 := blk_lt HZ7.out; omega))
              rw [hg6] at hz9 ⊢
              have HZ6 := Lib.hid hz9
              have HGE6 : Hid ((World.heap W7).size ≤ g6) := Lib.hid (by have h9 := HV3.out.size; omega)
              try (first | replace HOb := Lib.hid (RS.below HOb.out ha9) | replace HOb := Lib.hid (blk_below HOb.out ha9) | replace HOb := Lib.hid (below_step HOb.out ha9) | replace HOb := Lib.hid (HOb.out.below ha9))
              try (first | replace HOd := Lib.hid (RS.below HOd.out ha9) | replace HOd := Lib.hid (blk_below HOd.out ha9) | replace HOd := Lib.hid (below_step HOd.out ha9) | replace HOd := Lib.hid (HOd.out.below ha9))
              try (first | replace HZ6 := Lib.hid (RS.below HZ6.out ha9) | replace HZ6 := Lib.hid (blk_below HZ6.out ha9) | replace HZ6 := Lib.hid (below_step HZ6.out ha9) | replace HZ6 := Lib.hid (HZ6.out.below ha9))
              try (first | replace HZ7 := Lib.hid (RS.below HZ7.out ha9) | replace HZ7 := Lib.hid (blk_below HZ7.out ha9) | replace HZ7 := Lib.hid (below_step HZ7.out ha9) | replace HZ7 := Lib.hid (HZ7.out.below ha9))
              clear hw9 hz9 ha9 hg6
              refine wpO_step2 rfl rfl (HV4.out) (fun K hK => ?_)
              rw [if_pos (show Region.wanted _ _ = true from rfl)]
              refine oper_store_blk HZ6.out 25 0 (tabV Ab q10 cb) (Nat.le_refl _) (info_bat _ _ _) (tab_one _ _ _) _ _ rfl rfl rfl ?_
              intro v5 hg9 hs9 hb9
              rw [splice_tab] at hb9
              have HV5 := Lib.hid (below_grown HV4.out hg9 HGE6.out)
              have HOb := Lib.hid (HOb.out.grownT HZ6.out (by decide) hg9)
              have HOd := Lib.hid (HOd.out.grownT HZ6.out (by decide) hg9)
              have HZ7 := Lib.hid (blk_grown HZ7.out hg9 (fun e => by injection e with e; have := HD67.out; omega))
              have HZ6 := Lib.hid hb9
              clear hg9 hs9 hb9
              refine hK _ _ ⟨HV5.out, ?_⟩
              clear hK K
              refine wpO_step2 rfl rfl (HV5.out) (fun K hK => ?_)
              rw [if_pos (show Region.wanted _ _ = true from rfl)]
              refine oper_store_blk HZ7.out 25 0 (tabV Ad q10 cd) (Nat.le_refl _) (info_bat _ _ _) (tab_one _ _ _) _ _ rfl rfl rfl ?_
              intro v6 hg9 hs9 hb9
              rw [splice_tab] at hb9
              have HV6 := Lib.hid (below_grown HV5.out hg9 HGE7.out)
              have HOb := Lib.hid (HOb.out.grownT HZ7.out (by decide) hg9)
              have HOd := Lib.hid (HOd.out.grownT HZ7.out (by decide) hg9)
              have HZ6 := Lib.hid (blk_grown HZ6.out hg9 (fun e => by injection e with e; have := HD67.out; omega))
              have HZ7 := Lib.hid hb9
              clear hg9 hs9 hb9
              refine hK _ _ ⟨HV6.out, ?_⟩
              clear hK K
              refine wpO_nil ?_
              go_wp2_with fail
              go_meet
              exact ⟨g6, g7, Ab, cb, Ad, cd, rfl, rfl, HZ6.out, HZ7.out, HOb.out.lower (Nat.zero_le _), HOd.out.lower (Nat.zero_le _), HV6.out, HGE6.out, HGE7.out⟩
            · refine wpO_step2 rfl rfl (HV2.out) (fun K hK => ?_)
              go_simp
              have hz9 := blk_new v2 (.cells (tabV none 0 0) 25)
              obtain ⟨v3, hw9⟩ : ∃ w9, World.alloc v2 (.cells (tabV none 0 0) 25) = w9 := ⟨_, rfl⟩
              have ha9 : Below (World.heap v2).size v2 v3 := hw9 ▸ below_alloc (Below.refl _ _) _
              have HV3 := Lib.hid (below_step HV2.out ha9)
              refine kw_cast hw9 ?_
              rw [hw9] at hz9
              refine hK _ _ ⟨HV3.out, ?_⟩
              clear hK K
              obtain ⟨g6, hg6⟩ : ∃ g, (World.heap v2).size = g := ⟨_, rfl⟩
              try have HD67 : Hid (g6 ≠ g7) := Lib.hid (by first | (have h9 := blk_lt HZ6.out; omega) | (have h9 := blk_lt HZ7.out; omega))
              rw [hg6] at hz9 ⊢
              have HZ6 := Lib.hid hz9
              have HGE6 : Hid ((World.heap W7).size ≤ g6) := Lib.hid (by have h9 := HV2.out.size; omega)
              try (first | replace HOb := Lib.hid (RS.below HOb.out ha9) | replace HOb := Lib.hid (blk_below HOb.out ha9) | replace HOb := Lib.hid (below_step HOb.out ha9) | replace HOb := Lib.hid (HOb.out.below ha9))
              try (first | replace HOd := Lib.hid (RS.below HOd.out ha9) | replace HOd := Lib.hid (blk_below HOd.out ha9) | replace HOd := Lib.hid (below_step HOd.out ha9) | replace HOd := Lib.hid (HOd.out.below ha9))
              try (first | replace HZ6 := Lib.hid (RS.below HZ6.out ha9) | replace HZ6 := Lib.hid (blk_below HZ6.out ha9) | replace HZ6 := Lib.hid (below_step HZ6.out ha9) | replace HZ6 := Lib.hid (HZ6.out.below ha9))
              try (first | replace HZ7 := Lib.hid (RS.below HZ7.out ha9) | replace HZ7 := Lib.hid (blk_below HZ7.out ha9) | replace HZ7 := Lib.hid (below_step HZ7.out ha9) | replace HZ7 := Lib.hid (HZ7.out.below ha9))
              clear hw9 hz9 ha9 hg6
              refine wpO_nil ?_
              refine wpO_step2 rfl rfl (HV3.out) (fun K hK => ?_)
              go_simp
              refine (lbatch_any o.A o.n o.c o.t v3 (HOW.out.rs.below (below_step HD.out.bel HV3.out)) HON.out.1).mono ?_
              rw [HQ.out]
              rintro e v4 ⟨Ad, cd, rfl, hO9, hb9⟩
              have HV4 := Lib.hid (below_step HV3.out hb9)
              try (first | replace HOb := Lib.hid (RS.below HOb.out hb9) | replace HOb := Lib.hid (blk_below HOb.out hb9) | replace HOb := Lib.hid (below_step HOb.out hb9) | replace HOb := Lib.hid (HOb.out.below hb9))
              try (first | replace HOd := Lib.hid (RS.below HOd.out hb9) | replace HOd := Lib.hid (blk_below HOd.out hb9) | replace HOd := Lib.hid (below_step HOd.out hb9) | replace HOd := Lib.hid (HOd.out.below hb9))
              try (first | replace HZ6 := Lib.hid (RS.below HZ6.out hb9) | replace HZ6 := Lib.hid (blk_below HZ6.out hb9) | replace HZ6 := Lib.hid (below_step HZ6.out hb9) | replace HZ6 := Lib.hid (HZ6.out.below hb9))
              try (first | replace HZ7 := Lib.hid (RS.below HZ7.out hb9) | replace HZ7 := Lib.hid (blk_below HZ7.out hb9) | replace HZ7 := Lib.hid (below_step HZ7.out hb9) | replace HZ7 := Lib.hid (HZ7.out.below hb9))
              have HOd := Lib.hid hO9
              clear hO9 hb9
              refine hK _ _ ⟨HV4.out, ?_⟩
              clear hK K
              refine wpO_step2 rfl rfl (HV4.out) (fun K hK => ?_)
              rw [if_pos (show Region.wanted _ _ = true from rfl)]
              refine oper_store_blk HZ6.out 25 0 (tabV Ab q10 cb) (Nat.le_refl _) (info_bat _ _ _) (tab_one _ _ _) _ _ rfl rfl rfl ?_
              intro v5 hg9 hs9 hb9
              rw [splice_tab] at hb9
              have HV5 := Lib.hid (below_grown HV4.out hg9 HGE6.out)
              have HOb := Lib.hid (HOb.out.grownT HZ6.out (by decide) hg9)
              have HOd := Lib.hid (HOd.out.grownT HZ6.out (by decide) hg9)
              have HZ7 := Lib.hid (blk_grown HZ7.out hg9 (fun e => by injection e with e; have := HD67.out; omega))
              have HZ6 := Lib.hid hb9
              clear hg9 hs9 hb9
              refine hK _ _ ⟨HV5.out, ?_⟩
              clear hK K
              refine wpO_step2 rfl rfl (HV5.out) (fun K hK => ?_)
              rw [if_pos (show Region.wanted _ _ = true from rfl)]
              refine oper_store_blk HZ7.out 25 0 (tabV Ad q10 cd) (Nat.le_refl _) (info_bat _ _ _) (tab_one _ _ _) _ _ rfl rfl rfl ?_
              intro v6 hg9 hs9 hb9
              rw [splice_tab] at hb9
              have HV6 := Lib.hid (below_grown HV5.out hg9 HGE7.out)
              have HOb := Lib.hid (HOb.out.grownT HZ7.out (by decide) hg9)
              have HOd := Lib.hid (HOd.out.grownT HZ7.out (by decide) hg9)
              have HZ6 := Lib.hid (blk_grown HZ6.out hg9 (fun e => by injection e with e; have := HD67.out; omega))
              have HZ7 := Lib.hid hb9
              clear hg9 hs9 hb9
              refine hK _ _ ⟨HV6.out, ?_⟩
              clear hK K
              refine wpO_nil ?_
              go_wp2_with fail
              go_meet
              exact ⟨g6, g7, Ab, cb, Ad, cd, rfl, rfl, HZ6.out, HZ7.out, HOb.out.lower (Nat.zero_le _), HOd.out.lower (Nat.zero_le _), HV6.out, HGE6.out, HGE7.out⟩
        · refine wpO_step2 rfl rfl (HV0.out) (fun K hK => ?_)
          go_simp
          have hz9 := blk_new v0 (.cells (tabV none 0 0) 25)
          obtain ⟨v1, hw9⟩ : ∃ w9, World.alloc v0 (.cells (tabV none 0 0) 25) = w9 := ⟨_, rfl⟩
          have ha9 : Below (World.heap v0).size v0 v1 := hw9 ▸ below_alloc (Below.refl _ _) _
          have HV1 := Lib.hid (below_step HV0.out ha9)
          refine kw_cast hw9 ?_
          rw [hw9] at hz9
          refine hK _ _ ⟨HV1.out, ?_⟩
          clear hK K
          obtain ⟨g6, hg6⟩ : ∃ g, (World.heap v0).size = g := ⟨_, rfl⟩
          try have HD67 : Hid (g6 ≠ g7) := Lib.hid (by first | (have h9 := blk_lt HZ6.out; omega) | (have h9 := blk_lt HZ7.out; omega))
          rw [hg6] at hz9 ⊢
          have HZ6 := Lib.hid hz9
          have HGE6 : Hid ((World.heap W7).size ≤ g6) := Lib.hid (by have h9 := HV0.out.size; omega)
          try (first | replace HOb := Lib.hid (RS.below HOb.out ha9) | replace HOb := Lib.hid (blk_below HOb.out ha9) | replace HOb := Lib.hid (below_step HOb.out ha9) | replace HOb := Lib.hid (HOb.out.below ha9))
          try (first | replace HOd := Lib.hid (RS.below HOd.out ha9) | replace HOd := Lib.hid (blk_below HOd.out ha9) | replace HOd := Lib.hid (below_step HOd.out ha9) | replace HOd := Lib.hid (HOd.out.below ha9))
          try (first | replace HZ6 := Lib.hid (RS.below HZ6.out ha9) | replace HZ6 := Lib.hid (blk_below HZ6.out ha9) | replace HZ6 := Lib.hid (below_step HZ6.out ha9) | replace HZ6 := Lib.hid (HZ6.out.below ha9))
          try (first | replace HZ7 := Lib.hid (RS.below HZ7.out ha9) | replace HZ7 := Lib.hid (blk_below HZ7.out ha9) | replace HZ7 := Lib.hid (below_step HZ7.out ha9) | replace HZ7 := Lib.hid (HZ7.out.below ha9))
          clear hw9 hz9 ha9 hg6
          refine wpO_nil ?_
          refine wpO_nil ⟨?_, ?_⟩
          · refine wpO_step2 rfl rfl (HV1.out) (fun K hK => ?_)
            go_simp
            refine (lbatch_any o.A o.n o.c o.t v1 (HOW.out.rs.below (below_step HD.out.bel HV1.out)) HON.out.1).mono ?_
            rw [HQ.out]
            rintro e v2 ⟨Ab, cb, rfl, hO9, hb9⟩
            have HV2 := Lib.hid (below_step HV1.out hb9)
            try (first | replace HOb := Lib.hid (RS.below HOb.out hb9) | replace HOb := Lib.hid (blk_below HOb.out hb9) | replace HOb := Lib.hid (below_step HOb.out hb9) | replace HOb := Lib.hid (HOb.out.below hb9))
            try (first | replace HOd := Lib.hid (RS.below HOd.out hb9) | replace HOd := Lib.hid (blk_below HOd.out hb9) | replace HOd := Lib.hid (below_step HOd.out hb9) | replace HOd := Lib.hid (HOd.out.below hb9))
            try (first | replace HZ6 := Lib.hid (RS.below HZ6.out hb9) | replace HZ6 := Lib.hid (blk_below HZ6.out hb9) | replace HZ6 := Lib.hid (below_step HZ6.out hb9) | replace HZ6 := Lib.hid (HZ6.out.below hb9))
            try (first | replace HZ7 := Lib.hid (RS.below HZ7.out hb9) | replace HZ7 := Lib.hid (blk_below HZ7.out hb9) | replace HZ7 := Lib.hid (below_step HZ7.out hb9) | replace HZ7 := Lib.hid (HZ7.out.below hb9))
            have HOb := Lib.hid hO9
            clear hO9 hb9
            refine hK _ _ ⟨HV2.out, ?_⟩
            clear hK K
            refine wpO_nil ?_
            refine wpO_nil ⟨?_, ?_⟩
            · refine wpO_step2 rfl rfl (HV2.out) (fun K hK => ?_)
              go_simp
              refine (lbatch_any o.A o.n o.c o.t v2 (HOW.out.rs.below (below_step HD.out.bel HV2.out)) HON.out.1).mono ?_
              rw [HQ.out]
              rintro e v3 ⟨Ad, cd, rfl, hO9, hb9⟩
              have HV3 := Lib.hid (below_step HV2.out hb9)
              try (first | replace HOb := Lib.hid (RS.below HOb.out hb9) | replace HOb := Lib.hid (blk_below HOb.out hb9) | replace HOb := Lib.hid (below_step HOb.out hb9) | replace HOb := Lib.hid (HOb.out.below hb9))
              try (first | replace HOd := Lib.hid (RS.below HOd.out hb9) | replace HOd := Lib.hid (blk_below HOd.out hb9) | replace HOd := Lib.hid (below_step HOd.out hb9) | replace HOd := Lib.hid (HOd.out.below hb9))
              try (first | replace HZ6 := Lib.hid (RS.below HZ6.out hb9) | replace HZ6 := Lib.hid (blk_below HZ6.out hb9) | replace HZ6 := Lib.hid (below_step HZ6.out hb9) | replace HZ6 := Lib.hid (HZ6.out.below hb9))
              try (first | replace HZ7 := Lib.hid (RS.below HZ7.out hb9) | replace HZ7 := Lib.hid (blk_below HZ7.out hb9) | replace HZ7 := Lib.hid (below_step HZ7.out hb9) | replace HZ7 := Lib.hid (HZ7.out.below hb9))
              have HOd := Lib.hid hO9
              clear hO9 hb9
              refine hK _ _ ⟨HV3.out, ?_⟩
              clear hK K
              refine wpO_nil ?_
              refine wpO_step2 rfl rfl (HV3.out) (fun K hK => ?_)
              go_simp
              have hz9 := blk_new v3 (.cells (tabV none 0 0) 25)
              obtain ⟨v4, hw9⟩ : ∃ w9, World.alloc v3 (.cells (tabV none 0 0) 25) = w9 := ⟨_, rfl⟩
              have ha9 : Below (World.heap v3).size v3 v4 := hw9 ▸ below_alloc (Below.refl _ _) _
              have HV4 := Lib.hid (below_step HV3.out ha9)
              refine kw_cast hw9 ?_
              rw [hw9] at hz9
              refine hK _ _ ⟨HV4.out, ?_⟩
              clear hK K
              obtain ⟨g7, hg7⟩ : ∃ g, (World.heap v3).size = g := ⟨_, rfl⟩
              try have HD67 : Hid (g6 ≠ g7) := Lib.hid (by first | (have h9 := blk_lt HZ6.out; omega) | (have h9 := blk_lt HZ7.out; omega))
              rw [hg7] at hz9 ⊢
              have HZ7 := Lib.hid hz9
              have HGE7 : Hid ((World.heap W7).size ≤ g7) := Lib.hid (by have h9 := HV3.out.size; omega)
              try (first | replace HOb := Lib.hid (RS.below HOb.out ha9) | replace HOb := Lib.hid (blk_below HOb.out ha9) | replace HOb := Lib.hid (below_step HOb.out ha9) | replace HOb := Lib.hid (HOb.out.below ha9))
              try (first | replace HOd := Lib.hid (RS.below HOd.out ha9) | replace HOd := Lib.hid (blk_below HOd.out ha9) | replace HOd := Lib.hid (below_step HOd.out ha9) | replace HOd := Lib.hid (HOd.out.below ha9))
              try (first | replace HZ6 := Lib.hid (RS.below HZ6.out ha9) | replace HZ6 := Lib.hid (blk_below HZ6.out ha9) | replace HZ6 := Lib.hid (below_step HZ6.out ha9) | replace HZ6 := Lib.hid (HZ6.out.below ha9))
              try (first | replace HZ7 := Lib.hid (RS.below HZ7.out ha9) | replace HZ7 := Lib.hid (blk_below HZ7.out ha9) | replace HZ7 := Lib.hid (below_step HZ7.out ha9) | replace HZ7 := Lib.hid (HZ7.out.below ha9))
              clear hw9 hz9 ha9 hg7
              refine wpO_step2 rfl rfl (HV4.out) (fun K hK => ?_)
              rw [if_pos (show Region.wanted _ _ = true from rfl)]
              refine oper_store_blk HZ6.out 25 0 (tabV Ab q10 cb) (Nat.le_refl _) (info_bat _ _ _) (tab_one _ _ _) _ _ rfl rfl rfl ?_
              intro v5 hg9 hs9 hb9
              rw [splice_tab] at hb9
              have HV5 := Lib.hid (below_grown HV4.out hg9 HGE6.out)
              have HOb := Lib.hid (HOb.out.grownT HZ6.out (by decide) hg9)
              have HOd := Lib.hid (HOd.out.grownT HZ6.out (by decide) hg9)
              have HZ7 := Lib.hid (blk_grown HZ7.out hg9 (fun e => by injection e with e; have := HD67.out; omega))
              have HZ6 := Lib.hid hb9
              clear hg9 hs9 hb9
              refine hK _ _ ⟨HV5.out, ?_⟩
              clear hK K
              refine wpO_step2 rfl rfl (HV5.out) (fun K hK => ?_)
              rw [if_pos (show Region.wanted _ _ = true from rfl)]
              refine oper_store_blk HZ7.out 25 0 (tabV Ad q10 cd) (Nat.le_refl _) (info_bat _ _ _) (tab_one _ _ _) _ _ rfl rfl rfl ?_
              intro v6 hg9 hs9 hb9
              rw [splice_tab] at hb9
              have HV6 := Lib.hid (below_grown HV5.out hg9 HGE7.out)
              have HOb := Lib.hid (HOb.out.grownT HZ7.out (by decide) hg9)
              have HOd := Lib.hid (HOd.out.grownT HZ7.out (by decide) hg9)
              have HZ6 := Lib.hid (blk_grown HZ6.out hg9 (fun e => by injection e with e; have := HD67.out; omega))
              have HZ7 := Lib.hid hb9
              clear hg9 hs9 hb9
              refine hK _ _ ⟨HV6.out, ?_⟩
              clear hK K
              refine wpO_nil ?_
              go_wp2_with fail
              go_meet
              exact ⟨g6, g7, Ab, cb, Ad, cd, rfl, rfl, HZ6.out, HZ7.out, HOb.out.lower (Nat.zero_le _), HOd.out.lower (Nat.zero_le _), HV6.out, HGE6.out, HGE7.out⟩
            · refine wpO_step2 rfl rfl (HV2.out) (fun K hK => ?_)
              go_simp
              have hz9 := blk_new v2 (.cells (tabV none 0 0) 25)
              obtain ⟨v3, hw9⟩ : ∃ w9, World.alloc v2 (.cells (tabV none 0 0) 25) = w9 := ⟨_, rfl⟩
              have ha9 : Below (World.heap v2).size v2 v3 := hw9 ▸ below_alloc (Below.refl _ _) _
              have HV3 := Lib.hid (below_step HV2.out ha9)
              refine kw_cast hw9 ?_
              rw [hw9] at hz9
              refine hK _ _ ⟨HV3.out, ?_⟩
              clear hK K
              obtain ⟨g7, hg7⟩ : ∃ g, (World.heap v2).size = g := ⟨_, rfl⟩
              try have HD67 : Hid (g6 ≠ g7) := Lib.hid (by first | (have h9 := blk_lt HZ6.out; omega) | (have h9 := blk_lt HZ7.out; omega))
              rw [hg7] at hz9 ⊢
              have HZ7 := Lib.hid hz9
              have HGE7 : Hid ((World.heap W7).size ≤ g7) := Lib.hid (by have h9 := HV2.out.size; omega)
              try (first | replace HOb := Lib.hid (RS.below HOb.out ha9) | replace HOb := Lib.hid (blk_below HOb.out ha9) | replace HOb := Lib.hid (below_step HOb.out ha9) | replace HOb := Lib.hid (HOb.out.below ha9))
              try (first | replace HOd := Lib.hid (RS.below HOd.out ha9) | replace HOd := Lib.hid (blk_below HOd.out ha9) | replace HOd := Lib.hid (below_step HOd.out ha9) | replace HOd := Lib.hid (HOd.out.below ha9))
              try (first | replace HZ6 := Lib.hid (RS.below HZ6.out ha9) | replace HZ6 := Lib.hid (blk_below HZ6.out ha9) | replace HZ6 := Lib.hid (below_step HZ6.out ha9) | replace HZ6 := Lib.hid (HZ6.out.below ha9))
              try (first | replace HZ7 := Lib.hid (RS.below HZ7.out ha9) | replace HZ7 := Lib.hid (blk_below HZ7.out ha9) | replace HZ7 := Lib.hid (below_step HZ7.out ha9) | replace HZ7 := Lib.hid (HZ7.out.below ha9))
              clear hw9 hz9 ha9 hg7
              refine wpO_nil ?_
              refine wpO_step2 rfl rfl (HV3.out) (fun K hK => ?_)
              go_simp
              refine (lbatch_any o.A o.n o.c o.t v3 (HOW.out.rs.below (below_step HD.out.bel HV3.out)) HON.out.1).mono ?_
              rw [HQ.out]
              rintro e v4 ⟨Ad, cd, rfl, hO9, hb9⟩
              have HV4 := Lib.hid (below_step HV3.out hb9)
              try (first | replace HOb := Lib.hid (RS.below HOb.out hb9) | replace HOb := Lib.hid (blk_below HOb.out hb9) | replace HOb := Lib.hid (below_step HOb.out hb9) | replace HOb := Lib.hid (HOb.out.below hb9))
              try (first | replace HOd := Lib.hid (RS.below HOd.out hb9) | replace HOd := Lib.hid (blk_below HOd.out hb9) | replace HOd := Lib.hid (below_step HOd.out hb9) | replace HOd := Lib.hid (HOd.out.below hb9))
              try (first | replace HZ6 := Lib.hid (RS.below HZ6.out hb9) | replace HZ6 := Lib.hid (blk_below HZ6.out hb9) | replace HZ6 := Lib.hid (below_step HZ6.out hb9) | replace HZ6 := Lib.hid (HZ6.out.below hb9))
              try (first | replace HZ7 := Lib.hid (RS.below HZ7.out hb9) | replace HZ7 := Lib.hid (blk_below HZ7.out hb9) | replace HZ7 := Lib.hid (below_step HZ7.out hb9) | replace HZ7 := Lib.hid (HZ7.out.below hb9))
              have HOd := Lib.hid hO9
              clear hO9 hb9
              refine hK _ _ ⟨HV4.out, ?_⟩
              clear hK K
              refine wpO_step2 rfl rfl (HV4.out) (fun K hK => ?_)
              rw [if_pos (show Region.wanted _ _ = true from rfl)]
              refine oper_store_blk HZ6.out 25 0 (tabV Ab q10 cb) (Nat.le_refl _) (info_bat _ _ _) (tab_one _ _ _) _ _ rfl rfl rfl ?_
              intro v5 hg9 hs9 hb9
              rw [splice_tab] at hb9
              have HV5 := Lib.hid (below_grown HV4.out hg9 HGE6.out)
              have HOb := Lib.hid (HOb.out.grownT HZ6.out (by decide) hg9)
              have HOd := Lib.hid (HOd.out.grownT HZ6.out (by decide) hg9)
              have HZ7 := Lib.hid (blk_grown HZ7.out hg9 (fun e => by injection e with e; have := HD67.out; omega))
              have HZ6 := Lib.hid hb9
              clear hg9 hs9 hb9
              refine hK _ _ ⟨HV5.out, ?_⟩
              clear hK K
              refine wpO_step2 rfl rfl (HV5.out) (fun K hK => ?_)
              rw [if_pos (show Region.wanted _ _ = true from rfl)]
              refine oper_store_blk HZ7.out 25 0 (tabV Ad q10 cd) (Nat.le_refl _) (info_bat _ _ _) (tab_one _ _ _) _ _ rfl rfl rfl ?_
              intro v6 hg9 hs9 hb9
              rw [splice_tab] at hb9
              have HV6 := Lib.hid (below_grown HV5.out hg9 HGE7.out)
              have HOb := Lib.hid (HOb.out.grownT HZ7.out (by decide) hg9)
              have HOd := Lib.hid (HOd.out.grownT HZ7.out (by decide) hg9)
              have HZ6 := Lib.hid (blk_grown HZ6.out hg9 (fun e => by injection e with e; have := HD67.out; omega))
              have HZ7 := Lib.hid hb9
              clear hg9 hs9 hb9
              refine hK _ _ ⟨HV6.out, ?_⟩
              clear hK K
              refine wpO_nil ?_
              go_wp2_with fail
              go_meet
              exact ⟨g6, g7, Ab, cb, Ad, cd, rfl, rfl, HZ6.out, HZ7.out, HOb.out.lower (Nat.zero_le _), HOd.out.lower (Nat.zero_le _), HV6.out, HGE6.out, HGE7.out⟩
          · refine wpO_step2 rfl rfl (HV1.out) (fun K hK => ?_)
            go_simp
            have hz9 := blk_new v1 (.cells (tabV none 0 0) 25)
            obtain ⟨v2, hw9⟩ : ∃ w9, World.alloc v1 (.cells (tabV none 0 0) 25) = w9 := ⟨_, rfl⟩
            have ha9 : Below (World.heap v1).size v1 v2 := hw9 ▸ below_alloc (Below.refl _ _) _
            have HV2 := Lib.hid (below_step HV1.out ha9)
            refine kw_cast hw9 ?_
            rw [hw9] at hz9
            refine hK _ _ ⟨HV2.out, ?_⟩
            clear hK K
            obtain ⟨g7, hg7⟩ : ∃ g, (World.heap v1).size = g := ⟨_, rfl⟩
            try have HD67 : Hid (g6 ≠ g7) := Lib.hid (by first | (have h9 := blk_lt HZ6.out; omega) | (have h9 := blk_lt HZ7.out; omega))
            rw [hg7] at hz9 ⊢
            have HZ7 := Lib.hid hz9
            have HGE7 : Hid ((World.heap W7).size ≤ g7) := Lib.hid (by have h9 := HV1.out.size; omega)
            try (first | replace HOb := Lib.hid (RS.below HOb.out ha9) | replace HOb := Lib.hid (blk_below HOb.out ha9) | replace HOb := Lib.hid (below_step HOb.out ha9) | replace HOb := Lib.hid (HOb.out.below ha9))
            try (first | replace HOd := Lib.hid (RS.below HOd.out ha9) | replace HOd := Lib.hid (blk_below HOd.out ha9) | replace HOd := Lib.hid (below_step HOd.out ha9) | replace HOd := Lib.hid (HOd.out.below ha9))
            try (first | replace HZ6 := Lib.hid (RS.below HZ6.out ha9) | replace HZ6 := Lib.hid (blk_below HZ6.out ha9) | replace HZ6 := Lib.hid (below_step HZ6.out ha9) | replace HZ6 := Lib.hid (HZ6.out.below ha9))
            try (first | replace HZ7 := Lib.hid (RS.below HZ7.out ha9) | replace HZ7 := Lib.hid (blk_below HZ7.out ha9) | replace HZ7 := Lib.hid (below_step HZ7.out ha9) | replace HZ7 := Lib.hid (HZ7.out.below ha9))
            clear hw9 hz9 ha9 hg7
            refine wpO_nil ?_
            refine wpO_step2 rfl rfl (HV2.out) (fun K hK => ?_)
            go_simp
            refine (lbatch_any o.A o.n o.c o.t v2 (HOW.out.rs.below (below_step HD.out.bel HV2.out)) HON.out.1).mono ?_
            rw [HQ.out]
            rintro e v3 ⟨Ab, cb, rfl, hO9, hb9⟩
            have HV3 := Lib.hid (below_step HV2.out hb9)
            try (first | replace HOb := Lib.hid (RS.below HOb.out hb9) | replace HOb := Lib.hid (blk_below HOb.out hb9) | replace HOb := Lib.hid (below_step HOb.out hb9) | replace HOb := Lib.hid (HOb.out.below hb9))
            try (first | replace HOd := Lib.hid (RS.below HOd.out hb9) | replace HOd := Lib.hid (blk_below HOd.out hb9) | replace HOd := Lib.hid (below_step HOd.out hb9) | replace HOd := Lib.hid (HOd.out.below hb9))
            try (first | replace HZ6 := Lib.hid (RS.below HZ6.out hb9) | replace HZ6 := Lib.hid (blk_below HZ6.out hb9) | replace HZ6 := Lib.hid (below_step HZ6.out hb9) | replace HZ6 := Lib.hid (HZ6.out.below hb9))
            try (first | replace HZ7 := Lib.hid (RS.below HZ7.out hb9) | replace HZ7 := Lib.hid (blk_below HZ7.out hb9) | replace HZ7 := Lib.hid (below_step HZ7.out hb9) | replace HZ7 := Lib.hid (HZ7.out.below hb9))
            have HOb := Lib.hid hO9
            clear hO9 hb9
            refine hK _ _ ⟨HV3.out, ?_⟩
            clear hK K
            refine wpO_step2 rfl rfl (HV3.out) (fun K hK => ?_)
            go_simp
            refine (lbatch_any o.A o.n o.c o.t v3 (HOW.out.rs.below (below_step HD.out.bel HV3.out)) HON.out.1).mono ?_
            rw [HQ.out]
            rintro e v4 ⟨Ad, cd, rfl, hO9, hb9⟩
            have HV4 := Lib.hid (below_step HV3.out hb9)
            try (first | replace HOb := Lib.hid (RS.below HOb.out hb9) | replace HOb := Lib.hid (blk_below HOb.out hb9) | replace HOb := Lib.hid (below_step HOb.out hb9) | replace HOb := Lib.hid (HOb.out.below hb9))
            try (first | replace HOd := Lib.hid (RS.below HOd.out hb9) | replace HOd := Lib.hid (blk_below HOd.out hb9) | replace HOd := Lib.hid (below_step HOd.out hb9) | replace HOd := Lib.hid (HOd.out.below hb9))
            try (first | replace HZ6 := Lib.hid (RS.below HZ6.out hb9) | replace HZ6 := Lib.hid (blk_below HZ6.out hb9) | replace HZ6 := Lib.hid (below_step HZ6.out hb9) | replace HZ6 := Lib.hid (HZ6.out.below hb9))
            try (first | replace HZ7 := Lib.hid (RS.below HZ7.out hb9) | replace HZ7 := Lib.hid (blk_below HZ7.out hb9) | replace HZ7 := Lib.hid (below_step HZ7.out hb9) | replace HZ7 := Lib.hid (HZ7.out.below hb9))
            have HOd := Lib.hid hO9
            clear hO9 hb9
            refine hK _ _ ⟨HV4.out, ?_⟩
            clear hK K
            refine wpO_step2 rfl rfl (HV4.out) (fun K hK => ?_)
            rw [if_pos (show Region.wanted _ _ = true from rfl)]
            refine oper_store_blk HZ6.out 25 0 (tabV Ab q10 cb) (Nat.le_refl _) (info_bat _ _ _) (tab_one _ _ _) _ _ rfl rfl rfl ?_
            intro v5 hg9 hs9 hb9
            rw [splice_tab] at hb9
            have HV5 := Lib.hid (below_grown HV4.out hg9 HGE6.out)
            have HOb := Lib.hid (HOb.out.grownT HZ6.out (by decide) hg9)
            have HOd := Lib.hid (HOd.out.grownT HZ6.out (by decide) hg9)
            have HZ7 := Lib.hid (blk_grown HZ7.out hg9 (fun e => by injection e with e; have := HD67.out; omega))
            have HZ6 := Lib.hid hb9
            clear hg9 hs9 hb9
            refine hK _ _ ⟨HV5.out, ?_⟩
            clear hK K
            refine wpO_step2 rfl rfl (HV5.out) (fun K hK => ?_)
            rw [if_pos (show Region.wanted _ _ = true from rfl)]
            refine oper_store_blk HZ7.out 25 0 (tabV Ad q10 cd) (Nat.le_refl _) (info_bat _ _ _) (tab_one _ _ _) _ _ rfl rfl rfl ?_
            intro v6 hg9 hs9 hb9
            rw [splice_tab] at hb9
            have HV6 := Lib.hid (below_grown HV5.out hg9 HGE7.out)
            have HOb := Lib.hid (HOb.out.grownT HZ7.out (by decide) hg9)
            have HOd := Lib.hid (HOd.out.grownT HZ7.out (by decide) hg9)
            have HZ6 := Lib.hid (blk_grown HZ6.out hg9 (fun e => by injection e with e; have := HD67.out; omega))
            have HZ7 := Lib.hid hb9
            clear hg9 hs9 hb9
            refine hK _ _ ⟨HV6.out, ?_⟩
            clear hK K
            refine wpO_nil ?_
            go_wp2_with fail
            go_meet
            exact ⟨g6, g7, Ab, cb, Ad, cd, rfl, rfl, HZ6.out, HZ7.out, HOb.out.lower (Nat.zero_le _), HOd.out.lower (Nat.zero_le _), HV6.out, HGE6.out, HGE7.out⟩
        · refine wpO_step2 rfl rfl (HV0.out) (fun K hK => ?_)
          go_simp
          have hz9 := blk_new v0 (.cells (tabV none 0 0) 25)
          obtain ⟨v1, hw9⟩ : ∃ w9, World.alloc v0 (.cells (tabV none 0 0) 25) = w9 := ⟨_, rfl⟩
          have ha9 : Below (World.heap v0).size v0 v1 := hw9 ▸ below_alloc (Below.refl _ _) _
          have HV1 := Lib.hid (below_step HV0.out ha9)
          refine kw_cast hw9 ?_
          rw [hw9] at hz9
          refine hK _ _ ⟨HV1.out, ?_⟩
          clear hK K
          obtain ⟨g7, hg7⟩ : ∃ g, (World.heap v0).size = g := ⟨_, rfl⟩
          try have HD67 : Hid (g6 ≠ g7) := Lib.hid (by first | (have h9 := blk_lt HZ6.out; omega) | (have h9 := blk_lt HZ7.out; omega))
          rw [hg7] at hz9 ⊢
          have HZ7 := Lib.hid hz9
          have HGE7 : Hid ((World.heap W7).size ≤ g7) := Lib.hid (by have h9 := HV0.out.size; omega)
          try (first | replace HOb := Lib.hid (RS.below HOb.out ha9) | replace HOb := Lib.hid (blk_below HOb.out ha9) | replace HOb := Lib.hid (below_step HOb.out ha9) | replace HOb := Lib.hid (HOb.out.below ha9))
          try (first | replace HOd := Lib.hid (RS.below HOd.out ha9) | replace HOd := Lib.hid (blk_below HOd.out ha9) | replace HOd := Lib.hid (below_step HOd.out ha9) | replace HOd := Lib.hid (HOd.out.below ha9))
          try (first | replace HZ6 := Lib.hid (RS.below HZ6.out ha9) | replace HZ6 := Lib.hid (blk_below HZ6.out ha9) | replace HZ6 := Lib.hid (below_step HZ6.out ha9) | replace HZ6 := Lib.hid (HZ6.out.below ha9))
          try (first | replace HZ7 := Lib.hid (RS.below HZ7.out ha9) | replace HZ7 := Lib.hid (blk_below HZ7.out ha9) | replace HZ7 := Lib.hid (below_step HZ7.out ha9) | replace HZ7 := Lib.hid (HZ7.out.below ha9))
          clear hw9 hz9 ha9 hg7
          refine wpO_nil ?_
          refine wpO_nil ⟨?_, ?_⟩
          · refine wpO_step2 rfl rfl (HV1.out) (fun K hK => ?_)
            go_simp
            refine (lbatch_any o.A o.n o.c o.t v1 (HOW.out.rs.below (below_step HD.out.bel HV1.out)) HON.out.1).mono ?_
            rw [HQ.out]
            rintro e v2 ⟨Ab, cb, rfl, hO9, hb9⟩
            have HV2 := Lib.hid (below_step HV1.out hb9)
            try (first | replace HOb := Lib.hid (RS.below HOb.out hb9) | replace HOb := Lib.hid (blk_below HOb.out hb9) | replace HOb := Lib.hid (below_step HOb.out hb9) | replace HOb := Lib.hid (HOb.out.below hb9))
            try (first | replace HOd := Lib.hid (RS.below HOd.out hb9) | replace HOd := Lib.hid (blk_below HOd.out hb9) | replace HOd := Lib.hid (below_step HOd.out hb9) | replace HOd := Lib.hid (HOd.out.below hb9))
            try (first | replace HZ6 := Lib.hid (RS.below HZ6.out hb9) | replace HZ6 := Lib.hid (blk_below HZ6.out hb9) | replace HZ6 := Lib.hid (below_step HZ6.out hb9) | replace HZ6 := Lib.hid (HZ6.out.below hb9))
            try (first | replace HZ7 := Lib.hid (RS.below HZ7.out hb9) | replace HZ7 := Lib.hid (blk_below HZ7.out hb9) | replace HZ7 := Lib.hid (below_step HZ7.out hb9) | replace HZ7 := Lib.hid (HZ7.out.below hb9))
            have HOb := Lib.hid hO9
            clear hO9 hb9
            refine hK _ _ ⟨HV2.out, ?_⟩
            clear hK K
            refine wpO_nil ?_
            refine wpO_nil ⟨?_, ?_⟩
            · refine wpO_step2 rfl rfl (HV2.out) (fun K hK => ?_)
              go_simp
              refine (lbatch_any o.A o.n o.c o.t v2 (HOW.out.rs.below (below_step HD.out.bel HV2.out)) HON.out.1).mono ?_
              rw [HQ.out]
              rintro e v3 ⟨Ad, cd, rfl, hO9, hb9⟩
              have HV3 := Lib.hid (below_step HV2.out hb9)
              try (first | replace HOb := Lib.hid (RS.below HOb.out hb9) | replace HOb := Lib.hid (blk_below HOb.out hb9) | replace HOb := Lib.hid (below_step HOb.out hb9) | replace HOb := Lib.hid (HOb.out.below hb9))
              try (first | replace HOd := Lib.hid (RS.below HOd.out hb9) | replace HOd := Lib.hid (blk_below HOd.out hb9) | replace HOd := Lib.hid (below_step HOd.out hb9) | replace HOd := Lib.hid (HOd.out.below hb9))
              try (first | replace HZ6 := Lib.hid (RS.below HZ6.out hb9) | replace HZ6 := Lib.hid (blk_below HZ6.out hb9) | replace HZ6 := Lib.hid (below_step HZ6.out hb9) | replace HZ6 := Lib.hid (HZ6.out.below hb9))
              try (first | replace HZ7 := Lib.hid (RS.below HZ7.out hb9) | replace HZ7 := Lib.hid (blk_below HZ7.out hb9) | replace HZ7 := Lib.hid (below_step HZ7.out hb9) | replace HZ7 := Lib.hid (HZ7.out.below hb9))
              have HOd := Lib.hid hO9
              clear hO9 hb9
              refine hK _ _ ⟨HV3.out, ?_⟩
              clear hK K
              refine wpO_nil ?_
              refine wpO_step2 rfl rfl (HV3.out) (fun K hK => ?_)
              go_simp
              have hz9 := blk_new v3 (.cells (tabV none 0 0) 25)
              obtain ⟨v4, hw9⟩ : ∃ w9, World.alloc v3 (.cells (tabV none 0 0) 25) = w9 := ⟨_, rfl⟩
              have ha9 : Below (World.heap v3).size v3 v4 := hw9 ▸ below_alloc (Below.refl _ _) _
              have HV4 := Lib.hid (below_step HV3.out ha9)
              refine kw_cast hw9 ?_
              rw [hw9] at hz9
              refine hK _ _ ⟨HV4.out, ?_⟩
              clear hK K
              obtain ⟨g6, hg6⟩ : ∃ g, (World.heap v3).size = g := ⟨_, rfl⟩
              try have HD67 : Hid (g6 ≠ g7) := Lib.hid (by first | (have h9 := blk_lt HZ6.out; omega) | (have h9 := blk_lt HZ7.out; omega))
              rw [hg6] at hz9 ⊢
              have HZ6 := Lib.hid hz9
              have HGE6 : Hid ((World.heap W7).size ≤ g6) := Lib.hid (by have h9 := HV3.out.size; omega)
              try (first | replace HOb := Lib.hid (RS.below HOb.out ha9) | replace HOb := Lib.hid (blk_below HOb.out ha9) | replace HOb := Lib.hid (below_step HOb.out ha9) | replace HOb := Lib.hid (HOb.out.below ha9))
              try (first | replace HOd := Lib.hid (RS.below HOd.out ha9) | replace HOd := Lib.hid (blk_below HOd.out ha9) | replace HOd := Lib.hid (below_step HOd.out ha9) | replace HOd := Lib.hid (HOd.out.below ha9))
              try (first | replace HZ6 := Lib.hid (RS.below HZ6.out ha9) | replace HZ6 := Lib.hid (blk_below HZ6.out ha9) | replace HZ6 := Lib.hid (below_step HZ6.out ha9) | replace HZ6 := Lib.hid (HZ6.out.below ha9))
              try (first | replace HZ7 := Lib.hid (RS.below HZ7.out ha9) | replace HZ7 := Lib.hid (blk_below HZ7.out ha9) | replace HZ7 := Lib.hid (below_step HZ7.out ha9) | replace HZ7 := Lib.hid (HZ7.out.below ha9))
              clear hw9 hz9 ha9 hg6
              refine wpO_step2 rfl rfl (HV4.out) (fun K hK => ?_)
              rw [if_pos (show Region.wanted _ _ = true from rfl)]
              refine oper_store_blk HZ6.out 25 0 (tabV Ab q10 cb) (Nat.le_refl _) (info_bat _ _ _) (tab_one _ _ _) _ _ rfl rfl rfl ?_
              intro v5 hg9 hs9 hb9
              rw [splice_tab] at hb9
              have HV5 := Lib.hid (below_grown HV4.out hg9 HGE6.out)
              have HOb := Lib.hid (HOb.out.grownT HZ6.out (by decide) hg9)
              have HOd := Lib.hid (HOd.out.grownT HZ6.out (by decide) hg9)
              have HZ7 := Lib.hid (blk_grown HZ7.out hg9 (fun e => by injection e with e; have := HD67.out; omega))
              have HZ6 := Lib.hid hb9
              clear hg9 hs9 hb9
              refine hK _ _ ⟨HV5.out, ?_⟩
              clear hK K
              refine wpO_step2 rfl rfl (HV5.out) (fun K hK => ?_)
              rw [if_pos (show Region.wanted _ _ = true from rfl)]
              refine oper_store_blk HZ7.out 25 0 (tabV Ad q10 cd) (Nat.le_refl _) (info_bat _ _ _) (tab_one _ _ _) _ _ rfl rfl rfl ?_
              intro v6 hg9 hs9 hb9
              rw [splice_tab] at hb9
              have HV6 := Lib.hid (below_grown HV5.out hg9 HGE7.out)
              have HOb := Lib.hid (HOb.out.grownT HZ7.out (by decide) hg9)
              have HOd := Lib.hid (HOd.out.grownT HZ7.out (by decide) hg9)
              have HZ6 := Lib.hid (blk_grown HZ6.out hg9 (fun e => by injection e with e; have := HD67.out; omega))
              have HZ7 := Lib.hid hb9
              clear hg9 hs9 hb9
              refine hK _ _ ⟨HV6.out, ?_⟩
              clear hK K
              refine wpO_nil ?_
              go_wp2_with fail
              go_meet
              exact ⟨g6, g7, Ab, cb, Ad, cd, rfl, rfl, HZ6.out, HZ7.out, HOb.out.lower (Nat.zero_le _), HOd.out.lower (Nat.zero_le _), HV6.out, HGE6.out, HGE7.out⟩
            · refine wpO_step2 rfl rfl (HV2.out) (fun K hK => ?_)
              go_simp
              have hz9 := blk_new v2 (.cells (tabV none 0 0) 25)
              obtain ⟨v3, hw9⟩ : ∃ w9, World.alloc v2 (.cells (tabV none 0 0) 25) = w9 := ⟨_, rfl⟩
              have ha9 : Below (World.heap v2).size v2 v3 := hw9 ▸ below_alloc (Below.refl _ _) _
              have HV3 := Lib.hid (below_step HV2.out ha9)
              refine kw_cast hw9 ?_
              rw [hw9] at hz9
              refine hK _ _ ⟨HV3.out, ?_⟩
              clear hK K
              obtain ⟨g6, hg6⟩ : ∃ g, (World.heap v2).size = g := ⟨_, rfl⟩
              try have HD67 : Hid (g6 ≠ g7) := Lib.hid (by first | (have h9 := blk_lt HZ6.out; omega) | (have h9 := blk_lt HZ7.out; omega))
              rw [hg6] at hz9 ⊢
              have HZ6 := Lib.hid hz9
              have HGE6 : Hid ((World.heap W7).size ≤ g6) := Lib.hid (by have h9 := HV2.out.size; omega)
              try (first | replace HOb := Lib.hid (RS.below HOb.out ha9) | replace HOb := Lib.hid (blk_below HOb.out ha9) | replace HOb := Lib.hid (below_step HOb.out ha9) | replace HOb := Lib.hid (HOb.out.below ha9))
              try (first | replace HOd := Lib.hid (RS.below HOd.out ha9) | replace HOd := Lib.hid (blk_below HOd.out ha9) | replace HOd := Lib.hid (below_step HOd.out ha9) | replace HOd := Lib.hid (HOd.out.below ha9))
              try (first | replace HZ6 := Lib.hid (RS.below HZ6.out ha9) | replace HZ6 := Lib.hid (blk_below HZ6.out ha9) | replace HZ6 := Lib.hid (below_step HZ6.out ha9) | replace HZ6 := Lib.hid (HZ6.out.below ha9))
              try (first | replace HZ7 := Lib.hid (RS.below HZ7.out ha9) | replace HZ7 := Lib.hid (blk_below HZ7.out ha9) | replace HZ7 := Lib.hid (below_step HZ7.out ha9) | replace HZ7 := Lib.hid (HZ7.out.below ha9))
              clear hw9 hz9 ha9 hg6
              refine wpO_nil ?_
              refine wpO_step2 rfl rfl (HV3.out) (fun K hK => ?_)
              go_simp
              refine (lbatch_any o.A o.n o.c o.t v3 (HOW.out.rs.below (below_step HD.out.bel HV3.out)) HON.out.1).mono ?_
              rw [HQ.out]
              rintro e v4 ⟨Ad, cd, rfl, hO9, hb9⟩
              have HV4 := Lib.hid (below_step HV3.out hb9)
              try (first | replace HOb := Lib.hid (RS.below HOb.out hb9) | replace HOb := Lib.hid (blk_below HOb.out hb9) | replace HOb := Lib.hid (below_step HOb.out hb9) | replace HOb := Lib.hid (HOb.out.below hb9))
              try (first | replace HOd := Lib.hid (RS.below HOd.out hb9) | replace HOd := Lib.hid (blk_below HOd.out hb9) | replace HOd := Lib.hid (below_step HOd.out hb9) | replace HOd := Lib.hid (HOd.out.below hb9))
              try (first | replace HZ6 := Lib.hid (RS.below HZ6.out hb9) | replace HZ6 := Lib.hid (blk_below HZ6.out hb9) | replace HZ6 := Lib.hid (below_step HZ6.out hb9) | replace HZ6 := Lib.hid (HZ6.out.below hb9))
              try (first | replace HZ7 := Lib.hid (RS.below HZ7.out hb9) | replace HZ7 := Lib.hid (blk_below HZ7.out hb9) | replace HZ7 := Lib.hid (below_step HZ7.out hb9) | replace HZ7 := Lib.hid (HZ7.out.below hb9))
              have HOd := Lib.hid hO9
              clear hO9 hb9
              refine hK _ _ ⟨HV4.out, ?_⟩
              clear hK K
              refine wpO_step2 rfl rfl (HV4.out) (fun K hK => ?_)
              rw [if_pos (show Region.wanted _ _ = true from rfl)]
              refine oper_store_blk HZ6.out 25 0 (tabV Ab q10 cb) (Nat.le_refl _) (info_bat _ _ _) (tab_one _ _ _) _ _ rfl rfl rfl ?_
              intro v5 hg9 hs9 hb9
              rw [splice_tab] at hb9
              have HV5 := Lib.hid (below_grown HV4.out hg9 HGE6.out)
              have HOb := Lib.hid (HOb.out.grownT HZ6.out (by decide) hg9)
              have HOd := Lib.hid (HOd.out.grownT HZ6.out (by decide) hg9)
              have HZ7 := Lib.hid (blk_grown HZ7.out hg9 (fun e => by injection e with e; have := HD67.out; omega))
              have HZ6 := Lib.hid hb9
              clear hg9 hs9 hb9
              refine hK _ _ ⟨HV5.out, ?_⟩
              clear hK K
              refine wpO_step2 rfl rfl (HV5.out) (fun K hK => ?_)
              rw [if_pos (show Region.wanted _ _ = true from rfl)]
              refine oper_store_blk HZ7.out 25 0 (tabV Ad q10 cd) (Nat.le_refl _) (info_bat _ _ _) (tab_one _ _ _) _ _ rfl rfl rfl ?_
              intro v6 hg9 hs9 hb9
              rw [splice_tab] at hb9
              have HV6 := Lib.hid (below_grown HV5.out hg9 HGE7.out)
              have HOb := Lib.hid (HOb.out.grownT HZ7.out (by decide) hg9)
              have HOd := Lib.hid (HOd.out.grownT HZ7.out (by decide) hg9)
              have HZ6 := Lib.hid (blk_grown HZ6.out hg9 (fun e => by injection e with e; have := HD67.out; omega))
              have HZ7 := Lib.hid hb9
              clear hg9 hs9 hb9
              refine hK _ _ ⟨HV6.out, ?_⟩
              clear hK K
              refine wpO_nil ?_
              go_wp2_with fail
              go_meet
              exact ⟨g6, g7, Ab, cb, Ad, cd, rfl, rfl, HZ6.out, HZ7.out, HOb.out.lower (Nat.zero_le _), HOd.out.lower (Nat.zero_le _), HV6.out, HGE6.out, HGE7.out⟩
          · refine wpO_step2 rfl rfl (HV1.out) (fun K hK => ?_)
            go_simp
            have hz9 := blk_new v1 (.cells (tabV none 0 0) 25)
            obtain ⟨v2, hw9⟩ : ∃ w9, World.alloc v1 (.cells (tabV none 0 0) 25) = w9 := ⟨_, rfl⟩
            have ha9 : Below (World.heap v1).size v1 v2 := hw9 ▸ below_alloc (Below.refl _ _) _
            have HV2 := Lib.hid (below_step HV1.out ha9)
            refine kw_cast hw9 ?_
            rw [hw9] at hz9
            refine hK _ _ ⟨HV2.out, ?_⟩
            clear hK K
            obtain ⟨g6, hg6⟩ : ∃ g, (World.heap v1).size = g := ⟨_, rfl⟩
            try have HD67 : Hid (g6 ≠ g7) := Lib.hid (by first | (have h9 := blk_lt HZ6.out; omega) | (have h9 := blk_lt HZ7.out; omega))
            rw [hg6] at hz9 ⊢
            have HZ6 := Lib.hid hz9
            have HGE6 : Hid ((World.heap W7).size ≤ g6) := Lib.hid (by have h9 := HV1.out.size; omega)
            try (first | replace HOb := Lib.hid (RS.below HOb.out ha9) | replace HOb := Lib.hid (blk_below HOb.out ha9) | replace HOb := Lib.hid (below_step HOb.out ha9) | replace HOb := Lib.hid (HOb.out.below ha9))
            try (first | replace HOd := Lib.hid (RS.below HOd.out ha9) | replace HOd := Lib.hid (blk_below HOd.out ha9) | replace HOd := Lib.hid (below_step HOd.out ha9) | replace HOd := Lib.hid (HOd.out.below ha9))
            try (first | replace HZ6 := Lib.hid (RS.below HZ6.out ha9) | replace HZ6 := Lib.hid (blk_below HZ6.out ha9) | replace HZ6 := Lib.hid (below_step HZ6.out ha9) | replace HZ6 := Lib.hid (HZ6.out.below ha9))
            try (first | replace HZ7 := Lib.hid (RS.below HZ7.out ha9) | replace HZ7 := Lib.hid (blk_below HZ7.out ha9) | replace HZ7 := Lib.hid (below_step HZ7.out ha9) | replace HZ7 := Lib.hid (HZ7.out.below ha9))
            clear hw9 hz9 ha9 hg6
            refine wpO_nil ?_
            refine wpO_step2 rfl rfl (HV2.out) (fun K hK => ?_)
            go_simp
            refine (lbatch_any o.A o.n o.c o.t v2 (HOW.out.rs.below (below_step HD.out.bel HV2.out)) HON.out.1).mono ?_
            rw [HQ.out]
            rintro e v3 ⟨Ab, cb, rfl, hO9, hb9⟩
            have HV3 := Lib.hid (below_step HV2.out hb9)
            try (first | replace HOb := Lib.hid (RS.below HOb.out hb9) | replace HOb := Lib.hid (blk_below HOb.out hb9) | replace HOb := Lib.hid (below_step HOb.out hb9) | replace HOb := Lib.hid (HOb.out.below hb9))
            try (first | replace HOd := Lib.hid (RS.below HOd.out hb9) | replace HOd := Lib.hid (blk_below HOd.out hb9) | replace HOd := Lib.hid (below_step HOd.out hb9) | replace HOd := Lib.hid (HOd.out.below hb9))
            try (first | replace HZ6 := Lib.hid (RS.below HZ6.out hb9) | replace HZ6 := Lib.hid (blk_below HZ6.out hb9) | replace HZ6 := Lib.hid (below_step HZ6.out hb9) | replace HZ6 := Lib.hid (HZ6.out.below hb9))
            try (first | replace HZ7 := Lib.hid (RS.below HZ7.out hb9) | replace HZ7 := Lib.hid (blk_below HZ7.out hb9) | replace HZ7 := Lib.hid (below_step HZ7.out hb9) | replace HZ7 := Lib.hid (HZ7.out.below hb9))
            have HOb := Lib.hid hO9
            clear hO9 hb9
            refine hK _ _ ⟨HV3.out, ?_⟩
            clear hK K
            refine wpO_step2 rfl rfl (HV3.out) (fun K hK => ?_)
            go_simp
            refine (lbatch_any o.A o.n o.c o.t v3 (HOW.out.rs.below (below_step HD.out.bel HV3.out)) HON.out.1).mono ?_
            rw [HQ.out]
            rintro e v4 ⟨Ad, cd, rfl, hO9, hb9⟩
            have HV4 := Lib.hid (below_step HV3.out hb9)
            try (first | replace HOb := Lib.hid (RS.below HOb.out hb9) | replace HOb := Lib.hid (blk_below HOb.out hb9) | replace HOb := Lib.hid (below_step HOb.out hb9) | replace HOb := Lib.hid (HOb.out.below hb9))
            try (first | replace HOd := Lib.hid (RS.below HOd.out hb9) | replace HOd := Lib.hid (blk_below HOd.out hb9) | replace HOd := Lib.hid (below_step HOd.out hb9) | replace HOd := Lib.hid (HOd.out.below hb9))
            try (first | replace HZ6 := Lib.hid (RS.below HZ6.out hb9) | replace HZ6 := Lib.hid (blk_below HZ6.out hb9) | replace HZ6 := Lib.hid (below_step HZ6.out hb9) | replace HZ6 := Lib.hid (HZ6.out.below hb9))
            try (first | replace HZ7 := Lib.hid (RS.below HZ7.out hb9) | replace HZ7 := Lib.hid (blk_below HZ7.out hb9) | replace HZ7 := Lib.hid (below_step HZ7.out hb9) | replace HZ7 := Lib.hid (HZ7.out.below hb9))
            have HOd := Lib.hid hO9
            clear hO9 hb9
            refine hK _ _ ⟨HV4.out, ?_⟩
            clear hK K
            refine wpO_step2 rfl rfl (HV4.out) (fun K hK => ?_)
            rw [if_pos (show Region.wanted _ _ = true from rfl)]
            refine oper_store_blk HZ6.out 25 0 (tabV Ab q10 cb) (Nat.le_refl _) (info_bat _ _ _) (tab_one _ _ _) _ _ rfl rfl rfl ?_
            intro v5 hg9 hs9 hb9
            rw [splice_tab] at hb9
            have HV5 := Lib.hid (below_grown HV4.out hg9 HGE6.out)
            have HOb := Lib.hid (HOb.out.grownT HZ6.out (by decide) hg9)
            have HOd := Lib.hid (HOd.out.grownT HZ6.out (by decide) hg9)
            have HZ7 := Lib.hid (blk_grown HZ7.out hg9 (fun e => by injection e with e; have := HD67.out; omega))
            have HZ6 := Lib.hid hb9
            clear hg9 hs9 hb9
            refine hK _ _ ⟨HV5.out, ?_⟩
            clear hK K
            refine wpO_step2 rfl rfl (HV5.out) (fun K hK => ?_)
            rw [if_pos (show Region.wanted _ _ = true from rfl)]
            refine oper_store_blk HZ7.out 25 0 (tabV Ad q10 cd) (Nat.le_refl _) (info_bat _ _ _) (tab_one _ _ _) _ _ rfl rfl rfl ?_
            intro v6 hg9 hs9 hb9
            rw [splice_tab] at hb9
            have HV6 := Lib.hid (below_grown HV5.out hg9 HGE7.out)
            have HOb := Lib.hid (HOb.out.grownT HZ7.out (by decide) hg9)
            have HOd := Lib.hid (HOd.out.grownT HZ7.out (by decide) hg9)
            have HZ6 := Lib.hid (blk_grown HZ6.out hg9 (fun e => by injection e with e; have := HD67.out; omega))
            have HZ7 := Lib.hid hb9
            clear hg9 hs9 hb9
            refine hK _ _ ⟨HV6.out, ?_⟩
            clear hK K
            refine wpO_nil ?_
            go_wp2_with fail
            go_meet
            exact ⟨g6, g7, Ab, cb, Ad, cd, rfl, rfl, HZ6.out, HZ7.out, HOb.out.lower (Nat.zero_le _), HOd.out.lower (Nat.zero_le _), HV6.out, HGE6.out, HGE7.out⟩
      case rest =>
        obtain ⟨g6, g7, Ab, cb, Ad, cd, rfl, rfl, HC⟩ := hcut
        obtain ⟨w8, rfl⟩ : ∃ w8, w8 = wc := ⟨wc, rfl⟩
        have HB8 := Lib.hid HC.out.2.2.2.2.1
        have HDN : Hid (gn < g6 ∧ gn < g7 ∧ gt < g6 ∧ gt < g7) := Lib.hid (by have h1 := HC.out.2.2.2.2.2; have h2 := HD.out.ord; omega)
        have HD8 := Lib.hid (HD.out.step HB8.out)
        have HG6 := Lib.hid HC.out.1
        have HG7 := Lib.hid HC.out.2.1
        have HRb := Lib.hid HC.out.2.2.1
        have HRd := Lib.hid HC.out.2.2.2.1
        clear HC HD HB8
        go_wp2_with (first | ((with_reducible show wpList _ _ _ (Oper.mk _ (Op.load _ _) _ _ _ _ :: _) _ _); refine wpList_load_g (load_cli HD8.out.x) _ rfl rfl (by go_simp) ?_) | ((with_reducible show wpList _ _ _ (Oper.mk _ (Op.load _ _) _ _ _ _ :: _) _ _); refine wpList_load_g (load_bat HG6.out) _ rfl rfl (by go_simp) ?_))
        refine (csubmit_any k A n c Ab q10 cb (o.t.take 10) w8 (HLW.out.below HD8.out.bel) (HRW.out.below HD8.out.bel) OK.out (by omega) HRb.out.reads OKU.out (by have := HQ10.out; omega)).mono ?_
        rintro e w9 ⟨A9, n9, c9, rfl, hO9, hb9⟩
        have HO9 := Lib.hid hO9
        have HD9 := Lib.hid (HD8.out.step hb9)
        have HS8 := Lib.hid HD8.out.ord.2.2.2.2.2.2
        have HLb := Lib.hid HRb.out.lt
        have HLd := Lib.hid HRd.out.lt
        have HGL : Hid (g6 < w8.heap.size ∧ g7 < w8.heap.size) := Lib.hid ⟨blk_lt HG6.out, blk_lt HG7.out⟩
        (first | replace HG6 := Lib.hid (RS.below HG6.out hb9) | replace HG6 := Lib.hid (blk_below HG6.out hb9) | replace HG6 := Lib.hid (below_step HG6.out hb9) | replace HG6 := Lib.hid (HG6.out.below hb9))
        (first | replace HG7 := Lib.hid (RS.below HG7.out hb9) | replace HG7 := Lib.hid (blk_below HG7.out hb9) | replace HG7 := Lib.hid (below_step HG7.out hb9) | replace HG7 := Lib.hid (HG7.out.below hb9))
        replace HRb := Lib.hid (OS.below HRb.out hb9)
        replace HRd := Lib.hid (OS.below HRd.out hb9)
        have hs89 := hb9.size
        clear hO9 hb9 HD8
        have HNN : Hid (w9.heap[gn]? = some (.cells (cliV ckZ none 0 0) 27 (0, 0))) := Lib.hid HD9.out.n_
        go_wp2_with (first | ((with_reducible show wpList _ _ _ (Oper.mk _ (Op.store _ _ _) _ _ _ _ :: _) _ _); refine wpList_store_blk HNN.out 27 0 (cliV (subK k (o.t.take 10)) A9 n9 c9) (Nat.le_refl _) (info_cli _ _ _ _) (cli_one _ _ _ _) _ _ rfl rfl rfl rfl ?_; intro w10 hg9 hs9 hb9; rw [splice_cli] at hb9; have H10 := Lib.hid (And.intro hg9 hb9); clear hg9 hs9 hb9) | ((with_reducible show wpList _ _ _ (Oper.mk _ (Op.load _ _) _ _ _ _ :: _) _ _); refine wpList_load_g (load_cli (HD9.out.setN (N' := ⟨subK k (o.t.take 10), A9, n9, c9⟩) H10.out.1 H10.out.2).w_) _ rfl rfl (by go_simp) ?_) | ((with_reducible show wpList _ _ _ (Oper.mk _ (Op.load _ _) _ _ _ _ :: _) _ _); refine wpList_load_g (load_bat (blk_grown HG7.out H10.out.1 (fun e => by have h1 := HDN.out.2; injection e with e; omega))) _ rfl rfl (by go_simp) ?_))
        have hs910 := H10.out.1.size
        have HD10 : Hid (DoesS w w10 gr gw gn gt gh gd k A n c o A2 c2 ⟨subK k (o.t.take 10), A9, n9, c9⟩ cliZ20 hlZ hlZ) := Lib.hid (HD9.out.setN H10.out.1 H10.out.2)
        have HG6 := Lib.hid (blk_grown HG6.out H10.out.1 (fun e => by have h1 := HDN.out.1; injection e with e; omega))
        have HG7 := Lib.hid (blk_grown HG7.out H10.out.1 (fun e => by have h1 := HDN.out.2.1; injection e with e; omega))
        replace HRb := Lib.hid (HRb.out.grownT HNN.out (by decide) H10.out.1)
        replace HRd := Lib.hid (HRd.out.grownT HNN.out (by decide) H10.out.1)
        have HO10 := Lib.hid (HO9.out.grownT HNN.out (by decide) H10.out.1)
        clear H10 HNN HO9 HD9
        refine (refsubmit_any k A2 n c2 Ad q10 cd (o.t.take 10) w10 HD10.out.was.reads OK.out (by omega) HRd.out.reads OKU.out (by have := HQ10.out; omega)).mono ?_
        rintro e w11 ⟨A11, n11, c11, rfl, hO11, hb11⟩
        have HO11 := Lib.hid hO11
        have HD11 := Lib.hid (HD10.out.step hb11)
        (first | replace HG6 := Lib.hid (RS.below HG6.out hb11) | replace HG6 := Lib.hid (blk_below HG6.out hb11) | replace HG6 := Lib.hid (below_step HG6.out hb11) | replace HG6 := Lib.hid (HG6.out.below hb11))
        (first | replace HG7 := Lib.hid (RS.below HG7.out hb11) | replace HG7 := Lib.hid (blk_below HG7.out hb11) | replace HG7 := Lib.hid (below_step HG7.out hb11) | replace HG7 := Lib.hid (HG7.out.below hb11))
        replace HRb := Lib.hid (OS.below HRb.out hb11)
        replace HRd := Lib.hid (OS.below HRd.out hb11)
        have HL9 := Lib.hid HO10.out.lt
        have HO10 := Lib.hid (OS.below HO10.out hb11)
        clear hO11 hb11 HD10
        have HTT : Hid (w11.heap[gt]? = some (.cells (cliV ckZ none 0 0) 27 (0, 0))) := Lib.hid HD11.out.t_
        go_wp2_with (first | ((with_reducible show wpList _ _ _ (Oper.mk _ (Op.store _ _ _) _ _ _ _ :: _) _ _); refine wpList_store_blk HTT.out 27 0 (cliV (subK k (o.t.take 10)) A11 n11 c11) (Nat.le_refl _) (info_cli _ _ _ _) (cli_one _ _ _ _) _ _ rfl rfl rfl rfl ?_; intro w12 hg9 hs9 hb9; rw [splice_cli] at hb9; have H12 := Lib.hid (And.intro hg9 hb9); clear hg9 hs9 hb9) | ((with_reducible show wpList _ _ _ (Oper.mk _ (Op.load _ _) _ _ _ _ :: _) _ _); refine wpList_load_g ((cli_at (show _ = some (Obj.cells (cliV (subK k (o.t.take 10)) A9 n9 c9) 27 (0, 0)) from (HD11.out.setT (T' := ⟨subK k (o.t.take 10), A11, n11, c11⟩) H12.out.1 H12.out.2).n_)).all _ (Below.refl _ _) |>.bat) _ rfl rfl (by go_simp) ?_))
        have HD12 : Hid (DoesS w w12 gr gw gn gt gh gd k A n c o A2 c2 ⟨subK k (o.t.take 10), A9, n9, c9⟩ ⟨subK k (o.t.take 10), A11, n11, c11⟩ hlZ hlZ) := Lib.hid (HD11.out.setT H12.out.1 H12.out.2)
        have HG6 := Lib.hid (blk_grown HG6.out H12.out.1 (fun e => by have h1 := HDN.out.2.2.1; injection e with e; omega))
        have HG7 := Lib.hid (blk_grown HG7.out H12.out.1 (fun e => by have h1 := HDN.out.2.2.2; injection e with e; omega))
        replace HRb := Lib.hid (HRb.out.grownT HTT.out (by decide) H12.out.1)
        replace HRd := Lib.hid (HRd.out.grownT HTT.out (by decide) H12.out.1)
        have HO12 := Lib.hid (HO10.out.grownT HTT.out (by decide) H12.out.1)
        have HO11 := Lib.hid (HO11.out.grownT HTT.out (by decide) H12.out.1)
        clear H12 HTT HO10 HD11
        have hgd8 := HS8.out
        have HB9 := Lib.hid HO12.out.base_
        refine (lspoil_any A9 n9 c9 w12 HO12.out.soft).mono ?_
        rintro e w13 ⟨rfl, hg13⟩
        have HD13 := Lib.hid (HD12.out.own hg13 (fun ad e => by have := HB9.out ad e; omega))
        have HG6 := Lib.hid (blk_ownN HG6.out hg13 (fun ad e => by have h1 := HB9.out ad e; have h2 := HGL.out; omega))
        have HG7 := Lib.hid (blk_ownN HG7.out hg13 (fun ad e => by have h1 := HB9.out ad e; have h2 := HGL.out; omega))
        replace HRb := Lib.hid (HRb.out.ownE hg13 (fun a b e1 e2 => by have h1 := HB9.out b e2; have h2 := HLb.out a e1; omega))
        replace HRd := Lib.hid (HRd.out.ownE hg13 (fun a b e1 e2 => by have h1 := HB9.out b e2; have h2 := HLd.out a e1; omega))
        have HO13 := Lib.hid (HO11.out.ownE hg13 (fun a b e1 e2 => by have h1 := HL9.out b e2; have h2 := HO11.out.base_ a e1; omega))
        clear hg13 HO12 HO11 HD12
        go_wp2_with (first | ((with_reducible show wpList _ _ _ (Oper.mk _ (Op.load _ _) _ _ _ _ :: _) _ _); refine wpList_load_g (load_bat HG6.out) _ rfl rfl (by go_simp) ?_) | ((with_reducible show wpList _ _ _ (Oper.mk _ (Op.load _ _) _ _ _ _ :: _) _ _); refine wpList_load_g (load_bat HG7.out) _ rfl rfl (by go_simp) ?_))
        refine (refsameU_any Ab q10 cb (o.t.take 10) Ad q10 cd (o.t.take 10) w13 HRb.out.reads HRd.out.reads OKU.out OKU.out (by have := HQ10.out; omega) (by have := HQ10.out; omega)).mono ?_
        rw [(ShapeEq.eqL_iff updE _ _).2 rfl]
        rintro e w14 ⟨rfl, hb14⟩
        have HD14 := Lib.hid (HD13.out.step hb14)
        have HO14 := Lib.hid (HO13.out.below hb14)
        clear hb14 HD13 HO13 HRb HRd HG6 HG7
        have HNN : Hid (w14.heap[gn]? = some (.cells (cliV (subK k (o.t.take 10)) A9 n9 c9) 27 (0, 0))) := Lib.hid HD14.out.n_
        have HTT : Hid (w14.heap[gt]? = some (.cells (cliV (subK k (o.t.take 10)) A11 n11 c11) 27 (0, 0))) := Lib.hid HD14.out.t_
        go_wp2_with (first | ((with_reducible show wpList _ _ _ (Oper.mk _ (Op.load _ _) _ _ _ _ :: _) _ _); refine wpList_load_g (((cli_at HTT.out).all _ (Below.refl _ _)).bat) _ rfl rfl (by go_simp) ?_) | ((with_reducible show wpList _ _ _ (Oper.mk _ (Op.store _ _ _) _ _ _ _ :: _) _ _); refine wpList_store_blk HNN.out 25 2 (tabV A11 n11 c11) (by show 2 + 1 ≤ 4; omega) (info_bat _ _ _) (tab_one _ _ _) _ _ rfl rfl rfl rfl ?_; intro w15 hg9 hs9 hb9; have H15 := Lib.hid (And.intro hg9 (show (World.heap w15)[gn]? = some (.cells (cliV (subK k (o.t.take 10)) A11 n11 c11) 27 (0, 0)) from hb9)); clear hg9 hs9 hb9))
        try dsimp only [Act.put]
        go_meet
        have HD15 : DoesS w w15 gr gw gn gt gh gd k A n c o A2 c2 ⟨subK k (o.t.take 10), A11, n11, c11⟩ ⟨subK k (o.t.take 10), A11, n11, c11⟩ hlZ hlZ := HD14.out.setN H15.out.1 H15.out.2
        have HO15 := HO14.out.grownT HNN.out (by decide) H15.out.1
        have hsm := subK_small (k := k) OKU.out (by simp; omega)
        refine ⟨subN k (o.t.take 10), rfl, rfl, _, _, _, _, HD15, ⟨rfl, rfl, HO15.reads, HO15.reads, RS.nil _ _ _ _, RS.nil _ _ _ _, HO15.soft, ⟨fun _ => rfl, Nat.le_refl _, Nat.zero_le _, fun ad e => (by cases e)⟩, fun ad e => ?_, fun ad e => (by cases e), .inr rfl, fun h => subK_ok OK.out OKU.out h, hsm.1, hsm.2, fun u hu => (by cases hu), Nat.zero_le _⟩⟩
        have h1 : w10.heap.size ≤ ad.block := HO15.base_ ad e
        omega
    · have hqz : (q == 0) = false := by simpa using hq0
      by_cases hq1 : q = 1
      · have hqy : (q == 1) = true := by simpa using hq1
        clear hq0 hq1
        go_upto_region 20 with fail
        refine wp_region_mix ((fun w0 => Below W7.heap.size W7 w0)) [(0, 0), (1, 0), (2, 4), (3, 0), (4, 2), (5, 3), (6, 3)] (by kernel_rfl) (by kernel_rfl) ((below_drew1 _)) ?_
        simp only [List.map_cons, List.map_nil]
        refine wpO_loadW (t := 27) (ad := ⟨w.heap.size, 0, none⟩) rfl rfl ?hw rfl rfl ((fun w0 hS => load_cli (blk_below HD.out.x hS))) ?_
        case hw => go_simp
        refine wpO_loadW (t := 27) (ad := ⟨w.heap.size, 0, none⟩) rfl rfl ?hw rfl rfl ((fun w0 hS => load_cli (blk_below HD.out.x hS))) ?_
        case hw => go_simp
        iterate 1 (refine wpO_step4 rfl rfl (fun K hK => ?_); go_simp; refine hK _ _ ?_; clear hK K)
        refine wpO_loadW (t := 3) (ad := ⟨(w.heap.size+1), 1, none⟩) rfl rfl ?hw rfl rfl ((fun w0 hS => ((op_at HD.out.y).all _ hS).tg)) ?_
        case hw => go_simp
        refine wpO_step2 rfl rfl (below_drew1 _) (fun K hK => ?_)
        go_simp
        have HB0 := Lib.hid (below_drew1 W7)
        refine (asks20_any k A n c o.tg _ (HLW.out.below (below_step HD.out.bel HB0.out)) (HRW.out.below (below_step HD.out.bel HB0.out)) OK.out hn).mono ?_
        rintro e w8 ⟨rfl, hb8⟩
        have HB8 := Lib.hid (below_step HB0.out hb8)
        have HD8 := Lib.hid (HD.out.step HB8.out)
        clear hb8 HB0
        refine hK _ _ ⟨HB8.out, ?_⟩
        clear hK K
        refine wpO_step3 rfl rfl (fun K hK => ?_)
        rw [if_pos (show Region.wanted _ _ = true from rfl)]
        refine oper_store_blk HD8.out.z 27 0 (cliV k A n c) (Nat.le_refl _) (info_cli _ _ _ _) (cli_one _ _ _ _) _ _ rfl rfl rfl ?_
        intro w9 hg9 hs9 hb9
        rw [splice_cli] at hb9
        have H9 := Lib.hid (And.intro hg9 hb9)
        clear hg9 hs9 hb9
        refine hK _ _ ?_
        clear hK K
        refine wpO_step3 rfl rfl (fun K hK => ?_); go_simp; refine hK _ _ ?_; clear hK K
        refine wpO_nil ?_
        go_wp2_with fail
        refine bodyPost_ret (results_c2 rfl rfl (load_cli H9.out.2)) rfl ?_
        have ho := HD8.out.ord
        have hb9 := below_grown HD8.out.bel H9.out.1 (by omega)
        exact ⟨k, A, n, c, rfl, HRO.out.below hb9, OK.out, hn, hb9⟩
      · have hqy : (q == 1) = false := by simpa using hq1
        clear hq0 hq1
        obtain ⟨qm, hqm⟩ : ∃ qm, min o.m.bn 10 = qm := ⟨_, rfl⟩
        have HQM := Lib.hid hqm
        have HQM10 : Hid (qm ≤ 10) := Lib.hid (by omega)
        clear hqm
        go_upto_region 6 with fail
        try dsimp only [Act.put]
        have HD7 := Lib.hid (HD.out.step (below_drew1 W7))
        have HSD : Hid (∃ N T H D, DoesS w W7.drew gr gw gn gt gh gd k A n c o A2 c2 N T H D) := Lib.hid ⟨_, _, _, _, HD7.out⟩
        refine wp_region_mix ((fun w0 => ∃ N T H D, DoesS w w0 gr gw gn gt gh gd k A n c o A2 c2 N T H D)) [(0, 0), (1, 0), (2, 0), (3, 2), (4, 2), (5, 0), (6, 0), (7, 0), (8, 0), (9, 2), (10, 2), (11, 0)] (by kernel_rfl) (by kernel_rfl) (HSD.out) ?_
        simp only [List.map_cons, List.map_nil]
        refine wpO_loadW (t := 27) (ad := ⟨w.heap.size, 0, none⟩) rfl rfl ?hw rfl rfl ((fun w0 hS => by obtain ⟨_, _, _, _, h⟩ := hS; exact load_cli h.x)) ?_
        case hw => go_simp
        iterate 1 (refine wpO_step0 rfl rfl (fun K hK => ?_); go_simp; refine hK _ _ ?_; clear hK K)
        refine wpO_loadW (t := 45) (ad := ⟨(w.heap.size+1), 3, none⟩) rfl rfl ?hw rfl rfl ((fun w0 hS => by obtain ⟨_, _, _, _, h⟩ := hS; exact (op_ld h.y).msg)) ?_
        case hw => go_simp
        refine wpO_step2 rfl rfl (HSD.out) (fun K hK => ?_)
        go_simp
        refine (lmsg_any o.m _ (HOW.out.m.t.below HD7.out.bel) HON.out.2).mono ?_
        rw [HQM.out]
        rintro e w8 ⟨A8, c8, rfl, hO8, hb8⟩
        have HD8 := Lib.hid (HD7.out.step hb8)
        clear hO8 hb8
        refine hK _ _ ⟨⟨_, _, _, _, HD8.out⟩, ?_⟩
        clear hK K
        refine wpO_step2 rfl rfl (⟨_, _, _, _, HD8.out⟩) (fun K hK => ?_)
        go_simp
        obtain ⟨hB, hhB⟩ : ∃ b, hearB k o.m.kd o.m.tgt o.m.seq o.m.err = b := ⟨_, rfl⟩
        have HHB := Lib.hid hhB
        have hcall : Calls Tryd.prog 27 #[.agg (cliV k A n c), .agg (fmV (cutM o.m A8 qm c8))] w8 fun e w' => ∃ A1 n1 c1 A2 n2 c2, e = .returned (.tuple #[.agg (cliV (hearK k (hearB k o.m.kd o.m.tgt o.m.seq o.m.err)) A1 n1 c1), .agg (hdV (hearH k (hearB k o.m.kd o.m.tgt o.m.seq o.m.err) o.m.err o.m.idx) A2 n2 c2), .int .i64 (ckE k)]) ∧
            OS updK w' w8.heap.size A1 n1 c1 (hearK k (hearB k o.m.kd o.m.tgt o.m.seq o.m.err)).t ∧ OS updK w' w8.heap.size A2 n2 c2 (hearH k (hearB k o.m.kd o.m.tgt o.m.seq o.m.err) o.m.err o.m.idx).t ∧ Below w8.heap.size w8 w' := chear_any k A n c (cutM o.m A8 qm c8).mg w8 (HLW.out.below HD8.out.bel) (HRW.out.below HD8.out.bel) OK.out (by omega) (mg_fits _)
        rw [hhB] at hcall
        clear hhB
        refine hcall.mono ?_
        clear hcall
        rintro e w9 ⟨A9, n9, c9, B9, m9, d9, rfl, hO9, hP9, hb9⟩
        obtain ⟨KN, hKN⟩ : ∃ x, hearK k hB = x := ⟨_, rfl⟩
        obtain ⟨HN, hHN⟩ : ∃ x, hearH k hB o.m.err o.m.idx = x := ⟨_, rfl⟩
        have HKN := Lib.hid (And.intro hKN hHN)
        rw [hKN] at hO9
        rw [hHN] at hP9
        rw [hKN, hHN]
        have HO9 := Lib.hid hO9
        have HP9 := Lib.hid hP9
        have HD9 := Lib.hid (HD8.out.step hb9)
        have HS8 := Lib.hid HD8.out.ord.2.2.2.2.2.2
        clear hO9 hP9 hb9 HD8 HD7 hKN hHN
        refine hK _ _ ⟨⟨_, _, _, _, HD9.out⟩, ?_⟩
        clear hK K
        iterate 4 (refine wpO_step0 rfl rfl (fun K hK => ?_); go_simp; refine hK _ _ ?_; clear hK K)
        refine wpO_step2 rfl rfl (⟨_, _, _, _, HD9.out⟩) (fun K hK => ?_)
        rw [if_pos (show Region.wanted _ _ = true from rfl)]
        have HNN : Hid (w9.heap[gn]? = some (.cells (cliV ckZ none 0 0) 27 (0, 0))) := Lib.hid HD9.out.n_
        refine oper_store_blk HNN.out 27 0 (cliV KN A9 n9 c9) (Nat.le_refl _) (info_cli _ _ _ _) (cli_one _ _ _ _) _ _ rfl rfl rfl ?_
        intro w10 hg9 hs9 hb9
        rw [splice_cli] at hb9
        have HD10 : Hid (DoesS w w10 gr gw gn gt gh gd k A n c o A2 c2 ⟨KN, A9, n9, c9⟩ cliZ20 hlZ hlZ) := Lib.hid (HD9.out.setN hg9 hb9)
        have HO9 := Lib.hid (HO9.out.grownT HNN.out (by decide) hg9)
        have HP9 := Lib.hid (HP9.out.grownT HNN.out (by decide) hg9)
        clear hg9 hs9 hb9 HNN HD9
        refine hK _ _ ⟨⟨_, _, _, _, HD10.out⟩, ?_⟩
        clear hK K
        refine wpO_step2 rfl rfl (⟨_, _, _, _, HD10.out⟩) (fun K hK => ?_)
        rw [if_pos (show Region.wanted _ _ = true from rfl)]
        have HNN : Hid (w10.heap[gh]? = some (.cells (hdV hdZ none 0 0) 61 (0, 0))) := Lib.hid HD10.out.h_
        refine oper_store_blk HNN.out 61 0 (hdV HN B9 m9 d9) (Nat.le_refl _) (info_hd _ _ _ _) (hd_one _ _ _ _) _ _ rfl rfl rfl ?_
        intro w11 hg9 hs9 hb9
        rw [splice_hd] at hb9
        have HD11 : Hid (DoesS w w11 gr gw gn gt gh gd k A n c o A2 c2 ⟨KN, A9, n9, c9⟩ cliZ20 ⟨HN, B9, m9, d9⟩ hlZ) := Lib.hid (HD10.out.setH hg9 hb9)
        have HO9 := Lib.hid (HO9.out.grownT HNN.out (by decide) hg9)
        have HP9 := Lib.hid (HP9.out.grownT HNN.out (by decide) hg9)
        clear hg9 hs9 hb9 HNN HD10
        refine hK _ _ ⟨⟨_, _, _, _, HD11.out⟩, ?_⟩
        clear hK K
        iterate 1 (refine wpO_step0 rfl rfl (fun K hK => ?_); go_simp; refine hK _ _ ?_; clear hK K)
        refine wpO_nil ?_
        have hkl : k.t.length ≤ 10 := by have := HRW.out.len; omega
        have HKT : Hid (Oku KN.t ∧ KN.t.length ≤ 10) := Lib.hid (by rw [← HKN.out.1]; exact hearK_t OK.out.t hkl hB)
        have HHT : Hid (Oku HN.t ∧ HN.t.length ≤ 10) := Lib.hid (by rw [← HKN.out.2]; exact hearH_t OK.out.t hkl hB _ _)
        have HOR : Hid (n9 = 0 ∨ m9 = 0) := Lib.hid (by
          have h1 := HO9.out.len
          have h2 := HP9.out.len
          have h3 := hear_or0 k hB o.m.err o.m.idx
          rw [HKN.out.1, HKN.out.2] at h3
          rcases h3 with h3 | h3
          · left; rw [← h1, h3]; rfl
          · right; rw [← h2, h3]; rfl)
        have HFN : Hid (∀ ad, A9 = some ad → gd < ad.block) := Lib.hid (fun ad e => by have h1 := HO9.out.base_ ad e; have h2 := HS8.out; omega)
        have HFH : Hid (∀ ad, B9 = some ad → gd < ad.block) := Lib.hid (fun ad e => by have h1 := HP9.out.base_ ad e; have h2 := HS8.out; omega)
        clear HD hkl
        go_wp2_with (first | ((with_reducible show wpList _ _ _ (Oper.mk _ (Op.load _ _) _ _ _ _ :: _) _ _); refine wpList_load_g (load_cli HD11.out.w_) _ rfl rfl (by go_simp) ?_))
        refine (refck_any k A2 n c2 w11 HD11.out.was.reads OK.out.t (by omega)).mono ?_
        rintro e w12 ⟨rfl, hb12⟩
        have HD12 := Lib.hid (HD11.out.step hb12)
        have HO12 := Lib.hid (HO9.out.below hb12)
        have HP12 := Lib.hid (HP9.out.below hb12)
        clear hb12 HD11 HO9 HP9
        cases hc : ckB k with
        | false =>
          have hE : ckE k = 300 := by unfold ckE; rw [hc]; rfl
          have hk : KN = ckZ := by rw [← HKN.out.1]; unfold hearK; rw [hc]; rfl
          have hh : HN = hdZ := by rw [← HKN.out.2]; unfold hearH; rw [hc]; rfl
          have HEE := Lib.hid (And.intro hE (And.intro hk hh))
          rw [hE]
          clear hE hk hh hc
          go_wp2_with fail
          try dsimp only [Act.put]
          go_meet
          refine ⟨300, rfl, rfl, _, _, _, _, HD12.out, ⟨?_, ?_, HO12.out.reads, ?_, HP12.out.reads, ?_, HO12.out.soft, HP12.out.soft, HFN.out, HFH.out, HOR.out, fun h => absurd h (by decide), HKT.out.1, HKT.out.2, HHT.out.1, HHT.out.2⟩⟩
          · exact HEE.out.2.1.symm
          · exact HEE.out.2.2.symm
          · show RS updK w12 none 0 0 KN.t
            rw [HEE.out.2.1]
            exact RS.nil _ _ _ _
          · show RS updK w12 none 0 0 HN.t
            rw [HEE.out.2.2]
            exact RS.nil _ _ _ _
        | true =>
          have HCB := Lib.hid hc
          have hE : ckE k = 0 := by unfold ckE; rw [hc]; rfl
          rw [hE]
          clear hE hc
          go_upto_region 9 with fail
          try dsimp only [Act.put]
          have HD13 := Lib.hid (HD12.out.step (below_drew1 w12))
          have HO13 := Lib.hid (HO12.out.below (below_drew1 w12))
          have HP13 := Lib.hid (HP12.out.below (below_drew1 w12))
          have HSE : Hid (∃ N T H D, DoesS w w12.drew gr gw gn gt gh gd k A n c o A2 c2 N T H D) := Lib.hid ⟨_, _, _, _, HD13.out⟩
          refine wp_region_mix ((fun w0 => ∃ N T H D, DoesS w w0 gr gw gn gt gh gd k A n c o A2 c2 N T H D)) [(0, 0), (1, 0), (2, 0), (3, 2), (4, 2), (5, 0), (6, 0), (7, 0), (8, 2), (9, 2)] (by kernel_rfl) (by kernel_rfl) (HSE.out) ?_
          simp only [List.map_cons, List.map_nil]
          refine wpO_loadW (t := 27) (ad := ⟨gw, 0, none⟩) rfl rfl ?hw rfl rfl ((fun w0 hS => by obtain ⟨_, _, _, _, h⟩ := hS; exact load_cli h.w_)) ?_
          case hw => go_simp
          iterate 1 (refine wpO_step0 rfl rfl (fun K hK => ?_); go_simp; refine hK _ _ ?_; clear hK K)
          refine wpO_loadW (t := 45) (ad := ⟨(w.heap.size+1), 3, none⟩) rfl rfl ?hw rfl rfl ((fun w0 hS => by obtain ⟨_, _, _, _, h⟩ := hS; exact (op_ld h.y).msg)) ?_
          case hw => go_simp
          refine wpO_step2 rfl rfl (HSE.out) (fun K hK => ?_)
          go_simp
          refine (lmsg_any o.m _ (HOW.out.m.t.below HD13.out.bel) HON.out.2).mono ?_
          rw [HQM.out]
          rintro e w14 ⟨A14, c14, rfl, hO14, hb14⟩
          have HD14 := Lib.hid (HD13.out.step hb14)
          have HO14 := Lib.hid (HO13.out.below hb14)
          have HP14 := Lib.hid (HP13.out.below hb14)
          clear hO14 hb14 HD13 HO13 HP13 HD12 HO12 HP12
          refine hK _ _ ⟨⟨_, _, _, _, HD14.out⟩, ?_⟩
          clear hK K
          refine wpO_step2 rfl rfl (⟨_, _, _, _, HD14.out⟩) (fun K hK => ?_)
          go_simp
          have hcall : Calls Tryd.prog 37 #[.agg (cliV k A2 n c2), .agg (fmV (cutM o.m A14 qm c14))] w14 fun e w' => ∃ A1 n1 c1 A2 n2 c2, e = .returned (.tuple #[.agg (cliV (hearK k (hearB k o.m.kd o.m.tgt o.m.seq o.m.err)) A1 n1 c1), .agg (hdV (hearH k (hearB k o.m.kd o.m.tgt o.m.seq o.m.err) o.m.err o.m.idx) A2 n2 c2)]) ∧
              OS updK w' w14.heap.size A1 n1 c1 (hearK k (hearB k o.m.kd o.m.tgt o.m.seq o.m.err)).t ∧ OS updK w' w14.heap.size A2 n2 c2 (hearH k (hearB k o.m.kd o.m.tgt o.m.seq o.m.err) o.m.err o.m.idx).t ∧ Below w14.heap.size w14 w' := refhear_any k A2 n c2 (cutM o.m A14 qm c14).mg w14 HD14.out.was.reads OK.out (by omega) (mg_fits _) HCB.out
          rw [HHB.out, HKN.out.1, HKN.out.2] at hcall
          refine hcall.mono ?_
          clear hcall
          rintro e w15 ⟨A15, n15, c15, B15, m15, d15, rfl, hO15, hP15, hb15⟩
          have HT15 := Lib.hid hO15
          have HU15 := Lib.hid hP15
          have HD15 := Lib.hid (HD14.out.step hb15)
          have HO15 := Lib.hid (HO14.out.below hb15)
          have HP15 := Lib.hid (HP14.out.below hb15)
          clear hO15 hP15 hb15 HD14 HO14 HP14
          refine hK _ _ ⟨⟨_, _, _, _, HD15.out⟩, ?_⟩
          clear hK K
          iterate 3 (refine wpO_step0 rfl rfl (fun K hK => ?_); go_simp; refine hK _ _ ?_; clear hK K)
          refine wpO_step2 rfl rfl (⟨_, _, _, _, HD15.out⟩) (fun K hK => ?_)
          rw [if_pos (show Region.wanted _ _ = true from rfl)]
          have HNN : Hid (w15.heap[gt]? = some (.cells (cliV ckZ none 0 0) 27 (0, 0))) := Lib.hid HD15.out.t_
          refine oper_store_blk HNN.out 27 0 (cliV KN A15 n15 c15) (Nat.le_refl _) (info_cli _ _ _ _) (cli_one _ _ _ _) _ _ rfl rfl rfl ?_
          intro w16 hg9 hs9 hb9
          rw [splice_cli] at hb9
          have HD16 : Hid (DoesS w w16 gr gw gn gt gh gd k A n c o A2 c2 ⟨KN, A9, n9, c9⟩ ⟨KN, A15, n15, c15⟩ ⟨HN, B9, m9, d9⟩ hlZ) := Lib.hid (HD15.out.setT hg9 hb9)
          have HO15 := Lib.hid (HO15.out.grownT HNN.out (by decide) hg9)
          have HP15 := Lib.hid (HP15.out.grownT HNN.out (by decide) hg9)
          have HT15 := Lib.hid (HT15.out.grownT HNN.out (by decide) hg9)
          have HU15 := Lib.hid (HU15.out.grownT HNN.out (by decide) hg9)
          clear hg9 hs9 hb9 HNN HD15
          refine hK _ _ ⟨⟨_, _, _, _, HD16.out⟩, ?_⟩
          clear hK K
          refine wpO_step2 rfl rfl (⟨_, _, _, _, HD16.out⟩) (fun K hK => ?_)
          rw [if_pos (show Region.wanted _ _ = true from rfl)]
          have HNN : Hid (w16.heap[gd]? = some (.cells (hdV hdZ none 0 0) 61 (0, 0))) := Lib.hid HD16.out.d_
          refine oper_store_blk HNN.out 61 0 (hdV HN B15 m15 d15) (Nat.le_refl _) (info_hd _ _ _ _) (hd_one _ _ _ _) _ _ rfl rfl rfl ?_
          intro w17 hg9 hs9 hb9
          rw [splice_hd] at hb9
          have HD17 : Hid (DoesS w w17 gr gw gn gt gh gd k A n c o A2 c2 ⟨KN, A9, n9, c9⟩ ⟨KN, A15, n15, c15⟩ ⟨HN, B9, m9, d9⟩ ⟨HN, B15, m15, d15⟩) := Lib.hid (HD16.out.setD hg9 hb9)
          have HO15 := Lib.hid (HO15.out.grownT HNN.out (by decide) hg9)
          have HP15 := Lib.hid (HP15.out.grownT HNN.out (by decide) hg9)
          have HT15 := Lib.hid (HT15.out.grownT HNN.out (by decide) hg9)
          have HU15 := Lib.hid (HU15.out.grownT HNN.out (by decide) hg9)
          clear hg9 hs9 hb9 HNN HD16
          refine hK _ _ ⟨⟨_, _, _, _, HD17.out⟩, ?_⟩
          clear hK K
          refine wpO_nil ?_
          go_wp2_with fail
          try dsimp only [Act.put]
          go_meet
          exact ⟨0, rfl, rfl, _, _, _, _, HD17.out, ⟨rfl, rfl, HO15.out.reads, HT15.out.reads, HP15.out.reads, HU15.out.reads, HO15.out.soft, HP15.out.soft, HFN.out, HFH.out, HOR.out, fun _ => by have h := hearK_ok OK.out hB HCB.out; rw [HKN.out.1] at h; exact h, HKT.out.1, HKT.out.2, HHT.out.1, HHT.out.2⟩⟩
  case rest =>
    obtain ⟨NN, rfl, rfl, HC⟩ := hcut
    obtain ⟨w8, rfl⟩ : ∃ w8, w8 = wc := ⟨wc, rfl⟩
    obtain ⟨⟨K, An, nn, cn⟩, ⟨Kt, At, nt, ct⟩, ⟨H, Ah, nh, ch⟩, ⟨Ht, Ad, nd, cd⟩, hd8, he8⟩ := HC.out
    have hk8 : Kt = K := he8.same
    have hh8 : Ht = H := he8.sameh
    subst hk8 hh8
    have HD8 := Lib.hid hd8
    have HE8 := Lib.hid he8
    have hnn : nn ≤ 10 := by have h1 : Kt.t.length = nn := he8.n_.len; have h2 : Kt.t.length ≤ 10 := he8.len; omega
    have hnt : nt ≤ 10 := by have h1 : Kt.t.length = nt := he8.t_.len; have h2 : Kt.t.length ≤ 10 := he8.len; omega
    have hnh : nh ≤ 10 := by have h1 : Ht.t.length = nh := he8.h_.len; have h2 : Ht.t.length ≤ 10 := he8.lenh; omega
    have hnd : nd ≤ 10 := by have h1 : Ht.t.length = nd := he8.d_.len; have h2 : Ht.t.length ≤ 10 := he8.lenh; omega
    clear HC hd8 he8 HD
    go_wp2_with (first | ((with_reducible show wpList _ _ _ (Oper.mk _ (Op.load _ _) _ _ _ _ :: _) _ _); refine wpList_load_g (load_cli HD8.out.n_) _ rfl rfl (by go_simp) ?_) | ((with_reducible show wpList _ _ _ (Oper.mk _ (Op.load _ _) _ _ _ _ :: _) _ _); refine wpList_load_g (load_cli HD8.out.t_) _ rfl rfl (by go_simp) ?_))
    refine (refsame20_any Kt An nn cn Kt At nt ct w8 HE8.out.n_ HE8.out.t_ HE8.out.oku HE8.out.oku (by omega) (by omega)).mono ?_
    rw [cliB_self]
    rintro e w9 ⟨rfl, hb9⟩
    have HD9 := Lib.hid (HD8.out.step hb9)
    have HV9 := Lib.hid hb9
    clear hb9
    go_wp2_with (first | ((with_reducible show wpList _ _ _ (Oper.mk _ (Op.load _ _) _ _ _ _ :: _) _ _); refine wpList_load_g (load_hd HD9.out.h_) _ rfl rfl (by go_simp) ?_) | ((with_reducible show wpList _ _ _ (Oper.mk _ (Op.load _ _) _ _ _ _ :: _) _ _); refine wpList_load_g (load_hd HD9.out.d_) _ rfl rfl (by go_simp) ?_))
    refine (samehd_any Ht Ah nh ch Ad nd cd w9 (HE8.out.h_.below HV9.out) (HE8.out.d_.below HV9.out) HE8.out.okh (by omega) (by omega)).mono ?_
    rintro e w10 ⟨rfl, hb10⟩
    have HD10 := Lib.hid (HD9.out.step hb10)
    have HV10 := Lib.hid (below_step HV9.out hb10)
    clear hb10 HD9 HV9
    go_wp2_with (first | ((with_reducible show wpList _ _ _ (Oper.mk _ (Op.load _ _) _ _ _ _ :: _) _ _); refine wpList_load_g (load_cli HD10.out.x) _ rfl rfl (by go_simp) ?_) | ((with_reducible show wpList _ _ _ (Oper.mk _ (Op.load _ _) _ _ _ _ :: _) _ _); refine wpList_load_g (load_cli HD10.out.w_) _ rfl rfl (by go_simp) ?_))
    refine (refsame20_any k A n c k A2 n c2 w10 (HRW.out.below HD10.out.bel) HD10.out.was.reads OK.out.t OK.out.t (by omega) (by omega)).mono ?_
    rw [cliB_self]
    rintro e w11 ⟨rfl, hb11⟩
    have HD11 := Lib.hid (HD10.out.step hb11)
    have HV11 := Lib.hid (below_step HV10.out hb11)
    clear hb11 HD10 HV10
    go_wp2_with (first | ((with_reducible show wpList _ _ _ (Oper.mk _ (Op.load _ _) _ _ _ _ :: _) _ _); refine wpList_load_g (load_cli HD11.out.t_) _ rfl rfl (by go_simp) ?_))
    refine (refcopy_any Kt At nt ct w11 (HE8.out.t_.below HV11.out) (by omega)).mono ?_
    rintro e w12 ⟨A12, c12, rfl, hO12, hb12⟩
    have HO12 := Lib.hid hO12
    have HF12 : Hid (∀ ad, A12 = some ad → w11.heap.size ≤ ad.block) := Lib.hid hO12.base_
    have HS12 : Hid (gd < w11.heap.size) := Lib.hid HD11.out.ord.2.2.2.2.2.2
    have HD12 := Lib.hid (HD11.out.step hb12)
    have HV12 := Lib.hid (below_step HV11.out hb12)
    have HV11S := Lib.hid HV11.out.size
    clear hO12 hb12 HD11 HV11
    have HT12 : Hid (w12.heap[gt]? = some (.cells (cliV Kt At nt ct) 27 (0, 0))) := Lib.hid HD12.out.t_
    go_wp2_with (first | ((with_reducible show wpList _ _ _ (Oper.mk _ (Op.store _ _ _) _ _ _ _ :: _) _ _); refine wpList_store_blk HT12.out 27 0 (cliV Kt A12 nt c12) (Nat.le_refl _) (info_cli _ _ _ _) (cli_one _ _ _ _) _ _ rfl rfl rfl rfl ?_; intro w13 hg9 hs9 hb9; rw [splice_cli] at hb9; have H13 := Lib.hid (And.intro hg9 hb9); clear hg9 hs9 hb9) | ((with_reducible show wpList _ _ _ (Oper.mk _ (Op.load _ _) _ _ _ _ :: _) _ _); refine wpList_load_g ((cli_at (HD12.out.setT (T':=⟨Kt,A12,nt,c12⟩) H13.out.1 H13.out.2).n_).all _ (Below.refl _ _) |>.bat) _ rfl rfl (by go_simp) ?_))
    have HD13 : Hid (DoesS w w13 gr gw gn gt gh gd k A n c o A2 c2 ⟨Kt, An, nn, cn⟩ ⟨Kt, A12, nt, c12⟩ ⟨Ht, Ah, nh, ch⟩ ⟨Ht, Ad, nd, cd⟩) := Lib.hid (HD12.out.setT H13.out.1 H13.out.2)
    have HG13 := Lib.hid H13.out.1
    have HS1112 : Hid (gd < w11.heap.size ∧ w8.heap.size ≤ w11.heap.size ∧ True) := Lib.hid ⟨HS12.out, HV11S.out, trivial⟩
    have HO13 : Hid (OS updK w13 w11.heap.size A12 nt c12 Kt.t) := Lib.hid (HO12.out.grownT HT12.out (by decide) H13.out.1)
    have HLN : Hid (∀ ad, An = some ad → ad.block < w11.heap.size) := Lib.hid (fun ad e => by
      obtain ⟨_, cur, t, h3, _⟩ := HE8.out.sn.form ad e
      have h4 := blk_lt h3
      have h5 := HS1112.out.2.1
      omega)
    have HLH : Hid (∀ ad, Ah = some ad → ad.block < w11.heap.size) := Lib.hid (fun ad e => by
      obtain ⟨_, cur, t, h3, _⟩ := HE8.out.sh.form ad e
      have h4 := blk_lt h3
      have h5 := HS1112.out.2.1
      omega)
    have HSN : Hid (nn = 0 ∨ Soft w13 An nn cn) := Lib.hid (.inr ((HE8.out.sn.below HV12.out).grown HG13.out (fun ad e h => by have h1 := HE8.out.fn ad e; have h2 := HD13.out.ord; injection h with h; omega)))
    have HSH : Hid (Soft w13 Ah nh ch) := Lib.hid ((HE8.out.sh.below HV12.out).grown HG13.out (fun ad e h => by have h1 := HE8.out.fh ad e; have h2 := HD13.out.ord; injection h with h; omega))
    clear H13 HO12 HT12 HG13
    refine (lspoilE_any An nn cn w13 HSN.out).mono ?_
    rintro e w14 ⟨rfl, hg14, hz14⟩
    have HD14 := Lib.hid (HD13.out.own hg14 (fun ad e => HE8.out.fn ad e))
    have HO14 := Lib.hid (HO13.out.ownE hg14 (fun a b e1 e2 => by have h1 := HO13.out.base_ a e1; have h2 := HLN.out b e2; omega))
    have HSH14 : Hid (nh = 0 ∨ Soft w14 Ah nh ch) := Lib.hid (by
      rcases HE8.out.or0 with h0 | h0
      · exact .inr (HSH.out.below (hz14 h0))
      · exact .inl h0)
    clear hg14 hz14 HD13 HO13 HSH HSN
    have HHL : Hid (w14.heap[gh]? = some (.cells (hdV Ht Ah nh ch) 61 (0, 0))) := Lib.hid HD14.out.h_
    go_wp2_with (first | ((with_reducible show wpList _ _ _ (Oper.mk _ (Op.load _ _) _ _ _ _ :: _) _ _); refine wpList_load_g ((hd_ld HHL.out).bat) _ rfl rfl (by go_simp) ?_))
    refine (lspoilE_any Ah nh ch w14 HSH14.out).mono ?_
    rintro e w15 ⟨rfl, hg15, hz15⟩
    have HD15 := Lib.hid (HD14.out.own hg15 (fun ad e => HE8.out.fh ad e))
    have HO15 := Lib.hid (HO14.out.ownE hg15 (fun a b e1 e2 => by have h1 := HO14.out.base_ a e1; have h2 := HLH.out b e2; omega))
    clear hg15 hz15 HD14 HO14 HSH14 HHL
    go_wp2_with (first | ((with_reducible show wpList _ _ _ (Oper.mk _ (Op.load _ _) _ _ _ _ :: _) _ _); refine wpList_load_g (load_cli HD15.out.x) _ rfl rfl (by go_simp) ?_) | ((with_reducible show wpList _ _ _ (Oper.mk _ (Op.load _ _) _ _ _ _ :: _) _ _); refine wpList_load_g (load_cli HD15.out.w_) _ rfl rfl (by go_simp) ?_))
    refine (refsame20_any k A n c k A2 n c2 w15 (HRW.out.below HD15.out.bel) HD15.out.was.reads OK.out.t OK.out.t (by omega) (by omega)).mono ?_
    rw [cliB_self]
    rintro e w16 ⟨rfl, hb16⟩
    have HD16 := Lib.hid (HD15.out.step hb16)
    have HO16 := Lib.hid (HO15.out.below hb16)
    clear hb16 HD15 HO15
    by_cases hNN : NN = 0
    · have hNz : (NN == 0) = true := by simpa using hNN
      have HOKN := Lib.hid (HE8.out.okn hNN)
      have HTL : Hid (w16.heap[gt]? = some (.cells (cliV Kt A12 nt c12) 27 (0, 0))) := Lib.hid HD16.out.t_
      clear hNN
      go_wp2_with (first | ((with_reducible show wpList _ _ _ (Oper.mk _ (Op.load _ _) _ _ _ _ :: _) _ _); refine wpList_load_g (load_cli HTL.out) _ rfl rfl (by go_simp) ?_) | ((with_reducible show wpList _ _ _ (Oper.mk _ (Op.store _ _ _) _ _ _ _ :: _) _ _); refine wpList_store_blk HD16.out.z 27 0 (cliV Kt A12 nt c12) (Nat.le_refl _) (info_cli _ _ _ _) (cli_one _ _ _ _) _ _ rfl rfl rfl rfl ?_; intro w17 hg9 hs9 hb9; rw [splice_cli] at hb9; have H17 := Lib.hid (And.intro hg9 hb9); clear hg9 hs9 hb9))
      refine bodyPost_ret (results_c2 rfl rfl (load_cli H17.out.2)) rfl ?_
      have ho := HD16.out.ord
      exact ⟨Kt, A12, nt, c12, rfl, (HO16.out.grownT HD16.out.z (by decide) H17.out.1).lower (Nat.zero_le _), HOKN.out, hnt, below_grown HD16.out.bel H17.out.1 (by omega)⟩
    · have hNz : (NN == 0) = false := by simpa using hNN
      clear hNN
      go_wp2_with (first | ((with_reducible show wpList _ _ _ (Oper.mk _ (Op.load _ _) _ _ _ _ :: _) _ _); refine wpList_load_g (load_cli HD16.out.x) _ rfl rfl (by go_simp) ?_) | ((with_reducible show wpList _ _ _ (Oper.mk _ (Op.store _ _ _) _ _ _ _ :: _) _ _); refine wpList_store_blk HD16.out.z 27 0 (cliV k A n c) (Nat.le_refl _) (info_cli _ _ _ _) (cli_one _ _ _ _) _ _ rfl rfl rfl rfl ?_; intro w17 hg9 hs9 hb9; rw [splice_cli] at hb9; have H17 := Lib.hid (And.intro hg9 hb9); clear hg9 hs9 hb9))
      refine bodyPost_ret (results_c2 rfl rfl (load_cli H17.out.2)) rfl ?_
      have ho := HD16.out.ord
      have hb17 := below_grown HD16.out.bel H17.out.1 (by omega)
      exact ⟨k, A, n, c, rfl, HRO.out.below hb17, OK.out, hn, hb17⟩
end Go.Proofs.YtifejiclenpfoaaDoor

/- Layer 20 (client): the law ClientPlays. -/
namespace Go.Proofs.YtifejiclenpfoaaDoor
open Go.RowKit
set_option linter.unusedVariables false
set_option linter.unusedSimpArgs false
set_option maxRecDepth 4000
set_option maxHeartbeats 8000000 in
set_option maxRecDepth 100000 in
theorem plays20_any (k : Ck) (A : Option Addr) (n c : Nat) (A2 : Option Addr) (m c2 : Nat) (l : List Opn) (w : World) (hL : Laid w) (hr : RS updK w A n c k.t) (ok : k.ok) (hn : n ≤ 140737488355328) (hl : RS opK w A2 m c2 l) (hi : ∀ o ∈ l, OpIn w o) (hm : m ≤ 140737488355328) :
    Calls Tryd.prog 3 #[.agg (cliV k A n c), .slice A2 m c2] w fun e w' => e = .returned (.bool true) ∧ Below w.heap.size w w' := by
  have HLW := Lib.hid hL
  have HRW := Lib.hid hr
  have HLS := Lib.hid hl
  have HIN := Lib.hid hi
  have OK := Lib.hid ok
  have hblk1 := blk_new w (.cells (cliV k A n c) 27)
  have hbel1 : Below w.heap.size w (w.alloc (.cells (cliV k A n c) 27)) := below_alloc (Below.refl _ _) _
  have HP1 := Lib.hid (cli_at hblk1)
  have HBK1 := Lib.hid hblk1
  have HBE := Lib.hid hbel1
  have HL := Lib.hid (hL.below HBE.out)
  obtain ⟨cs1, hcs1⟩ : ∃ cs, cliV k A n c = cs := ⟨_, rfl⟩
  simp only [hcs1] at HBE HL HP1 HBK1 ⊢
  have HC1 := Lib.hid hcs1
  clear hL hcs1 hblk1 hbel1
  have HX0 : Hid ((w.alloc (.cells cs1 27)).heap[w.heap.size]? = some (.cells (cliV k A n c) 27 (0, 0))) := Lib.hid (HBK1.out.trans (by rw [HC1.out]))
  obtain ⟨W0, hW0⟩ : ∃ W, w.alloc (.cells cs1 27) = W := ⟨_, rfl⟩
  clear hr ok hl hi
  go_enter Tryd.func3, Tryd.ntmps3
  rw [hW0] at HBE HL HX0
  go_wp2_with fail
  clear hW0 HP1 HBK1
  refine (wakes20_any W0 HL.out).mono ?_
  rintro e w1 ⟨rfl, hb1⟩
  have HX1 := Lib.hid (blk_below HX0.out hb1)
  have HB1 := Lib.hid (below_step HBE.out hb1)
  clear hb1 HX0 HBE HL
  go_wp2_with (first | ((with_reducible show wpList _ _ _ (Oper.mk _ (Op.load _ _) _ _ _ _ :: _) _ _); refine wpList_load_g (load_cli HX1.out) _ rfl rfl (by go_simp) ?_))
  refine (lshort_any k A n c w1 (HRW.out.below HB1.out) hn).mono ?_
  rintro e w2 ⟨A3, c3, rfl, hO3, hb2⟩
  have HX2 := Lib.hid (blk_below HX1.out hb2)
  have HB2 := Lib.hid (below_step HB1.out hb2)
  obtain ⟨n3, hn3⟩ : ∃ n3, min n 10 = n3 := ⟨_, rfl⟩
  rw [hn3] at hO3 ⊢
  have HN3 : Hid (n3 ≤ 10) := Lib.hid (by omega)
  have HO3 := Lib.hid (hO3.lower (Nat.zero_le _))
  have OK3 := Lib.hid (shortK_ok OK.out)
  obtain ⟨k3, hk3⟩ : ∃ k3, shortK k = k3 := ⟨_, rfl⟩
  rw [hk3] at HO3 OK3 ⊢
  clear hO3 hb2 hn3 hk3 HX1 HB1
  go_wp2_with (first | ((with_reducible show wpList _ _ _ (Oper.mk _ (Op.store _ _ _) _ _ _ _ :: _) _ _); refine wpList_store_blk HX2.out 27 0 (cliV k3 A3 n3 c3) (Nat.le_refl _) (info_cli _ _ _ _) (cli_one _ _ _ _) _ _ rfl rfl rfl rfl ?_; intro w3 hg9 hs9 hb9; rw [splice_cli] at hb9; have H3 := Lib.hid (And.intro hg9 hb9); clear hg9 hs9 hb9))
  have HX3 := Lib.hid H3.out.2
  have HB3 : Hid (Below w.heap.size w w3) := Lib.hid (below_grown HB2.out H3.out.1 (Nat.le_refl _))
  have HO4 := Lib.hid (HO3.out.grownT HX2.out (by decide) H3.out.1)
  clear H3 HO3 HX2 HB2
  go_loopw [14] (fun s14 wr => ∃ (j : Nat) (K : Ck) (A' : Option Addr) (n' c' : Nat), s14 = .int .i64 j ∧ Hid (j ≤ m ∧ wr.heap[w.heap.size]? = some (.cells (cliV K A' n' c') 27 (0, 0)) ∧ OS updK wr 0 A' n' c' K.t ∧ K.ok ∧ n' ≤ 10 ∧ Below w.heap.size w wr)) (fun x _ => m - (intOf x).toNat)
  case atStart => exact ⟨0, k3, A3, n3, c3, rfl, Nat.zero_le _, HX3.out, HO4.out, OK3.out, HN3.out, HB3.out⟩
  case round =>
    obtain ⟨j, K, A', n', c', rfl, HI⟩ := hrel
    obtain ⟨wk, rfl⟩ : ∃ wk, wk = wr := ⟨wr, rfl⟩
    have HBK := Lib.hid HI.out.2.2.2.2.2
    by_cases hlt : j < m
    · have hlt' : (j : Int) < m := by omega
      obtain ⟨b, o, rfl, hc⟩ := RS.at_ HLS.out (by omega)
      have hla := Shape.ld opK wk b _ _ (RS.fits_at HLS.out hlt) ((hc j hlt).below HBK.out)
      have hla : (Instr.loadAt 47 (.pointer (some ⟨b, o + j * 26, none⟩))).run Tryd.prog wk = .ok (.agg (opV (l.getD j opK.z))) wk := hla
      have HX := Lib.hid (HIN.out _ (getD_mem (z := opK.z) (by rw [HLS.out.len]; exact hlt)))
      obtain ⟨x, hx⟩ : ∃ x, l.getD j opK.z = x := ⟨_, rfl⟩
      rw [hx] at hla HX
      clear hc hx
      have hz9 := blk_new wk (.cells (opV opZ) 47)
      have HBA := Lib.hid (below_alloc (Below.refl wk.heap.size wk) (.cells (opV opZ) 47))
      by_cases h24 : j = 24
      · have h24' : ((j : Int) == 24) = true := by simp; omega
        clear h24
        go_wp2_with (first | ((with_reducible show wpList _ _ _ (Oper.mk _ (Op.load _ _) _ _ _ _ :: _) _ _); refine wpList_load_g hla _ rfl rfl (by go_simp) ?_) | ((with_reducible show wpList _ _ _ (Oper.mk _ (Op.store _ _ _) _ _ _ _ :: _) _ _); refine wpList_store_blk hz9 47 0 (opV x) (Nat.le_refl _) (info_op _) (op_one _) _ _ rfl rfl rfl rfl ?_; intro w4 hg9 hs9 hb9; rw [splice_op] at hb9; have H4 := Lib.hid (And.intro hg9 hb9); clear hg9 hs9 hb9))
        go_ret
        exact ⟨rfl, below_step HBK.out (below_grown HBA.out H4.out.1 (Nat.le_refl _))⟩
      · have h24' : ((j : Int) == 24) = false := by simp; omega
        go_upto_region 9 with (first | ((with_reducible show wpList _ _ _ (Oper.mk _ (Op.load _ _) _ _ _ _ :: _) _ _); refine wpList_load_g hla _ rfl rfl (by go_simp) ?_) | ((with_reducible show wpList _ _ _ (Oper.mk _ (Op.store _ _ _) _ _ _ _ :: _) _ _); refine wpList_store_blk hz9 47 0 (opV x) (Nat.le_refl _) (info_op _) (op_one _) _ _ rfl rfl rfl rfl ?_; intro w4 hg9 hs9 hb9; rw [splice_op] at hb9; have H4 := Lib.hid (And.intro hg9 hb9); clear hg9 hs9 hb9))
        try dsimp only [Act.put]
        have hb4 := below_grown HBA.out H4.out.1 (Nat.le_refl _)
        have HB4 := Lib.hid (below_step HBK.out hb4)
        have HO4 := Lib.hid (HI.out.2.2.1.below hb4)
        have HX4 := Lib.hid (blk_below HI.out.2.1 hb4)
        have HY4 := Lib.hid H4.out.2
        obtain ⟨g4, hg4⟩ : ∃ g, wk.heap.size = g := ⟨_, rfl⟩
        rw [hg4] at HY4 ⊢
        clear hz9 HBA H4 hb4 hg4 hla
        go_wp2_with (first | ((with_reducible show wpList _ _ _ (Oper.mk _ (Op.load _ _) _ _ _ _ :: _) _ _); refine wpList_load_g (load_cli HX4.out) _ rfl rfl (by go_simp) ?_) | ((with_reducible show wpList _ _ _ (Oper.mk _ (Op.load _ _) _ _ _ _ :: _) _ _); refine wpList_load_g ((op_ld HY4.out).all) _ rfl rfl (by go_simp) ?_))
        refine (does20_any K A' n' c' x w4 (HLW.out.below HB4.out) HO4.out HI.out.2.2.2.1 HI.out.2.2.2.2.1 (HX.out.below HB4.out)).mono ?_
        rintro e w5 ⟨K5, A5, n5, c5, rfl, hO5, hok5, hn5, hb5⟩
        have HB5 := Lib.hid (below_step HB4.out hb5)
        have HX5 := Lib.hid (blk_below HX4.out hb5)
        have HO5 := Lib.hid (And.intro hO5 (And.intro hok5 hn5))
        clear hO5 hok5 hn5 hb5 HB4 HO4 HX4 HY4
        go_wp2_with (first | ((with_reducible show wpList _ _ _ (Oper.mk _ (Op.store _ _ _) _ _ _ _ :: _) _ _); refine wpList_store_blk HX5.out 27 0 (cliV K5 A5 n5 c5) (Nat.le_refl _) (info_cli _ _ _ _) (cli_one _ _ _ _) _ _ rfl rfl rfl rfl ?_; intro w6 hg9 hs9 hb9; rw [splice_cli] at hb9; have H6 := Lib.hid (And.intro hg9 hb9); clear hg9 hs9 hb9))
        go_roundw
        case measure => simp [intOf]; omega
        case rel => exact ⟨j + 1, K5, A5, n5, c5, by go_num, by omega, H6.out.2, HO5.out.1.grownT HX5.out (by decide) H6.out.1, HO5.out.2.1, HO5.out.2.2, below_grown HB5.out H6.out.1 (Nat.le_refl _)⟩
    · have hlt' : decide (j < m) = false := decide_eq_false hlt
      clear hlt
      go_wp2_with fail
      go_ret
      exact ⟨rfl, HBK.out⟩
end Go.Proofs.YtifejiclenpfoaaDoor

/- Arguments that are clients, and slices of them, opened. -/
namespace Go.Proofs.YtifejiclenpfoaaDoor
open Go.ChangeShapes Go.WideShapes Go.ChangeAt Go.RowKit
set_option linter.unusedVariables false
set_option linter.unusedSimpArgs false
set_option maxRecDepth 4000
/-- What holds of a client that was handed in. -/
structure CliIn (W : World) (k : Ck) (A : Option Addr) (n c : Nat) : Prop where
  rs : RS updK W A n c k.t
  ok : k.ok
  small : n * 64 ≤ 140737488351232
section
variable {H : Type} {enc : TypeId × Value → H} {W : World} {base : Nat} {spare : Nat → Bool} {held : Bool}
theorem open_cli_cells {fuel : Nat} {cs : List Value} {y : DataW H × List MemPlace} (h : DataW.trod enc Tryd.prog W base spare held fuel 27 cs = some y) (hl : Light Tryd.prog 27 y.1) : ∃ (k : Ck) (A : Option Addr) (n c : Nat), cs = cliC k A n c ∧ CliIn W k A n c := by
  obtain ⟨xs, m, -, hx, hlen, hxl, hg⟩ := DataW.trod_struct Tryd.underlying27 h
  have c0 : Tryd.prog.cellsOf 3 = 1 := by kernel_rfl
  have c1 : Tryd.prog.cellsOf 22 = 1 := by kernel_rfl
  have c2 : Tryd.prog.cellsOf 25 = 1 := by kernel_rfl
  have c4 : Tryd.prog.cellsOf 4 = 1 := by kernel_rfl
  have c3 : Tryd.prog.cellsOf 27 = 4 := by kernel_rfl
  have h0 : DataW.trod enc Tryd.prog W base spare held m 3 ((cs.drop 0).take (Tryd.prog.cellsOf 3)) = xs[0]? := hg 0 _ rfl
  have h1 : DataW.trod enc Tryd.prog W base spare held m 22 ((cs.drop 1).take (Tryd.prog.cellsOf 22)) = xs[1]? := hg 1 _ rfl
  have h2 : DataW.trod enc Tryd.prog W base spare held m 25 ((cs.drop 2).take (Tryd.prog.cellsOf 25)) = xs[2]? := hg 2 _ rfl
  have h3 : DataW.trod enc Tryd.prog W base spare held m 4 ((cs.drop 3).take (Tryd.prog.cellsOf 4)) = xs[3]? := hg 3 _ rfl
  rw [c3] at hlen
  rw [c0] at h0
  rw [c1] at h1
  rw [c2] at h2
  rw [c4] at h3
  have hx4 : xs.length = 4 := hxl
  subst hx
  match cs, hlen, xs, hx4 with
  | [d0, d1, d2, d3], _, [x0, x1, x2, x3], _ =>
    obtain ⟨num, hv0, -, hw0⟩ := DataW.trod_int Tryd.underlying3 (show DataW.trod enc Tryd.prog W base spare held m 3 [d0] = some x0 from h0)
    obtain ⟨seq, hv1, -, hw1⟩ := DataW.trod_int Tryd.underlying22 (show DataW.trod enc Tryd.prog W base spare held m 22 [d1] = some x1 from h1)
    obtain ⟨aw, hv3, -⟩ := DataW.trod_bool Tryd.underlying4 (show DataW.trod enc Tryd.prog W base spare held m 4 [d3] = some x3 from h3)
    have hl2 : Light Tryd.prog 25 x2.1 := light_field Tryd.underlying27 hl (i := 2) (f := _) rfl rfl
    obtain ⟨A, n, c, t, e1, e2, e3, e4⟩ := open_bat_cells (show DataW.trod enc Tryd.prog W base spare held m 25 [d2] = some x2 from h2) hl2
    refine ⟨⟨num, seq, aw, t⟩, A, n, c, ?_, e2, ⟨hw0, hw1, e3⟩, e4⟩
    injection hv0 with hv0
    injection hv1 with hv1
    injection e1 with e1
    injection hv3 with hv3
    subst hv0 hv1 e1 hv3
    rfl
end
theorem open_cli {H : Type} {enc : TypeId × Value → H} {W : World} {base b0 : Nat} {spare : Nat → Bool} {held : Bool} {v : Value} {d : DataW H} {p : List MemPlace} (hv : Value.okWide Tryd.prog W .any b0 27 v)
    (h : DataW.Trod enc Tryd.prog W base spare held 27 v d p) (hl : Light Tryd.prog 27 d) : ∃ (k : Ck) (A : Option Addr) (n c : Nat), v = .agg (cliV k A n c) ∧ CliIn W k A n c := by
  obtain ⟨cs, rfl, -⟩ := okWide_struct Tryd.underlying27 hv
  obtain ⟨fuel, hf⟩ := h
  obtain ⟨k, A, n, c, hc, h1⟩ := open_cli_cells hf hl
  refine ⟨k, A, n, c, ?_, h1⟩
  have : cs = cliV k A n c := by
    apply Array.toList_inj.1
    exact hc
  rw [this]
end Go.Proofs.YtifejiclenpfoaaDoor

/- The walk of ClientPlays, as the row asks it. -/
namespace Go.Proofs.YtifejiclenpfoaaDoor
open Go.RowKit
set_option linter.unusedVariables false
set_option linter.unusedSimpArgs false
set_option maxRecDepth 4000
theorem clientPlays_walk (k : Ck) (A : Option Addr) (n c : Nat) (A2 : Option Addr) (m c2 : Nat) (l : List Opn) (w : World) (hL : Laid w) (h0 : CliIn w k A n c) (hl : RS opK w A2 m c2 l) (hi : ∀ o ∈ l, OpIn w o) (h1 : m * 272 ≤ 140737488351232) : Calls Tryd.prog 3 #[.agg (cliV k A n c), .slice A2 m c2] w fun e w' => e = .returned (.bool true) ∧ Below w.heap.size w w' :=
  plays20_any k A n c A2 m c2 l w hL h0.rs h0.ok (by have := h0.small; omega) hl hi (by omega)
end Go.Proofs.YtifejiclenpfoaaDoor
