/- Layer 20 (client): the law's wakes. -/
import Derived.Test.YtifejiclenpfoaaDoorClientSubmitsB
import Derived.Test.YtifejiclenpfoaaDoorClientSubmitsC
namespace Go.Proofs.YtifejiclenpfoaaDoor
open Go.RowKit
set_option linter.unusedVariables false
set_option linter.unusedSimpArgs false
set_option maxRecDepth 4000
set_option maxHeartbeats 8000000 in
set_option maxRecDepth 100000 in
theorem wakes20_any (w : World) (hL : Laid w) : Calls Tryd.prog 10 #[] w fun e w' => e = .returned (.bool true) ∧ Below w.heap.size w w' := by
  have HL := Lib.hid hL
  clear hL
  obtain ⟨b, hb⟩ : ∃ b, b = oneB := ⟨_, rfl⟩
  have HBB : Hid (batB b = true) := Lib.hid (hb ▸ oneB_bat)
  have HBO : Hid (Oku b) := Lib.hid (hb ▸ oneB_ok)
  have HBE := Lib.hid hb
  have hin : (1 : Int) ≤ 1 ∧ (1 : Int) ≤ 2 := by decide
  have HIN := Lib.hid hin
  obtain ⟨k1, hk1⟩ : ∃ k, k = newK 1 := ⟨_, rfl⟩
  have HK1 := Lib.hid hk1
  have HO1 : Hid k1.ok := Lib.hid (hk1 ▸ ⟨by decide, by decide, fun r hr => by cases hr⟩)
  have HS1 : Hid (subN k1 b = 0 ∧ subK k1 b = ⟨1, 1, true, b⟩) := Lib.hid (hk1 ▸ sub_new hin HBB.out)
  have hcall := cnew_any 1 w HL.out
  rw [newC_in hin, newE_in hin, ← hk1] at hcall
  clear hb hk1 hin
  go_enter Tryd.func10, Tryd.ntmps10
  go_wp2_with fail
  refine hcall.mono ?_
  clear hcall
  rintro e w1 ⟨rfl, hb1⟩
  have HB1 := Lib.hid hb1
  obtain ⟨W2, hW2⟩ : ∃ W2, w1.alloc (.cells (cliV ckZ none 0 0) 27) = W2 := ⟨_, rfl⟩
  have HZ2 : Hid (W2.heap[w1.heap.size]? = some (.cells (cliV ckZ none 0 0) 27 (0, 0))) := Lib.hid (by rw [← hW2]; exact blk_new _ _)
  have HB2 : Hid (Below w.heap.size w W2) := Lib.hid (hW2 ▸ below_alloc hb1 _)
  have hw2 : w1.alloc (.cells #[.int .i64 0, .int .u32 0, .slice none 0 0, .bool false] 27) = W2 := hW2
  clear hb1 hW2
  go_upto_region 4 with (first | ((with_reducible show wpList _ _ _ (Oper.mk _ (Op.store _ _ _) _ _ _ _ :: _) _ _); refine wpList_store_blk HZ2.out 27 0 (cliV k1 none 0 0) (Nat.le_refl _) (info_cli _ _ _ _) (cli_one _ _ _ _) _ _ rfl rfl rfl rfl ?_; intro w3 hg9 hs9 hb9; rw [splice_cli] at hb9; have H3 := Lib.hid (And.intro hg9 hb9); clear hg9 hs9 hb9))
  try dsimp only [Act.put]
  have HX3 := Lib.hid H3.out.2
  have HB3 := Lib.hid (below_grown HB2.out H3.out.1 HB1.out.size)
  clear H3 hw2 HZ2 HB2
  refine wp_region_mix ((fun w0 => Below w3.heap.size w3 w0)) [(0, 0), (1, 2), (2, 2), (3, 4), (4, 4), (5, 4), (6, 3), (7, 3)] (by kernel_rfl) (by kernel_rfl) ((below_drew1 _)) ?_
  simp only [List.map_cons, List.map_nil]
  refine wpO_loadW (t := 27) (ad := ⟨w1.heap.size, 0, none⟩) rfl rfl ?hw rfl rfl ((fun w0 hS => load_cli (blk_below HX3.out hS))) ?_
  case hw => go_simp
  refine wpO_step2 rfl rfl (below_drew1 _) (fun K hK => ?_)
  go_simp
  refine (one20_any _).mono ?_
  rintro e w4 ⟨A4, rfl, hO4, hb4⟩
  rw [← HBE.out] at hO4
  have HV4 := Lib.hid (below_step (below_drew1 w3) hb4)
  have HO4 := Lib.hid (hO4.lower HB3.out.size)
  clear hO4 hb4
  refine hK _ _ ⟨HV4.out, ?_⟩
  clear hK K
  refine wpO_step2 rfl rfl (HV4.out) (fun K hK => ?_)
  go_simp
  refine (csubmit_any k1 none 0 0 A4 1 1 b w4 (HL.out.below (below_step HB3.out HV4.out)) (HK1.out ▸ RS.nil _ _ _ _) HO1.out (by omega) HO4.out.reads HBO.out (by omega)).mono ?_
  rw [HS1.out.1, HS1.out.2]
  rintro e w5 ⟨A5, n5, c5, rfl, hO5, hb5⟩
  have HV5 := Lib.hid (below_step HV4.out hb5)
  have HO5 := Lib.hid (hO5.lower (below_step HB3.out HV4.out).size)
  have HN5 : Hid (n5 = 1) := Lib.hid (by have := hO5.len; rw [← this]; show b.length = 1; rw [HBE.out]; rfl)
  have HA5 := Lib.hid hO5.base_
  clear hO5 hb5 HO4
  refine hK _ _ ⟨HV5.out, ?_⟩
  clear hK K
  iterate 3 (refine wpO_step4 rfl rfl (fun K hK => ?_); go_simp; refine hK _ _ ?_; clear hK K)
  refine wpO_step3 rfl rfl (fun K hK => ?_)
  rw [if_pos (show Region.wanted _ _ = true from rfl)]
  refine oper_store_blk (blk_below HX3.out HV5.out) 27 0 (cliV ⟨1, 1, true, b⟩ A5 n5 c5) (Nat.le_refl _) (info_cli _ _ _ _) (cli_one _ _ _ _) _ _ rfl rfl rfl ?_
  intro w6 hg9 hs9 hb9
  rw [splice_cli] at hb9
  have HX6 := Lib.hid hb9
  have HB6 := Lib.hid (below_grown (below_step HB3.out HV5.out) hg9 HB1.out.size)
  have HO6 : Hid (OS updK w6 w.heap.size A5 n5 c5 b) := Lib.hid (OS.grown HO5.out hg9 (fun ad e h => by have h1 := HA5.out ad e; have := blk_lt HX3.out; have := HV4.out.size; injection h with h; omega))
  clear hg9 hs9 hb9 HX3 HO5 HA5
  refine hK _ _ ?_
  clear hK K
  refine wpO_step3 rfl rfl (fun K hK => ?_); go_simp; refine hK _ _ ?_; clear hK K
  refine wpO_nil ?_
  have hca : ckB ⟨1, 1, true, b⟩ = true := ckB_away HIN.out (by decide) HBB.out
  have hok : Ck.ok ⟨1, 1, true, b⟩ := ⟨(by decide : (Lit.int .i64 (1 : Int)).wf = true), (by decide : (Lit.int .u32 (1 : Int)).wf = true), HBO.out⟩
  have hcall := cask_any ⟨1, 1, true, b⟩ A5 n5 c5 2 w6 (HL.out.below HB6.out) HO6.out.reads hok (by have := HN5.out; omega)
  have hak := ask_away (tg := 2) hca rfl (by decide)
  rw [hak.1, hak.2] at hcall
  obtain ⟨m, hm⟩ : ∃ m, (⟨6, 2 + (⟨1, 1, true, b⟩ : Ck).num, 2, (⟨1, 1, true, b⟩ : Ck).seq, (⟨1, 1, true, b⟩ : Ck).t⟩ : Gm) = m := ⟨_, rfl⟩
  rw [hm] at hcall
  have HM := Lib.hid hm
  have HMO : Hid (AskOk m) := Lib.hid (hm ▸ ⟨rfl, (by decide : (2 : Int) < 2 + 1 ∧ (2 : Int) + 1 ≤ 4), (by decide : (1 : Int) ≤ 2 ∧ (2 : Int) ≤ 2)⟩)
  have HMT : Hid (m.t = b) := Lib.hid (hm ▸ rfl)
  have HM6 : Hid (m.kd = 6 ∧ m.frm = 3 ∧ m.seq = 1) := Lib.hid (hm ▸ ⟨rfl, rfl, rfl⟩)
  have HCA := Lib.hid hca
  have HOK := Lib.hid hok
  clear hca hak hok hm
  go_wp2_with (first | ((with_reducible show wpList _ _ _ (Oper.mk _ (Op.load _ _) _ _ _ _ :: _) _ _); refine wpList_load_g (load_cli HX6.out) _ rfl rfl (by go_simp) ?_))
  refine hcall.mono ?_
  clear hcall
  rintro e w7 ⟨A7, n7, c7, rfl, hO7, hb7⟩
  have HB7 := Lib.hid (below_step HB6.out hb7)
  have HX7 := Lib.hid (blk_below HX6.out hb7)
  have HO7 := Lib.hid (HO6.out.below hb7)
  have HT7 := Lib.hid hO7.reads
  have HA7 := Lib.hid hO7.base_
  have HS7 := Lib.hid hb7.size
  clear hO7 hb7 HX6 HO6 HB6
  go_upto_region 6 with (first | ((with_reducible show wpList _ _ _ (Oper.mk _ (Op.store _ _ _) _ _ _ _ :: _) _ _); refine wpList_store_blk (blk_new w7 (.cells (gmV gmZ none 0 0) 45)) 45 0 (gmV m A7 n7 c7) (Nat.le_refl _) (info_gm _ _ _ _) (gm_one _ _ _ _) _ _ rfl rfl rfl rfl ?_; intro w8 hg9 hs9 hb9; rw [splice_gm] at hb9; have H8 := Lib.hid (And.intro hg9 hb9); clear hg9 hs9 hb9))
  try dsimp only [Act.put]
  have hb78 := below_grown (below_alloc (Below.refl w7.heap.size w7) (.cells (gmV gmZ none 0 0) 45)) H8.out.1 (Nat.le_refl _)
  have HB8 := Lib.hid (below_step HB7.out hb78)
  have HX8 := Lib.hid (blk_below HX7.out hb78)
  have HO8 := Lib.hid (HO7.out.below hb78)
  have HT8 := Lib.hid (HT7.out.below hb78)
  have HG8 := Lib.hid H8.out.2
  obtain ⟨g8, hg8⟩ : ∃ g, w7.heap.size = g := ⟨_, rfl⟩
  rw [hg8] at HG8 ⊢
  have HLD := Lib.hid (gm_ld HG8.out)
  have HKD := Lib.hid HLD.out.kind
  have HSQ := Lib.hid HLD.out.seq
  have HFR := Lib.hid HLD.out.frm
  rw [HM6.out.1] at HKD
  rw [HM6.out.2.2] at HSQ
  rw [HM6.out.2.1] at HFR
  have HN7 : Hid (n7 = 1) := Lib.hid (by have := HT8.out.len; rw [HMT.out, HBE.out] at this; rw [← this]; rfl)
  have hcall := fcheck_ask m A7 n7 c7 w8 (HL.out.below HB8.out) HT8.out (by rw [HMT.out]; exact HBO.out) (by have := HN7.out; omega) HMO.out (by rw [HM6.out.2.2]; decide) (by rw [HM6.out.2.2]; decide) (by rw [HMT.out]; exact HBB.out)
  clear hb78 H8 HX7 HO7 HT7 HB7 hg8 HA7 HS7
  go_wp2_with (first | ((with_reducible show wpList _ _ _ (Oper.mk _ (Op.load _ _) _ _ _ _ :: _) _ _); refine wpList_load_g (HKD.out) _ rfl rfl (by go_simp) ?_) | ((with_reducible show wpList _ _ _ (Oper.mk _ (Op.load _ _) _ _ _ _ :: _) _ _); refine wpList_load_g (HSQ.out) _ rfl rfl (by go_simp) ?_) | ((with_reducible show wpList _ _ _ (Oper.mk _ (Op.load _ _) _ _ _ _ :: _) _ _); refine wpList_load_g (HFR.out) _ rfl rfl (by go_simp) ?_) | ((with_reducible show wpList _ _ _ (Oper.mk _ (Op.load _ _) _ _ _ _ :: _) _ _); refine wpList_load_g (HLD.out.all) _ rfl rfl (by go_simp) ?_))
  refine hcall.mono ?_
  clear hcall
  rintro e w9 ⟨rfl, hb9⟩
  have HB9 := Lib.hid (below_step HB8.out hb9)
  have HX9 := Lib.hid (blk_below HX8.out hb9)
  have HO9 := Lib.hid (HO8.out.below hb9)
  clear hb9 HB8 HX8 HO8 HT8 HG8 HLD HKD HSQ HFR
  obtain ⟨q, hq⟩ : ∃ q, mw = q := ⟨_, rfl⟩
  have HQ : Hid (∀ W : World, (Instr.build 45 #[(0, .int .i64 7), (1, .int .i64 2), (2, .int .i64 3), (11, .int .u32 1), (8, .int .u64 7)]).run Tryd.prog W = .ok (.agg (msgV q)) W) := Lib.hid (fun W => by rw [← hq]; exact run_build_mw W)
  have hcall := chear_any ⟨1, 1, true, b⟩ A5 n5 c5 mw w9 (HL.out.below HB9.out) HO9.out.reads HOK.out (by have := HN5.out; omega) mw_fits
  rw [show hearB ⟨1, 1, true, b⟩ mw.kind mw.tgt mw.seq mw.err = true from rfl, show hearK ⟨1, 1, true, b⟩ true = ⟨1, 1, false, []⟩ by unfold hearK; rw [HCA.out]; rfl, show hearH ⟨1, 1, true, b⟩ true mw.err mw.index = ⟨true, 0, 1, 7, b⟩ by unfold hearH; rw [HCA.out]; rfl, show ckE ⟨1, 1, true, b⟩ = 0 by unfold ckE; rw [HCA.out]; rfl, hq] at hcall
  clear hq
  go_wp2_with (first | ((with_reducible show wpList _ _ _ (Oper.mk _ (Op.load _ _) _ _ _ _ :: _) _ _); refine wpList_load_g (load_cli HX9.out) _ rfl rfl (by go_simp) ?_) | ((with_reducible show wpList _ _ _ (Oper.mk _ (Op.build 45 _) _ _ _ _ :: _) _ _); refine wpList_exw rfl (exec_build5 rfl rfl rfl rfl rfl rfl (HQ.out _)) ?_))
  refine hcall.mono ?_
  clear hcall
  rintro e w10 ⟨A1, n1, c1, A2, n2, c2, rfl, hO1, hO2, hb10⟩
  have HB10 := Lib.hid (below_step HB9.out hb10)
  have HX10 := Lib.hid (blk_below HX9.out hb10)
  have hn1 : n1 = 0 := hO1.len.symm
  subst hn1
  have hxa := blk_below HX10.out (below_alloc (Below.refl _ _) (.cells (hdV hdZ none 0 0) 61))
  have hha := blk_new w10 (.cells (hdV hdZ none 0 0) 61)
  have HSZ : Hid (w1.heap.size < w10.heap.size) := Lib.hid (blk_lt HX10.out)
  clear hO1 hO2 hb10 HX9 HO9
  go_upto_region 9 with (first | ((with_reducible show wpList _ _ _ (Oper.mk _ (Op.store _ _ _) _ _ _ _ :: _) _ _); refine wpList_store_blk hxa 27 0 (cliV ⟨1, 1, false, []⟩ A1 0 c1) (Nat.le_refl _) (info_cli _ _ _ _) (cli_one _ _ _ _) _ _ rfl rfl rfl rfl ?_; intro w11 hg9 hs9 hb9; rw [splice_cli] at hb9; have H11 := Lib.hid (And.intro hg9 hb9); clear hg9 hs9 hb9) | ((with_reducible show wpList _ _ _ (Oper.mk _ (Op.store _ _ _) _ _ _ _ :: _) _ _); refine wpList_store_blk (blk_grown hha H11.out.1 (fun e => by injection e with e; have := HSZ.out; omega)) 61 0 (hdV ⟨true, 0, 1, 7, b⟩ A2 n2 c2) (Nat.le_refl _) (info_hd _ _ _ _) (hd_one _ _ _ _) _ _ rfl rfl rfl rfl ?_; intro w12 hg9 hs9 hb9; rw [splice_hd] at hb9; have H12 := Lib.hid (And.intro hg9 hb9); clear hg9 hs9 hb9))
  try dsimp only [Act.put]
  have HC12 := Lib.hid ((cli_at (blk_grown H11.out.2 H12.out.1 (fun e => by injection e with e; have := HSZ.out; omega))).all _ (Below.refl _ _))
  have HD12 := Lib.hid (load_hdf H12.out.2)
  have HB12 := Lib.hid (below_grown (below_grown (below_alloc HB10.out (.cells (hdV hdZ none 0 0) 61)) H11.out.1 HB1.out.size) H12.out.1 HB10.out.size)
  clear hxa hha H11 H12 HX10 HB10
  go_wp2_with (first | ((with_reducible show wpList _ _ _ (Oper.mk _ (Op.load _ _) _ _ _ _ :: _) _ _); refine wpList_load_g (HD12.out.1) _ rfl rfl (by go_simp) ?_) | ((with_reducible show wpList _ _ _ (Oper.mk _ (Op.load _ _) _ _ _ _ :: _) _ _); refine wpList_load_g (HD12.out.2) _ rfl rfl (by go_simp) ?_) | ((with_reducible show wpList _ _ _ (Oper.mk _ (Op.load _ _) _ _ _ _ :: _) _ _); refine wpList_load_g (HC12.out.away) _ rfl rfl (by go_simp) ?_) | ((with_reducible show wpList _ _ _ (Oper.mk _ (Op.load _ _) _ _ _ _ :: _) _ _); refine wpList_load_g (HC12.out.upd) _ rfl rfl (by go_simp) ?_))
  go_ret
  exact ⟨rfl, HB12.out⟩
end Go.Proofs.YtifejiclenpfoaaDoor

/- Layer 20 (client): the law ClientSubmits. -/
namespace Go.Proofs.YtifejiclenpfoaaDoor
open Go.RowKit
set_option linter.unusedVariables false
set_option linter.unusedSimpArgs false
set_option maxRecDepth 4000
set_option maxHeartbeats 8000000 in
set_option maxRecDepth 100000 in
theorem submits20_any (k : Ck) (A : Option Addr) (n c : Nat) (A2 : Option Addr) (m c2 : Nat) (b : List Upd) (w : World) (hL : Laid w) (hr : RS updK w A n c k.t) (ok : k.ok) (hn : n ≤ 140737488355328) (hu : RS updK w A2 m c2 b) (oku : Oku b) (hm : m ≤ 140737488355328) :
    Calls Tryd.prog 4 #[.agg (cliV k A n c), .agg (tabV A2 m c2)] w fun e w' => e = .returned (.bool true) ∧ Below w.heap.size w w' := by
  have HLW := Lib.hid hL
  have hblk1 := blk_new w (.cells (cliV k A n c) 27)
  have hbel1 : Below w.heap.size w (w.alloc (.cells (cliV k A n c) 27)) := below_alloc (Below.refl _ _) _
  have hblk2 := blk_new (w.alloc (.cells (cliV k A n c) 27)) (.cells (tabV A2 m c2) 25)
  have hbel2 : Below w.heap.size w ((w.alloc (.cells (cliV k A n c) 27)).alloc (.cells (tabV A2 m c2) 25)) := below_alloc (hbel1) _
  rw [show (w.alloc (.cells (cliV k A n c) 27)).heap.size = w.heap.size + 1 by simp] at hblk2
  replace hblk1 := blk_below hblk1 (below_alloc (Below.refl _ _) (.cells (tabV A2 m c2) 25))
  have HP1 := Lib.hid (cli_at hblk1)
  have HBK1 := Lib.hid hblk1
  have HP2 := Lib.hid (bat_at hblk2)
  have HBK2 := Lib.hid hblk2
  have HBE := Lib.hid hbel2
  have HL := Lib.hid (hL.below HBE.out)
  obtain ⟨cs1, hcs1⟩ : ∃ cs, cliV k A n c = cs := ⟨_, rfl⟩
  obtain ⟨cs2, hcs2⟩ : ∃ cs, tabV A2 m c2 = cs := ⟨_, rfl⟩
  simp only [hcs1, hcs2] at HBE HL HP1 HP2 HBK1 HBK2 ⊢
  have HC1 := Lib.hid hcs1
  have HC2 := Lib.hid hcs2
  clear hL hcs1 hblk1 hbel1 hcs2 hblk2 hbel2
  have HR := Lib.hid (hr.below HBE.out)
  have HU := Lib.hid hu
  have HX0 : Hid (((w.alloc (.cells cs1 27)).alloc (.cells cs2 25)).heap[w.heap.size]? = some (.cells (cliV k A n c) 27 (0, 0))) := Lib.hid (HBK1.out.trans (by rw [HC1.out]))
  have OK := Lib.hid ok
  have OKU : Hid (Oku (b.take 10)) := Lib.hid (fun u hu => oku u (List.mem_of_mem_take hu))
  have HM := Lib.hid hm
  have HNN := Lib.hid hn
  obtain ⟨q, hq⟩ : ∃ q, min m 10 = q := ⟨_, rfl⟩
  have HQ := Lib.hid hq
  have HQ10 : Hid (q ≤ 10) := Lib.hid (by omega)
  clear hr hu ok oku hm hn hq
  obtain ⟨W0, hW0⟩ : ∃ W, ((w.alloc (.cells cs1 27)).alloc (.cells cs2 25)) = W := ⟨_, rfl⟩
  go_enter Tryd.func4, Tryd.ntmps4
  go_wp2_with fail
  rw [hW0] at HBE HL HP1 HP2 HR HX0 HBK2
  clear hW0
  refine (wakes20_any _ HL.out).mono ?_
  rintro e w1 ⟨rfl, hb1⟩
  have HB1 := Lib.hid hb1
  have HX1 := Lib.hid (blk_below HX0.out hb1)
  clear hb1 HX0
  go_wp2_with (first | ((with_reducible show wpList _ _ _ (Oper.mk _ (Op.load _ _) _ _ _ _ :: _) _ _); refine wpList_load_g (load_cli HX1.out) _ rfl rfl (by go_simp) ?_))
  refine (lshort_any k A n c w1 (HR.out.below HB1.out) HNN.out).mono ?_
  rintro e w2 ⟨A3, c3, rfl, hO3, hb2⟩
  have HX2 := Lib.hid (blk_below HX1.out hb2)
  have HB2 := Lib.hid (below_step HB1.out hb2)
  obtain ⟨n3, hn3⟩ : ∃ n3, min n 10 = n3 := ⟨_, rfl⟩
  rw [hn3] at hO3 ⊢
  have HN3 : Hid (n3 ≤ 10) := Lib.hid (by omega)
  have HO3 := Lib.hid hO3
  obtain ⟨k3, hk3⟩ : ∃ k3, shortK k = k3 := ⟨_, rfl⟩
  have HK3 := Lib.hid hk3
  have OK3 : Hid k3.ok := Lib.hid (hk3 ▸ shortK_ok OK.out)
  rw [hk3] at HO3 ⊢
  have HS2 := Lib.hid (blk_lt HX1.out)
  clear hO3 hb2 hn3 hk3 HX1
  go_upto_region 4 with (first | ((with_reducible show wpList _ _ _ (Oper.mk _ (Op.store _ _ _) _ _ _ _ :: _) _ _); refine wpList_store_blk HX2.out 27 0 (cliV k3 A3 n3 c3) (Nat.le_refl _) (info_cli _ _ _ _) (cli_one _ _ _ _) _ _ rfl rfl rfl rfl ?_; intro w3 hg9 hs9 hb9; rw [splice_cli] at hb9; have H3 := Lib.hid (And.intro hg9 hb9); clear hg9 hs9 hb9))
  try dsimp only [Act.put]
  have HX3 := Lib.hid H3.out.2
  have HB3 : Hid (Below w.heap.size w w3) := Lib.hid (below_grown (below_step HBE.out HB2.out) H3.out.1 (Nat.le_refl _))
  have HR3 : Hid (RS updK w3 A3 n3 c3 k3.t) := Lib.hid (HO3.out.grown H3.out.1 (fun ad e h => by have := HO3.out.base_ ad e; have := HS2.out; injection h with h; omega)).reads
  have HBW := HB3
  have HP23 := Lib.hid (bat_at (A := A2) (n := m) (c := c2) (blk_grown ((blk_below HBK2.out HB2.out).trans (by rw [HC2.out])) H3.out.1 (fun e => by injection e with e; omega)))
  clear HX2 HO3 H3 HB2 HS2
  go_cut [5, 6] (fun s5 s6 wx => ∃ (g : Nat) (A9 : Option Addr) (n9 c9 : Nat), s5 = .pointer (some ⟨g, 0, none⟩) ∧ s6 = .int .i64 (subN k3 (b.take 10)) ∧ Hid (wx.heap[g]? = some (.cells (cliV (subK k3 (b.take 10)) A9 n9 c9) 27 (0, 0)) ∧ RS updK wx A9 n9 c9 (subK k3 (b.take 10)).t ∧ Below w3.heap.size w3 wx))
  case first =>
    have HBD := Lib.hid (below_drew1 w3)
    refine wp_region_fork ((fun w0 => Below w3.heap.size w3 w0)) (OrdT.fork [0, 1] 2 7 (OrdT.fork [] 3 7 (OrdT.lin [4, 5, 6, 7, 8, 9]) (OrdT.lin [3, 4, 5, 6, 8, 9])) (OrdT.lin [2, 3, 4, 5, 6, 8, 9])) [(0, 0), (1, 0), (2, 2), (3, 2), (4, 0), (5, 0), (6, 0), (7, 2), (8, 2), (9, 0)] (by kernel_rfl) (by kernel_rfl) ((below_drew1 _)) ?_
    simp only [wpF]
    refine wpO_loadW (t := 27) (ad := ⟨w.heap.size, 0, none⟩) rfl rfl ?hw rfl rfl ((fun w0 hS => load_cli (blk_below HX3.out hS))) ?_
    case hw => go_simp
    refine wpO_loadW (t := 25) (ad := ⟨(w.heap.size+1), 0, none⟩) rfl rfl ?hw rfl rfl ((fun w0 hS => (HP23.out.all _ hS).1)) ?_
    case hw => go_simp
    refine wpO_nil ⟨?_, ?_⟩
    · refine wpO_step2 rfl rfl (HBD.out) (fun K hK => ?_)
      go_simp
      refine (lbatch_any A2 m c2 b _ (HU.out.below (below_step HBW.out HBD.out)) HM.out).mono ?_
      rintro e w21 ⟨Ac, cc, rfl, hO9, hb9⟩
      rw [HQ.out] at hO9 ⊢
      have HBC := Lib.hid (below_step HBD.out hb9)
      have HCP := Lib.hid hO9.reads
      have hszc := hb9.size
      try replace HZ9 := Lib.hid (blk_below HZ9.out hb9)
      try replace HKP := Lib.hid (HKP.out.below hb9)
      clear hO9 hb9
      refine hK _ _ ⟨HBC.out, ?_⟩
      clear hK K
      refine wpO_nil ?_
      refine wpO_nil ⟨?_, ?_⟩
      · refine wpO_step2 rfl rfl (HBC.out) (fun K hK => ?_)
        go_simp
        refine (csubmit_any k3 A3 n3 c3 Ac q cc (b.take 10) w21 (HLW.out.below (below_step HBW.out HBC.out)) (HR3.out.below HBC.out) OK3.out (by have := HN3.out; omega) HCP.out OKU.out (by have := HQ10.out; omega)).mono ?_
        rintro e w22 ⟨A9, n9, c9, rfl, hO9, hb9⟩
        have HBK := Lib.hid (below_step HBC.out hb9)
        have HLT9 := Lib.hid hO9.lt
        have HBA9 := Lib.hid hO9.base_
        have HO9 : Hid (RS updK w22 A9 n9 c9 (subK k3 (b.take 10)).t) := Lib.hid hO9.reads
        try replace HZ9 := Lib.hid (blk_below HZ9.out hb9)
        have hszc := hb9.size
        clear hO9 hb9
        refine hK _ _ ⟨HBK.out, ?_⟩
        clear hK K
        refine wpO_nil ?_
        iterate 3 (refine wpO_step0 rfl rfl (fun K hK => ?_); go_simp; refine hK _ _ ?_; clear hK K)
        refine wpO_step2 rfl rfl (HBK.out) (fun K hK => ?_)
        go_simp
        have hz9 := blk_new w22 (.cells (cliV ckZ none 0 0) 27)
        obtain ⟨w23, hw9⟩ : ∃ w9, World.alloc w22 (.cells (cliV ckZ none 0 0) 27) = w9 := ⟨_, rfl⟩
        have ha9 : Below (World.heap w22).size w22 w23 := hw9 ▸ below_alloc (Below.refl _ _) _
        have HBL := Lib.hid (below_step HBK.out ha9)
        refine kw_cast hw9 ?_
        rw [hw9] at hz9
        have hzl9 := blk_lt hz9
        have HZ9 := Lib.hid hz9
        try replace HCP := Lib.hid (HCP.out.below ha9)
        try replace HO9 := Lib.hid (HO9.out.below ha9)
        try replace HLV := Lib.hid (HLV.out.below ha9)
        try replace HKP := Lib.hid (HKP.out.below ha9)
        clear hw9 hz9 ha9
        refine hK _ _ ⟨HBL.out, ?_⟩
        clear hK K
        refine wpO_step2 rfl rfl (HBL.out) (fun K hK => ?_)
        rw [if_pos (show Region.wanted _ _ = true from rfl)]
        refine oper_store_blk HZ9.out 27 0 (cliV (subK k3 (b.take 10)) A9 n9 c9) (Nat.le_refl _) (info_cli _ _ _ _) (cli_one _ _ _ _) _ _ rfl rfl rfl ?_
        intro w24 hg9 hs9 hb9
        rw [splice_cli] at hb9
        have HBM := Lib.hid (below_grown HBL.out hg9 (by have h1 := HBC.out.size; have h2 := HBK.out.size; first | omega | (have h3 := HBL.out.size; omega)))
        have HNE9 : Hid (∀ ad, A9 = some ad → ad.block ≠ w22.heap.size) := Lib.hid (fun ad e => by have h1 := HLT9.out ad e; have h2 := HBA9.out ad e; first | omega)
        replace HO9 := Lib.hid (HO9.out.grown hg9 (fun ad e h => by injection h with h; exact HNE9.out ad e h))
        replace HZ9 := Lib.hid hb9
        clear hg9 hs9 hb9
        refine hK _ _ ⟨HBM.out, ?_⟩
        clear hK K
        iterate 1 (refine wpO_step0 rfl rfl (fun K hK => ?_); go_simp; refine hK _ _ ?_; clear hK K)
        refine wpO_nil ?_
        go_wp2_with fail
        go_meet
        exact ⟨w22.heap.size, A9, n9, c9, rfl, rfl, HZ9.out, HO9.out, HBM.out⟩
      · refine wpO_step2 rfl rfl (HBC.out) (fun K hK => ?_)
        go_simp
        have hz9 := blk_new w21 (.cells (cliV ckZ none 0 0) 27)
        obtain ⟨w22, hw9⟩ : ∃ w9, World.alloc w21 (.cells (cliV ckZ none 0 0) 27) = w9 := ⟨_, rfl⟩
        have ha9 : Below (World.heap w21).size w21 w22 := hw9 ▸ below_alloc (Below.refl _ _) _
        have HBK := Lib.hid (below_step HBC.out ha9)
        refine kw_cast hw9 ?_
        rw [hw9] at hz9
        have hzl9 := blk_lt hz9
        have HZ9 := Lib.hid hz9
        try replace HCP := Lib.hid (HCP.out.below ha9)
        try replace HO9 := Lib.hid (HO9.out.below ha9)
        try replace HLV := Lib.hid (HLV.out.below ha9)
        try replace HKP := Lib.hid (HKP.out.below ha9)
        clear hw9 hz9 ha9
        refine hK _ _ ⟨HBK.out, ?_⟩
        clear hK K
        refine wpO_nil ?_
        refine wpO_step2 rfl rfl (HBK.out) (fun K hK => ?_)
        go_simp
        refine (csubmit_any k3 A3 n3 c3 Ac q cc (b.take 10) w22 (HLW.out.below (below_step HBW.out HBK.out)) (HR3.out.below HBK.out) OK3.out (by have := HN3.out; omega) HCP.out OKU.out (by have := HQ10.out; omega)).mono ?_
        rintro e w23 ⟨A9, n9, c9, rfl, hO9, hb9⟩
        have HBL := Lib.hid (below_step HBK.out hb9)
        have HLT9 := Lib.hid hO9.lt
        have HBA9 := Lib.hid hO9.base_
        have HO9 : Hid (RS updK w23 A9 n9 c9 (subK k3 (b.take 10)).t) := Lib.hid hO9.reads
        try replace HZ9 := Lib.hid (blk_below HZ9.out hb9)
        have hszc := hb9.size
        clear hO9 hb9
        refine hK _ _ ⟨HBL.out, ?_⟩
        clear hK K
        iterate 3 (refine wpO_step0 rfl rfl (fun K hK => ?_); go_simp; refine hK _ _ ?_; clear hK K)
        refine wpO_step2 rfl rfl (HBL.out) (fun K hK => ?_)
        rw [if_pos (show Region.wanted _ _ = true from rfl)]
        refine oper_store_blk HZ9.out 27 0 (cliV (subK k3 (b.take 10)) A9 n9 c9) (Nat.le_refl _) (info_cli _ _ _ _) (cli_one _ _ _ _) _ _ rfl rfl rfl ?_
        intro w24 hg9 hs9 hb9
        rw [splice_cli] at hb9
        have HBM := Lib.hid (below_grown HBL.out hg9 (by have h1 := HBC.out.size; have h2 := HBK.out.size; first | omega | (have h3 := HBL.out.size; omega)))
        have HNE9 : Hid (∀ ad, A9 = some ad → ad.block ≠ w21.heap.size) := Lib.hid (fun ad e => by have h1 := HLT9.out ad e; have h2 := HBA9.out ad e; first | omega)
        replace HO9 := Lib.hid (HO9.out.grown hg9 (fun ad e h => by injection h with h; exact HNE9.out ad e h))
        replace HZ9 := Lib.hid hb9
        clear hg9 hs9 hb9
        refine hK _ _ ⟨HBM.out, ?_⟩
        clear hK K
        iterate 1 (refine wpO_step0 rfl rfl (fun K hK => ?_); go_simp; refine hK _ _ ?_; clear hK K)
        refine wpO_nil ?_
        go_wp2_with fail
        go_meet
        exact ⟨w21.heap.size, A9, n9, c9, rfl, rfl, HZ9.out, HO9.out, HBM.out⟩
    · refine wpO_step2 rfl rfl (HBD.out) (fun K hK => ?_)
      go_simp
      have hz9 := blk_new w3 (.cells (cliV ckZ none 0 0) 27)
      obtain ⟨w21, hw9⟩ : ∃ w9, (World.alloc w3 (.cells (cliV ckZ none 0 0) 27)).drew = w9 := ⟨_, rfl⟩
      have ha9 : Below (World.heap w3).size w3 w21 := hw9 ▸ below_step (below_alloc (Below.refl _ _) _) (below_drew1 _)
      have HBC := Lib.hid ha9
      refine kw_cast hw9 ?_
      replace hz9 : (World.heap w21)[(World.heap w3).size]? = some (.cells (cliV ckZ none 0 0) 27 (0, 0)) := by rw [← hw9]; exact hz9
      have hzl9 := blk_lt hz9
      have HZ9 := Lib.hid hz9
      clear hw9 hz9 ha9
      refine hK _ _ ⟨HBC.out, ?_⟩
      clear hK K
      refine wpO_nil ?_
      refine wpO_step2 rfl rfl (HBC.out) (fun K hK => ?_)
      go_simp
      refine (lbatch_any A2 m c2 b _ (HU.out.below (below_step HBW.out HBC.out)) HM.out).mono ?_
      rintro e w22 ⟨Ac, cc, rfl, hO9, hb9⟩
      rw [HQ.out] at hO9 ⊢
      have HBK := Lib.hid (below_step HBC.out hb9)
      have HCP := Lib.hid hO9.reads
      have hszc := hb9.size
      try replace HZ9 := Lib.hid (blk_below HZ9.out hb9)
      try replace HKP := Lib.hid (HKP.out.below hb9)
      clear hO9 hb9
      refine hK _ _ ⟨HBK.out, ?_⟩
      clear hK K
      refine wpO_step2 rfl rfl (HBK.out) (fun K hK => ?_)
      go_simp
      refine (csubmit_any k3 A3 n3 c3 Ac q cc (b.take 10) w22 (HLW.out.below (below_step HBW.out HBK.out)) (HR3.out.below HBK.out) OK3.out (by have := HN3.out; omega) HCP.out OKU.out (by have := HQ10.out; omega)).mono ?_
      rintro e w23 ⟨A9, n9, c9, rfl, hO9, hb9⟩
      have HBL := Lib.hid (below_step HBK.out hb9)
      have HLT9 := Lib.hid hO9.lt
      have HBA9 := Lib.hid hO9.base_
      have HO9 : Hid (RS updK w23 A9 n9 c9 (subK k3 (b.take 10)).t) := Lib.hid hO9.reads
      try replace HZ9 := Lib.hid (blk_below HZ9.out hb9)
      have hszc := hb9.size
      clear hO9 hb9
      refine hK _ _ ⟨HBL.out, ?_⟩
      clear hK K
      iterate 3 (refine wpO_step0 rfl rfl (fun K hK => ?_); go_simp; refine hK _ _ ?_; clear hK K)
      refine wpO_step2 rfl rfl (HBL.out) (fun K hK => ?_)
      rw [if_pos (show Region.wanted _ _ = true from rfl)]
      refine oper_store_blk HZ9.out 27 0 (cliV (subK k3 (b.take 10)) A9 n9 c9) (Nat.le_refl _) (info_cli _ _ _ _) (cli_one _ _ _ _) _ _ rfl rfl rfl ?_
      intro w24 hg9 hs9 hb9
      rw [splice_cli] at hb9
      have HBM := Lib.hid (below_grown HBL.out hg9 (by have h1 := HBC.out.size; have h2 := HBK.out.size; first | omega | (have h3 := HBL.out.size; omega)))
      have HNE9 : Hid (∀ ad, A9 = some ad → ad.block ≠ w3.heap.size) := Lib.hid (fun ad e => by have h1 := HLT9.out ad e; have h2 := HBA9.out ad e; first | omega)
      replace HO9 := Lib.hid (HO9.out.grown hg9 (fun ad e h => by injection h with h; exact HNE9.out ad e h))
      replace HZ9 := Lib.hid hb9
      clear hg9 hs9 hb9
      refine hK _ _ ⟨HBM.out, ?_⟩
      clear hK K
      iterate 1 (refine wpO_step0 rfl rfl (fun K hK => ?_); go_simp; refine hK _ _ ?_; clear hK K)
      refine wpO_nil ?_
      go_wp2_with fail
      go_meet
      exact ⟨w3.heap.size, A9, n9, c9, rfl, rfl, HZ9.out, HO9.out, HBM.out⟩
  case rest =>
    obtain ⟨g4, A4, n4, c4, rfl, rfl, HC⟩ := hcut
    obtain ⟨w4, rfl⟩ : ∃ w9, w9 = wc := ⟨wc, rfl⟩
    have HX4 := Lib.hid HC.out.1
    have HR4 := Lib.hid HC.out.2.1
    have HX3 := Lib.hid (blk_below HX3.out HC.out.2.2)
    have HR3 := Lib.hid (HR3.out.below HC.out.2.2)
    have HP24 := Lib.hid (HP23.out.all _ HC.out.2.2)
    have HP23 := Lib.hid (fun w0 (h : Below w4.heap.size w4 w0) => (HP23.out.all w0 (below_step HC.out.2.2 h)).1)
    have HBW := Lib.hid (below_step HBW.out HC.out.2.2)
    clear HC
    go_upto_region 5 with fail
    try dsimp only [Act.put]
    go_cut [7, 8] (fun s5 s6 wx => ∃ (g : Nat) (A9 : Option Addr) (n9 c9 : Nat), s5 = .pointer (some ⟨g, 0, none⟩) ∧ s6 = .int .i64 (subN k3 (b.take 10)) ∧ Hid (wx.heap[g]? = some (.cells (cliV (subK k3 (b.take 10)) A9 n9 c9) 27 (0, 0)) ∧ RS updK wx A9 n9 c9 (subK k3 (b.take 10)).t ∧ Below w4.heap.size w4 wx))
    case first =>
      have HBD := Lib.hid (below_drew1 w4)
      have HS33 : Hid (shortK k3 = k3) := Lib.hid (by rw [← HK3.out]; simp [shortK, List.take_take])
      have HMN3 : Hid (min n3 10 = n3) := Lib.hid (by have := HN3.out; omega)
      refine wp_region_fork ((fun w0 => Below w4.heap.size w4 w0)) (OrdT.fork [0, 2] 1 8 (OrdT.fork [] 3 8 (OrdT.fork [] 4 8 (OrdT.lin [5, 6, 7, 8, 9, 10]) (OrdT.lin [4, 5, 6, 7, 9, 10])) (OrdT.lin [3, 4, 5, 6, 7, 9, 10])) (OrdT.lin [1, 3, 4, 5, 6, 7, 9, 10])) [(0, 0), (1, 2), (2, 0), (3, 2), (4, 2), (5, 0), (6, 0), (7, 0), (8, 2), (9, 2), (10, 0)] (by kernel_rfl) (by kernel_rfl) ((below_drew1 _)) ?_
      simp only [wpF]
      refine wpO_loadW (t := 27) (ad := ⟨w.heap.size, 0, none⟩) rfl rfl ?hw rfl rfl ((fun w0 hS => load_cli (blk_below HX3.out hS))) ?_
      case hw => go_simp
      refine wpO_loadW (t := 25) (ad := ⟨(w.heap.size+1), 0, none⟩) rfl rfl ?hw rfl rfl ((fun w0 hS => HP23.out _ hS)) ?_
      case hw => go_simp
      refine wpO_nil ⟨?_, ?_⟩
      · refine wpO_step2 rfl rfl (HBD.out) (fun K hK => ?_)
        go_simp
        refine (lshort_any k3 A3 n3 c3 _ (HR3.out.below HBD.out) (by have := HN3.out; omega)).mono ?_
        rintro e w21 ⟨Ak, ck, rfl, hO9, hb9⟩
        rw [HS33.out] at hO9 ⊢
        rw [HMN3.out] at hO9 ⊢
        have HBC := Lib.hid (below_step HBD.out hb9)
        have HKP := Lib.hid hO9.reads
        have hszk := hb9.size
        try replace HZ9 := Lib.hid (blk_below HZ9.out hb9)
        clear hO9 hb9
        refine hK _ _ ⟨HBC.out, ?_⟩
        clear hK K
        refine wpO_nil ?_
        refine wpO_nil ⟨?_, ?_⟩
        · refine wpO_step2 rfl rfl (HBC.out) (fun K hK => ?_)
          go_simp
          refine (lbatch_any A2 m c2 b _ (HU.out.below (below_step HBW.out HBC.out)) HM.out).mono ?_
          rintro e w22 ⟨Ac, cc, rfl, hO9, hb9⟩
          rw [HQ.out] at hO9 ⊢
          have HBK := Lib.hid (below_step HBC.out hb9)
          have HCP := Lib.hid hO9.reads
          have hszc := hb9.size
          try replace HZ9 := Lib.hid (blk_below HZ9.out hb9)
          try replace HKP := Lib.hid (HKP.out.below hb9)
          clear hO9 hb9
          refine hK _ _ ⟨HBK.out, ?_⟩
          clear hK K
          refine wpO_nil ?_
          refine wpO_nil ⟨?_, ?_⟩
          · refine wpO_step2 rfl rfl (HBK.out) (fun K hK => ?_)
            go_simp
            refine (refsubmit_any k3 Ak n3 ck Ac q cc (b.take 10) w22 HKP.out OK3.out (by have := HN3.out; omega) HCP.out OKU.out (by have := HQ10.out; omega)).mono ?_
            rintro e w23 ⟨A9, n9, c9, rfl, hO9, hb9⟩
            have HBL := Lib.hid (below_step HBK.out hb9)
            have HLT9 := Lib.hid hO9.lt
            have HBA9 := Lib.hid hO9.base_
            have HO9 : Hid (RS updK w23 A9 n9 c9 (subK k3 (b.take 10)).t) := Lib.hid hO9.reads
            try replace HZ9 := Lib.hid (blk_below HZ9.out hb9)
            have hszc := hb9.size
            clear hO9 hb9
            refine hK _ _ ⟨HBL.out, ?_⟩
            clear hK K
            refine wpO_nil ?_
            iterate 3 (refine wpO_step0 rfl rfl (fun K hK => ?_); go_simp; refine hK _ _ ?_; clear hK K)
            refine wpO_step2 rfl rfl (HBL.out) (fun K hK => ?_)
            go_simp
            have hz9 := blk_new w23 (.cells (cliV ckZ none 0 0) 27)
            obtain ⟨w24, hw9⟩ : ∃ w9, World.alloc w23 (.cells (cliV ckZ none 0 0) 27) = w9 := ⟨_, rfl⟩
            have ha9 : Below (World.heap w23).size w23 w24 := hw9 ▸ below_alloc (Below.refl _ _) _
            have HBM := Lib.hid (below_step HBL.out ha9)
            refine kw_cast hw9 ?_
            rw [hw9] at hz9
            have hzl9 := blk_lt hz9
            have HZ9 := Lib.hid hz9
            try replace HCP := Lib.hid (HCP.out.below ha9)
            try replace HO9 := Lib.hid (HO9.out.below ha9)
            try replace HLV := Lib.hid (HLV.out.below ha9)
            try replace HKP := Lib.hid (HKP.out.below ha9)
            clear hw9 hz9 ha9
            refine hK _ _ ⟨HBM.out, ?_⟩
            clear hK K
            refine wpO_step2 rfl rfl (HBM.out) (fun K hK => ?_)
            rw [if_pos (show Region.wanted _ _ = true from rfl)]
            refine oper_store_blk HZ9.out 27 0 (cliV (subK k3 (b.take 10)) A9 n9 c9) (Nat.le_refl _) (info_cli _ _ _ _) (cli_one _ _ _ _) _ _ rfl rfl rfl ?_
            intro w25 hg9 hs9 hb9
            rw [splice_cli] at hb9
            have HBN := Lib.hid (below_grown HBM.out hg9 (by have h1 := HBC.out.size; have h2 := HBK.out.size; first | omega | (have h3 := HBL.out.size; omega)))
            have HNE9 : Hid (∀ ad, A9 = some ad → ad.block ≠ w23.heap.size) := Lib.hid (fun ad e => by have h1 := HLT9.out ad e; have h2 := HBA9.out ad e; first | omega)
            replace HO9 := Lib.hid (HO9.out.grown hg9 (fun ad e h => by injection h with h; exact HNE9.out ad e h))
            replace HZ9 := Lib.hid hb9
            clear hg9 hs9 hb9
            refine hK _ _ ⟨HBN.out, ?_⟩
            clear hK K
            iterate 1 (refine wpO_step0 rfl rfl (fun K hK => ?_); go_simp; refine hK _ _ ?_; clear hK K)
            refine wpO_nil ?_
            go_wp2_with fail
            go_meet
            exact ⟨w23.heap.size, A9, n9, c9, rfl, rfl, HZ9.out, HO9.out, HBN.out⟩
          · refine wpO_step2 rfl rfl (HBK.out) (fun K hK => ?_)
            go_simp
            have hz9 := blk_new w22 (.cells (cliV ckZ none 0 0) 27)
            obtain ⟨w23, hw9⟩ : ∃ w9, World.alloc w22 (.cells (cliV ckZ none 0 0) 27) = w9 := ⟨_, rfl⟩
            have ha9 : Below (World.heap w22).size w22 w23 := hw9 ▸ below_alloc (Below.refl _ _) _
            have HBL := Lib.hid (below_step HBK.out ha9)
            refine kw_cast hw9 ?_
            rw [hw9] at hz9
            have hzl9 := blk_lt hz9
            have HZ9 := Lib.hid hz9
            try replace HCP := Lib.hid (HCP.out.below ha9)
            try replace HO9 := Lib.hid (HO9.out.below ha9)
            try replace HLV := Lib.hid (HLV.out.below ha9)
            try replace HKP := Lib.hid (HKP.out.below ha9)
            clear hw9 hz9 ha9
            refine hK _ _ ⟨HBL.out, ?_⟩
            clear hK K
            refine wpO_nil ?_
            refine wpO_step2 rfl rfl (HBL.out) (fun K hK => ?_)
            go_simp
            refine (refsubmit_any k3 Ak n3 ck Ac q cc (b.take 10) w23 HKP.out OK3.out (by have := HN3.out; omega) HCP.out OKU.out (by have := HQ10.out; omega)).mono ?_
            rintro e w24 ⟨A9, n9, c9, rfl, hO9, hb9⟩
            have HBM := Lib.hid (below_step HBL.out hb9)
            have HLT9 := Lib.hid hO9.lt
            have HBA9 := Lib.hid hO9.base_
            have HO9 : Hid (RS updK w24 A9 n9 c9 (subK k3 (b.take 10)).t) := Lib.hid hO9.reads
            try replace HZ9 := Lib.hid (blk_below HZ9.out hb9)
            have hszc := hb9.size
            clear hO9 hb9
            refine hK _ _ ⟨HBM.out, ?_⟩
            clear hK K
            iterate 3 (refine wpO_step0 rfl rfl (fun K hK => ?_); go_simp; refine hK _ _ ?_; clear hK K)
            refine wpO_step2 rfl rfl (HBM.out) (fun K hK => ?_)
            rw [if_pos (show Region.wanted _ _ = true from rfl)]
            refine oper_store_blk HZ9.out 27 0 (cliV (subK k3 (b.take 10)) A9 n9 c9) (Nat.le_refl _) (info_cli _ _ _ _) (cli_one _ _ _ _) _ _ rfl rfl rfl ?_
            intro w25 hg9 hs9 hb9
            rw [splice_cli] at hb9
            have HBN := Lib.hid (below_grown HBM.out hg9 (by have h1 := HBC.out.size; have h2 := HBK.out.size; first | omega | (have h3 := HBL.out.size; omega)))
            have HNE9 : Hid (∀ ad, A9 = some ad → ad.block ≠ w22.heap.size) := Lib.hid (fun ad e => by have h1 := HLT9.out ad e; have h2 := HBA9.out ad e; first | omega)
            replace HO9 := Lib.hid (HO9.out.grown hg9 (fun ad e h => by injection h with h; exact HNE9.out ad e h))
            replace HZ9 := Lib.hid hb9
            clear hg9 hs9 hb9
            refine hK _ _ ⟨HBN.out, ?_⟩
            clear hK K
            iterate 1 (refine wpO_step0 rfl rfl (fun K hK => ?_); go_simp; refine hK _ _ ?_; clear hK K)
            refine wpO_nil ?_
            go_wp2_with fail
            go_meet
            exact ⟨w22.heap.size, A9, n9, c9, rfl, rfl, HZ9.out, HO9.out, HBN.out⟩
        · refine wpO_step2 rfl rfl (HBC.out) (fun K hK => ?_)
          go_simp
          have hz9 := blk_new w21 (.cells (cliV ckZ none 0 0) 27)
          obtain ⟨w22, hw9⟩ : ∃ w9, World.alloc w21 (.cells (cliV ckZ none 0 0) 27) = w9 := ⟨_, rfl⟩
          have ha9 : Below (World.heap w21).size w21 w22 := hw9 ▸ below_alloc (Below.refl _ _) _
          have HBK := Lib.hid (below_step HBC.out ha9)
          refine kw_cast hw9 ?_
          rw [hw9] at hz9
          have hzl9 := blk_lt hz9
          have HZ9 := Lib.hid hz9
          try replace HCP := Lib.hid (HCP.out.below ha9)
          try replace HO9 := Lib.hid (HO9.out.below ha9)
          try replace HLV := Lib.hid (HLV.out.below ha9)
          try replace HKP := Lib.hid (HKP.out.below ha9)
          clear hw9 hz9 ha9
          refine hK _ _ ⟨HBK.out, ?_⟩
          clear hK K
          refine wpO_nil ?_
          refine wpO_step2 rfl rfl (HBK.out) (fun K hK => ?_)
          go_simp
          refine (lbatch_any A2 m c2 b _ (HU.out.below (below_step HBW.out HBK.out)) HM.out).mono ?_
          rintro e w23 ⟨Ac, cc, rfl, hO9, hb9⟩
          rw [HQ.out] at hO9 ⊢
          have HBL := Lib.hid (below_step HBK.out hb9)
          have HCP := Lib.hid hO9.reads
          have hszc := hb9.size
          try replace HZ9 := Lib.hid (blk_below HZ9.out hb9)
          try replace HKP := Lib.hid (HKP.out.below hb9)
          clear hO9 hb9
          refine hK _ _ ⟨HBL.out, ?_⟩
          clear hK K
          refine wpO_step2 rfl rfl (HBL.out) (fun K hK => ?_)
          go_simp
          refine (refsubmit_any k3 Ak n3 ck Ac q cc (b.take 10) w23 HKP.out OK3.out (by have := HN3.out; omega) HCP.out OKU.out (by have := HQ10.out; omega)).mono ?_
          rintro e w24 ⟨A9, n9, c9, rfl, hO9, hb9⟩
          have HBM := Lib.hid (below_step HBL.out hb9)
          have HLT9 := Lib.hid hO9.lt
          have HBA9 := Lib.hid hO9.base_
          have HO9 : Hid (RS updK w24 A9 n9 c9 (subK k3 (b.take 10)).t) := Lib.hid hO9.reads
          try replace HZ9 := Lib.hid (blk_below HZ9.out hb9)
          have hszc := hb9.size
          clear hO9 hb9
          refine hK _ _ ⟨HBM.out, ?_⟩
          clear hK K
          iterate 3 (refine wpO_step0 rfl rfl (fun K hK => ?_); go_simp; refine hK _ _ ?_; clear hK K)
          refine wpO_step2 rfl rfl (HBM.out) (fun K hK => ?_)
          rw [if_pos (show Region.wanted _ _ = true from rfl)]
          refine oper_store_blk HZ9.out 27 0 (cliV (subK k3 (b.take 10)) A9 n9 c9) (Nat.le_refl _) (info_cli _ _ _ _) (cli_one _ _ _ _) _ _ rfl rfl rfl ?_
          intro w25 hg9 hs9 hb9
          rw [splice_cli] at hb9
          have HBN := Lib.hid (below_grown HBM.out hg9 (by have h1 := HBC.out.size; have h2 := HBK.out.size; first | omega | (have h3 := HBL.out.size; omega)))
          have HNE9 : Hid (∀ ad, A9 = some ad → ad.block ≠ w21.heap.size) := Lib.hid (fun ad e => by have h1 := HLT9.out ad e; have h2 := HBA9.out ad e; first | omega)
          replace HO9 := Lib.hid (HO9.out.grown hg9 (fun ad e h => by injection h with h; exact HNE9.out ad e h))
          replace HZ9 := Lib.hid hb9
          clear hg9 hs9 hb9
          refine hK _ _ ⟨HBN.out, ?_⟩
          clear hK K
          iterate 1 (refine wpO_step0 rfl rfl (fun K hK => ?_); go_simp; refine hK _ _ ?_; clear hK K)
          refine wpO_nil ?_
          go_wp2_with fail
          go_meet
          exact ⟨w21.heap.size, A9, n9, c9, rfl, rfl, HZ9.out, HO9.out, HBN.out⟩
      · refine wpO_step2 rfl rfl (HBD.out) (fun K hK => ?_)
        go_simp
        have hz9 := blk_new w4 (.cells (cliV ckZ none 0 0) 27)
        obtain ⟨w21, hw9⟩ : ∃ w9, (World.alloc w4 (.cells (cliV ckZ none 0 0) 27)).drew = w9 := ⟨_, rfl⟩
        have ha9 : Below (World.heap w4).size w4 w21 := hw9 ▸ below_step (below_alloc (Below.refl _ _) _) (below_drew1 _)
        have HBC := Lib.hid ha9
        refine kw_cast hw9 ?_
        replace hz9 : (World.heap w21)[(World.heap w4).size]? = some (.cells (cliV ckZ none 0 0) 27 (0, 0)) := by rw [← hw9]; exact hz9
        have hzl9 := blk_lt hz9
        have HZ9 := Lib.hid hz9
        clear hw9 hz9 ha9
        refine hK _ _ ⟨HBC.out, ?_⟩
        clear hK K
        refine wpO_nil ?_
        refine wpO_step2 rfl rfl (HBC.out) (fun K hK => ?_)
        go_simp
        refine (lshort_any k3 A3 n3 c3 _ (HR3.out.below HBC.out) (by have := HN3.out; omega)).mono ?_
        rintro e w22 ⟨Ak, ck, rfl, hO9, hb9⟩
        rw [HS33.out] at hO9 ⊢
        rw [HMN3.out] at hO9 ⊢
        have HBK := Lib.hid (below_step HBC.out hb9)
        have HKP := Lib.hid hO9.reads
        have hszk := hb9.size
        try replace HZ9 := Lib.hid (blk_below HZ9.out hb9)
        clear hO9 hb9
        refine hK _ _ ⟨HBK.out, ?_⟩
        clear hK K
        refine wpO_step2 rfl rfl (HBK.out) (fun K hK => ?_)
        go_simp
        refine (lbatch_any A2 m c2 b _ (HU.out.below (below_step HBW.out HBK.out)) HM.out).mono ?_
        rintro e w23 ⟨Ac, cc, rfl, hO9, hb9⟩
        rw [HQ.out] at hO9 ⊢
        have HBL := Lib.hid (below_step HBK.out hb9)
        have HCP := Lib.hid hO9.reads
        have hszc := hb9.size
        try replace HZ9 := Lib.hid (blk_below HZ9.out hb9)
        try replace HKP := Lib.hid (HKP.out.below hb9)
        clear hO9 hb9
        refine hK _ _ ⟨HBL.out, ?_⟩
        clear hK K
        refine wpO_step2 rfl rfl (HBL.out) (fun K hK => ?_)
        go_simp
        refine (refsubmit_any k3 Ak n3 ck Ac q cc (b.take 10) w23 HKP.out OK3.out (by have := HN3.out; omega) HCP.out OKU.out (by have := HQ10.out; omega)).mono ?_
        rintro e w24 ⟨A9, n9, c9, rfl, hO9, hb9⟩
        have HBM := Lib.hid (below_step HBL.out hb9)
        have HLT9 := Lib.hid hO9.lt
        have HBA9 := Lib.hid hO9.base_
        have HO9 : Hid (RS updK w24 A9 n9 c9 (subK k3 (b.take 10)).t) := Lib.hid hO9.reads
        try replace HZ9 := Lib.hid (blk_below HZ9.out hb9)
        have hszc := hb9.size
        clear hO9 hb9
        refine hK _ _ ⟨HBM.out, ?_⟩
        clear hK K
        iterate 3 (refine wpO_step0 rfl rfl (fun K hK => ?_); go_simp; refine hK _ _ ?_; clear hK K)
        refine wpO_step2 rfl rfl (HBM.out) (fun K hK => ?_)
        rw [if_pos (show Region.wanted _ _ = true from rfl)]
        refine oper_store_blk HZ9.out 27 0 (cliV (subK k3 (b.take 10)) A9 n9 c9) (Nat.le_refl _) (info_cli _ _ _ _) (cli_one _ _ _ _) _ _ rfl rfl rfl ?_
        intro w25 hg9 hs9 hb9
        rw [splice_cli] at hb9
        have HBN := Lib.hid (below_grown HBM.out hg9 (by have h1 := HBC.out.size; have h2 := HBK.out.size; first | omega | (have h3 := HBL.out.size; omega)))
        have HNE9 : Hid (∀ ad, A9 = some ad → ad.block ≠ w4.heap.size) := Lib.hid (fun ad e => by have h1 := HLT9.out ad e; have h2 := HBA9.out ad e; first | omega)
        replace HO9 := Lib.hid (HO9.out.grown hg9 (fun ad e h => by injection h with h; exact HNE9.out ad e h))
        replace HZ9 := Lib.hid hb9
        clear hg9 hs9 hb9
        refine hK _ _ ⟨HBN.out, ?_⟩
        clear hK K
        iterate 1 (refine wpO_step0 rfl rfl (fun K hK => ?_); go_simp; refine hK _ _ ?_; clear hK K)
        refine wpO_nil ?_
        go_wp2_with fail
        go_meet
        exact ⟨w4.heap.size, A9, n9, c9, rfl, rfl, HZ9.out, HO9.out, HBN.out⟩
    case rest =>
      obtain ⟨g5, A5, n5, c5, rfl, rfl, HC⟩ := hcut
      obtain ⟨w5, rfl⟩ : ∃ w9, w9 = wc := ⟨wc, rfl⟩
      have HX5 := Lib.hid HC.out.1
      have HR5 := Lib.hid HC.out.2.1
      have HX4 := Lib.hid (blk_below HX4.out HC.out.2.2)
      have HR4 := Lib.hid (HR4.out.below HC.out.2.2)
      have HBW := Lib.hid (below_step HBW.out HC.out.2.2)
      clear HC
      obtain ⟨k5, hk5⟩ : ∃ k5, subK k3 (b.take 10) = k5 := ⟨_, rfl⟩
      have HOK5 : Hid (Oku k5.t ∧ k5.t.length ≤ 10) := Lib.hid (hk5 ▸ subK_small OKU.out (by simp; omega))
      rw [hk5] at HX5 HR5 HX4 HR4
      have hn4 : n4 ≤ 10 := by rw [← HR4.out.len]; exact HOK5.out.2
      have hn5 : n5 ≤ 10 := by rw [← HR5.out.len]; exact HOK5.out.2
      clear hk5
      go_wp2_with (first | ((with_reducible show wpList _ _ _ (Oper.mk _ (Op.load _ _) _ _ _ _ :: _) _ _); refine wpList_load_g (load_cli HX5.out) _ rfl rfl (by go_simp) ?_) | ((with_reducible show wpList _ _ _ (Oper.mk _ (Op.load _ _) _ _ _ _ :: _) _ _); refine wpList_load_g (load_cli HX4.out) _ rfl rfl (by go_simp) ?_))
      refine (refsame20_any k5 A4 n4 c4 k5 A5 n5 c5 w5 HR4.out HR5.out HOK5.out.1 HOK5.out.1 (by omega) (by omega)).mono ?_
      rw [cliB_self]
      rintro e w6 ⟨rfl, hb6⟩
      have HB6 := Lib.hid (below_step HBW.out hb6)
      clear hb6
      go_wp2
      go_ret
      exact ⟨rfl, HB6.out⟩
end Go.Proofs.YtifejiclenpfoaaDoor

/- The walk of ClientSubmits, as the row asks it. -/
namespace Go.Proofs.YtifejiclenpfoaaDoor
open Go.RowKit
set_option linter.unusedVariables false
set_option linter.unusedSimpArgs false
set_option maxRecDepth 4000
theorem clientSubmits_walk (k : Ck) (A : Option Addr) (n c : Nat) (A2 : Option Addr) (m c2 : Nat) (b : List Upd) (w : World) (hL : Laid w) (h0 : CliIn w k A n c) (hu : RS updK w A2 m c2 b) (oku : ∀ a ∈ b, a.ok) (h1 : m * 64 ≤ 140737488351232) : Calls Tryd.prog 4 #[.agg (cliV k A n c), .agg (tabV A2 m c2)] w fun e w' => e = .returned (.bool true) ∧ Below w.heap.size w w' :=
  submits20_any k A n c A2 m c2 b w hL h0.rs h0.ok (by have := h0.small; omega) hu oku (by omega)
end Go.Proofs.YtifejiclenpfoaaDoor
