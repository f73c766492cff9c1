/- Layer 20 (client): Hear. -/
import Derived.Test.YtifejiclenpfoaaDoorClientStaysB
namespace Go.Proofs.YtifejiclenpfoaaDoor
open Go.RowKit
set_option linter.unusedVariables false
set_option linter.unusedSimpArgs false
set_option maxRecDepth 4000
def hdV (h : Hd) (A : Option Addr) (n c : Nat) : Array Value := #[.bool h.done, .int .i64 h.err, .int .u32 h.seq, .slice A n c, .int .u64 h.index]
theorem info_hd (h : Hd) (A : Option Addr) (n c : Nat) : (Tryd.prog.info? 61).map (·.size) = some (hdV h A n c).size := by show _ = some 5; kernel_rfl
theorem hd_one (h : Hd) (A : Option Addr) (n c : Nat) : (hdV h A n c).all (·.oneCell') = true := by simp [hdV, Value.oneCell']
theorem splice_hd (k : Hd) (A : Option Addr) (n c : Nat) (k2 : Hd) (A2 : Option Addr) (n2 c2 : Nat) : splice (hdV k A n c) 0 (hdV k2 A2 n2 c2).toList = hdV k2 A2 n2 c2 := splice_all _ _ rfl
theorem run_build_hd_nil (w : World) : (Instr.build 61 #[]).run Tryd.prog w = .ok (.agg (hdV hdZ none 0 0)) w := run_build w _ _ _ (by kernel_rfl)
theorem run_build_hd (w : World) (err seq : Int) (t : List Upd) (A : Option Addr) (n c : Nat) : (Instr.build 61 #[(0, .bool true), (1, .int .i64 err), (2, .int .u32 seq), (3, .agg (tabV A n c))]).run Tryd.prog w = .ok (.agg (hdV ⟨true, err, seq, 0, t⟩ A n c)) w := run_build w _ _ _ (by kernel_rfl)
theorem load_hd {w : World} {g : Nat} {k : Hd} {A : Option Addr} {n c : Nat} (h : w.heap[g]? = some (.cells (hdV k A n c) 61 (0, 0))) : (Instr.loadAt 61 (.pointer (some ⟨g, 0, none⟩))).run Tryd.prog w = .ok (.agg (hdV k A n c)) w := load_cells (cs := hdV k A n c) (cells_blk h) Tryd.underlying61 rfl (info_hd _ _ _ _)
theorem results_ccs {P : Program} {w : World} {fn : Func} {p q u : Tmp} {ty ty2 : TypeId} {ad ad2 : Addr} {v v2 : Value} {tmps : Array Value} (h : fn.results = #[.cell p ty, .cell q ty2, .tmp u]) (hp : tmps.getD p undef = .pointer (some ad)) (hl : (Instr.loadAt ty (.pointer (some ad))).run P w = .ok v w) (hq : tmps.getD q undef = .pointer (some ad2)) (hl2 : (Instr.loadAt ty2 (.pointer (some ad2))).run P w = .ok v2 w) :
    (results fn tmps).run P w = .ok (.tuple #[v, v2, tmps.getD u undef]) w := by
  have hp' : tmps[p]?.getD undef = .pointer (some ad) := by simpa using hp
  have hq' : tmps[q]?.getD undef = .pointer (some ad2) := by simpa using hq
  simp [results, h, hp', hq', asAddr, loadVar_of hl, loadVar_of hl2]
set_option maxHeartbeats 8000000 in
set_option maxRecDepth 100000 in
theorem chear_any (k : Ck) (A : Option Addr) (n c : Nat) (m : Mg) (w : World) (hL : Laid w) (hr : RS updK w A n c k.t) (ok : k.ok) (hn : n ≤ 100000) (hm : m.fits) :
    Calls Tryd.prog 27 #[.agg (cliV k A n c), .agg (msgV m)] w fun e w' => ∃ A1 n1 c1 A2 n2 c2, e = .returned (.tuple #[.agg (cliV (hearK k (hearB k m.kind m.tgt m.seq m.err)) A1 n1 c1), .agg (hdV (hearH k (hearB k m.kind m.tgt m.seq m.err) m.err m.index) A2 n2 c2), .int .i64 (ckE k)]) ∧
      OS updK w' w.heap.size A1 n1 c1 (hearK k (hearB k m.kind m.tgt m.seq m.err)).t ∧ OS updK w' w.heap.size A2 n2 c2 (hearH k (hearB k m.kind m.tgt m.seq m.err) m.err m.index).t ∧ Below w.heap.size w w' := by
  have hblk1 := blk_new w (.cells (cliV k A n c) 27)
  have hbel1 : Below w.heap.size w (w.alloc (.cells (cliV k A n c) 27)) := below_alloc (Below.refl _ _) _
  have hblk2 := blk_new (w.alloc (.cells (cliV k A n c) 27)) (.cells (msgV m) 45)
  have hbel2 : Below w.heap.size w ((w.alloc (.cells (cliV k A n c) 27)).alloc (.cells (msgV m) 45)) := below_alloc (hbel1) _
  rw [show (w.alloc (.cells (cliV k A n c) 27)).heap.size = w.heap.size + 1 by simp] at hblk2
  replace hblk1 := blk_below hblk1 (below_alloc (Below.refl _ _) (.cells (msgV m) 45))
  have HP1 := Lib.hid (cli_at hblk1)
  have HBK1 := Lib.hid hblk1
  have HP2 := Lib.hid (msg_at hm hblk2)
  have HBK2 := Lib.hid hblk2
  have HBE := Lib.hid hbel2
  have HL := Lib.hid (hL.below HBE.out)
  obtain ⟨cs1, hcs1⟩ : ∃ cs, cliV k A n c = cs := ⟨_, rfl⟩
  obtain ⟨cs2, hcs2⟩ : ∃ cs, msgV m = cs := ⟨_, rfl⟩
  simp only [hcs1, hcs2] at HBE HL HP1 HP2 HBK1 HBK2 ⊢
  have HC1 := Lib.hid hcs1
  have HC2 := Lib.hid hcs2
  clear hL hcs1 hblk1 hbel1 hcs2 hblk2 hbel2
  have hs0 : ((w.alloc (.cells cs1 27)).alloc (.cells cs2 45)).heap.size = w.heap.size + 2 := by simp
  obtain ⟨W0, hW0⟩ : ∃ W0, ((w.alloc (.cells cs1 27)).alloc (.cells cs2 45)).alloc (.cells #[.int .i64 0, .int .u32 0, .slice none 0 0, .bool false] 27) = W0 := ⟨_, rfl⟩
  have hs1 : W0.heap.size = w.heap.size + 3 := by rw [← hW0]; simp
  obtain ⟨W1, hW1⟩ : ∃ W1, W0.alloc (.cells #[.bool false, .int .i64 0, .int .u32 0, .slice none 0 0, .int .u64 0] 61) = W1 := ⟨_, rfl⟩
  have HBR : Hid (Below ((w.alloc (.cells cs1 27)).alloc (.cells cs2 45)).heap.size ((w.alloc (.cells cs1 27)).alloc (.cells cs2 45)) W1) := Lib.hid (hW1 ▸ below_alloc (hW0 ▸ below_alloc (Below.refl _ _) _) _)
  have HB1 : Hid (Below w.heap.size w W1) := Lib.hid (below_step HBE.out HBR.out)
  have HX1 : Hid (W1.heap[w.heap.size]? = some (.cells (cliV k A n c) 27 (0, 0))) := Lib.hid ((blk_below HBK1.out HBR.out).trans (by rw [HC1.out]))
  have HZ1 : Hid (W1.heap[w.heap.size + 2]? = some (.cells (cliV ckZ none 0 0) 27 (0, 0))) := Lib.hid (by rw [← hW1, ← hs0]; refine blk_below ?_ (below_alloc (Below.refl _ _) _); rw [← hW0]; exact blk_new _ _)
  have HH1 : Hid (W1.heap[W0.heap.size]? = some (.cells (hdV hdZ none 0 0) 61 (0, 0))) := Lib.hid (by rw [← hW1]; exact blk_new _ _)
  have HW0 := Lib.hid hs1
  have HM1 := Lib.hid (msg_ld hm (show W1.heap[w.heap.size + 1]? = some (.cells (msgV m) 45 (0, 0)) from (blk_below HBK2.out HBR.out).trans (by rw [HC2.out])))
  have HS1 : Hid (w.heap.size + 4 ≤ W1.heap.size) := Lib.hid (by rw [← hW1]; simp; omega)
  have HR := Lib.hid (hr.below HB1.out)
  have OK := Lib.hid ok
  have HMF := Lib.hid hm
  have hnw := wf_i64 ok.num
  have HHB : Hid (hearB k m.kind m.tgt m.seq m.err = (decide (m.kind = 7) && decide (m.tgt = 2 + k.num) && decide (m.seq = k.seq) && k.away && !decide (m.err = 270))) := Lib.hid rfl
  clear hr ok hm hs0 hs1
  go_enter Tryd.func27, Tryd.ntmps27
  go_wp2_with (first | ((with_reducible show wpList _ _ _ (Oper.mk _ (Op.load _ _) _ _ _ _ :: _) _ _); refine wpList_load_g (((cli_at HX1.out).all _ (Below.refl _ _)).all) _ rfl rfl (by go_simp) ?_))
  clear hW1 hW0
  refine (ccheck20_any k A n c W1 (HL.out.below HBR.out) HR.out OK.out.t hn).mono ?_
  rintro e w2 ⟨rfl, hb2⟩
  have HB2 := Lib.hid (below_step HB1.out hb2)
  have HX2 := Lib.hid (blk_below HX1.out hb2)
  have HZ2 := Lib.hid (blk_below HZ1.out hb2)
  have HH2 := Lib.hid (blk_below HH1.out hb2)
  have HR2 := Lib.hid (HR.out.below hb2)
  have HS2 : Hid (w.heap.size + 4 ≤ w2.heap.size) := Lib.hid (Nat.le_trans HS1.out hb2.size)
  have HY2 := Lib.hid (blk_below ((blk_below HBK2.out HBR.out).trans (by rw [HC2.out] : some (Obj.cells cs2 _ (0, 0)) = some (.cells (msgV m) 45 (0, 0)))) hb2)
  clear hb2 HX1 HZ1 HH1 HR HM1 HS1
  cases hc : ckB k with
  | false =>
    have HK : Hid (∀ b, hearK k b = ckZ) := Lib.hid (fun b => by unfold hearK; rw [hc]; rfl)
    have HD : Hid (∀ b e i, hearH k b e i = hdZ) := Lib.hid (fun b e i => by unfold hearH; rw [hc]; rfl)
    have HE : Hid (ckE k = 300) := Lib.hid (by unfold ckE; rw [hc]; rfl)
    rw [HE.out]
    clear hc
    go_wp2_with (first | ((with_reducible show wpList _ _ _ (Oper.mk _ (Op.build _ _) _ _ _ _ :: _) _ _); refine wpList_exw rfl (exec_build 27 #[] rfl #[] rfl ((run_build_cli_nil _))) ?_) | ((with_reducible show wpList _ _ _ (Oper.mk _ (Op.build _ _) _ _ _ _ :: _) _ _); refine wpList_exw rfl (exec_build 61 #[] rfl #[] rfl ((run_build_hd_nil _))) ?_) | ((with_reducible show wpList _ _ _ (Oper.mk _ (Op.store _ _ _) _ _ _ _ :: _) _ _); refine wpList_store_blk HZ2.out 27 0 (cliV ckZ none 0 0) (Nat.le_refl _) (info_cli _ _ _ _) (cli_one _ _ _ _) _ _ rfl rfl rfl rfl ?_; intro w8 hg9 hs9 hb9; rw [splice_cli] at hb9; have H8 := Lib.hid (And.intro hg9 hb9); clear hg9 hs9 hb9) | ((with_reducible show wpList _ _ _ (Oper.mk _ (Op.store _ _ _) _ _ _ _ :: _) _ _); refine wpList_store_blk (blk_grown HH2.out H8.out.1 (fun e => by injection e with e; have := HW0.out; omega)) 61 0 (hdV hdZ none 0 0) (Nat.le_refl _) (info_hd _ _ _ _) (hd_one _ _ _ _) _ _ rfl rfl rfl rfl ?_; intro w9 hg9 hs9 hb9; rw [splice_hd] at hb9; have H9 := Lib.hid (And.intro hg9 hb9); clear hg9 hs9 hb9))
    refine bodyPost_ret (results_ccs rfl rfl (load_cli (blk_grown H8.out.2 H9.out.1 (fun e => by injection e with e; have := HW0.out; omega))) rfl (load_hd H9.out.2)) rfl ?_
    rw [HK.out, HD.out, HE.out]
    exact ⟨none, 0, 0, none, 0, 0, rfl, OS.nil _ _ _, OS.nil _ _ _, below_grown (below_grown HB2.out H8.out.1 (by omega)) H9.out.1 (by have := HW0.out; omega)⟩
  | true =>
    have HE : Hid (ckE k = 0) := Lib.hid (by unfold ckE; rw [hc]; rfl)
    have hk2 : 1 ≤ k.num ∧ k.num ≤ 2 := by
      unfold ckB at hc
      simp only [Bool.and_eq_true, decide_eq_true_eq] at hc
      exact hc.1
    have hwn : IntKind.i64.wrap (2 + k.num) = 2 + k.num := IntWalk.i64_in _ (by omega)
    have HCB := Lib.hid hc
    rw [HE.out]
    clear hc
    go_wp2_with (first | ((with_reducible show wpList _ _ _ (Oper.mk _ (Op.load _ _) _ _ _ _ :: _) _ _); refine wpList_load_g (((cli_at HX2.out).all _ (Below.refl _ _)).bat) _ rfl rfl (by go_simp) ?_))
    refine (ccopied_any A n c k.t w2 HR2.out (by omega)).mono ?_
    rintro e w3 ⟨A3, c3, rfl, hO3, hb3⟩
    have HB3 := Lib.hid (below_step HB2.out hb3)
    have HX3 := Lib.hid (blk_below HX2.out hb3)
    have HZ3 := Lib.hid (blk_below HZ2.out hb3)
    have HH3 := Lib.hid (blk_below HH2.out hb3)
    have HY3 := Lib.hid (blk_below HY2.out hb3)
    have HO3 := Lib.hid hO3
    clear hO3 hb3 HX2 HZ2 HH2 HR2 HY2 HB2
    go_upto_region 5 with (first | ((with_reducible show wpList _ _ _ (Oper.mk _ (Op.store _ _ _) _ _ _ _ :: _) _ _); refine wpList_store_blk HX3.out 25 2 (tabV A3 n c3) (by show 2 + 1 ≤ 4; omega) (info_bat _ _ _) (tab_one _ _ _) _ _ rfl rfl rfl rfl ?_; intro w4 hg9 hs9 hb9; have H4 := Lib.hid (And.intro hg9 (show (World.heap w4)[w.heap.size]? = some (.cells (cliV k A3 n c3) 27 (0, 0)) from hb9)); clear hg9 hs9 hb9))
    try dsimp only [Act.put]
    have HX4 := Lib.hid H4.out.2
    have HC4 := Lib.hid ((cli_at HX4.out).all _ (Below.refl _ _))
    have HAW := Lib.hid HC4.out.away
    have HB4 := Lib.hid (below_grown HB3.out H4.out.1 (Nat.le_refl _))
    have HZ4 := Lib.hid (blk_grown HZ3.out H4.out.1 (fun e => by injection e with e; omega))
    have HH4 := Lib.hid (blk_grown HH3.out H4.out.1 (fun e => by injection e with e; have := HW0.out; omega))
    have HY4 := Lib.hid (blk_grown HY3.out H4.out.1 (fun e => by injection e with e; omega))
    have HM4 := Lib.hid (msg_ld HMF.out HY4.out)
    have HO4 : Hid (OS updK w4 (w.heap.size + 4) A3 n c3 k.t) := Lib.hid ((HO3.out.grown H4.out.1 (fun ad e h => by have := HO3.out.base_ ad e; have := HS2.out; injection h with h; omega)).lower HS2.out)
    clear H4 HX3 HZ3 HH3 HY3 HO3 HB3
    cases h1 : (m.kind != 7) with
    | true =>
      have HN : Hid (hearB k m.kind m.tgt m.seq m.err = false) := Lib.hid (by rw [HHB.out, decide_eq_false (show ¬ m.kind = 7 by simpa using h1)]; rfl)
      have HK : Hid (hearK k false = k) := Lib.hid (by unfold hearK; rw [HCB.out]; rfl)
      have HD : Hid (∀ e i, hearH k false e i = hdZ) := Lib.hid (fun e i => by unfold hearH; rw [Bool.and_false]; rfl)
      go_wp2_with (first | ((with_reducible show wpList _ _ _ (Oper.mk _ (Op.load _ _) _ _ _ _ :: _) _ _); refine wpList_load_g (HM4.out.kind) _ rfl rfl (by go_simp) ?_) | ((with_reducible show wpList _ _ _ (Oper.mk _ (Op.load _ _) _ _ _ _ :: _) _ _); refine wpList_load_g (HM4.out.tgt) _ rfl rfl (by go_simp) ?_) | ((with_reducible show wpList _ _ _ (Oper.mk _ (Op.load _ _) _ _ _ _ :: _) _ _); refine wpList_load_g (HM4.out.seq) _ rfl rfl (by go_simp) ?_) | ((with_reducible show wpList _ _ _ (Oper.mk _ (Op.load _ _) _ _ _ _ :: _) _ _); refine wpList_load_g (HM4.out.err) _ rfl rfl (by go_simp) ?_) | ((with_reducible show wpList _ _ _ (Oper.mk _ (Op.load _ _) _ _ _ _ :: _) _ _); refine wpList_load_g (HC4.out.num) _ rfl rfl (by go_simp) ?_) | ((with_reducible show wpList _ _ _ (Oper.mk _ (Op.load _ _) _ _ _ _ :: _) _ _); refine wpList_load_g (HC4.out.seq) _ rfl rfl (by go_simp) ?_) | ((with_reducible show wpList _ _ _ (Oper.mk _ (Op.load _ _) _ _ _ _ :: _) _ _); refine wpList_load_g (HAW.out) _ rfl rfl (by go_simp) ?_) | ((with_reducible show wpList _ _ _ (Oper.mk _ (Op.load _ _) _ _ _ _ :: _) _ _); refine wpList_load_g (HC4.out.all) _ rfl rfl (by go_simp) ?_) | ((with_reducible show wpList _ _ _ (Oper.mk _ (Op.build _ _) _ _ _ _ :: _) _ _); refine wpList_exw rfl (exec_build 61 #[] rfl #[] rfl ((run_build_hd_nil _))) ?_) | ((with_reducible show wpList _ _ _ (Oper.mk _ (Op.store _ _ _) _ _ _ _ :: _) _ _); refine wpList_store_blk HZ4.out 27 0 (cliV k A3 n c3) (Nat.le_refl _) (info_cli _ _ _ _) (cli_one _ _ _ _) _ _ rfl rfl rfl rfl ?_; intro w8 hg9 hs9 hb9; rw [splice_cli] at hb9; have H8 := Lib.hid (And.intro hg9 hb9); clear hg9 hs9 hb9) | ((with_reducible show wpList _ _ _ (Oper.mk _ (Op.store _ _ _) _ _ _ _ :: _) _ _); refine wpList_store_blk (blk_grown HH4.out H8.out.1 (fun e => by injection e with e; have := HW0.out; omega)) 61 0 (hdV hdZ none 0 0) (Nat.le_refl _) (info_hd _ _ _ _) (hd_one _ _ _ _) _ _ rfl rfl rfl rfl ?_; intro w9 hg9 hs9 hb9; rw [splice_hd] at hb9; have H9 := Lib.hid (And.intro hg9 hb9); clear hg9 hs9 hb9))
      refine bodyPost_ret (results_ccs rfl rfl (load_cli (blk_grown H8.out.2 H9.out.1 (fun e => by injection e with e; have := HW0.out; omega))) rfl (load_hd H9.out.2)) rfl ?_
      rw [HN.out, HK.out, HD.out, HE.out]
      exact ⟨A3, n, c3, none, 0, 0, rfl, ((HO4.out.grown H8.out.1 (fun ad e h => by have := HO4.out.base_ ad e; injection h with h; omega)).grown H9.out.1 (fun ad e h => by have := HO4.out.base_ ad e; have := HW0.out; injection h with h; omega)).lower (by omega), OS.nil _ _ _, below_grown (below_grown HB4.out H8.out.1 (by omega)) H9.out.1 (by have := HW0.out; omega)⟩
    | false =>
      cases h2 : (m.tgt != 2 + k.num) with
      | true =>
        have HN : Hid (hearB k m.kind m.tgt m.seq m.err = false) := Lib.hid (by rw [HHB.out, decide_eq_false (show ¬ m.tgt = 2 + k.num by simpa using h2)]; simp)
        have HK : Hid (hearK k false = k) := Lib.hid (by unfold hearK; rw [HCB.out]; rfl)
        have HD : Hid (∀ e i, hearH k false e i = hdZ) := Lib.hid (fun e i => by unfold hearH; rw [Bool.and_false]; rfl)
        go_wp2_with (first | ((with_reducible show wpList _ _ _ (Oper.mk _ (Op.load _ _) _ _ _ _ :: _) _ _); refine wpList_load_g (HM4.out.kind) _ rfl rfl (by go_simp) ?_) | ((with_reducible show wpList _ _ _ (Oper.mk _ (Op.load _ _) _ _ _ _ :: _) _ _); refine wpList_load_g (HM4.out.tgt) _ rfl rfl (by go_simp) ?_) | ((with_reducible show wpList _ _ _ (Oper.mk _ (Op.load _ _) _ _ _ _ :: _) _ _); refine wpList_load_g (HM4.out.seq) _ rfl rfl (by go_simp) ?_) | ((with_reducible show wpList _ _ _ (Oper.mk _ (Op.load _ _) _ _ _ _ :: _) _ _); refine wpList_load_g (HM4.out.err) _ rfl rfl (by go_simp) ?_) | ((with_reducible show wpList _ _ _ (Oper.mk _ (Op.load _ _) _ _ _ _ :: _) _ _); refine wpList_load_g (HC4.out.num) _ rfl rfl (by go_simp) ?_) | ((with_reducible show wpList _ _ _ (Oper.mk _ (Op.load _ _) _ _ _ _ :: _) _ _); refine wpList_load_g (HC4.out.seq) _ rfl rfl (by go_simp) ?_) | ((with_reducible show wpList _ _ _ (Oper.mk _ (Op.load _ _) _ _ _ _ :: _) _ _); refine wpList_load_g (HAW.out) _ rfl rfl (by go_simp) ?_) | ((with_reducible show wpList _ _ _ (Oper.mk _ (Op.load _ _) _ _ _ _ :: _) _ _); refine wpList_load_g (HC4.out.all) _ rfl rfl (by go_simp) ?_) | ((with_reducible show wpList _ _ _ (Oper.mk _ (Op.build _ _) _ _ _ _ :: _) _ _); refine wpList_exw rfl (exec_build 61 #[] rfl #[] rfl ((run_build_hd_nil _))) ?_) | ((with_reducible show wpList _ _ _ (Oper.mk _ (Op.store _ _ _) _ _ _ _ :: _) _ _); refine wpList_store_blk HZ4.out 27 0 (cliV k A3 n c3) (Nat.le_refl _) (info_cli _ _ _ _) (cli_one _ _ _ _) _ _ rfl rfl rfl rfl ?_; intro w8 hg9 hs9 hb9; rw [splice_cli] at hb9; have H8 := Lib.hid (And.intro hg9 hb9); clear hg9 hs9 hb9) | ((with_reducible show wpList _ _ _ (Oper.mk _ (Op.store _ _ _) _ _ _ _ :: _) _ _); refine wpList_store_blk (blk_grown HH4.out H8.out.1 (fun e => by injection e with e; have := HW0.out; omega)) 61 0 (hdV hdZ none 0 0) (Nat.le_refl _) (info_hd _ _ _ _) (hd_one _ _ _ _) _ _ rfl rfl rfl rfl ?_; intro w9 hg9 hs9 hb9; rw [splice_hd] at hb9; have H9 := Lib.hid (And.intro hg9 hb9); clear hg9 hs9 hb9))
        refine bodyPost_ret (results_ccs rfl rfl (load_cli (blk_grown H8.out.2 H9.out.1 (fun e => by injection e with e; have := HW0.out; omega))) rfl (load_hd H9.out.2)) rfl ?_
        rw [HN.out, HK.out, HD.out, HE.out]
        exact ⟨A3, n, c3, none, 0, 0, rfl, ((HO4.out.grown H8.out.1 (fun ad e h => by have := HO4.out.base_ ad e; injection h with h; omega)).grown H9.out.1 (fun ad e h => by have := HO4.out.base_ ad e; have := HW0.out; injection h with h; omega)).lower (by omega), OS.nil _ _ _, below_grown (below_grown HB4.out H8.out.1 (by omega)) H9.out.1 (by have := HW0.out; omega)⟩
      | false =>
        cases h3 : (m.seq != k.seq) with
        | true =>
          have HN : Hid (hearB k m.kind m.tgt m.seq m.err = false) := Lib.hid (by rw [HHB.out, decide_eq_false (show ¬ m.seq = k.seq by simpa using h3)]; simp)
          have HK : Hid (hearK k false = k) := Lib.hid (by unfold hearK; rw [HCB.out]; rfl)
          have HD : Hid (∀ e i, hearH k false e i = hdZ) := Lib.hid (fun e i => by unfold hearH; rw [Bool.and_false]; rfl)
          go_wp2_with (first | ((with_reducible show wpList _ _ _ (Oper.mk _ (Op.load _ _) _ _ _ _ :: _) _ _); refine wpList_load_g (HM4.out.kind) _ rfl rfl (by go_simp) ?_) | ((with_reducible show wpList _ _ _ (Oper.mk _ (Op.load _ _) _ _ _ _ :: _) _ _); refine wpList_load_g (HM4.out.tgt) _ rfl rfl (by go_simp) ?_) | ((with_reducible show wpList _ _ _ (Oper.mk _ (Op.load _ _) _ _ _ _ :: _) _ _); refine wpList_load_g (HM4.out.seq) _ rfl rfl (by go_simp) ?_) | ((with_reducible show wpList _ _ _ (Oper.mk _ (Op.load _ _) _ _ _ _ :: _) _ _); refine wpList_load_g (HM4.out.err) _ rfl rfl (by go_simp) ?_) | ((with_reducible show wpList _ _ _ (Oper.mk _ (Op.load _ _) _ _ _ _ :: _) _ _); refine wpList_load_g (HC4.out.num) _ rfl rfl (by go_simp) ?_) | ((with_reducible show wpList _ _ _ (Oper.mk _ (Op.load _ _) _ _ _ _ :: _) _ _); refine wpList_load_g (HC4.out.seq) _ rfl rfl (by go_simp) ?_) | ((with_reducible show wpList _ _ _ (Oper.mk _ (Op.load _ _) _ _ _ _ :: _) _ _); refine wpList_load_g (HAW.out) _ rfl rfl (by go_simp) ?_) | ((with_reducible show wpList _ _ _ (Oper.mk _ (Op.load _ _) _ _ _ _ :: _) _ _); refine wpList_load_g (HC4.out.all) _ rfl rfl (by go_simp) ?_) | ((with_reducible show wpList _ _ _ (Oper.mk _ (Op.build _ _) _ _ _ _ :: _) _ _); refine wpList_exw rfl (exec_build 61 #[] rfl #[] rfl ((run_build_hd_nil _))) ?_) | ((with_reducible show wpList _ _ _ (Oper.mk _ (Op.store _ _ _) _ _ _ _ :: _) _ _); refine wpList_store_blk HZ4.out 27 0 (cliV k A3 n c3) (Nat.le_refl _) (info_cli _ _ _ _) (cli_one _ _ _ _) _ _ rfl rfl rfl rfl ?_; intro w8 hg9 hs9 hb9; rw [splice_cli] at hb9; have H8 := Lib.hid (And.intro hg9 hb9); clear hg9 hs9 hb9) | ((with_reducible show wpList _ _ _ (Oper.mk _ (Op.store _ _ _) _ _ _ _ :: _) _ _); refine wpList_store_blk (blk_grown HH4.out H8.out.1 (fun e => by injection e with e; have := HW0.out; omega)) 61 0 (hdV hdZ none 0 0) (Nat.le_refl _) (info_hd _ _ _ _) (hd_one _ _ _ _) _ _ rfl rfl rfl rfl ?_; intro w9 hg9 hs9 hb9; rw [splice_hd] at hb9; have H9 := Lib.hid (And.intro hg9 hb9); clear hg9 hs9 hb9))
          refine bodyPost_ret (results_ccs rfl rfl (load_cli (blk_grown H8.out.2 H9.out.1 (fun e => by injection e with e; have := HW0.out; omega))) rfl (load_hd H9.out.2)) rfl ?_
          rw [HN.out, HK.out, HD.out, HE.out]
          exact ⟨A3, n, c3, none, 0, 0, rfl, ((HO4.out.grown H8.out.1 (fun ad e h => by have := HO4.out.base_ ad e; injection h with h; omega)).grown H9.out.1 (fun ad e h => by have := HO4.out.base_ ad e; have := HW0.out; injection h with h; omega)).lower (by omega), OS.nil _ _ _, below_grown (below_grown HB4.out H8.out.1 (by omega)) H9.out.1 (by have := HW0.out; omega)⟩
        | false =>
          cases ha : k.away with
          | false =>
            rw [ha] at HAW
            have HN : Hid (hearB k m.kind m.tgt m.seq m.err = false) := Lib.hid (by rw [HHB.out, ha]; simp)
            have HK : Hid (hearK k false = k) := Lib.hid (by unfold hearK; rw [HCB.out]; rfl)
            have HD : Hid (∀ e i, hearH k false e i = hdZ) := Lib.hid (fun e i => by unfold hearH; rw [Bool.and_false]; rfl)
            go_wp2_with (first | ((with_reducible show wpList _ _ _ (Oper.mk _ (Op.load _ _) _ _ _ _ :: _) _ _); refine wpList_load_g (HM4.out.kind) _ rfl rfl (by go_simp) ?_) | ((with_reducible show wpList _ _ _ (Oper.mk _ (Op.load _ _) _ _ _ _ :: _) _ _); refine wpList_load_g (HM4.out.tgt) _ rfl rfl (by go_simp) ?_) | ((with_reducible show wpList _ _ _ (Oper.mk _ (Op.load _ _) _ _ _ _ :: _) _ _); refine wpList_load_g (HM4.out.seq) _ rfl rfl (by go_simp) ?_) | ((with_reducible show wpList _ _ _ (Oper.mk _ (Op.load _ _) _ _ _ _ :: _) _ _); refine wpList_load_g (HM4.out.err) _ rfl rfl (by go_simp) ?_) | ((with_reducible show wpList _ _ _ (Oper.mk _ (Op.load _ _) _ _ _ _ :: _) _ _); refine wpList_load_g (HC4.out.num) _ rfl rfl (by go_simp) ?_) | ((with_reducible show wpList _ _ _ (Oper.mk _ (Op.load _ _) _ _ _ _ :: _) _ _); refine wpList_load_g (HC4.out.seq) _ rfl rfl (by go_simp) ?_) | ((with_reducible show wpList _ _ _ (Oper.mk _ (Op.load _ _) _ _ _ _ :: _) _ _); refine wpList_load_g (HAW.out) _ rfl rfl (by go_simp) ?_) | ((with_reducible show wpList _ _ _ (Oper.mk _ (Op.load _ _) _ _ _ _ :: _) _ _); refine wpList_load_g (HC4.out.all) _ rfl rfl (by go_simp) ?_) | ((with_reducible show wpList _ _ _ (Oper.mk _ (Op.build _ _) _ _ _ _ :: _) _ _); refine wpList_exw rfl (exec_build 61 #[] rfl #[] rfl ((run_build_hd_nil _))) ?_) | ((with_reducible show wpList _ _ _ (Oper.mk _ (Op.store _ _ _) _ _ _ _ :: _) _ _); refine wpList_store_blk HZ4.out 27 0 (cliV k A3 n c3) (Nat.le_refl _) (info_cli _ _ _ _) (cli_one _ _ _ _) _ _ rfl rfl rfl rfl ?_; intro w8 hg9 hs9 hb9; rw [splice_cli] at hb9; have H8 := Lib.hid (And.intro hg9 hb9); clear hg9 hs9 hb9) | ((with_reducible show wpList _ _ _ (Oper.mk _ (Op.store _ _ _) _ _ _ _ :: _) _ _); refine wpList_store_blk (blk_grown HH4.out H8.out.1 (fun e => by injection e with e; have := HW0.out; omega)) 61 0 (hdV hdZ none 0 0) (Nat.le_refl _) (info_hd _ _ _ _) (hd_one _ _ _ _) _ _ rfl rfl rfl rfl ?_; intro w9 hg9 hs9 hb9; rw [splice_hd] at hb9; have H9 := Lib.hid (And.intro hg9 hb9); clear hg9 hs9 hb9))
            refine bodyPost_ret (results_ccs rfl rfl (load_cli (blk_grown H8.out.2 H9.out.1 (fun e => by injection e with e; have := HW0.out; omega))) rfl (load_hd H9.out.2)) rfl ?_
            rw [HN.out, HK.out, HD.out, HE.out]
            exact ⟨A3, n, c3, none, 0, 0, rfl, ((HO4.out.grown H8.out.1 (fun ad e h => by have := HO4.out.base_ ad e; injection h with h; omega)).grown H9.out.1 (fun ad e h => by have := HO4.out.base_ ad e; have := HW0.out; injection h with h; omega)).lower (by omega), OS.nil _ _ _, below_grown (below_grown HB4.out H8.out.1 (by omega)) H9.out.1 (by have := HW0.out; omega)⟩
          | true =>
            rw [ha] at HAW
            cases h4 : (m.err == 270) with
            | true =>
              have HN : Hid (hearB k m.kind m.tgt m.seq m.err = false) := Lib.hid (by rw [HHB.out, decide_eq_true (show m.err = 270 by simpa using h4)]; simp)
              have HK : Hid (hearK k false = k) := Lib.hid (by unfold hearK; rw [HCB.out]; rfl)
              have HD : Hid (∀ e i, hearH k false e i = hdZ) := Lib.hid (fun e i => by unfold hearH; rw [Bool.and_false]; rfl)
              go_wp2_with (first | ((with_reducible show wpList _ _ _ (Oper.mk _ (Op.load _ _) _ _ _ _ :: _) _ _); refine wpList_load_g (HM4.out.kind) _ rfl rfl (by go_simp) ?_) | ((with_reducible show wpList _ _ _ (Oper.mk _ (Op.load _ _) _ _ _ _ :: _) _ _); refine wpList_load_g (HM4.out.tgt) _ rfl rfl (by go_simp) ?_) | ((with_reducible show wpList _ _ _ (Oper.mk _ (Op.load _ _) _ _ _ _ :: _) _ _); refine wpList_load_g (HM4.out.seq) _ rfl rfl (by go_simp) ?_) | ((with_reducible show wpList _ _ _ (Oper.mk _ (Op.load _ _) _ _ _ _ :: _) _ _); refine wpList_load_g (HM4.out.err) _ rfl rfl (by go_simp) ?_) | ((with_reducible show wpList _ _ _ (Oper.mk _ (Op.load _ _) _ _ _ _ :: _) _ _); refine wpList_load_g (HC4.out.num) _ rfl rfl (by go_simp) ?_) | ((with_reducible show wpList _ _ _ (Oper.mk _ (Op.load _ _) _ _ _ _ :: _) _ _); refine wpList_load_g (HC4.out.seq) _ rfl rfl (by go_simp) ?_) | ((with_reducible show wpList _ _ _ (Oper.mk _ (Op.load _ _) _ _ _ _ :: _) _ _); refine wpList_load_g (HAW.out) _ rfl rfl (by go_simp) ?_) | ((with_reducible show wpList _ _ _ (Oper.mk _ (Op.load _ _) _ _ _ _ :: _) _ _); refine wpList_load_g (HC4.out.all) _ rfl rfl (by go_simp) ?_) | ((with_reducible show wpList _ _ _ (Oper.mk _ (Op.build _ _) _ _ _ _ :: _) _ _); refine wpList_exw rfl (exec_build 61 #[] rfl #[] rfl ((run_build_hd_nil _))) ?_) | ((with_reducible show wpList _ _ _ (Oper.mk _ (Op.store _ _ _) _ _ _ _ :: _) _ _); refine wpList_store_blk HZ4.out 27 0 (cliV k A3 n c3) (Nat.le_refl _) (info_cli _ _ _ _) (cli_one _ _ _ _) _ _ rfl rfl rfl rfl ?_; intro w8 hg9 hs9 hb9; rw [splice_cli] at hb9; have H8 := Lib.hid (And.intro hg9 hb9); clear hg9 hs9 hb9) | ((with_reducible show wpList _ _ _ (Oper.mk _ (Op.store _ _ _) _ _ _ _ :: _) _ _); refine wpList_store_blk (blk_grown HH4.out H8.out.1 (fun e => by injection e with e; have := HW0.out; omega)) 61 0 (hdV hdZ none 0 0) (Nat.le_refl _) (info_hd _ _ _ _) (hd_one _ _ _ _) _ _ rfl rfl rfl rfl ?_; intro w9 hg9 hs9 hb9; rw [splice_hd] at hb9; have H9 := Lib.hid (And.intro hg9 hb9); clear hg9 hs9 hb9))
              refine bodyPost_ret (results_ccs rfl rfl (load_cli (blk_grown H8.out.2 H9.out.1 (fun e => by injection e with e; have := HW0.out; omega))) rfl (load_hd H9.out.2)) rfl ?_
              rw [HN.out, HK.out, HD.out, HE.out]
              exact ⟨A3, n, c3, none, 0, 0, rfl, ((HO4.out.grown H8.out.1 (fun ad e h => by have := HO4.out.base_ ad e; injection h with h; omega)).grown H9.out.1 (fun ad e h => by have := HO4.out.base_ ad e; have := HW0.out; injection h with h; omega)).lower (by omega), OS.nil _ _ _, below_grown (below_grown HB4.out H8.out.1 (by omega)) H9.out.1 (by have := HW0.out; omega)⟩
            | false =>
              have HN : Hid (hearB k m.kind m.tgt m.seq m.err = true) := Lib.hid (by rw [HHB.out, decide_eq_true (show m.kind = 7 by simpa using h1), decide_eq_true (show m.tgt = 2 + k.num by simpa using h2), decide_eq_true (show m.seq = k.seq by simpa using h3), ha, decide_eq_false (show ¬ m.err = 270 by simpa using h4)]; rfl)
              have HK : Hid (hearK k true = ⟨k.num, k.seq, false, []⟩) := Lib.hid (by unfold hearK; rw [HCB.out]; rfl)
              have HD : Hid (hearH k true m.err m.index = ⟨true, m.err, k.seq, if m.err = 0 then m.index else 0, k.t⟩) := Lib.hid (by unfold hearH; rw [HCB.out]; rfl)
              clear ha
              go_upto_region 8 with (first | ((with_reducible show wpList _ _ _ (Oper.mk _ (Op.load _ _) _ _ _ _ :: _) _ _); refine wpList_load_g (HM4.out.kind) _ rfl rfl (by go_simp) ?_) | ((with_reducible show wpList _ _ _ (Oper.mk _ (Op.load _ _) _ _ _ _ :: _) _ _); refine wpList_load_g (HM4.out.tgt) _ rfl rfl (by go_simp) ?_) | ((with_reducible show wpList _ _ _ (Oper.mk _ (Op.load _ _) _ _ _ _ :: _) _ _); refine wpList_load_g (HM4.out.seq) _ rfl rfl (by go_simp) ?_) | ((with_reducible show wpList _ _ _ (Oper.mk _ (Op.load _ _) _ _ _ _ :: _) _ _); refine wpList_load_g (HM4.out.err) _ rfl rfl (by go_simp) ?_) | ((with_reducible show wpList _ _ _ (Oper.mk _ (Op.load _ _) _ _ _ _ :: _) _ _); refine wpList_load_g (HC4.out.num) _ rfl rfl (by go_simp) ?_) | ((with_reducible show wpList _ _ _ (Oper.mk _ (Op.load _ _) _ _ _ _ :: _) _ _); refine wpList_load_g (HC4.out.seq) _ rfl rfl (by go_simp) ?_) | ((with_reducible show wpList _ _ _ (Oper.mk _ (Op.load _ _) _ _ _ _ :: _) _ _); refine wpList_load_g (HAW.out) _ rfl rfl (by go_simp) ?_) | ((with_reducible show wpList _ _ _ (Oper.mk _ (Op.load _ _) _ _ _ _ :: _) _ _); refine wpList_load_g (HC4.out.bat) _ rfl rfl (by go_simp) ?_) | ((with_reducible show wpList _ _ _ (Oper.mk _ (Op.build 61 _) _ _ _ _ :: _) _ _); refine wpList_exw rfl (exec_build4 rfl rfl rfl rfl rfl (run_build_hd _ m.err k.seq k.t A3 n c3)) ?_) | ((with_reducible show wpList _ _ _ (Oper.mk _ (Op.store _ _ _) _ _ _ _ :: _) _ _); refine wpList_store_blk (blk_new w4 (.cells (hdV hdZ none 0 0) 61)) 61 0 (hdV ⟨true, m.err, k.seq, 0, k.t⟩ A3 n c3) (Nat.le_refl _) (info_hd _ _ _ _) (hd_one _ _ _ _) _ _ rfl rfl rfl rfl ?_; intro w5 hg9 hs9 hb9; rw [splice_hd] at hb9; have H5 := Lib.hid (And.intro hg9 hb9); clear hg9 hs9 hb9))
              try dsimp only [Act.put]
              clear h1 h2 h3 h4
              have HBA : Hid (Below w4.heap.size w4 (w4.alloc (.cells (hdV hdZ none 0 0) 61))) := Lib.hid (below_alloc (Below.refl _ _) _)
              have HB45 : Hid (Below w4.heap.size w4 w5) := Lib.hid (below_grown HBA.out H5.out.1 (Nat.le_refl _))
              have HB5 := Lib.hid (below_step HB4.out HB45.out)
              have HX5 := Lib.hid (blk_below HX4.out HB45.out)
              have HZ5 := Lib.hid (blk_below HZ4.out HB45.out)
              have HH5 := Lib.hid (blk_below HH4.out HB45.out)
              have HM5 := Lib.hid (msg_ld HMF.out (blk_below HY4.out HB45.out))
              have HO5 : Hid (OS updK w5 (w.heap.size + 4) A3 n c3 k.t) := Lib.hid (((HO4.out.below HBA.out).grown H5.out.1 (fun ad e h => by have := HO4.out.lt ad e; injection h with h; omega)))
              have HI5 := Lib.hid H5.out.2
              have HNE : Hid (∀ ad, A3 = some ad → ad.block ≠ w4.heap.size) := Lib.hid (fun ad e => by have := HO4.out.lt ad e; omega)
              have HS4 : Hid (w.heap.size + 3 < w4.heap.size) := Lib.hid (by have := blk_lt HH4.out; have := HW0.out; omega)
              clear H5 HBA HB45 HX4 HZ4 HH4 HM4 HO4 HB4 HC4 HAW HY4
              by_cases he : m.err = 0
              · have hez : (m.err == 0) = true := by simpa using he
                have HD2 : Hid ((⟨true, m.err, k.seq, if m.err = 0 then m.index else 0, k.t⟩ : Hd) = ⟨true, m.err, k.seq, m.index, k.t⟩) := Lib.hid (by rw [if_pos he])
                clear he
                go_upto_region 10 with (first | ((with_reducible show wpList _ _ _ (Oper.mk _ (Op.load _ _) _ _ _ _ :: _) _ _); refine wpList_load_g (HM5.out.err) _ rfl rfl (by go_simp) ?_) | ((with_reducible show wpList _ _ _ (Oper.mk _ (Op.load _ _) _ _ _ _ :: _) _ _); refine wpList_load_g (HM5.out.index) _ rfl rfl (by go_simp) ?_) | ((with_reducible show wpList _ _ _ (Oper.mk _ (Op.store _ _ _) _ _ _ _ :: _) _ _); refine wpList_store_cell HI5.out 31 4 (.int .u64 m.index) (by show 4 < 5; omega) (by kernel_rfl) rfl rfl _ _ rfl rfl rfl rfl ?_; intro w6 hg9 hs9 hb9; have H6 := Lib.hid (And.intro hg9 (show (World.heap w6)[w4.heap.size]? = some (.cells (hdV ⟨true, m.err, k.seq, m.index, k.t⟩ A3 n c3) 61 (0, 0)) from hb9)); clear hg9 hs9 hb9))
                try dsimp only [Act.put]
                have HX6 := Lib.hid (blk_grown HX5.out H6.out.1 (fun e => by injection e with e; have := HS4.out; omega))
                have HZ6 := Lib.hid (blk_grown HZ5.out H6.out.1 (fun e => by injection e with e; have := HS4.out; omega))
                have HH6 := Lib.hid (blk_grown HH5.out H6.out.1 (fun e => by injection e with e; have := HS4.out; have := HW0.out; omega))
                have HB6 := Lib.hid (below_grown HB5.out H6.out.1 (by have := HS4.out; omega))
                have HO6 : Hid (OS updK w6 (w.heap.size + 4) A3 n c3 k.t) := Lib.hid (HO5.out.grown H6.out.1 (fun ad e h => HNE.out ad e (by injection h)))
                have HI6 := Lib.hid H6.out.2
                clear H6 HX5 HZ5 HH5 HB5 HO5 HI5 HM5
                go_upto_region 11 with (first | ((with_reducible show wpList _ _ _ (Oper.mk _ (Op.store 4 _ _) _ _ _ _ :: _) _ _); refine wpList_store_cell HX6.out 4 3 (.bool false) (by show 3 < 4; omega) (by kernel_rfl) rfl rfl _ _ rfl rfl rfl rfl ?_; intro w7 hg9 hs9 hb9; have H7 := Lib.hid (And.intro hg9 (show (World.heap w7)[w.heap.size]? = some (.cells (cliV ⟨k.num, k.seq, false, k.t⟩ A3 n c3) 27 (0, 0)) from hb9)); clear hg9 hs9 hb9) | ((with_reducible show wpList _ _ _ (Oper.mk _ (Op.build 25 _) _ _ _ _ :: _) _ _); refine wpList_exw rfl (exec_build 25 #[] rfl #[] rfl (run_build w7 _ (.agg (tabV none 0 0)) _ (by kernel_rfl))) ?_) | ((with_reducible show wpList _ _ _ (Oper.mk _ (Op.build 25 _) _ _ _ _ :: _) _ _); refine wpList_exw rfl (exec_build 25 #[] rfl #[] rfl (run_build w6 _ (.agg (tabV none 0 0)) _ (by kernel_rfl))) ?_) | ((with_reducible show wpList _ _ _ (Oper.mk _ (Op.store _ _ _) _ _ _ _ :: _) _ _); refine wpList_store_blk H7.out.2 25 2 (tabV none 0 0) (by show 2 + 1 ≤ 4; omega) (info_bat _ _ _) (tab_one _ _ _) _ _ rfl rfl rfl rfl ?_; intro w8 hg9 hs9 hb9; have H8 := Lib.hid (And.intro hg9 (show (World.heap w8)[w.heap.size]? = some (.cells (cliV ⟨k.num, k.seq, false, []⟩ none 0 0) 27 (0, 0)) from hb9)); clear hg9 hs9 hb9))
                try dsimp only [Act.put]
                have HX8 := Lib.hid H8.out.2
                have HZ8 := Lib.hid (blk_grown (blk_grown HZ6.out H7.out.1 (fun e => by injection e with e; omega)) H8.out.1 (fun e => by injection e with e; omega))
                have HH8 := Lib.hid (blk_grown (blk_grown HH6.out H7.out.1 (fun e => by injection e with e; have := HW0.out; omega)) H8.out.1 (fun e => by injection e with e; have := HW0.out; omega))
                have HI8 := Lib.hid (blk_grown (blk_grown HI6.out H7.out.1 (fun e => by injection e with e; have := HS4.out; omega)) H8.out.1 (fun e => by injection e with e; have := HS4.out; omega))
                have HB8 := Lib.hid (below_grown (below_grown HB6.out H7.out.1 (Nat.le_refl _)) H8.out.1 (Nat.le_refl _))
                have HO8 : Hid (OS updK w8 (w.heap.size + 4) A3 n c3 k.t) := Lib.hid ((HO6.out.grown H7.out.1 (fun ad e h => by have := HO6.out.base_ ad e; injection h with h; omega)).grown H8.out.1 (fun ad e h => by have := HO6.out.base_ ad e; injection h with h; omega))
                clear H7 H8 HX6 HZ6 HH6 HI6 HB6 HO6
                have HS8 : Hid ((w8.drew).heap[w.heap.size]? = some (.cells (cliV ⟨k.num, k.seq, false, []⟩ none 0 0) 27 (0, 0)) ∧ (w8.drew).heap[w4.heap.size]? = some (.cells (hdV ⟨true, m.err, k.seq, m.index, k.t⟩ A3 n c3) 61 (0, 0))) := Lib.hid ⟨blk_below HX8.out (below_drew1 _), blk_below HI8.out (below_drew1 _)⟩
                refine wp_region_mix (fun w0 => w0.heap[w.heap.size]? = some (.cells (cliV ⟨k.num, k.seq, false, []⟩ none 0 0) 27 (0, 0)) ∧ w0.heap[w4.heap.size]? = some (.cells (hdV ⟨true, m.err, k.seq, m.index, k.t⟩ A3 n c3) 61 (0, 0))) [(0, 0), (1, 0), (2, 2), (3, 3), (4, 3)] (by kernel_rfl) (by kernel_rfl) HS8.out ?_
                simp only [List.map_cons, List.map_nil]
                refine wpO_loadW (t := 27) (ad := ⟨w.heap.size, 0, none⟩) rfl rfl ?hw rfl rfl ((fun w0 hS => load_cli hS.1)) ?_
                case hw => go_simp
                refine wpO_loadW (t := 61) (ad := ⟨w4.heap.size, 0, none⟩) rfl rfl ?hw rfl rfl ((fun w0 hS => load_hd hS.2)) ?_
                case hw => go_simp
                refine wpO_step2 rfl rfl (HS8.out) (fun K hK => ?_)
                rw [if_pos (show Region.wanted _ _ = true from rfl)]
                refine oper_store_blk (blk_below HZ8.out (below_drew1 _)) 27 0 (cliV ⟨k.num, k.seq, false, []⟩ none 0 0) (Nat.le_refl _) (info_cli _ _ _ _) (cli_one _ _ _ _) _ _ rfl rfl rfl ?_
                intro w9 hg9 hs9 hb9
                rw [splice_cli] at hb9
                have H9 := Lib.hid (And.intro hg9 hb9)
                clear hg9 hs9 hb9
                refine hK _ _ ⟨⟨blk_grown HS8.out.1 H9.out.1 (fun e => by injection e with e; omega), blk_grown HS8.out.2 H9.out.1 (fun e => by injection e with e; have := HS4.out; omega)⟩, ?_⟩
                clear hK K
                refine wpO_step3 rfl rfl (fun K hK => ?_)
                rw [if_pos (show Region.wanted _ _ = true from rfl)]
                refine oper_store_blk (blk_grown (blk_below HH8.out (below_drew1 _)) H9.out.1 (fun e => by injection e with e; have := HW0.out; omega)) 61 0 (hdV ⟨true, m.err, k.seq, m.index, k.t⟩ A3 n c3) (Nat.le_refl _) (info_hd _ _ _ _) (hd_one _ _ _ _) _ _ rfl rfl rfl ?_
                intro w10 hg9 hs9 hb9
                rw [splice_hd] at hb9
                have H10 := Lib.hid (And.intro hg9 hb9)
                clear hg9 hs9 hb9
                refine hK _ _ ?_
                clear hK K
                refine wpO_step3 rfl rfl (fun K hK => ?_); go_simp; refine hK _ _ ?_; clear hK K
                refine wpO_nil ?_
                go_wp2_with fail
                refine bodyPost_ret (results_ccs rfl rfl (load_cli (blk_grown H9.out.2 H10.out.1 (fun e => by injection e with e; have := HW0.out; omega))) rfl (load_hd H10.out.2)) rfl ?_
                rw [HN.out, HK.out, HD.out, HE.out, HD2.out]
                exact ⟨none, 0, 0, A3, n, c3, rfl, OS.nil _ _ _, (((HO8.out.below (below_drew1 _)).grown H9.out.1 (fun ad e h => by have := HO8.out.base_ ad e; injection h with h; omega)).grown H10.out.1 (fun ad e h => by have := HO8.out.base_ ad e; have := HW0.out; injection h with h; omega)).lower (by omega), below_grown (below_grown (below_step HB8.out (below_drew1 _)) H9.out.1 (by omega)) H10.out.1 (by have := HW0.out; omega)⟩
              · have hez : (m.err == 0) = false := by simpa using he
                have HD2 : Hid ((⟨true, m.err, k.seq, if m.err = 0 then m.index else 0, k.t⟩ : Hd) = ⟨true, m.err, k.seq, 0, k.t⟩) := Lib.hid (by rw [if_neg he])
                clear he
                go_upto_region 10 with (first | ((with_reducible show wpList _ _ _ (Oper.mk _ (Op.load _ _) _ _ _ _ :: _) _ _); refine wpList_load_g (HM5.out.err) _ rfl rfl (by go_simp) ?_))
                try dsimp only [Act.put]
                obtain ⟨w6, hw6⟩ : ∃ w6, w5 = w6 := ⟨_, rfl⟩
                subst hw6
                have HX6 := HX5
                have HZ6 := HZ5
                have HH6 := HH5
                have HB6 := HB5
                have HO6 := HO5
                have HI6 := HI5
                clear HX5 HZ5 HH5 HB5 HO5 HI5 HM5
                go_upto_region 11 with (first | ((with_reducible show wpList _ _ _ (Oper.mk _ (Op.store 4 _ _) _ _ _ _ :: _) _ _); refine wpList_store_cell HX6.out 4 3 (.bool false) (by show 3 < 4; omega) (by kernel_rfl) rfl rfl _ _ rfl rfl rfl rfl ?_; intro w7 hg9 hs9 hb9; have H7 := Lib.hid (And.intro hg9 (show (World.heap w7)[w.heap.size]? = some (.cells (cliV ⟨k.num, k.seq, false, k.t⟩ A3 n c3) 27 (0, 0)) from hb9)); clear hg9 hs9 hb9) | ((with_reducible show wpList _ _ _ (Oper.mk _ (Op.build 25 _) _ _ _ _ :: _) _ _); refine wpList_exw rfl (exec_build 25 #[] rfl #[] rfl (run_build w7 _ (.agg (tabV none 0 0)) _ (by kernel_rfl))) ?_) | ((with_reducible show wpList _ _ _ (Oper.mk _ (Op.build 25 _) _ _ _ _ :: _) _ _); refine wpList_exw rfl (exec_build 25 #[] rfl #[] rfl (run_build w6 _ (.agg (tabV none 0 0)) _ (by kernel_rfl))) ?_) | ((with_reducible show wpList _ _ _ (Oper.mk _ (Op.store _ _ _) _ _ _ _ :: _) _ _); refine wpList_store_blk H7.out.2 25 2 (tabV none 0 0) (by show 2 + 1 ≤ 4; omega) (info_bat _ _ _) (tab_one _ _ _) _ _ rfl rfl rfl rfl ?_; intro w8 hg9 hs9 hb9; have H8 := Lib.hid (And.intro hg9 (show (World.heap w8)[w.heap.size]? = some (.cells (cliV ⟨k.num, k.seq, false, []⟩ none 0 0) 27 (0, 0)) from hb9)); clear hg9 hs9 hb9))
                try dsimp only [Act.put]
                have HX8 := Lib.hid H8.out.2
                have HZ8 := Lib.hid (blk_grown (blk_grown HZ6.out H7.out.1 (fun e => by injection e with e; omega)) H8.out.1 (fun e => by injection e with e; omega))
                have HH8 := Lib.hid (blk_grown (blk_grown HH6.out H7.out.1 (fun e => by injection e with e; have := HW0.out; omega)) H8.out.1 (fun e => by injection e with e; have := HW0.out; omega))
                have HI8 := Lib.hid (blk_grown (blk_grown HI6.out H7.out.1 (fun e => by injection e with e; have := HS4.out; omega)) H8.out.1 (fun e => by injection e with e; have := HS4.out; omega))
                have HB8 := Lib.hid (below_grown (below_grown HB6.out H7.out.1 (Nat.le_refl _)) H8.out.1 (Nat.le_refl _))
                have HO8 : Hid (OS updK w8 (w.heap.size + 4) A3 n c3 k.t) := Lib.hid ((HO6.out.grown H7.out.1 (fun ad e h => by have := HO6.out.base_ ad e; injection h with h; omega)).grown H8.out.1 (fun ad e h => by have := HO6.out.base_ ad e; injection h with h; omega))
                clear H7 H8 HX6 HZ6 HH6 HI6 HB6 HO6
                have HS8 : Hid ((w8.drew).heap[w.heap.size]? = some (.cells (cliV ⟨k.num, k.seq, false, []⟩ none 0 0) 27 (0, 0)) ∧ (w8.drew).heap[w4.heap.size]? = some (.cells (hdV ⟨true, m.err, k.seq, 0, k.t⟩ A3 n c3) 61 (0, 0))) := Lib.hid ⟨blk_below HX8.out (below_drew1 _), blk_below HI8.out (below_drew1 _)⟩
                refine wp_region_mix (fun w0 => w0.heap[w.heap.size]? = some (.cells (cliV ⟨k.num, k.seq, false, []⟩ none 0 0) 27 (0, 0)) ∧ w0.heap[w4.heap.size]? = some (.cells (hdV ⟨true, m.err, k.seq, 0, k.t⟩ A3 n c3) 61 (0, 0))) [(0, 0), (1, 0), (2, 2), (3, 3), (4, 3)] (by kernel_rfl) (by kernel_rfl) HS8.out ?_
                simp only [List.map_cons, List.map_nil]
                refine wpO_loadW (t := 27) (ad := ⟨w.heap.size, 0, none⟩) rfl rfl ?hw rfl rfl ((fun w0 hS => load_cli hS.1)) ?_
                case hw => go_simp
                refine wpO_loadW (t := 61) (ad := ⟨w4.heap.size, 0, none⟩) rfl rfl ?hw rfl rfl ((fun w0 hS => load_hd hS.2)) ?_
                case hw => go_simp
                refine wpO_step2 rfl rfl (HS8.out) (fun K hK => ?_)
                rw [if_pos (show Region.wanted _ _ = true from rfl)]
                refine oper_store_blk (blk_below HZ8.out (below_drew1 _)) 27 0 (cliV ⟨k.num, k.seq, false, []⟩ none 0 0) (Nat.le_refl _) (info_cli _ _ _ _) (cli_one _ _ _ _) _ _ rfl rfl rfl ?_
                intro w9 hg9 hs9 hb9
                rw [splice_cli] at hb9
                have H9 := Lib.hid (And.intro hg9 hb9)
                clear hg9 hs9 hb9
                refine hK _ _ ⟨⟨blk_grown HS8.out.1 H9.out.1 (fun e => by injection e with e; omega), blk_grown HS8.out.2 H9.out.1 (fun e => by injection e with e; have := HS4.out; omega)⟩, ?_⟩
                clear hK K
                refine wpO_step3 rfl rfl (fun K hK => ?_)
                rw [if_pos (show Region.wanted _ _ = true from rfl)]
                refine oper_store_blk (blk_grown (blk_below HH8.out (below_drew1 _)) H9.out.1 (fun e => by injection e with e; have := HW0.out; omega)) 61 0 (hdV ⟨true, m.err, k.seq, 0, k.t⟩ A3 n c3) (Nat.le_refl _) (info_hd _ _ _ _) (hd_one _ _ _ _) _ _ rfl rfl rfl ?_
                intro w10 hg9 hs9 hb9
                rw [splice_hd] at hb9
                have H10 := Lib.hid (And.intro hg9 hb9)
                clear hg9 hs9 hb9
                refine hK _ _ ?_
                clear hK K
                refine wpO_step3 rfl rfl (fun K hK => ?_); go_simp; refine hK _ _ ?_; clear hK K
                refine wpO_nil ?_
                go_wp2_with fail
                refine bodyPost_ret (results_ccs rfl rfl (load_cli (blk_grown H9.out.2 H10.out.1 (fun e => by injection e with e; have := HW0.out; omega))) rfl (load_hd H10.out.2)) rfl ?_
                rw [HN.out, HK.out, HD.out, HE.out, HD2.out]
                exact ⟨none, 0, 0, A3, n, c3, rfl, OS.nil _ _ _, (((HO8.out.below (below_drew1 _)).grown H9.out.1 (fun ad e h => by have := HO8.out.base_ ad e; injection h with h; omega)).grown H10.out.1 (fun ad e h => by have := HO8.out.base_ ad e; have := HW0.out; injection h with h; omega)).lower (by omega), below_grown (below_grown (below_step HB8.out (below_drew1 _)) H9.out.1 (by omega)) H10.out.1 (by have := HW0.out; omega)⟩
end Go.Proofs.YtifejiclenpfoaaDoor

/- Layer 20 (client): Same, New; the document's Same; the law's short, one. -/
namespace Go.Proofs.YtifejiclenpfoaaDoor
open Go.RowKit
set_option linter.unusedVariables false
set_option linter.unusedSimpArgs false
set_option maxRecDepth 4000
/-- A client that is new. -/
def newK (num : Int) : Ck := ⟨num, 0, false, []⟩
def newE (num : Int) : Int := if 1 ≤ num ∧ num ≤ 2 then 0 else 2
def newC (num : Int) : Ck := if 1 ≤ num ∧ num ≤ 2 then newK num else ckZ
theorem run_build_cli1 (w : World) (num : Int) : (Instr.build 27 #[(0, .int .i64 num)]).run Tryd.prog w = .ok (.agg (cliV (newK num) none 0 0)) w := run_build w _ _ _ (by kernel_rfl)
theorem ckE_new (num : Int) : ckE (newK num) = if 1 ≤ num ∧ num ≤ 2 then 0 else 300 := by
  unfold ckE ckB newK
  by_cases h1 : 1 ≤ num
  · by_cases h2 : num ≤ 2
    · simp [h1, h2]
    · simp [h1, h2]
  · simp [h1]
set_option maxHeartbeats 2000000 in
theorem cnew_any (num : Int) (w : World) (hL : Laid w) : Calls Tryd.prog 17 #[.int .i64 num] w fun e w' => e = .returned (.tuple #[.agg (cliV (newC num) none 0 0), .int .i64 (newE num)]) ∧ Below w.heap.size w w' := by
  have HL := Lib.hid hL
  clear hL
  go_enter Tryd.func17, Tryd.ntmps17
  obtain ⟨W0, hW0⟩ : ∃ W, w.alloc (.cells #[.int .i64 0, .int .u32 0, .slice none 0 0, .bool false] 27) = W := ⟨_, rfl⟩
  have hs0 : W0.heap.size = w.heap.size + 1 := by rw [← hW0]; simp
  have HZ0 : Hid (W0.heap[w.heap.size]? = some (.cells (cliV ckZ none 0 0) 27 (0, 0))) := Lib.hid (by rw [← hW0]; exact blk_new _ _)
  have HB0 : Hid (Below w.heap.size w W0) := Lib.hid (hW0 ▸ below_alloc (Below.refl _ _) _)
  obtain ⟨W1, hW1⟩ : ∃ W, W0.alloc (.cells (cliV ckZ none 0 0) 27) = W := ⟨_, rfl⟩
  have HY1 : Hid (W1.heap[w.heap.size + 1]? = some (.cells (cliV ckZ none 0 0) 27 (0, 0))) := Lib.hid (by rw [← hW1, ← hs0]; exact blk_new _ _)
  have HZ1 : Hid (W1.heap[w.heap.size]? = some (.cells (cliV ckZ none 0 0) 27 (0, 0))) := Lib.hid (hW1 ▸ blk_below HZ0.out (below_alloc (Below.refl _ _) _))
  have HB1 : Hid (Below w.heap.size w W1) := Lib.hid (hW1 ▸ below_alloc HB0.out _)
  have hw1 : W0.alloc (.cells #[.int .i64 0, .int .u32 0, .slice none 0 0, .bool false] 27) = W1 := hW1
  clear hW1
  go_upto_region 2 with (first | ((with_reducible show wpList _ _ _ (Oper.mk _ (Op.build 27 _) _ _ _ _ :: _) _ _); refine wpList_exw rfl (exec_build1 rfl rfl (run_build_cli1 _ num)) ?_) | ((with_reducible show wpList _ _ _ (Oper.mk _ (Op.store _ _ _) _ _ _ _ :: _) _ _); refine wpList_store_blk HY1.out 27 0 (cliV (newK num) none 0 0) (Nat.le_refl _) (info_cli _ _ _ _) (cli_one _ _ _ _) _ _ rfl rfl rfl rfl ?_; intro w1 hg9 hs9 hb9; rw [splice_cli] at hb9; have H1 := Lib.hid (And.intro hg9 hb9); clear hg9 hs9 hb9))
  try dsimp only [Act.put]
  have HX1 := Lib.hid H1.out.2
  have HZ2 := Lib.hid (blk_grown HZ1.out H1.out.1 (fun e => by injection e with e; omega))
  have HB2 := Lib.hid (below_grown HB1.out H1.out.1 (by omega))
  have HL2 := Lib.hid (HL.out.below HB2.out)
  clear H1 hw1 hW0
  have hcall := ccheck20_any (newK num) none 0 0 w1 HL2.out (RS.nil _ _ _ _) (fun r hr => by cases hr) (by omega)
  go_wp2_with (first | ((with_reducible show wpList _ _ _ (Oper.mk _ (Op.load _ _) _ _ _ _ :: _) _ _); refine wpList_load_g (load_cli HX1.out) _ rfl rfl (by go_simp) ?_))
  refine hcall.mono ?_
  clear hcall
  rintro e w2 ⟨rfl, hb2⟩
  have HX3 := Lib.hid (blk_below HX1.out hb2)
  have HZ3 := Lib.hid (blk_below HZ2.out hb2)
  have HB3 := Lib.hid (below_step HB2.out hb2)
  clear hb2
  rw [ckE_new]
  by_cases h : 1 ≤ num ∧ num ≤ 2
  · have HE : Hid (newC num = newK num ∧ newE num = 0) := Lib.hid ⟨by unfold newC; rw [if_pos h], by unfold newE; rw [if_pos h]⟩
    rw [if_pos h]
    clear h
    go_wp2_with (first | ((with_reducible show wpList _ _ _ (Oper.mk _ (Op.load _ _) _ _ _ _ :: _) _ _); refine wpList_load_g (load_cli HX3.out) _ rfl rfl (by go_simp) ?_) | ((with_reducible show wpList _ _ _ (Oper.mk _ (Op.store _ _ _) _ _ _ _ :: _) _ _); refine wpList_store_blk HZ3.out 27 0 (cliV (newK num) none 0 0) (Nat.le_refl _) (info_cli _ _ _ _) (cli_one _ _ _ _) _ _ rfl rfl rfl rfl ?_; intro w9 hg9 hs9 hb9; rw [splice_cli] at hb9; have H9 := Lib.hid (And.intro hg9 hb9); clear hg9 hs9 hb9))
    refine bodyPost_ret (results_c2 rfl rfl (load_cli H9.out.2)) rfl ?_
    rw [HE.out.1, HE.out.2]
    exact ⟨rfl, below_grown HB3.out H9.out.1 (Nat.le_refl _)⟩
  · have HE : Hid (newC num = ckZ ∧ newE num = 2) := Lib.hid ⟨by unfold newC; rw [if_neg h], by unfold newE; rw [if_neg h]⟩
    rw [if_neg h]
    clear h
    go_wp2_with (first | ((with_reducible show wpList _ _ _ (Oper.mk _ (Op.build _ _) _ _ _ _ :: _) _ _); refine wpList_exw rfl (exec_build 27 #[] rfl #[] rfl ((run_build_cli_nil _))) ?_) | ((with_reducible show wpList _ _ _ (Oper.mk _ (Op.store _ _ _) _ _ _ _ :: _) _ _); refine wpList_store_blk HZ3.out 27 0 (cliV ckZ none 0 0) (Nat.le_refl _) (info_cli _ _ _ _) (cli_one _ _ _ _) _ _ rfl rfl rfl rfl ?_; intro w9 hg9 hs9 hb9; rw [splice_cli] at hb9; have H9 := Lib.hid (And.intro hg9 hb9); clear hg9 hs9 hb9))
    refine bodyPost_ret (results_c2 rfl rfl (load_cli H9.out.2)) rfl ?_
    rw [HE.out.1, HE.out.2]
    exact ⟨rfl, below_grown HB3.out H9.out.1 (Nat.le_refl _)⟩
def oneB : List Upd := [wkU2]
theorem oneB_ok : Oku oneB := by
  intro u hu
  simp only [oneB, List.mem_cons, List.not_mem_nil, or_false] at hu
  subst hu
  exact ⟨⟨ten8_B, by decide, by decide⟩, by decide, by decide, by decide⟩
set_option maxHeartbeats 2000000 in
theorem one20_any (w : World) : Calls Tryd.prog 33 #[] w fun e w' => ∃ A', e = .returned (.agg (tabV A' 1 1)) ∧ OS updK w' w.heap.size A' 1 1 oneB ∧ Below w.heap.size w w' := by
  obtain ⟨u, hu⟩ : ∃ u : Upd, u = wkU2 := ⟨_, rfl⟩
  have HU := Lib.hid hu
  have hf : u.fits := by rw [hu]; exact ten8_B
  clear hu
  obtain ⟨W1, hW1⟩ : ∃ W1, w.alloc (.cells #[.slice none 0 0] 25) = W1 := ⟨_, rfl⟩
  have HZ1 : Hid (W1.heap[w.heap.size]? = some (.cells (tabV none 0 0) 25 (0, 0))) := Lib.hid (by rw [← hW1]; exact blk_new _ _)
  have HB1 : Hid (Below w.heap.size w W1) := Lib.hid (hW1 ▸ below_alloc (Below.refl _ _) _)
  have hs1 : W1.heap.size = w.heap.size + 1 := by rw [← hW1]; simp
  obtain ⟨W2, hW2⟩ : ∃ W2, W1.alloc (.cells (updK.enc u).toArray updK.t) = W2 := ⟨_, rfl⟩
  have HO2 : Hid (OS updK W2 (w.heap.size + 1) (some ⟨w.heap.size + 1, 0, none⟩) 1 1 oneB) := Lib.hid (by rw [← hW2, ← hs1]; unfold oneB; rw [← HU.out]; exact OS.one updK W1 _ u (Nat.le_refl _) hf)
  have HZ2 : Hid (W2.heap[w.heap.size]? = some (.cells (tabV none 0 0) 25 (0, 0))) := Lib.hid (hW2 ▸ blk_below HZ1.out (below_alloc (Below.refl _ _) _))
  have HB2 : Hid (Below w.heap.size w W2) := Lib.hid (hW2 ▸ below_alloc HB1.out _)
  have hb3 : Below w.heap.size w (w.alloc (.cells #[.slice none 0 0] 25)) := below_alloc (Below.refl _ _) _
  go_enter Tryd.func33, Tryd.ntmps33
  go_wp2_with (first | ((with_reducible show wpList _ _ _ (Oper.mk _ (Op.build 104 _) _ _ _ _ :: _) _ _); refine wpList_exw rfl (exec_build4 rfl rfl rfl rfl rfl (run_build_upd _ wkP 1 5 9 rfl)) ?_) | ((with_reducible show wpList _ _ _ (Oper.mk _ (Op.buildSlice _ _ _) _ _ _ _ :: _) _ _); refine wpList_exw rfl (exec_lit1 updK (x := .tmp 4) rfl u (by rw [HU.out]; rfl) hf (by show 22 ≤ _; omega) _) ?_) | ((with_reducible show wpList _ _ _ (Oper.mk _ (Op.store _ _ _) _ _ _ _ :: _) _ _); refine wpList_store_blk HZ2.out 25 0 (tabV (some ⟨w.heap.size + 1, 0, none⟩) 1 1) (Nat.le_refl _) (info_bat _ _ _) (tab_one _ _ _) _ _ rfl rfl rfl rfl ?_; intro w9 hg9 hs9 hb9; rw [splice_tab] at hb9; have H9 := Lib.hid (And.intro hg9 hb9); clear hg9 hs9 hb9))
  have hld := load_bat H9.out.2
  refine bodyPost_ret (results_c1 rfl rfl hld) rfl ?_
  exact ⟨_, rfl, OS.lower (HO2.out.grown H9.out.1 (fun ad e h => by injection e with e; subst e; injection h with h; have h2 : w.heap.size + 1 = w.heap.size := h; omega)) (by omega), below_grown HB2.out H9.out.1 (Nat.le_refl _)⟩
end Go.Proofs.YtifejiclenpfoaaDoor

/- Layer 15 (frame), for what a client asks: server, client, ends, goes, place, small, counts. -/
namespace Go.Proofs.YtifejiclenpfoaaDoor
open Go.RowKit
set_option linter.unusedVariables false
set_option linter.unusedSimpArgs false
set_option maxRecDepth 4000
theorem fserver_any (n : Int) (w : World) : Calls Tryd.prog 97 #[.int .i64 n] w fun e w' => e = .returned (.bool (decide (1 ≤ n) && decide (n ≤ 2))) ∧ w = w' := by
  by_cases h1 : 1 ≤ n
  · have h1b : decide (1 ≤ n) = true := decide_eq_true h1
    go_enter Tryd.func97, Tryd.ntmps97
    go_wp2
    go_ret
    exact ⟨by simp [h1b], rfl⟩
  · have h1b : decide (1 ≤ n) = false := decide_eq_false h1
    go_enter Tryd.func97, Tryd.ntmps97
    go_wp2
    go_ret
    exact ⟨by simp [h1b], rfl⟩
theorem fclient_any (n : Int) (w : World) : Calls Tryd.prog 96 #[.int .i64 n] w fun e w' => e = .returned (.bool (decide (2 < n) && decide (n ≤ 4))) ∧ w = w' := by
  by_cases h1 : 2 < n
  · have h1b : decide (2 < n) = true := decide_eq_true h1
    go_enter Tryd.func96, Tryd.ntmps96
    go_wp2
    go_ret
    exact ⟨by simp [h1b], rfl⟩
  · have h1b : decide (2 < n) = false := decide_eq_false h1
    go_enter Tryd.func96, Tryd.ntmps96
    go_wp2
    go_ret
    exact ⟨by simp [h1b], rfl⟩
theorem fends6 (w : World) : Calls Tryd.prog 95 #[.int .i64 6] w fun e w' => e = .returned (.tuple #[.int .i64 1, .bool true]) ∧ w = w' := by
  go_enter Tryd.func95, Tryd.ntmps95
  go_wp2
  go_ret2
  exact ⟨rfl, rfl⟩
/-- What a client asks may be. -/
structure AskOk (m : Gm) : Prop where
  kd : m.kd = 6
  frm : 2 < m.frm ∧ m.frm ≤ 4
  tgt : 1 ≤ m.tgt ∧ m.tgt ≤ 2
theorem fgoes_any (m : Gm) (A : Option Addr) (n c : Nat) (w : World) (h : AskOk m) : Calls Tryd.prog 65 #[.agg (gmV m A n c)] w fun e w' => e = .returned (.bool true) ∧ Below w.heap.size w w' := by
  have hblk1 := blk_new w (.cells (gmV m A n c) 45)
  have hbel1 : Below w.heap.size w (w.alloc (.cells (gmV m A n c) 45)) := below_alloc (Below.refl _ _) _
  have HP1 := Lib.hid (gm_at hblk1)
  have HBK1 := Lib.hid hblk1
  have HBE := Lib.hid hbel1
  obtain ⟨cs1, hcs1⟩ : ∃ cs, gmV m A n c = cs := ⟨_, rfl⟩
  simp only [hcs1] at HBE HP1 HBK1 ⊢
  have HC1 := Lib.hid hcs1
  clear hcs1 hblk1 hbel1
  have HLD := Lib.hid (HP1.out.all _ (Below.refl _ _))
  have HKD := Lib.hid HLD.out.kind
  rw [h.kd] at HKD
  have h1 : (decide (2 < m.frm) && decide (m.frm ≤ 4)) = true := by simp [h.frm.1, h.frm.2]
  have h2 : (decide (1 ≤ m.tgt) && decide (m.tgt ≤ 2)) = true := by simp [h.tgt.1, h.tgt.2]
  have H1 := Lib.hid (And.intro h1 h2)
  clear h1 h2
  go_enter Tryd.func65, Tryd.ntmps65
  go_wp2_with (first | ((with_reducible show wpList _ _ _ (Oper.mk _ (Op.load _ _) _ _ _ _ :: _) _ _); refine wpList_load_g (HKD.out) _ rfl rfl (by go_simp) ?_))
  refine (fends6 _).mono ?_
  rintro e w1 ⟨rfl, rfl⟩
  go_wp2_with (first | ((with_reducible show wpList _ _ _ (Oper.mk _ (Op.load _ _) _ _ _ _ :: _) _ _); refine wpList_load_g (HLD.out.frm) _ rfl rfl (by go_simp) ?_))
  refine (fclient_any m.frm _).mono ?_
  rw [H1.out.1]
  rintro e w1 ⟨rfl, rfl⟩
  go_wp2_with (first | ((with_reducible show wpList _ _ _ (Oper.mk _ (Op.load _ _) _ _ _ _ :: _) _ _); refine wpList_load_g (HLD.out.tgt) _ rfl rfl (by go_simp) ?_))
  refine (fserver_any m.tgt _).mono ?_
  rw [H1.out.2]
  rintro e w1 ⟨rfl, rfl⟩
  go_wp2_with (first | ((with_reducible show wpList _ _ _ (Oper.mk _ (Op.load _ _) _ _ _ _ :: _) _ _); refine wpList_load_g (HLD.out.epoch) _ rfl rfl (by go_simp) ?_))
  go_ret
  exact ⟨rfl, HBE.out⟩
theorem fsmall0 (w : World) : Calls Tryd.prog 68 #[.int .u64 0] w fun e w' => e = .returned (.bool true) ∧ w = w' := by
  go_enter Tryd.func68, Tryd.ntmps68
  go_wp2
  go_ret
  exact ⟨rfl, rfl⟩
theorem load_at0 {w : World} {g : Nat} {t : TypeId} (h : w.heap[g]? = some (.cells at0 t (0, 0))) : (Instr.loadAt 31 (.pointer (some ⟨g, 0, none⟩))).run Tryd.prog w = .ok (.int .u64 0) w ∧ (Instr.loadAt 31 (.pointer (some ⟨g, 1, none⟩))).run Tryd.prog w = .ok (.int .u64 0) w :=
  ⟨load_u64k (by rw [blk_cell h]; rfl), load_u64k (by rw [blk_cell h]; rfl)⟩
theorem fplace0 (w : World) : Calls Tryd.prog 67 #[.agg at0, .int .u64 0] w fun e w' => e = .returned (.bool true) ∧ Below w.heap.size w w' := by
  have hb := below_alloc (Below.refl w.heap.size w) (.cells at0 33)
  have HL := Lib.hid (load_at0 (blk_new w (.cells at0 33)))
  go_enter Tryd.func67, Tryd.ntmps67
  go_wp2_with (first | ((with_reducible show wpList _ _ _ (Oper.mk _ (Op.load _ _) _ _ _ _ :: _) _ _); refine wpList_load_g (HL.out.1) _ rfl rfl (by go_simp) ?_) | ((with_reducible show wpList _ _ _ (Oper.mk _ (Op.load _ _) _ _ _ _ :: _) _ _); refine wpList_load_g (HL.out.2) _ rfl rfl (by go_simp) ?_))
  go_ret
  exact ⟨rfl, hb⟩
theorem run_build_gm4 (w : World) (kd frm tgt : Int) : (Instr.build 45 #[(0, .int .i64 kd), (1, .int .i64 frm), (2, .int .i64 tgt), (3, .int .u64 0)]).run Tryd.prog w = .ok (.agg (gmV ⟨kd, frm, tgt, 0, []⟩ none 0 0)) w := run_build w _ _ _ (by kernel_rfl)
end Go.Proofs.YtifejiclenpfoaaDoor

/- Layer 15 (frame), for what a client asks: counts. -/
namespace Go.Proofs.YtifejiclenpfoaaDoor
open Go.RowKit
set_option linter.unusedVariables false
set_option linter.unusedSimpArgs false
set_option maxRecDepth 4000
set_option maxHeartbeats 4000000 in
set_option maxRecDepth 100000 in
theorem fcounts_any (m : Gm) (A : Option Addr) (n c : Nat) (w : World) (h : AskOk m) : Calls Tryd.prog 66 #[.agg (gmV m A n c)] w fun e w' => e = .returned (.agg (gmV m A n c)) ∧ Below w.heap.size w w' := by
  have hblk1 := blk_new w (.cells (gmV m A n c) 45)
  have hbel1 : Below w.heap.size w (w.alloc (.cells (gmV m A n c) 45)) := below_alloc (Below.refl _ _) _
  have HP1 := Lib.hid (gm_at hblk1)
  have HBK1 := Lib.hid hblk1
  have HBE := Lib.hid hbel1
  obtain ⟨cs1, hcs1⟩ : ∃ cs, gmV m A n c = cs := ⟨_, rfl⟩
  simp only [hcs1] at HBE HP1 HBK1 ⊢
  have HC1 := Lib.hid hcs1
  clear hcs1 hblk1 hbel1
  have hs0 : (w.alloc (.cells cs1 45)).heap.size = w.heap.size + 1 := by simp
  obtain ⟨W1, hW1⟩ : ∃ W1, (w.alloc (.cells cs1 45)).alloc (.cells #[.int .i64 0, .int .i64 0, .int .i64 0, .int .u64 0, .int .u64 0, .int .u64 0, .slice none 0 0, .int .u64 0, .bool false, .int .u64 0, .int .u64 0, .int .u64 0, .int .u64 0, .slice none 0 0, .int .u32 0, .int .u64 0, .int .u32 0, .int .u64 0, .int .u32 0, .int .u64 0, .int .u32 0, .slice none 0 0, .int .i64 0] 45) = W1 := ⟨_, rfl⟩
  have HBR : Hid (Below (w.alloc (.cells cs1 45)).heap.size (w.alloc (.cells cs1 45)) W1) := Lib.hid (hW1 ▸ below_alloc (Below.refl _ _) _)
  have HB1 : Hid (Below w.heap.size w W1) := Lib.hid (below_step HBE.out HBR.out)
  have HZ1 : Hid (W1.heap[w.heap.size + 1]? = some (.cells (gmV gmZ none 0 0) 45 (0, 0))) := Lib.hid (by rw [← hW1, ← hs0]; exact blk_new _ _)
  have HKf : Hid (∀ w0, Below (w.alloc (.cells cs1 45)).heap.size (w.alloc (.cells cs1 45)) w0 → (Instr.loadAt 3 (.pointer (some ⟨w.heap.size, 0, none⟩))).run Tryd.prog w0 = .ok (.int .i64 6) w0) := Lib.hid (fun w0 hb => by have := (HP1.out.all w0 hb).kind; rw [h.kd] at this; exact this)
  clear hs0
  go_enter Tryd.func66, Tryd.ntmps66
  go_upto_region 13 with (first | ((with_reducible show wpList _ _ _ (Oper.mk _ (Op.load _ _) _ _ _ _ :: _) _ _); refine wpList_load_g (HKf.out _ HBR.out) _ rfl rfl (by go_simp) ?_) | ((with_reducible show wpList _ _ _ (Oper.mk _ (Op.load _ _) _ _ _ _ :: _) _ _); refine wpList_load_g ((HP1.out.all _ HBR.out).frm) _ rfl rfl (by go_simp) ?_) | ((with_reducible show wpList _ _ _ (Oper.mk _ (Op.load _ _) _ _ _ _ :: _) _ _); refine wpList_load_g ((HP1.out.all _ HBR.out).tgt) _ rfl rfl (by go_simp) ?_) | ((with_reducible show wpList _ _ _ (Oper.mk _ (Op.load _ _) _ _ _ _ :: _) _ _); refine wpList_load_g ((HP1.out.all _ HBR.out).epoch) _ rfl rfl (by go_simp) ?_) | ((with_reducible show wpList _ _ _ (Oper.mk _ (Op.build 45 _) _ _ _ _ :: _) _ _); refine wpList_exw rfl (exec_build4 rfl rfl rfl rfl rfl (run_build_gm4 _ 6 m.frm m.tgt)) ?_) | ((with_reducible show wpList _ _ _ (Oper.mk _ (Op.store _ _ _) _ _ _ _ :: _) _ _); refine wpList_store_blk (blk_new W1 (.cells (gmV gmZ none 0 0) 45)) 45 0 (gmV ⟨6, m.frm, m.tgt, 0, []⟩ none 0 0) (Nat.le_refl _) (info_gm _ _ _ _) (gm_one _ _ _ _) _ _ rfl rfl rfl rfl ?_; intro w2 hg9 hs9 hb9; rw [splice_gm] at hb9; have H2 := Lib.hid (And.intro hg9 hb9); clear hg9 hs9 hb9) | ((with_reducible show wpList _ _ _ (Oper.mk _ (Op.load _ _) _ _ _ _ :: _) _ _); refine wpList_load_g (HKf.out _ (below_step HBR.out (below_grown (below_alloc (Below.refl W1.heap.size W1) _) H2.out.1 (Nat.le_refl _)))) _ rfl rfl (by go_simp) ?_))
  clear hW1
  have hb12 := below_grown (below_alloc (Below.refl W1.heap.size W1) (.cells (gmV gmZ none 0 0) 45)) H2.out.1 (Nat.le_refl _)
  have HB2 := Lib.hid (below_step HB1.out hb12)
  have HBR2 := Lib.hid (below_step HBR.out hb12)
  have HZ2 := Lib.hid (blk_below HZ1.out hb12)
  have HX2 := Lib.hid H2.out.2
  have HG : Hid (w.heap.size + 1 < W1.heap.size) := Lib.hid (blk_lt HZ1.out)
  have HK2 : Hid (w2.heap[w.heap.size]? = some (.cells (gmV m A n c) 45 (0, 0))) := Lib.hid ((blk_below (blk_below HBK1.out HBR.out) hb12).trans (by rw [HC1.out]))
  obtain ⟨gx, hgx⟩ : ∃ g, W1.heap.size = g := ⟨_, rfl⟩
  rw [hgx] at HX2 HG ⊢
  clear H2 hb12 hgx
  refine wp_region_mix ((fun w0 => w0.heap[w.heap.size]? = some (.cells (gmV m A n c) 45 (0, 0)))) [(0, 0), (1, 0), (2, 0), (3, 0), (4, 0), (5, 2), (6, 0), (7, 2)] (by kernel_rfl) (by kernel_rfl) (HK2.out) ?_
  simp only [List.map_cons, List.map_nil]
  iterate 1 (refine wpO_step0 rfl rfl (fun K hK => ?_); go_simp; refine hK _ _ ?_; clear hK K)
  refine wpO_loadW (t := 22) (ad := ⟨w.heap.size, 20, none⟩) rfl rfl ?hw rfl rfl ((fun w0 hS => (gm_ld hS).seq)) ?_
  case hw => go_simp
  iterate 1 (refine wpO_step0 rfl rfl (fun K hK => ?_); go_simp; refine hK _ _ ?_; clear hK K)
  refine wpO_loadW (t := 25) (ad := ⟨w.heap.size, 21, none⟩) rfl rfl ?hw rfl rfl ((fun w0 hS => (gm_ld hS).bat)) ?_
  case hw => go_simp
  iterate 1 (refine wpO_step0 rfl rfl (fun K hK => ?_); go_simp; refine hK _ _ ?_; clear hK K)
  refine wpO_step2 rfl rfl (HK2.out) (fun K hK => ?_)
  rw [if_pos (show Region.wanted _ _ = true from rfl)]
  refine oper_store_cell (show w2.drew.heap[gx]? = _ from HX2.out) 22 20 (.int .u32 m.seq) (by show 20 < 23; omega) (by kernel_rfl) rfl rfl _ _ rfl rfl rfl ?_
  intro w3 hg3 hs3 hb3
  have HX3 : Hid (w3.heap[gx]? = some (.cells (gmV ⟨6, m.frm, m.tgt, m.seq, []⟩ none 0 0) 45 (0, 0))) := Lib.hid hb3
  have HG3 := Lib.hid hg3
  have HK3 := Lib.hid (blk_grown (show w2.drew.heap[w.heap.size]? = _ from HK2.out) hg3 (fun e => by injection e with e; have := HG.out; omega))
  clear hg3 hs3 hb3
  refine hK _ _ ⟨HK3.out, ?_⟩
  clear hK K
  iterate 1 (refine wpO_step0 rfl rfl (fun K hK => ?_); go_simp; refine hK _ _ ?_; clear hK K)
  refine wpO_step2 rfl rfl (HK3.out) (fun K hK => ?_)
  rw [if_pos (show Region.wanted _ _ = true from rfl)]
  refine oper_store_blk HX3.out 25 21 (tabV A n c) (by show 21 + 1 ≤ 23; omega) (info_bat _ _ _) (tab_one _ _ _) _ _ rfl rfl rfl ?_
  intro w4 hg4 hs4 hb4
  have HX4 : Hid (w4.heap[gx]? = some (.cells (gmV m A n c) 45 (0, 0))) := Lib.hid (by
    have e : gmV m A n c = gmV ⟨6, m.frm, m.tgt, m.seq, m.t⟩ A n c := by rw [← h.kd]
    rw [e]
    exact hb4)
  have HK4 := Lib.hid (blk_grown HK3.out hg4 (fun e => by injection e with e; have := HG.out; omega))
  have HB4 := Lib.hid (below_grown (below_grown (below_step HB2.out (below_drew1 w2)) HG3.out (by have := HG.out; omega)) hg4 (by have := HG.out; omega))
  have HZ4 := Lib.hid (blk_grown (blk_grown (show w2.drew.heap[w.heap.size + 1]? = _ from HZ2.out) HG3.out (fun e => by injection e with e; have := HG.out; omega)) hg4 (fun e => by injection e with e; have := HG.out; omega))
  clear hg4 hs4 hb4
  refine hK _ _ ⟨HK4.out, ?_⟩
  clear hK K
  refine wpO_nil ?_
  go_wp2_with (first | ((with_reducible show wpList _ _ _ (Oper.mk _ (Op.load _ _) _ _ _ _ :: _) _ _); refine wpList_load_g (load_gm HX4.out) _ rfl rfl (by go_simp) ?_) | ((with_reducible show wpList _ _ _ (Oper.mk _ (Op.store _ _ _) _ _ _ _ :: _) _ _); refine wpList_store_blk HZ4.out 45 0 (gmV m A n c) (Nat.le_refl _) (info_gm _ _ _ _) (gm_one _ _ _ _) _ _ rfl rfl rfl rfl ?_; intro w5 hg9 hs9 hb9; rw [splice_gm] at hb9; have H5 := Lib.hid (And.intro hg9 hb9); clear hg9 hs9 hb9))
  refine bodyPost_ret (results_c1 rfl rfl (load_gm H5.out.2)) rfl ?_
  exact ⟨by rw [HC1.out], below_grown HB4.out H5.out.1 (by omega)⟩
end Go.Proofs.YtifejiclenpfoaaDoor

/- Layer 15 (frame), for what a client asks: Same, entries. -/
namespace Go.Proofs.YtifejiclenpfoaaDoor
open Go.RowKit
set_option linter.unusedVariables false
set_option linter.unusedSimpArgs false
set_option maxRecDepth 4000
theorem at0_equal (w : World) : (Op.equal 33 (.agg at0) (.agg at0)).run Tryd.prog w = .ok true w := by kernel_rfl
theorem last0_equal (w : World) : (Op.equal 40 (.agg last0) (.agg last0)).run Tryd.prog w = .ok true w := by kernel_rfl
section
variable {r : Operand → Value} {o : Oper} {x y : Operand} {ty : TypeId}
theorem at0_eql_exec (ho : o.op = .binOp .eql 33 x y ty) (hx : r x = .agg at0) (hy : r y = .agg at0) (w : World) : (execOp r o).run Tryd.prog w = .ok (.value (.bool true)) w :=
  exec_eql 33 (by kernel_rfl) ho _ _ hx hy w (at0_equal w)
theorem last0_eql_exec (ho : o.op = .binOp .eql 40 x y ty) (hx : r x = .agg last0) (hy : r y = .agg last0) (w : World) : (execOp r o).run Tryd.prog w = .ok (.value (.bool true)) w :=
  exec_eql 40 (by kernel_rfl) ho _ _ hx hy w (last0_equal w)
end
theorem eqfun0 (f : Value) (w : World) : Calls Tryd.prog 47 #[.slice none 0 0, .slice none 0 0, f] w fun e w' => e = .returned (.bool true) ∧ w = w' := by
  go_enter Tryd.func47, Tryd.ntmps47
  go_wp2
  go_loopw [17] (fun x wr => x = .int .i64 0 ∧ Hid (w = wr)) (fun x _ => (intOf x).toNat)
  case atStart => exact ⟨rfl, rfl⟩
  case round =>
    obtain ⟨rfl, HE⟩ := hrel
    obtain rfl := HE.out
    go_wp2
    go_ret
    exact ⟨rfl, rfl⟩
theorem fentries0 (m : Gm) (A : Option Addr) (n c : Nat) (w : World) : Calls Tryd.prog 69 #[.agg (gmV m A n c)] w fun e w' => e = .returned (.bool true) ∧ Below w.heap.size w w' := by
  have hblk1 := blk_new w (.cells (gmV m A n c) 45)
  have hbel1 : Below w.heap.size w (w.alloc (.cells (gmV m A n c) 45)) := below_alloc (Below.refl _ _) _
  have HP1 := Lib.hid (gm_at hblk1)
  have HBK1 := Lib.hid hblk1
  have HBE := Lib.hid hbel1
  obtain ⟨cs1, hcs1⟩ : ∃ cs, gmV m A n c = cs := ⟨_, rfl⟩
  simp only [hcs1] at HBE HP1 HBK1 ⊢
  have HC1 := Lib.hid hcs1
  clear hcs1 hblk1 hbel1
  have HLD := Lib.hid (HP1.out.all _ (Below.refl _ _))
  go_enter Tryd.func69, Tryd.ntmps69
  go_wp2_with (first | ((with_reducible show wpList _ _ _ (Oper.mk _ (Op.load _ _) _ _ _ _ :: _) _ _); refine wpList_load_g (HLD.out.pepo) _ rfl rfl (by go_simp) ?_) | ((with_reducible show wpList _ _ _ (Oper.mk _ (Op.load _ _) _ _ _ _ :: _) _ _); refine wpList_load_g (HLD.out.ents) _ rfl rfl (by go_simp) ?_))
  go_loopw [13] (fun x wr => x = .int .i64 0 ∧ Hid (Below w.heap.size w wr)) (fun x _ => (intOf x).toNat)
  case atStart => exact ⟨rfl, HBE.out⟩
  case round =>
    obtain ⟨rfl, HE⟩ := hrel
    go_wp2
    go_ret
    exact ⟨rfl, HE.out⟩
set_option maxHeartbeats 4000000 in
set_option maxRecDepth 100000 in
theorem fsame_any (m : Gm) (A : Option Addr) (n c : Nat) (A2 : Option Addr) (n2 c2 : Nat) (w : World) (hr : RS updK w A n c m.t) (hr2 : RS updK w A2 n2 c2 m.t) (ok : Oku m.t) (hn : n ≤ 100000) (hn2 : n2 ≤ 100000) :
    Calls Tryd.prog 22 #[.agg (gmV m A n c), .agg (gmV m A2 n2 c2)] w fun e w' => e = .returned (.bool true) ∧ Below w.heap.size w w' := by
  have hblk1 := blk_new w (.cells (gmV m A n c) 45)
  have hbel1 : Below w.heap.size w (w.alloc (.cells (gmV m A n c) 45)) := below_alloc (Below.refl _ _) _
  have hblk2 := blk_new (w.alloc (.cells (gmV m A n c) 45)) (.cells (gmV m A2 n2 c2) 45)
  have hbel2 : Below w.heap.size w ((w.alloc (.cells (gmV m A n c) 45)).alloc (.cells (gmV m A2 n2 c2) 45)) := below_alloc (hbel1) _
  rw [show (w.alloc (.cells (gmV m A n c) 45)).heap.size = w.heap.size + 1 by simp] at hblk2
  replace hblk1 := blk_below hblk1 (below_alloc (Below.refl _ _) (.cells (gmV m A2 n2 c2) 45))
  have HP1 := Lib.hid (gm_at hblk1)
  have HBK1 := Lib.hid hblk1
  have HP2 := Lib.hid (gm_at hblk2)
  have HBK2 := Lib.hid hblk2
  have HBE := Lib.hid hbel2
  obtain ⟨cs1, hcs1⟩ : ∃ cs, gmV m A n c = cs := ⟨_, rfl⟩
  obtain ⟨cs2, hcs2⟩ : ∃ cs, gmV m A2 n2 c2 = cs := ⟨_, rfl⟩
  simp only [hcs1, hcs2] at HBE HP1 HP2 HBK1 HBK2 ⊢
  have HC1 := Lib.hid hcs1
  have HC2 := Lib.hid hcs2
  clear hcs1 hblk1 hbel1 hcs2 hblk2 hbel2
  have HR := Lib.hid (hr.below HBE.out)
  have HR2 := Lib.hid (hr2.below HBE.out)
  have OK := Lib.hid ok
  have HLA := Lib.hid (HP1.out.all _ (Below.refl _ _))
  have HLB := Lib.hid (HP2.out.all _ (Below.refl _ _))
  obtain ⟨kd, hkd⟩ : ∃ x, m.kd = x := ⟨_, rfl⟩
  obtain ⟨fr, hfr⟩ : ∃ x, m.frm = x := ⟨_, rfl⟩
  obtain ⟨tg, htg⟩ : ∃ x, m.tgt = x := ⟨_, rfl⟩
  obtain ⟨sq, hsq⟩ : ∃ x, m.seq = x := ⟨_, rfl⟩
  have HV := Lib.hid (And.intro hkd (And.intro hfr (And.intro htg hsq)))
  clear hkd hfr htg hsq
  clear hr hr2 ok
  go_enter Tryd.func22, Tryd.ntmps22
  go_upto_region 1 with fail
  refine wp_region_list ?_
  simp only [List.toList_toArray]
  iterate 76 (first | (first | (refine wpList_load_g (HLA.out.kind) _ rfl rfl ?hw ?_; case hw => go_simp) | (refine wpList_load_g (HLB.out.kind) _ rfl rfl ?hw ?_; case hw => go_simp) | (refine wpList_load_g (HLA.out.frm) _ rfl rfl ?hw ?_; case hw => go_simp) | (refine wpList_load_g (HLB.out.frm) _ rfl rfl ?hw ?_; case hw => go_simp) | (refine wpList_load_g (HLA.out.tgt) _ rfl rfl ?hw ?_; case hw => go_simp) | (refine wpList_load_g (HLB.out.tgt) _ rfl rfl ?hw ?_; case hw => go_simp) | (refine wpList_load_g (HLA.out.epoch) _ rfl rfl ?hw ?_; case hw => go_simp) | (refine wpList_load_g (HLB.out.epoch) _ rfl rfl ?hw ?_; case hw => go_simp) | (refine wpList_load_g (HLA.out.prev) _ rfl rfl ?hw ?_; case hw => go_simp) | (refine wpList_load_g (HLB.out.prev) _ rfl rfl ?hw ?_; case hw => go_simp) | (refine wpList_load_g (HLA.out.done) _ rfl rfl ?hw ?_; case hw => go_simp) | (refine wpList_load_g (HLB.out.done) _ rfl rfl ?hw ?_; case hw => go_simp) | (refine wpList_load_g (HLA.out.ok) _ rfl rfl ?hw ?_; case hw => go_simp) | (refine wpList_load_g (HLB.out.ok) _ rfl rfl ?hw ?_; case hw => go_simp) | (refine wpList_load_g (HLA.out.index) _ rfl rfl ?hw ?_; case hw => go_simp) | (refine wpList_load_g (HLB.out.index) _ rfl rfl ?hw ?_; case hw => go_simp) | (refine wpList_load_g (HLA.out.stamp) _ rfl rfl ?hw ?_; case hw => go_simp) | (refine wpList_load_g (HLB.out.stamp) _ rfl rfl ?hw ?_; case hw => go_simp) | (refine wpList_load_g (HLA.out.seq) _ rfl rfl ?hw ?_; case hw => go_simp) | (refine wpList_load_g (HLB.out.seq) _ rfl rfl ?hw ?_; case hw => go_simp) | (refine wpList_load_g (HLA.out.err) _ rfl rfl ?hw ?_; case hw => go_simp) | (refine wpList_load_g (HLB.out.err) _ rfl rfl ?hw ?_; case hw => go_simp)) | (refine wpList_exw ?hw (at0_eql_exec rfl rfl rfl _) ?_; case hw => go_simp) | (refine wpList_step (fun K hK => ?_); go_simp; refine hK _ _ ?_; clear hK K))
  go_wp2_with (first | ((with_reducible show wpList _ _ _ (Oper.mk _ (Op.load _ _) _ _ _ _ :: _) _ _); refine wpList_load_g (HLA.out.bat_) _ rfl rfl (by go_simp) ?_) | ((with_reducible show wpList _ _ _ (Oper.mk _ (Op.load _ _) _ _ _ _ :: _) _ _); refine wpList_load_g (HLB.out.bat_) _ rfl rfl (by go_simp) ?_) | ((with_reducible show wpList _ _ _ (Oper.mk _ (Op.load _ _) _ _ _ _ :: _) _ _); refine wpList_load_g (HLA.out.last) _ rfl rfl (by go_simp) ?_) | ((with_reducible show wpList _ _ _ (Oper.mk _ (Op.load _ _) _ _ _ _ :: _) _ _); refine wpList_load_g (HLB.out.last) _ rfl rfl (by go_simp) ?_) | ((with_reducible show wpList _ _ _ (Oper.mk _ (Op.load _ _) _ _ _ _ :: _) _ _); refine wpList_load_g (HLA.out.brib) _ rfl rfl (by go_simp) ?_) | ((with_reducible show wpList _ _ _ (Oper.mk _ (Op.load _ _) _ _ _ _ :: _) _ _); refine wpList_load_g (HLB.out.brib) _ rfl rfl (by go_simp) ?_) | ((with_reducible show wpList _ _ _ (Oper.mk _ (Op.binOp _ 33 _ _ _) _ _ _ _ :: _) _ _); refine wpList_exw rfl (at0_eql_exec rfl rfl rfl _) ?_) | ((with_reducible show wpList _ _ _ (Oper.mk _ (Op.binOp _ 40 _ _ _) _ _ _ _ :: _) _ _); refine wpList_exw rfl (last0_eql_exec rfl rfl rfl _) ?_))
  refine (rsame_any none 0 0 [] none 0 0 [] _ (RS.nil _ _ _ _) (RS.nil _ _ _ _) (fun r hr => by cases hr) (fun r hr => by cases hr) (by omega) (by omega)).mono ?_
  rw [show rteE.eqL [] [] = true from (ShapeEq.eqL_iff rteE _ _).2 rfl]
  rintro e w2 ⟨rfl, hb2⟩
  have HB2 := Lib.hid (below_step HBE.out hb2)
  have HLA2 := Lib.hid (HP1.out.all _ hb2)
  have HLB2 := Lib.hid (HP2.out.all _ hb2)
  have HB23 := Lib.hid hb2
  have HR2a := Lib.hid (HR.out.below hb2)
  have HR2b := Lib.hid (HR2.out.below hb2)
  clear hb2
  go_wp2_with (first | ((with_reducible show wpList _ _ _ (Oper.mk _ (Op.load _ _) _ _ _ _ :: _) _ _); refine wpList_load_g (HLA2.out.bat) _ rfl rfl (by go_simp) ?_) | ((with_reducible show wpList _ _ _ (Oper.mk _ (Op.load _ _) _ _ _ _ :: _) _ _); refine wpList_load_g (HLB2.out.bat) _ rfl rfl (by go_simp) ?_))
  refine (rsameb_any A n c m.t A2 n2 c2 m.t w2 HR2a.out HR2b.out OK.out OK.out hn hn2).mono ?_
  rw [show updE.eqL m.t m.t = true from (ShapeEq.eqL_iff updE _ _).2 rfl]
  rintro e w3 ⟨rfl, hb3⟩
  have HB3 := Lib.hid (below_step HB2.out hb3)
  have HLA3 := Lib.hid (HP1.out.all w3 (below_step HB23.out hb3))
  have HLB3 := Lib.hid (HP2.out.all w3 (below_step HB23.out hb3))
  clear hb3
  go_wp2_with (first | ((with_reducible show wpList _ _ _ (Oper.mk _ (Op.load _ _) _ _ _ _ :: _) _ _); refine wpList_load_g (HLA3.out.ents) _ rfl rfl (by go_simp) ?_) | ((with_reducible show wpList _ _ _ (Oper.mk _ (Op.load _ _) _ _ _ _ :: _) _ _); refine wpList_load_g (HLB3.out.ents) _ rfl rfl (by go_simp) ?_))
  refine (eqfun0 _ w3).mono ?_
  rintro e w4 ⟨rfl, rfl⟩
  go_wp2
  go_ret
  exact ⟨rfl, HB3.out⟩
end Go.Proofs.YtifejiclenpfoaaDoor

/- Layer 15 (frame), for what a client asks: fits. -/
namespace Go.Proofs.YtifejiclenpfoaaDoor
open Go.RowKit
set_option linter.unusedVariables false
set_option linter.unusedSimpArgs false
set_option maxRecDepth 4000
set_option maxHeartbeats 8000000 in
set_option maxRecDepth 100000 in
theorem ffits_any (m : Gm) (A : Option Addr) (n c : Nat) (w : World) (hL : Laid w) (hr : RS updK w A n c m.t) (ok : Oku m.t) (hn : n ≤ 100000) (h : AskOk m) (hs : 0 < m.seq) (hb : batB m.t = true) : Calls Tryd.prog 44 #[.agg (gmV m A n c)] w fun e w' => e = .returned (.bool true) ∧ Below w.heap.size w w' := by
  have hblk1 := blk_new w (.cells (gmV m A n c) 45)
  have hbel1 : Below w.heap.size w (w.alloc (.cells (gmV m A n c) 45)) := below_alloc (Below.refl _ _) _
  have HP1 := Lib.hid (gm_at hblk1)
  have HBK1 := Lib.hid hblk1
  have HBE := Lib.hid hbel1
  have HL := Lib.hid (hL.below HBE.out)
  obtain ⟨cs1, hcs1⟩ : ∃ cs, gmV m A n c = cs := ⟨_, rfl⟩
  simp only [hcs1] at HBE HL HP1 HBK1 ⊢
  have HC1 := Lib.hid hcs1
  clear hL hcs1 hblk1 hbel1
  have HR := Lib.hid (hr.below HBE.out)
  have OK := Lib.hid ok
  have HA := Lib.hid h
  have hsb : decide (0 < m.seq) = true := decide_eq_true hs
  have HBB := Lib.hid hb
  clear hr ok h hb hs
  go_enter Tryd.func44, Tryd.ntmps44
  go_upto_region 1 with fail
  refine wp_region_mix (fun w0 => Below (w.alloc (.cells cs1 45)).heap.size (w.alloc (.cells cs1 45)) w0) [(0, 0), (1, 2), (2, 0), (3, 0), (4, 0), (5, 0), (6, 2), (7, 2), (8, 0), (9, 0), (10, 0), (11, 0), (12, 0), (13, 0), (14, 0), (15, 2), (16, 0), (17, 0), (18, 0), (19, 0), (20, 0), (21, 2), (22, 0), (23, 0), (24, 0), (25, 0), (26, 0), (27, 2), (28, 0), (29, 0), (30, 0), (31, 0), (32, 0), (33, 2), (34, 0), (35, 0), (36, 0), (37, 0), (38, 2), (39, 0), (40, 0)] (by kernel_rfl) (by kernel_rfl) (below_drew1 _) ?_
  simp only [List.map_cons, List.map_nil]
  refine wpO_loadW (t := 45) (ad := ⟨w.heap.size, 0, none⟩) rfl rfl ?hw rfl rfl ((fun w0 hS => (HP1.out.all w0 hS).all)) ?_
  case hw => go_simp
  refine wpO_step2 rfl rfl (below_drew1 _) (fun K hK => ?_)
  go_simp
  refine (fgoes_any m A n c _ HA.out).mono ?_
  rintro e w2 ⟨rfl, hb2⟩
  have HV2 := Lib.hid (below_step (below_drew1 _) hb2)
  clear hb2
  refine hK _ _ ⟨HV2.out, ?_⟩
  clear hK K
  iterate 2 (refine wpO_step0 rfl rfl (fun K hK => ?_); go_simp; refine hK _ _ ?_; clear hK K)
  refine wpO_loadW (t := 45) (ad := ⟨w.heap.size, 0, none⟩) rfl rfl ?hw rfl rfl ((fun w0 hS => (HP1.out.all w0 hS).all)) ?_
  case hw => go_simp
  refine wpO_loadW (t := 45) (ad := ⟨w.heap.size, 0, none⟩) rfl rfl ?hw rfl rfl ((fun w0 hS => (HP1.out.all w0 hS).all)) ?_
  case hw => go_simp
  refine wpO_step2 rfl rfl (HV2.out) (fun K hK => ?_)
  go_simp
  refine (fcounts_any m A n c _ HA.out).mono ?_
  rintro e w3 ⟨rfl, hb3⟩
  have HV3 := Lib.hid (below_step HV2.out hb3)
  clear hb3
  refine hK _ _ ⟨HV3.out, ?_⟩
  clear hK K
  refine wpO_step2 rfl rfl (HV3.out) (fun K hK => ?_)
  go_simp
  refine (fsame_any m A n c A n c _ (HR.out.below HV3.out) (HR.out.below HV3.out) OK.out hn hn).mono ?_
  rintro e w4 ⟨rfl, hb4⟩
  have HV4 := Lib.hid (below_step HV3.out hb4)
  clear hb4
  refine hK _ _ ⟨HV4.out, ?_⟩
  clear hK K
  iterate 4 (refine wpO_step0 rfl rfl (fun K hK => ?_); go_simp; refine hK _ _ ?_; clear hK K)
  refine wpO_loadW (t := 33) (ad := ⟨w.heap.size, 4, none⟩) rfl rfl ?hw rfl rfl ((fun w0 hS => (HP1.out.all w0 hS).prev)) ?_
  case hw => go_simp
  iterate 1 (refine wpO_step0 rfl rfl (fun K hK => ?_); go_simp; refine hK _ _ ?_; clear hK K)
  refine wpO_loadW (t := 31) (ad := ⟨w.heap.size, 3, none⟩) rfl rfl ?hw rfl rfl ((fun w0 hS => (HP1.out.all w0 hS).epoch)) ?_
  case hw => go_simp
  refine wpO_step2 rfl rfl (HV4.out) (fun K hK => ?_)
  go_simp
  refine (fplace0 _).mono ?_
  rintro e w6 ⟨rfl, hb6⟩
  have HV6 := Lib.hid (below_step HV4.out hb6)
  clear hb6
  refine hK _ _ ⟨HV6.out, ?_⟩
  clear hK K
  iterate 4 (refine wpO_step0 rfl rfl (fun K hK => ?_); go_simp; refine hK _ _ ?_; clear hK K)
  refine wpO_loadW (t := 31) (ad := ⟨w.heap.size, 7, none⟩) rfl rfl ?hw rfl rfl ((fun w0 hS => (HP1.out.all w0 hS).done)) ?_
  case hw => go_simp
  refine wpO_step2 rfl rfl (HV6.out) (fun K hK => ?_)
  go_simp
  refine (fsmall0 _).mono ?_
  rintro e w7 ⟨rfl, rfl⟩
  refine hK _ _ ⟨HV6.out, ?_⟩
  clear hK K
  iterate 4 (refine wpO_step0 rfl rfl (fun K hK => ?_); go_simp; refine hK _ _ ?_; clear hK K)
  refine wpO_loadW (t := 31) (ad := ⟨w.heap.size, 9, none⟩) rfl rfl ?hw rfl rfl ((fun w0 hS => (HP1.out.all w0 hS).index)) ?_
  case hw => go_simp
  refine wpO_step2 rfl rfl (HV6.out) (fun K hK => ?_)
  go_simp
  refine (fsmall0 _).mono ?_
  rintro e w7 ⟨rfl, rfl⟩
  refine hK _ _ ⟨HV6.out, ?_⟩
  clear hK K
  iterate 4 (refine wpO_step0 rfl rfl (fun K hK => ?_); go_simp; refine hK _ _ ?_; clear hK K)
  refine wpO_loadW (t := 31) (ad := ⟨w.heap.size, 10, none⟩) rfl rfl ?hw rfl rfl ((fun w0 hS => (HP1.out.all w0 hS).stamp)) ?_
  case hw => go_simp
  refine wpO_step2 rfl rfl (HV6.out) (fun K hK => ?_)
  go_simp
  refine (fsmall0 _).mono ?_
  rintro e w7 ⟨rfl, rfl⟩
  refine hK _ _ ⟨HV6.out, ?_⟩
  clear hK K
  iterate 3 (refine wpO_step0 rfl rfl (fun K hK => ?_); go_simp; refine hK _ _ ?_; clear hK K)
  refine wpO_loadW (t := 45) (ad := ⟨w.heap.size, 0, none⟩) rfl rfl ?hw rfl rfl ((fun w0 hS => (HP1.out.all w0 hS).all)) ?_
  case hw => go_simp
  refine wpO_step2 rfl rfl (HV6.out) (fun K hK => ?_)
  go_simp
  refine (fentries0 m A n c _).mono ?_
  rintro e w8 ⟨rfl, hb8⟩
  have HV8 := Lib.hid (below_step HV6.out hb8)
  clear hb8
  refine hK _ _ ⟨HV8.out, ?_⟩
  clear hK K
  iterate 2 (refine wpO_step0 rfl rfl (fun K hK => ?_); go_simp; refine hK _ _ ?_; clear hK K)
  refine wpO_nil ?_
  have HKD := Lib.hid (HP1.out.all _ HV8.out).kind
  rw [HA.out.kd] at HKD
  have HL8 := Lib.hid (HP1.out.all _ HV8.out)
  go_wp2_with (first | ((with_reducible show wpList _ _ _ (Oper.mk _ (Op.load _ _) _ _ _ _ :: _) _ _); refine wpList_load_g (HKD.out) _ rfl rfl (by go_simp) ?_) | ((with_reducible show wpList _ _ _ (Oper.mk _ (Op.load _ _) _ _ _ _ :: _) _ _); refine wpList_load_g (HL8.out.seq) _ rfl rfl (by go_simp) ?_) | ((with_reducible show wpList _ _ _ (Oper.mk _ (Op.load _ _) _ _ _ _ :: _) _ _); refine wpList_load_g (HL8.out.bat) _ rfl rfl (by go_simp) ?_))
  refine (rcheckb_any A n c m.t _ (HL.out.below HV8.out) (HR.out.below HV8.out) OK.out hn).mono ?_
  rw [show batE m.t = 0 by unfold batE; rw [HBB.out]; rfl]
  rintro e w9 ⟨rfl, hb9⟩
  have HV9 := Lib.hid (below_step HV8.out hb9)
  clear hb9
  go_wp2
  go_ret
  exact ⟨rfl, below_step HBE.out HV9.out⟩
end Go.Proofs.YtifejiclenpfoaaDoor

/- Layer 11 (route): lay, and the closures of Encode and EncodeBatch. -/
namespace Go.Proofs.YtifejiclenpfoaaDoor
open Go.RowKit
set_option linter.unusedVariables false
set_option linter.unusedSimpArgs false
set_option maxRecDepth 4000
/-- What stays where bytes have been put behind a slice of one's own. -/
structure LayK (w w' : World) (A : Option Addr) : Prop where
  bel : ∀ w0, Below w0.heap.size w0 w → (∀ ad, A = some ad → w0.heap.size ≤ ad.block) → Below w0.heap.size w0 w'
  blk : ∀ g o, w.heap[g]? = some o → (∀ ad, A = some ad → ad.block ≠ g) → w'.heap[g]? = some o
  size : w.heap.size ≤ w'.heap.size
theorem LayK.of {w w1 w2 : World} {A : Option Addr} {n c : Nat} (hb : Below w.heap.size w w1) (hg : w1.grownBy w2 ((Value.slice A n c).ownBlock)) : LayK w w2 A :=
  ⟨fun w0 h ha => below_own (below_step h hb) hg ha, fun g o h hne => blk_ownN (blk_below h hb) hg hne, Nat.le_trans hb.size hg.size⟩
theorem rb_blk {w : World} {g : Nat} {t : TypeId} {xs : List Int} (h : w.heap[g]? = some (.cells (nums .u8 xs).toArray t (0, 0))) (hn : xs.length ≤ 1000) (hx : Bytes xs) : RB w (some ⟨g, 0, none⟩) xs.length xs.length xs :=
  ⟨⟨by rw [nums_length]; omega, Nat.le_refl _, by omega, fun _ => ⟨_, rfl, fun j v hj => by
    rw [add_plain, blk_cell h]
    simpa using hj⟩⟩, hx⟩
theorem encPE_len {p : Pfx} (hp : B16 p.l) : (encPE p).length ≤ 18 := by
  unfold encPE
  split
  · rename_i h
    obtain ⟨b, hb, _, h2⟩ := right_b h
    have h1 := fullB_le h2
    rw [encP_len hp h, hb]
    omega
  · simp
set_option maxHeartbeats 1000000 in
theorem lay_any (p : Pfx) (A : Option Addr) (n c : Nat) (xs : List Int) (base : Nat) (w : World) (hL : Laid w) (hp : B16 p.l) (ho : OB w base A n c xs) (hbs : base ≤ w.heap.size) (hn : n ≤ 100000) :
    Calls Tryd.prog 102 #[.slice A n c, .agg (pfxV p.v p.l p.b)] w fun e w' => ∃ A' n' c', e = .returned (.slice A' n' c') ∧ OB w' base A' n' c' (xs ++ encPE p) ∧ n' ≤ n + 18 ∧ (A' = A ∨ ∀ ad, A' = some ad → w.heap.size ≤ ad.block) ∧ LayK w w' A := by
  have hblk1 := blk_new w (.cells (pfxV p.v p.l p.b) 102)
  have hbel1 : Below w.heap.size w (w.alloc (.cells (pfxV p.v p.l p.b) 102)) := below_alloc (Below.refl _ _) _
  have HP1 := Lib.hid (pfx_at hp hblk1)
  have HBK1 := Lib.hid hblk1
  have HBE := Lib.hid hbel1
  have HL := Lib.hid (hL.below HBE.out)
  obtain ⟨cs1, hcs1⟩ : ∃ cs, pfxV p.v p.l p.b = cs := ⟨_, rfl⟩
  simp only [hcs1] at HBE HL HP1 HBK1 ⊢
  have HC1 := Lib.hid hcs1
  clear hL hcs1 hblk1 hbel1
  have HO := Lib.hid (ho.below HBE.out)
  clear ho
  go_enter Tryd.func102, Tryd.ntmps102
  go_wp2_with (first | ((with_reducible show wpList _ _ _ (Oper.mk _ (Op.load _ _) _ _ _ _ :: _) _ _); refine wpList_load_g ((HP1.out.all _ (Below.refl _ _)).2.2.2.2) _ rfl rfl (by go_simp) ?_))
  refine (encode_any p _ HL.out hp).mono ?_
  rintro e w2 ⟨A2, n2, c2, rfl, hO2, hb2⟩
  have hn2 : n2 ≤ 18 := by rw [← hO2.len]; exact encPE_len hp
  have HO2 := Lib.hid hO2.reads
  have HB2 := Lib.hid (below_step HBE.out hb2)
  have HO3 := Lib.hid (HO.out.below hb2)
  have hs2 : base ≤ w2.heap.size := Nat.le_trans hbs HB2.out.size
  clear hO2 hb2 HO
  go_wp2_with (first | (at_builtin; refine wpList_append_bytes rfl (.tmp 12) (.tmp 13) rfl rfl rfl HO3.out HO2.out hs2 (by omega) ?_; intro A3 c3 w3 h1 h2 h3; have H3 := Lib.hid (And.intro h1 (And.intro h2 h3)); clear h1 h2 h3))
  go_ret
  refine ⟨A3, n + n2, c3, rfl, H3.out.1, by omega, ?_, LayK.of HB2.out H3.out.2.1⟩
  rcases H3.out.2.2 with h | h
  · exact .inl h
  · exact .inr (fun ad e => Nat.le_trans HB2.out.size (h ad e))
theorem LayK.step {w w1 w2 : World} {A : Option Addr} (h : LayK w w1 A) (hb : Below w1.heap.size w1 w2) : LayK w w2 A :=
  ⟨fun w0 h0 ha => below_step (h.bel w0 h0 ha) hb, fun g o hg hne => blk_below (h.blk g o hg hne) hb, Nat.le_trans h.size hb.size⟩
theorem LayK.pre {w w1 w2 : World} {A : Option Addr} (hb : Below w.heap.size w w1) (h : LayK w1 w2 A) : LayK w w2 A :=
  ⟨fun w0 h0 ha => h.bel w0 (below_step h0 hb) ha, fun g o hg hne => h.blk g o (blk_below hg hb) hne, Nat.le_trans hb.size h.size⟩
theorem LayK.app {w w1 w2 : World} {A A2 : Option Addr} {n c : Nat} (h : LayK w w1 A) (ha : A2 = A ∨ ∀ ad, A2 = some ad → w.heap.size ≤ ad.block) (hg : w1.grownBy w2 ((Value.slice A2 n c).ownBlock)) : LayK w w2 A := by
  refine ⟨fun w0 h0 hA => below_own (h.bel w0 h0 hA) hg (fun ad e => ?_), fun g o hgo hne => blk_ownN (h.blk g o hgo hne) hg (fun ad e => ?_), Nat.le_trans h.size hg.size⟩
  · rcases ha with k | k
    · exact hA ad (k ▸ e)
    · exact Nat.le_trans h0.size (k ad e)
  · rcases ha with k | k
    · exact hne ad (k ▸ e)
    · have h1 := k ad e
      have h2 := blk_lt hgo
      omega
theorem LayK.refl (w : World) (A : Option Addr) : LayK w w A := ⟨fun _ h _ => h, fun _ _ h _ => h, Nat.le_refl _⟩
theorem u8w (y : Int) : IntKind.u8.wrap y = y % 256 := by simp [IntKind.wrap, IntKind.bits, IntKind.signed]
def goneB (g : Bool) : Int := if g then 1 else 0
def encUp (x : Upd) : List Int := encPE x.p ++ [x.s % 256, goneB x.g, x.f % 256, x.h % 256]
set_option maxHeartbeats 4000000 in
theorem enc2_any (x : Upd) (A : Option Addr) (n c : Nat) (xs : List Int) (base : Nat) (w : World) (hL : Laid w) (hx : x.fits) (ho : OB w base A n c xs) (hbs : base ≤ w.heap.size) (hn : n ≤ 100000) :
    Calls Tryd.prog 101 #[.slice A n c, .agg (updV x)] w fun e w' => ∃ A' n' c', e = .returned (.slice A' n' c') ∧ OB w' base A' n' c' (xs ++ encUp x) ∧ n' ≤ n + 22 ∧ (A' = A ∨ ∀ ad, A' = some ad → w.heap.size ≤ ad.block) ∧ LayK w w' A := by
  have HLT := Lib.hid ho.lt
  have hblk1 := blk_new w (.cells (updV x) 104)
  have hbel1 : Below w.heap.size w (w.alloc (.cells (updV x) 104)) := below_alloc (Below.refl _ _) _
  have HP1 := Lib.hid (upd_at hx hblk1)
  have HBK1 := Lib.hid hblk1
  have HBE := Lib.hid hbel1
  have HL := Lib.hid (hL.below HBE.out)
  obtain ⟨cs1, hcs1⟩ : ∃ cs, updV x = cs := ⟨_, rfl⟩
  simp only [hcs1] at HBE HL HP1 HBK1 ⊢
  have HC1 := Lib.hid hcs1
  clear hL hcs1 hblk1 hbel1
  have HO := Lib.hid ((ho.below HBE.out).below (below_drew1 _))
  have HBD := Lib.hid (below_step HBE.out (below_drew1 _))
  have HS := Lib.hid (show ((w.alloc (.cells cs1 104)).drew).heap[w.heap.size]? = some (.cells (updV x) 104 (0, 0)) by rw [HC1.out]; exact HBK1.out)
  have hsz : ((w.alloc (.cells cs1 104)).drew).heap.size = w.heap.size + 1 := by simp
  clear ho
  go_enter Tryd.func101, Tryd.ntmps101
  cases hg : x.g with
  | true =>
    have HGB : Hid (goneB x.g = 1) := Lib.hid (by rw [hg]; rfl)
    have HM : Hid (Bytes [x.s % 256, 1, x.f % 256, x.h % 256]) := Lib.hid (fun y hy => by
      simp only [List.mem_cons, List.not_mem_nil, or_false] at hy
      rcases hy with rfl | rfl | rfl | rfl <;> omega)
    have hgl := (HP1.out.all _ (Below.refl _ _)).gon
    rw [hg] at hgl
    clear hg
    go_upto_region 4 with (first | ((with_reducible show wpList _ _ _ (Oper.mk _ (Op.load _ _) _ _ _ _ :: _) _ _); refine wpList_load_g hgl _ rfl rfl (by go_simp) ?_))
    clear hgl
    refine wp_region_fork ((fun w0 => w0.heap[w.heap.size]? = some (.cells (updV x) 104 (0, 0)))) (OrdT.fork [0, 1, 2, 4, 5, 6, 7, 8, 9, 10, 11, 12, 13] 3 14 (OrdT.lin [14, 15, 16]) (OrdT.lin [3, 15, 16])) [(0, 0), (1, 0), (2, 0), (3, 2), (4, 0), (5, 0), (6, 0), (7, 0), (8, 0), (9, 0), (10, 0), (11, 0), (12, 0), (13, 0), (14, 2), (15, 2), (16, 0)] (by kernel_rfl) (by kernel_rfl) (HS.out) ?_
    simp only [wpF]
    iterate 2 (refine wpO_step0 rfl rfl (fun K hK => ?_); go_simp; refine hK _ _ ?_; clear hK K)
    refine wpO_loadW (t := 102) (ad := ⟨w.heap.size, 0, none⟩) rfl rfl ?hw rfl rfl ((fun w0 hS => ((upd_at hx hS).all _ (Below.refl _ _)).pfx)) ?_
    case hw => go_simp
    iterate 1 (refine wpO_step0 rfl rfl (fun K hK => ?_); go_simp; refine hK _ _ ?_; clear hK K)
    refine wpO_loadW (t := 3) (ad := ⟨w.heap.size, 18, none⟩) rfl rfl ?hw rfl rfl ((fun w0 hS => ((upd_at hx hS).all _ (Below.refl _ _)).src)) ?_
    case hw => go_simp
    iterate 3 (refine wpO_step0 rfl rfl (fun K hK => ?_); go_simp; refine hK _ _ ?_; clear hK K)
    refine wpO_loadW (t := 3) (ad := ⟨w.heap.size, 20, none⟩) rfl rfl ?hw rfl rfl ((fun w0 hS => ((upd_at hx hS).all _ (Below.refl _ _)).prf)) ?_
    case hw => go_simp
    iterate 2 (refine wpO_step0 rfl rfl (fun K hK => ?_); go_simp; refine hK _ _ ?_; clear hK K)
    refine wpO_loadW (t := 3) (ad := ⟨w.heap.size, 21, none⟩) rfl rfl ?hw rfl rfl ((fun w0 hS => ((upd_at hx hS).all _ (Below.refl _ _)).hop)) ?_
    case hw => go_simp
    iterate 1 (refine wpO_step0 rfl rfl (fun K hK => ?_); go_simp; refine hK _ _ ?_; clear hK K)
    refine wpO_nil ⟨?_, ?_⟩
    · refine wpO_step2 rfl rfl (HS.out) (fun K hK => ?_)
      go_simp
      refine (lay_any x.p A n c xs base _ (HL.out.below (below_drew1 _)) hx HO.out (by omega) hn).mono ?_
      rintro e w2 ⟨A2, n2, c2, rfl, hO2, hn2, hA2, hK2⟩
      have HO2 := Lib.hid hO2
      have HA2 : Hid (A2 = A ∨ ∀ ad, A2 = some ad → w.heap.size + 1 ≤ ad.block) := Lib.hid (hA2.imp id (fun k ad e => Nat.le_trans (by omega) (k ad e)))
      have HK2 := Lib.hid (LayK.pre HBD.out hK2)
      have HS2 := Lib.hid (hK2.blk _ _ HS.out (fun ad e => by have := HLT.out ad e; omega))
      try replace HLB := Lib.hid (hK2.blk _ _ HLB.out (fun ad e => by have := HLT.out ad e; omega))
      have hz2 := hK2.size
      clear hO2 hA2 hK2
      refine hK _ _ ⟨HS2.out, ?_⟩
      clear hK K
      refine wpO_nil ?_
      rw [u8w x.s, u8w x.f, u8w x.h]
      refine wpO_step2 rfl rfl (HS2.out) (fun K hK => ?_)
      go_simp
      obtain ⟨w3, hw9⟩ : ∃ w9, World.alloc w2 (.cells (nums .u8 [x.s % 256, 1, x.f % 256, x.h % 256]).toArray 5) = w9 := ⟨_, rfl⟩
      have HLB := Lib.hid (show (World.heap w3)[(World.heap w2).size]? = some (.cells (nums .u8 [x.s % 256, 1, x.f % 256, x.h % 256]).toArray 5 (0, 0)) from hw9 ▸ blk_new _ _)
      have ha9 : Below (World.heap w2).size w2 w3 := hw9 ▸ below_alloc (Below.refl _ _) _
      have HS3 := Lib.hid (blk_below HS2.out ha9)
      have HB9 := Lib.hid ha9
      refine kw_cast hw9 ?_
      have hz9 := ha9.size
      clear hw9 ha9
      refine hK _ _ ⟨HS3.out, ?_⟩
      clear hK K
      have HO3 := Lib.hid (HO2.out.below HB9.out)
      have HK3 := Lib.hid (LayK.step HK2.out HB9.out)
      refine wpO_step2 rfl rfl (HS3.out) (fun K hK => ?_)
      rw [if_pos (show Region.wanted _ _ = true from rfl)]
      refine oper_append_bytes (.tmp 11) (.tmp 22) rfl rfl rfl HO3.out (rb_blk HLB.out (by simp) HM.out) (by omega) (by simp; omega) ?_
      intro A5 c5 w5 h1 h2 h3
      have HS5 := Lib.hid (blk_ownN HS3.out h2 (fun ad e => by
        rcases HA2.out with k | k
        · have := HLT.out ad (k ▸ e); omega
        · have := k ad e; omega))
      have HK5 := Lib.hid (LayK.app HK3.out (HA2.out.imp id (fun k ad e => Nat.le_of_succ_le (k ad e))) h2)
      have H5 := Lib.hid (And.intro h1 h3)
      clear h1 h2 h3
      refine hK _ _ ⟨HS5.out, ?_⟩
      clear hK K
      iterate 1 (refine wpO_step0 rfl rfl (fun K hK => ?_); go_simp; refine hK _ _ ?_; clear hK K)
      refine wpO_nil ?_
      go_wp2_with fail
      go_ret
      refine ⟨A5, _, c5, rfl, by unfold encUp; rw [show goneB x.g = 1 from HGB.out]; rw [← List.append_assoc]; exact H5.out.1, by simp; omega, ?_, HK5.out⟩
      rcases H5.out.2 with h | h
      · rcases HA2.out with k | k
        · exact .inl (h.trans k)
        · exact .inr (fun ad e => by have := k ad (h ▸ e); omega)
      · exact .inr (fun ad e => by have := h ad e; omega)
    · rw [u8w x.s, u8w x.f, u8w x.h]
      refine wpO_step2 rfl rfl (HS.out) (fun K hK => ?_)
      go_simp
      obtain ⟨w2, hw9⟩ : ∃ w9, World.alloc (w.alloc (.cells cs1 104)).drew (.cells (nums .u8 [x.s % 256, 1, x.f % 256, x.h % 256]).toArray 5) = w9 := ⟨_, rfl⟩
      have HLB := Lib.hid (show (World.heap w2)[(World.heap (w.alloc (.cells cs1 104)).drew).size]? = some (.cells (nums .u8 [x.s % 256, 1, x.f % 256, x.h % 256]).toArray 5 (0, 0)) from hw9 ▸ blk_new _ _)
      have ha9 : Below (World.heap (w.alloc (.cells cs1 104)).drew).size (w.alloc (.cells cs1 104)).drew w2 := hw9 ▸ below_alloc (Below.refl _ _) _
      have HS2 := Lib.hid (blk_below HS.out ha9)
      have HB9 := Lib.hid ha9
      refine kw_cast hw9 ?_
      have hz9 := ha9.size
      clear hw9 ha9
      refine hK _ _ ⟨HS2.out, ?_⟩
      clear hK K
      refine wpO_nil ?_
      rw [hsz] at HLB
      have HO3 := Lib.hid (HO.out.below HB9.out)
      have HB2 := Lib.hid (below_step HBD.out HB9.out)
      have HL2 := Lib.hid ((HL.out.below (below_drew1 _)).below HB9.out)
      refine wpO_step2 rfl rfl (HS2.out) (fun K hK => ?_)
      go_simp
      refine (lay_any x.p A n c xs base _ (HL2.out) hx HO3.out (by omega) hn).mono ?_
      rintro e w3 ⟨A2, n2, c2, rfl, hO2, hn2, hA2, hK2⟩
      have HO2 := Lib.hid hO2
      have HA2 : Hid (A2 = A ∨ ∀ ad, A2 = some ad → w.heap.size + 1 ≤ ad.block) := Lib.hid (hA2.imp id (fun k ad e => Nat.le_trans (by omega) (k ad e)))
      have HK3 := Lib.hid (LayK.pre HB2.out hK2)
      have HS3 := Lib.hid (hK2.blk _ _ HS2.out (fun ad e => by have := HLT.out ad e; omega))
      try replace HLB := Lib.hid (hK2.blk _ _ HLB.out (fun ad e => by have := HLT.out ad e; omega))
      have hz2 := hK2.size
      clear hO2 hA2 hK2
      refine hK _ _ ⟨HS3.out, ?_⟩
      clear hK K
      refine wpO_step2 rfl rfl (HS3.out) (fun K hK => ?_)
      rw [if_pos (show Region.wanted _ _ = true from rfl)]
      refine oper_append_bytes (.tmp 11) (.tmp 22) rfl rfl rfl HO2.out (rb_blk HLB.out (by simp) HM.out) (by omega) (by simp; omega) ?_
      intro A5 c5 w5 h1 h2 h3
      have HS5 := Lib.hid (blk_ownN HS3.out h2 (fun ad e => by
        rcases HA2.out with k | k
        · have := HLT.out ad (k ▸ e); omega
        · have := k ad e; omega))
      have HK5 := Lib.hid (LayK.app HK3.out (HA2.out.imp id (fun k ad e => Nat.le_of_succ_le (k ad e))) h2)
      have H5 := Lib.hid (And.intro h1 h3)
      clear h1 h2 h3
      refine hK _ _ ⟨HS5.out, ?_⟩
      clear hK K
      iterate 1 (refine wpO_step0 rfl rfl (fun K hK => ?_); go_simp; refine hK _ _ ?_; clear hK K)
      refine wpO_nil ?_
      go_wp2_with fail
      go_ret
      refine ⟨A5, _, c5, rfl, by unfold encUp; rw [show goneB x.g = 1 from HGB.out]; rw [← List.append_assoc]; exact H5.out.1, by simp; omega, ?_, HK5.out⟩
      rcases H5.out.2 with h | h
      · rcases HA2.out with k | k
        · exact .inl (h.trans k)
        · exact .inr (fun ad e => by have := k ad (h ▸ e); omega)
      · exact .inr (fun ad e => by have := h ad e; omega)
  | false =>
    have HGB : Hid (goneB x.g = 0) := Lib.hid (by rw [hg]; rfl)
    have HM : Hid (Bytes [x.s % 256, 0, x.f % 256, x.h % 256]) := Lib.hid (fun y hy => by
      simp only [List.mem_cons, List.not_mem_nil, or_false] at hy
      rcases hy with rfl | rfl | rfl | rfl <;> omega)
    have hgl := (HP1.out.all _ (Below.refl _ _)).gon
    rw [hg] at hgl
    clear hg
    go_upto_region 4 with (first | ((with_reducible show wpList _ _ _ (Oper.mk _ (Op.load _ _) _ _ _ _ :: _) _ _); refine wpList_load_g hgl _ rfl rfl (by go_simp) ?_))
    clear hgl
    refine wp_region_fork ((fun w0 => w0.heap[w.heap.size]? = some (.cells (updV x) 104 (0, 0)))) (OrdT.fork [0, 1, 2, 4, 5, 6, 7, 8, 9, 10, 11, 12, 13] 3 14 (OrdT.lin [14, 15, 16]) (OrdT.lin [3, 15, 16])) [(0, 0), (1, 0), (2, 0), (3, 2), (4, 0), (5, 0), (6, 0), (7, 0), (8, 0), (9, 0), (10, 0), (11, 0), (12, 0), (13, 0), (14, 2), (15, 2), (16, 0)] (by kernel_rfl) (by kernel_rfl) (HS.out) ?_
    simp only [wpF]
    iterate 2 (refine wpO_step0 rfl rfl (fun K hK => ?_); go_simp; refine hK _ _ ?_; clear hK K)
    refine wpO_loadW (t := 102) (ad := ⟨w.heap.size, 0, none⟩) rfl rfl ?hw rfl rfl ((fun w0 hS => ((upd_at hx hS).all _ (Below.refl _ _)).pfx)) ?_
    case hw => go_simp
    iterate 1 (refine wpO_step0 rfl rfl (fun K hK => ?_); go_simp; refine hK _ _ ?_; clear hK K)
    refine wpO_loadW (t := 3) (ad := ⟨w.heap.size, 18, none⟩) rfl rfl ?hw rfl rfl ((fun w0 hS => ((upd_at hx hS).all _ (Below.refl _ _)).src)) ?_
    case hw => go_simp
    iterate 3 (refine wpO_step0 rfl rfl (fun K hK => ?_); go_simp; refine hK _ _ ?_; clear hK K)
    refine wpO_loadW (t := 3) (ad := ⟨w.heap.size, 20, none⟩) rfl rfl ?hw rfl rfl ((fun w0 hS => ((upd_at hx hS).all _ (Below.refl _ _)).prf)) ?_
    case hw => go_simp
    iterate 2 (refine wpO_step0 rfl rfl (fun K hK => ?_); go_simp; refine hK _ _ ?_; clear hK K)
    refine wpO_loadW (t := 3) (ad := ⟨w.heap.size, 21, none⟩) rfl rfl ?hw rfl rfl ((fun w0 hS => ((upd_at hx hS).all _ (Below.refl _ _)).hop)) ?_
    case hw => go_simp
    iterate 1 (refine wpO_step0 rfl rfl (fun K hK => ?_); go_simp; refine hK _ _ ?_; clear hK K)
    refine wpO_nil ⟨?_, ?_⟩
    · refine wpO_step2 rfl rfl (HS.out) (fun K hK => ?_)
      go_simp
      refine (lay_any x.p A n c xs base _ (HL.out.below (below_drew1 _)) hx HO.out (by omega) hn).mono ?_
      rintro e w2 ⟨A2, n2, c2, rfl, hO2, hn2, hA2, hK2⟩
      have HO2 := Lib.hid hO2
      have HA2 : Hid (A2 = A ∨ ∀ ad, A2 = some ad → w.heap.size + 1 ≤ ad.block) := Lib.hid (hA2.imp id (fun k ad e => Nat.le_trans (by omega) (k ad e)))
      have HK2 := Lib.hid (LayK.pre HBD.out hK2)
      have HS2 := Lib.hid (hK2.blk _ _ HS.out (fun ad e => by have := HLT.out ad e; omega))
      try replace HLB := Lib.hid (hK2.blk _ _ HLB.out (fun ad e => by have := HLT.out ad e; omega))
      have hz2 := hK2.size
      clear hO2 hA2 hK2
      refine hK _ _ ⟨HS2.out, ?_⟩
      clear hK K
      refine wpO_nil ?_
      rw [u8w x.s, u8w x.f, u8w x.h]
      refine wpO_step2 rfl rfl (HS2.out) (fun K hK => ?_)
      go_simp
      obtain ⟨w3, hw9⟩ : ∃ w9, World.alloc w2 (.cells (nums .u8 [x.s % 256, 0, x.f % 256, x.h % 256]).toArray 5) = w9 := ⟨_, rfl⟩
      have HLB := Lib.hid (show (World.heap w3)[(World.heap w2).size]? = some (.cells (nums .u8 [x.s % 256, 0, x.f % 256, x.h % 256]).toArray 5 (0, 0)) from hw9 ▸ blk_new _ _)
      have ha9 : Below (World.heap w2).size w2 w3 := hw9 ▸ below_alloc (Below.refl _ _) _
      have HS3 := Lib.hid (blk_below HS2.out ha9)
      have HB9 := Lib.hid ha9
      refine kw_cast hw9 ?_
      have hz9 := ha9.size
      clear hw9 ha9
      refine hK _ _ ⟨HS3.out, ?_⟩
      clear hK K
      have HO3 := Lib.hid (HO2.out.below HB9.out)
      have HK3 := Lib.hid (LayK.step HK2.out HB9.out)
      refine wpO_step2 rfl rfl (HS3.out) (fun K hK => ?_)
      rw [if_pos (show Region.wanted _ _ = true from rfl)]
      refine oper_append_bytes (.tmp 11) (.tmp 22) rfl rfl rfl HO3.out (rb_blk HLB.out (by simp) HM.out) (by omega) (by simp; omega) ?_
      intro A5 c5 w5 h1 h2 h3
      have HS5 := Lib.hid (blk_ownN HS3.out h2 (fun ad e => by
        rcases HA2.out with k | k
        · have := HLT.out ad (k ▸ e); omega
        · have := k ad e; omega))
      have HK5 := Lib.hid (LayK.app HK3.out (HA2.out.imp id (fun k ad e => Nat.le_of_succ_le (k ad e))) h2)
      have H5 := Lib.hid (And.intro h1 h3)
      clear h1 h2 h3
      refine hK _ _ ⟨HS5.out, ?_⟩
      clear hK K
      iterate 1 (refine wpO_step0 rfl rfl (fun K hK => ?_); go_simp; refine hK _ _ ?_; clear hK K)
      refine wpO_nil ?_
      go_wp2_with fail
      go_ret
      refine ⟨A5, _, c5, rfl, by unfold encUp; rw [show goneB x.g = 0 from HGB.out]; rw [← List.append_assoc]; exact H5.out.1, by simp; omega, ?_, HK5.out⟩
      rcases H5.out.2 with h | h
      · rcases HA2.out with k | k
        · exact .inl (h.trans k)
        · exact .inr (fun ad e => by have := k ad (h ▸ e); omega)
      · exact .inr (fun ad e => by have := h ad e; omega)
    · rw [u8w x.s, u8w x.f, u8w x.h]
      refine wpO_step2 rfl rfl (HS.out) (fun K hK => ?_)
      go_simp
      obtain ⟨w2, hw9⟩ : ∃ w9, World.alloc (w.alloc (.cells cs1 104)).drew (.cells (nums .u8 [x.s % 256, 0, x.f % 256, x.h % 256]).toArray 5) = w9 := ⟨_, rfl⟩
      have HLB := Lib.hid (show (World.heap w2)[(World.heap (w.alloc (.cells cs1 104)).drew).size]? = some (.cells (nums .u8 [x.s % 256, 0, x.f % 256, x.h % 256]).toArray 5 (0, 0)) from hw9 ▸ blk_new _ _)
      have ha9 : Below (World.heap (w.alloc (.cells cs1 104)).drew).size (w.alloc (.cells cs1 104)).drew w2 := hw9 ▸ below_alloc (Below.refl _ _) _
      have HS2 := Lib.hid (blk_below HS.out ha9)
      have HB9 := Lib.hid ha9
      refine kw_cast hw9 ?_
      have hz9 := ha9.size
      clear hw9 ha9
      refine hK _ _ ⟨HS2.out, ?_⟩
      clear hK K
      refine wpO_nil ?_
      rw [hsz] at HLB
      have HO3 := Lib.hid (HO.out.below HB9.out)
      have HB2 := Lib.hid (below_step HBD.out HB9.out)
      have HL2 := Lib.hid ((HL.out.below (below_drew1 _)).below HB9.out)
      refine wpO_step2 rfl rfl (HS2.out) (fun K hK => ?_)
      go_simp
      refine (lay_any x.p A n c xs base _ (HL2.out) hx HO3.out (by omega) hn).mono ?_
      rintro e w3 ⟨A2, n2, c2, rfl, hO2, hn2, hA2, hK2⟩
      have HO2 := Lib.hid hO2
      have HA2 : Hid (A2 = A ∨ ∀ ad, A2 = some ad → w.heap.size + 1 ≤ ad.block) := Lib.hid (hA2.imp id (fun k ad e => Nat.le_trans (by omega) (k ad e)))
      have HK3 := Lib.hid (LayK.pre HB2.out hK2)
      have HS3 := Lib.hid (hK2.blk _ _ HS2.out (fun ad e => by have := HLT.out ad e; omega))
      try replace HLB := Lib.hid (hK2.blk _ _ HLB.out (fun ad e => by have := HLT.out ad e; omega))
      have hz2 := hK2.size
      clear hO2 hA2 hK2
      refine hK _ _ ⟨HS3.out, ?_⟩
      clear hK K
      refine wpO_step2 rfl rfl (HS3.out) (fun K hK => ?_)
      rw [if_pos (show Region.wanted _ _ = true from rfl)]
      refine oper_append_bytes (.tmp 11) (.tmp 22) rfl rfl rfl HO2.out (rb_blk HLB.out (by simp) HM.out) (by omega) (by simp; omega) ?_
      intro A5 c5 w5 h1 h2 h3
      have HS5 := Lib.hid (blk_ownN HS3.out h2 (fun ad e => by
        rcases HA2.out with k | k
        · have := HLT.out ad (k ▸ e); omega
        · have := k ad e; omega))
      have HK5 := Lib.hid (LayK.app HK3.out (HA2.out.imp id (fun k ad e => Nat.le_of_succ_le (k ad e))) h2)
      have H5 := Lib.hid (And.intro h1 h3)
      clear h1 h2 h3
      refine hK _ _ ⟨HS5.out, ?_⟩
      clear hK K
      iterate 1 (refine wpO_step0 rfl rfl (fun K hK => ?_); go_simp; refine hK _ _ ?_; clear hK K)
      refine wpO_nil ?_
      go_wp2_with fail
      go_ret
      refine ⟨A5, _, c5, rfl, by unfold encUp; rw [show goneB x.g = 0 from HGB.out]; rw [← List.append_assoc]; exact H5.out.1, by simp; omega, ?_, HK5.out⟩
      rcases H5.out.2 with h | h
      · rcases HA2.out with k | k
        · exact .inl (h.trans k)
        · exact .inr (fun ad e => by have := k ad (h ▸ e); omega)
      · exact .inr (fun ad e => by have := h ad e; omega)
end Go.Proofs.YtifejiclenpfoaaDoor

/- Layer 11 (route): list, Encode, EncodeBatch. -/
namespace Go.Proofs.YtifejiclenpfoaaDoor
open Go.RowKit
set_option linter.unusedVariables false
set_option linter.unusedSimpArgs false
set_option maxRecDepth 4000
set_option maxHeartbeats 2000000 in
theorem listu_any (A : Option Addr) (n c : Nat) (l : List Upd) (w : World) (hL : Laid w) (hr : RS updK w A n c l) (ok : ∀ a ∈ l, a.ok) (hn : n ≤ 200) :
    Calls Tryd.prog 100 #[.slice A n c, .func (Fn.func 101) #[] #[]] w fun e w' => ∃ A' n' c', e = .returned (.slice A' n' c') ∧ OB w' w.heap.size A' n' c' ((n : Int) :: l.flatMap encUp) ∧ n' ≤ 5000 ∧ 1 ≤ n' ∧ Below w.heap.size w w' := by
  have HR := Lib.hid hr
  have OK := Lib.hid ok
  have HL := Lib.hid hL
  have hw8 : IntKind.u8.wrap (n : Int) = n := by rw [u8w]; omega
  have HO0 := Lib.hid (OB.one w (n : Int) (by omega) w.heap.size (Nat.le_refl _))
  clear hr ok hL
  go_enter Tryd.func100, Tryd.ntmps100
  go_wp2_with fail
  go_loopw [5, 14] (fun s5 s14 wr => ∃ (i : Nat) (A1 : Option Addr) (n1 c1 : Nat), s14 = .int .i64 i ∧ s5 = .slice A1 n1 c1 ∧ Hid (i ≤ n ∧ n1 ≤ 1 + 22 * i ∧ 1 ≤ n1 ∧ OB wr w.heap.size A1 n1 c1 ((n : Int) :: (l.take i).flatMap encUp) ∧ Below w.heap.size w wr)) (fun _ y _ => n - (intOf y).toNat)
  case atStart => exact ⟨0, _, 1, 1, rfl, rfl, Nat.zero_le _, by omega, by omega, HO0.out, below_alloc (Below.refl _ _) _⟩
  case round =>
    obtain ⟨i, A1, n1, c1, rfl, rfl, HI⟩ := hrel
    obtain ⟨wk, rfl⟩ : ∃ wk, wk = wr := ⟨wr, rfl⟩
    have hn1 := HI.out.2.1
    by_cases hlt : i < n
    · have hlt' : (i : Int) < n := by omega
      obtain ⟨b, o, rfl, hc⟩ := RS.at_ HR.out (by omega)
      have hil : i < l.length := by rw [HR.out.len]; exact hlt
      have HXO := Lib.hid (OK.out _ (getD_mem (z := (updK).z) hil))
      have hla := Shape.ld updK wk b _ _ (RS.fits_at HR.out hlt) ((hc i hlt).below HI.out.2.2.2.2)
      have hla : (Instr.loadAt 104 (.pointer (some ⟨b, o + i * 22, none⟩))).run Tryd.prog wk = .ok (.agg (updV (l.getD i (updK).z))) wk := hla
      have HTS : Hid ((l.take (i + 1)).flatMap encUp = (l.take i).flatMap encUp ++ encUp (l.getD i (updK).z)) := Lib.hid (by rw [take_getD (updK).z hil]; simp)
      obtain ⟨x, hx⟩ : ∃ x, l.getD i (updK).z = x := ⟨_, rfl⟩
      rw [hx] at hla HXO HTS
      have HB2f := Lib.hid (fun (W : World) (h : (wk.alloc (.cells (updV updZ) 104)).grownBy W (some wk.heap.size)) => below_grown (below_alloc (Below.refl wk.heap.size wk) (.cells (updV updZ) 104)) h (Nat.le_refl _))
      clear hc hil hx
      go_wp2_with (first | ((with_reducible show wpList _ _ _ (Oper.mk _ (Op.load _ _) _ _ _ _ :: _) _ _); refine wpList_load_g hla _ rfl rfl (by go_simp) ?_) | ((with_reducible show wpList _ _ _ (Oper.mk _ (Op.store _ _ _) _ _ _ _ :: _) _ _); refine wpList_store_blk (blk_new wk _) 104 0 (updV x) (store_upd_fit HXO.out.fits rfl) (info_upd HXO.out.fits) (updV_one _) _ _ rfl rfl rfl rfl ?_; intro w2 hg9 hs9 hb9; rw [splice_upd HXO.out.fits rfl] at hb9; have H2 := Lib.hid (And.intro hg9 hb9); clear hg9 hs9 hb9) | ((with_reducible show wpList _ _ _ (Oper.mk _ (Op.load _ _) _ _ _ _ :: _) _ _); refine wpList_load_g (((upd_at HXO.out.fits H2.out.2).all _ (Below.refl _ _)).all) _ rfl rfl (by go_simp) ?_))
      have HB2 := Lib.hid (HB2f.out _ H2.out.1)
      have HBW := Lib.hid (below_step HI.out.2.2.2.2 HB2.out)
      refine (enc2_any x A1 n1 c1 _ w.heap.size w2 (HL.out.below HBW.out) HXO.out.fits (HI.out.2.2.2.1.below HB2.out) HBW.out.size (by omega)).mono ?_
      rintro e w3 ⟨A3, n3, c3, rfl, hO3, hn3, hA3, hK3⟩
      have HO3 := Lib.hid hO3
      have HB3 := Lib.hid (hK3.bel w HBW.out HI.out.2.2.2.1.base_)
      have HN3 : Hid (n1 ≤ n3) := Lib.hid (by
        have h1 := hO3.len
        have h2 := HI.out.2.2.2.1.len
        rw [List.length_append, h2] at h1
        omega)
      clear hO3 hA3 hK3 hla HB2f H2
      go_wp2_with fail
      go_roundw
      case measure => simp [intOf]; omega
      case rel => exact ⟨i + 1, A3, n3, c3, by go_num, rfl, by omega, by omega, by have h1 := HN3.out; have h2 := HI.out.2.2.1; omega, by rw [HTS.out]; exact HO3.out, HB3.out⟩
    · have hlt' : decide (i < n) = false := decide_eq_false hlt
      have hi : i = l.length := by rw [HR.out.len]; have := HI.out.1; omega
      have HT : Hid (l.take i = l) := Lib.hid (by rw [hi, List.take_length])
      clear hlt hi
      go_wp2_with fail
      go_ret
      refine ⟨A1, n1, c1, rfl, ?_, by have := HI.out.1; omega, HI.out.2.2.1, HI.out.2.2.2.2⟩
      have h := HI.out.2.2.2.1
      rwa [HT.out] at h
def encBat (l : List Upd) : List Int := if batB l then (l.length : Int) :: l.flatMap encUp else []
set_option maxHeartbeats 2000000 in
theorem rencodeb_any (A : Option Addr) (n c : Nat) (l : List Upd) (w : World) (hL : Laid w) (hr : RS updK w A n c l) (ok : Oku l) (hn : n ≤ 10000) :
    Calls Tryd.prog 75 #[.agg (tabV A n c)] w fun e w' => ∃ A' n' c', e = .returned (.tuple #[.slice A' n' c', .int .i64 (batE l)]) ∧ OB w' w.heap.size A' n' c' (encBat l) ∧ n' ≤ 5000 ∧ Below w.heap.size w w' := by
  have hblk1 := blk_new w (.cells (tabV A n c) 25)
  have hbel1 : Below w.heap.size w (w.alloc (.cells (tabV A n c) 25)) := below_alloc (Below.refl _ _) _
  have HP1 := Lib.hid (bat_at hblk1)
  have HBK1 := Lib.hid hblk1
  have HBE := Lib.hid hbel1
  have HL := Lib.hid (hL.below HBE.out)
  obtain ⟨cs1, hcs1⟩ : ∃ cs, tabV A n c = cs := ⟨_, rfl⟩
  simp only [hcs1] at HBE HL HP1 HBK1 ⊢
  have HC1 := Lib.hid hcs1
  clear hL hcs1 hblk1 hbel1
  have HR := Lib.hid (hr.below HBE.out)
  have OK := Lib.hid ok
  clear hr ok
  go_enter Tryd.func75, Tryd.ntmps75
  go_wp2_with (first | ((with_reducible show wpList _ _ _ (Oper.mk _ (Op.load _ _) _ _ _ _ :: _) _ _); refine wpList_load_g ((HP1.out.all _ (Below.refl _ _)).1) _ rfl rfl (by go_simp) ?_))
  refine (rcheckb_any A n c l _ HL.out HR.out OK.out (by omega)).mono ?_
  rintro e w1 ⟨rfl, hb1⟩
  have HB1 := Lib.hid hb1
  clear hb1
  cases hrb : batB l with
  | false =>
    have HE : Hid (batE l = 210 ∧ encBat l = []) := Lib.hid ⟨by unfold batE; rw [hrb]; rfl, by unfold encBat; rw [hrb]; rfl⟩
    rw [HE.out.1]
    clear hrb
    go_wp2
    go_ret2
    rw [HE.out.1, HE.out.2]
    exact ⟨_, _, _, rfl, OB.nil _ _, by omega, below_step HBE.out HB1.out⟩
  | true =>
    have HE : Hid (batE l = 0 ∧ encBat l = (n : Int) :: l.flatMap encUp) := Lib.hid ⟨by unfold batE; rw [hrb]; rfl, by unfold encBat; rw [hrb, if_pos rfl, HR.out.len]⟩
    have hn8 : n ≤ 8 := by
      rw [← HR.out.len]
      unfold batB at hrb
      simp only [Bool.and_eq_true, decide_eq_true_eq] at hrb
      exact hrb.1.2
    rw [HE.out.1]
    clear hrb
    go_wp2_with (first | ((with_reducible show wpList _ _ _ (Oper.mk _ (Op.load _ _) _ _ _ _ :: _) _ _); refine wpList_load_g ((HP1.out.all _ HB1.out).2) _ rfl rfl (by go_simp) ?_))
    refine (listu_any A n c l w1 (HL.out.below HB1.out) (HR.out.below HB1.out) OK.out (by omega)).mono ?_
    rintro e w2 ⟨A2, n2, c2, rfl, hO2, hn2, _, hb2⟩
    have HO2 := Lib.hid (hO2.lower (below_step HBE.out HB1.out).size)
    have HB2 := Lib.hid (below_step HBE.out (below_step HB1.out hb2))
    clear hO2 hb2
    go_wp2
    go_ret2
    rw [HE.out.1, HE.out.2]
    exact ⟨A2, n2, c2, rfl, HO2.out, hn2, HB2.out⟩
end Go.Proofs.YtifejiclenpfoaaDoor

/- Layer 15 (frame), for what a client asks: lay, Check. -/
namespace Go.Proofs.YtifejiclenpfoaaDoor
open Go.RowKit
set_option linter.unusedVariables false
set_option linter.unusedSimpArgs false
set_option maxRecDepth 4000
theorem OB.three (W : World) (x y z : Int) (hx : 0 ≤ x ∧ x < 256) (hy : 0 ≤ y ∧ y < 256) (hz : 0 ≤ z ∧ z < 256) (base : Nat) (hb : base ≤ W.heap.size) : OB (W.alloc (.cells #[.int .u8 x, .int .u8 y, .int .u8 z] 5)) base (some ⟨W.heap.size, 0, none⟩) 3 3 [x, y, z] :=
  OB.new W base [x, y, z] hb (by simp) (fun v hv => by
    simp only [List.mem_cons, List.not_mem_nil, or_false] at hv
    rcases hv with rfl | rfl | rfl <;> assumption)
theorem encBat_len {b : List Upd} (ok : Oku b) (hb : batB b = true) : (encBat b).length ≤ 177 := by
  have key : ∀ l : List Upd, Oku l → (l.flatMap encUp).length ≤ 22 * l.length := fun l => by
    induction l with
    | nil => intro _; simp
    | cons u l ih =>
      intro ho
      have h1 := encPE_len (ho u (by simp)).p.l
      have h2 := ih (fun v hv => ho v (by simp [hv]))
      rw [List.flatMap_cons, List.length_append, List.length_cons]
      have h3 : (encUp u).length = (encPE u.p).length + 4 := by simp [encUp]
      omega
  have h1 := key b ok
  have h2 : b.length ≤ 8 := by
    unfold batB at hb
    simp only [Bool.and_eq_true, decide_eq_true_eq] at hb
    exact hb.1.2
  unfold encBat
  rw [if_pos hb, List.length_cons]
  omega
set_option maxHeartbeats 8000000 in
set_option maxRecDepth 100000 in
theorem flay_any (m : Gm) (A : Option Addr) (n c : Nat) (w : World) (hL : Laid w) (hr : RS updK w A n c m.t) (ok : Oku m.t) (hn : n ≤ 10000) (h : AskOk m) (hsq : (Lit.int .u32 m.seq).wf = true) (hb : batB m.t = true) : Calls Tryd.prog 45 #[.agg (gmV m A n c)] w fun e w' => ∃ A' n' c', e = .returned (.slice A' n' c') ∧ n' ≤ 3000 ∧ Below w.heap.size w w' := by
  have hblk1 := blk_new w (.cells (gmV m A n c) 45)
  have hbel1 : Below w.heap.size w (w.alloc (.cells (gmV m A n c) 45)) := below_alloc (Below.refl _ _) _
  have HP1 := Lib.hid (gm_at hblk1)
  have HBK1 := Lib.hid hblk1
  have HBE := Lib.hid hbel1
  have HL := Lib.hid (hL.below HBE.out)
  obtain ⟨cs1, hcs1⟩ : ∃ cs, gmV m A n c = cs := ⟨_, rfl⟩
  simp only [hcs1] at HBE HL HP1 HBK1 ⊢
  have HC1 := Lib.hid hcs1
  clear hL hcs1 hblk1 hbel1
  have HR := Lib.hid (hr.below HBE.out)
  have OK := Lib.hid ok
  have HA := Lib.hid h
  have HBB := Lib.hid hb
  have hs := u32_wf hsq
  have hwf : IntKind.u8.wrap m.frm = m.frm := by show m.frm % 256 = _; have := h.frm; omega
  have hwt : IntKind.u8.wrap m.tgt = m.tgt := by show m.tgt % 256 = _; have := h.tgt; omega
  have HKf : Hid (∀ w0, Below (w.alloc (.cells cs1 45)).heap.size (w.alloc (.cells cs1 45)) w0 → (Instr.loadAt 3 (.pointer (some ⟨w.heap.size, 0, none⟩))).run Tryd.prog w0 = .ok (.int .i64 6) w0) := Lib.hid (fun w0 hb => by have := (HP1.out.all w0 hb).kind; rw [HA.out.kd] at this; exact this)
  have HO1 := Lib.hid (OB.three (w.alloc (.cells cs1 45)) 6 m.frm m.tgt (by omega) (by have := h.frm; omega) (by have := h.tgt; omega) 0 (Nat.zero_le _)).reads
  have hs0 : (w.alloc (.cells cs1 45)).heap.size = w.heap.size + 1 := by simp
  rw [hs0] at HO1
  have hbz := below_alloc (Below.refl (w.alloc (.cells cs1 45)).heap.size (w.alloc (.cells cs1 45))) (.cells #[.int .u8 6, .int .u8 m.frm, .int .u8 m.tgt] 5)
  have HBZ := Lib.hid hbz
  clear hr ok h hb hbz hs0
  go_enter Tryd.func45, Tryd.ntmps45
  go_wp2_with (first | ((with_reducible show wpList _ _ _ (Oper.mk _ (Op.load _ _) _ _ _ _ :: _) _ _); refine wpList_load_g (HKf.out _ (Below.refl _ _)) _ rfl rfl (by go_simp) ?_) | ((with_reducible show wpList _ _ _ (Oper.mk _ (Op.load _ _) _ _ _ _ :: _) _ _); refine wpList_load_g (HKf.out _ HBZ.out) _ rfl rfl (by go_simp) ?_) | ((with_reducible show wpList _ _ _ (Oper.mk _ (Op.load _ _) _ _ _ _ :: _) _ _); refine wpList_load_g ((HP1.out.all _ (Below.refl _ _)).frm) _ rfl rfl (by go_simp) ?_) | ((with_reducible show wpList _ _ _ (Oper.mk _ (Op.load _ _) _ _ _ _ :: _) _ _); refine wpList_load_g ((HP1.out.all _ (Below.refl _ _)).tgt) _ rfl rfl (by go_simp) ?_) | ((with_reducible show wpList _ _ _ (Oper.mk _ (Op.load _ _) _ _ _ _ :: _) _ _); refine wpList_load_g ((HP1.out.all _ HBZ.out).epoch) _ rfl rfl (by go_simp) ?_))
  refine (put64_any (some ⟨w.heap.size + 1, 0, none⟩) 3 3 [6, m.frm, m.tgt] 0 _ HO1.out (by omega) (by omega) (by omega)).mono ?_
  rintro e w2 ⟨A2, rfl, hO2, hb2⟩
  have HB2 := Lib.hid (below_step HBZ.out hb2)
  have HO2 := Lib.hid hO2.reads
  clear hb2 hO2
  go_wp2_with (first | ((with_reducible show wpList _ _ _ (Oper.mk _ (Op.load _ _) _ _ _ _ :: _) _ _); refine wpList_load_g (HKf.out _ HB2.out) _ rfl rfl (by go_simp) ?_) | ((with_reducible show wpList _ _ _ (Oper.mk _ (Op.load _ _) _ _ _ _ :: _) _ _); refine wpList_load_g ((HP1.out.all _ HB2.out).bat) _ rfl rfl (by go_simp) ?_))
  refine (rencodeb_any A n c m.t w2 (HL.out.below HB2.out) (HR.out.below HB2.out) OK.out hn).mono ?_
  rw [show batE m.t = 0 by unfold batE; rw [HBB.out]; rfl]
  rintro e w3 ⟨A3, n3, c3, rfl, hO3, hn3, hb3⟩
  have HB3 := Lib.hid (below_step HB2.out hb3)
  have HO3 := Lib.hid hO3.reads
  have HN3 : Hid (n3 ≤ 177) := Lib.hid (by rw [← hO3.len]; exact encBat_len OK.out HBB.out)
  have HP3 := Lib.hid (HO2.out.below hb3)
  clear hb3 hO3 hn3
  go_wp2_with (first | ((with_reducible show wpList _ _ _ (Oper.mk _ (Op.load _ _) _ _ _ _ :: _) _ _); refine wpList_load_g ((HP1.out.all _ HB3.out).seq) _ rfl rfl (by go_simp) ?_))
  refine (put32_any A2 11 11 _ m.seq w3 HP3.out (by omega) (by omega) (by omega)).mono ?_
  rintro e w4 ⟨A4, rfl, hO4, hb4⟩
  have HB4 := Lib.hid (below_step HB3.out hb4)
  have HO4 := Lib.hid hO4
  have HR4 := Lib.hid (HO3.out.below hb4)
  have HS4 := Lib.hid hb4.size
  have hn4 : n3 ≤ 177 := HN3.out
  clear hb4 hO4
  have hb34 : w3.heap.size ≤ w4.heap.size := HS4.out
  go_wp2_with (at_builtin; refine wpList_append_bytes rfl (.tmp 104) (.tmp 105) rfl rfl rfl HO4.out HR4.out hb34 (by omega) ?_; intro A5 c5 w5 h1 h2 h3; have H5 := Lib.hid h2; clear h1 h2 h3)
  go_ret
  exact ⟨_, _, _, rfl, by omega, below_own (below_step HBE.out HB4.out) H5.out (fun ad e => by have h1 := HO4.out.base_ ad e; have h2 := HB3.out.size; have h3 := HBE.out.size; omega)⟩
end Go.Proofs.YtifejiclenpfoaaDoor

/- Layer 15 (frame), for what a client asks: Check. -/
namespace Go.Proofs.YtifejiclenpfoaaDoor
open Go.RowKit
set_option linter.unusedVariables false
set_option linter.unusedSimpArgs false
set_option maxRecDepth 4000
theorem fcheck_ask (m : Gm) (A : Option Addr) (n c : Nat) (w : World) (hL : Laid w) (hr : RS updK w A n c m.t) (ok : Oku m.t) (hn : n ≤ 10000) (h : AskOk m) (hsq : (Lit.int .u32 m.seq).wf = true) (hs : 0 < m.seq) (hb : batB m.t = true) : Calls Tryd.prog 21 #[.agg (gmV m A n c)] w fun e w' => e = .returned (.int .i64 0) ∧ Below w.heap.size w w' := by
  have hblk1 := blk_new w (.cells (gmV m A n c) 45)
  have hbel1 : Below w.heap.size w (w.alloc (.cells (gmV m A n c) 45)) := below_alloc (Below.refl _ _) _
  have HP1 := Lib.hid (gm_at hblk1)
  have HBK1 := Lib.hid hblk1
  have HBE := Lib.hid hbel1
  have HL := Lib.hid (hL.below HBE.out)
  obtain ⟨cs1, hcs1⟩ : ∃ cs, gmV m A n c = cs := ⟨_, rfl⟩
  simp only [hcs1] at HBE HL HP1 HBK1 ⊢
  have HC1 := Lib.hid hcs1
  clear hL hcs1 hblk1 hbel1
  have HR := Lib.hid (hr.below HBE.out)
  have OK := Lib.hid ok
  have HA := Lib.hid h
  clear hr ok h
  go_enter Tryd.func21, Tryd.ntmps21
  go_wp2_with (first | ((with_reducible show wpList _ _ _ (Oper.mk _ (Op.load _ _) _ _ _ _ :: _) _ _); refine wpList_load_g ((HP1.out.all _ (Below.refl _ _)).all) _ rfl rfl (by go_simp) ?_))
  refine (ffits_any m A n c _ HL.out HR.out OK.out (by omega) HA.out hs hb).mono ?_
  rintro e w2 ⟨rfl, hb2⟩
  have HB2 := Lib.hid hb2
  clear hb2
  go_wp2_with (first | ((with_reducible show wpList _ _ _ (Oper.mk _ (Op.load _ _) _ _ _ _ :: _) _ _); refine wpList_load_g ((HP1.out.all _ HB2.out).all) _ rfl rfl (by go_simp) ?_))
  refine (flay_any m A n c w2 (HL.out.below HB2.out) (HR.out.below HB2.out) OK.out hn HA.out hsq hb).mono ?_
  rintro e w3 ⟨A3, n3, c3, rfl, hn3, hb3⟩
  have HB3 := Lib.hid (below_step HB2.out hb3)
  have hw3 : IntKind.i64.wrap ((n3 : Int) + 4) = (n3 : Int) + 4 := IntWalk.i64_in _ (by omega)
  have hl3 : decide ((4000 : Int) < (n3 : Int) + 4) = false := decide_eq_false (by omega)
  clear hb3
  go_wp2_with fail
  go_ret
  exact ⟨rfl, below_step HBE.out HB3.out⟩
end Go.Proofs.YtifejiclenpfoaaDoor

/- Layer 20 (client): plain laws of the law's wakes. -/
namespace Go.Proofs.YtifejiclenpfoaaDoor
open Go.RowKit
set_option linter.unusedVariables false
set_option linter.unusedSimpArgs false
set_option maxRecDepth 4000
theorem newC_in {num : Int} (h : 1 ≤ num ∧ num ≤ 2) : newC num = newK num := by unfold newC; rw [if_pos h]
theorem newE_in {num : Int} (h : 1 ≤ num ∧ num ≤ 2) : newE num = 0 := by unfold newE; rw [if_pos h]
theorem ckB_new {num : Int} (h : 1 ≤ num ∧ num ≤ 2) : ckB (newK num) = true := by simp [ckB, newK, h.1, h.2]
theorem sub_new {num : Int} {b : List Upd} (h : 1 ≤ num ∧ num ≤ 2) (hb : batB b = true) : subN (newK num) b = 0 ∧ subK (newK num) b = ⟨num, 1, true, b⟩ := by
  have h0 : subN (newK num) b = 0 := by unfold subN; rw [ckB_new h, hb]; simp [newK]
  exact ⟨h0, by unfold subK; rw [if_pos h0]; rfl⟩
theorem ckB_away {num seq : Int} {b : List Upd} (h : 1 ≤ num ∧ num ≤ 2) (hs : 0 < seq) (hb : batB b = true) : ckB ⟨num, seq, true, b⟩ = true := by simp [ckB, h.1, h.2, hs, hb]
theorem ask_away {k : Ck} {tg : Int} (hc : ckB k = true) (ha : k.away = true) (ht : 1 ≤ tg ∧ tg ≤ 2) : askN k tg = 0 ∧ askM k tg = ⟨6, 2 + k.num, tg, k.seq, k.t⟩ := by
  have h0 : askN k tg = 0 := by unfold askN; rw [hc, if_pos rfl, if_pos ht, ha]; rfl
  exact ⟨h0, by unfold askM; rw [if_pos h0]⟩
def mw : Mg := ⟨7, 2, 3, 0, [.int .u64 0, .int .u64 0, .slice none 0 0, .int .u64 0], false, 7, [.int .u64 0, .int .u64 0, .int .u64 0, .slice none 0 0, .int .u32 0, .int .u64 0, .int .u32 0, .int .u64 0, .int .u32 0, .int .u64 0], 1, none, 0, 0, 0, []⟩
theorem mw_fits : mw.fits := ⟨rfl, rfl, by simp [mw, Value.oneCell'], by simp [mw, Value.oneCell']⟩
theorem run_build_mw (w : World) : (Instr.build 45 #[(0, .int .i64 7), (1, .int .i64 2), (2, .int .i64 3), (11, .int .u32 1), (8, .int .u64 7)]).run Tryd.prog w = .ok (.agg (msgV mw)) w := run_build w _ _ _ (by kernel_rfl)
theorem load_hdf {w : World} {g : Nat} {k : Hd} {A : Option Addr} {n c : Nat} (h : w.heap[g]? = some (.cells (hdV k A n c) 61 (0, 0))) : (Instr.loadAt 4 (.pointer (some ⟨g, 0, none⟩))).run Tryd.prog w = .ok (.bool k.done) w ∧ (Instr.loadAt 31 (.pointer (some ⟨g, 4, none⟩))).run Tryd.prog w = .ok (.int .u64 k.index) w :=
  ⟨loadr_bool (by rw [blk_cell h]; rfl), load_u64k (by rw [blk_cell h]; rfl)⟩
theorem subK_ok {k : Ck} {b : List Upd} (hk : k.ok) (hb : Oku b) (h : subN k b = 0) : (subK k b).ok := by
  unfold subK
  rw [if_pos h]
  refine ⟨hk.num, ?_, hb⟩
  unfold subN at h
  have hs := u32_wf hk.seq
  split at h
  · split at h
    · omega
    · split at h
      · split at h
        · omega
        · simp [Lit.wf, IntKind.min, IntKind.max, IntKind.bits, IntKind.signed]
          omega
      · omega
  · omega
theorem hearK_ok {k : Ck} (hk : k.ok) (b : Bool) (h : ckB k = true) : (hearK k b).ok := by
  unfold hearK
  rw [if_pos h]
  split
  · exact ⟨hk.num, hk.seq, fun u hu => (by cases hu)⟩
  · exact hk
theorem oneB_bat : batB oneB = true := by decide +kernel
end Go.Proofs.YtifejiclenpfoaaDoor

/- Layer 20 (client): the law's wakes. -/
namespace Go.Proofs.YtifejiclenpfoaaDoor
open Go.RowKit
set_option linter.unusedVariables false
set_option linter.unusedSimpArgs false
set_option maxRecDepth 4000
set_option maxHeartbeats 8000000 in
set_option maxRecDepth 100000 in
theorem wakes20_any (w : World) (hL : Laid w) : Calls Tryd.prog 10 #[] w fun e w' => e = .returned (.bool true) ∧ Below w.heap.size w w' := by
  have HL := Lib.hid hL
  clear hL
  obtain ⟨b, hb⟩ : ∃ b, b = oneB := ⟨_, rfl⟩
  have HBB : Hid (batB b = true) := Lib.hid (hb ▸ oneB_bat)
  have HBO : Hid (Oku b) := Lib.hid (hb ▸ oneB_ok)
  have HBE := Lib.hid hb
  have hin : (1 : Int) ≤ 1 ∧ (1 : Int) ≤ 2 := by decide
  have HIN := Lib.hid hin
  obtain ⟨k1, hk1⟩ : ∃ k, k = newK 1 := ⟨_, rfl⟩
  have HK1 := Lib.hid hk1
  have HO1 : Hid k1.ok := Lib.hid (hk1 ▸ ⟨by decide, by decide, fun r hr => by cases hr⟩)
  have HS1 : Hid (subN k1 b = 0 ∧ subK k1 b = ⟨1, 1, true, b⟩) := Lib.hid (hk1 ▸ sub_new hin HBB.out)
  have hcall := cnew_any 1 w HL.out
  rw [newC_in hin, newE_in hin, ← hk1] at hcall
  clear hb hk1 hin
  go_enter Tryd.func10, Tryd.ntmps10
  go_wp2_with fail
  refine hcall.mono ?_
  clear hcall
  rintro e w1 ⟨rfl, hb1⟩
  have HB1 := Lib.hid hb1
  obtain ⟨W2, hW2⟩ : ∃ W2, w1.alloc (.cells (cliV ckZ none 0 0) 27) = W2 := ⟨_, rfl⟩
  have HZ2 : Hid (W2.heap[w1.heap.size]? = some (.cells (cliV ckZ none 0 0) 27 (0, 0))) := Lib.hid (by rw [← hW2]; exact blk_new _ _)
  have HB2 : Hid (Below w.heap.size w W2) := Lib.hid (hW2 ▸ below_alloc hb1 _)
  have hw2 : w1.alloc (.cells #[.int .i64 0, .int .u32 0, .slice none 0 0, .bool false] 27) = W2 := hW2
  clear hb1 hW2
  go_upto_region 4 with (first | ((with_reducible show wpList _ _ _ (Oper.mk _ (Op.store _ _ _) _ _ _ _ :: _) _ _); refine wpList_store_blk HZ2.out 27 0 (cliV k1 none 0 0) (Nat.le_refl _) (info_cli _ _ _ _) (cli_one _ _ _ _) _ _ rfl rfl rfl rfl ?_; intro w3 hg9 hs9 hb9; rw [splice_cli] at hb9; have H3 := Lib.hid (And.intro hg9 hb9); clear hg9 hs9 hb9))
  try dsimp only [Act.put]
  have HX3 := Lib.hid H3.out.2
  have HB3 := Lib.hid (below_grown HB2.out H3.out.1 HB1.out.size)
  clear H3 hw2 HZ2 HB2
  refine wp_region_mix ((fun w0 => Below w3.heap.size w3 w0)) [(0, 0), (1, 2), (2, 2), (3, 4), (4, 4), (5, 4), (6, 3), (7, 3)] (by kernel_rfl) (by kernel_rfl) ((below_drew1 _)) ?_
  simp only [List.map_cons, List.map_nil]
  refine wpO_loadW (t := 27) (ad := ⟨w1.heap.size, 0, none⟩) rfl rfl ?hw rfl rfl ((fun w0 hS => load_cli (blk_below HX3.out hS))) ?_
  case hw => go_simp
  refine wpO_step2 rfl rfl (below_drew1 _) (fun K hK => ?_)
  go_simp
  refine (one20_any _).mono ?_
  rintro e w4 ⟨A4, rfl, hO4, hb4⟩
  rw [← HBE.out] at hO4
  have HV4 := Lib.hid (below_step (below_drew1 w3) hb4)
  have HO4 := Lib.hid (hO4.lower HB3.out.size)
  clear hO4 hb4
  refine hK _ _ ⟨HV4.out, ?_⟩
  clear hK K
  refine wpO_step2 rfl rfl (HV4.out) (fun K hK => ?_)
  go_simp
  refine (csubmit_any k1 none 0 0 A4 1 1 b w4 (HL.out.below (below_step HB3.out HV4.out)) (HK1.out ▸ RS.nil _ _ _ _) HO1.out (by omega) HO4.out.reads HBO.out (by omega)).mono ?_
  rw [HS1.out.1, HS1.out.2]
  rintro e w5 ⟨A5, n5, c5, rfl, hO5, hb5⟩
  have HV5 := Lib.hid (below_step HV4.out hb5)
  have HO5 := Lib.hid (hO5.lower (below_step HB3.out HV4.out).size)
  have HN5 : Hid (n5 = 1) := Lib.hid (by have := hO5.len; rw [← this]; show b.length = 1; rw [HBE.out]; rfl)
  have HA5 := Lib.hid hO5.base_
  clear hO5 hb5 HO4
  refine hK _ _ ⟨HV5.out, ?_⟩
  clear hK K
  iterate 3 (refine wpO_step4 rfl rfl (fun K hK => ?_); go_simp; refine hK _ _ ?_; clear hK K)
  refine wpO_step3 rfl rfl (fun K hK => ?_)
  rw [if_pos (show Region.wanted _ _ = true from rfl)]
  refine oper_store_blk (blk_below HX3.out HV5.out) 27 0 (cliV ⟨1, 1, true, b⟩ A5 n5 c5) (Nat.le_refl _) (info_cli _ _ _ _) (cli_one _ _ _ _) _ _ rfl rfl rfl ?_
  intro w6 hg9 hs9 hb9
  rw [splice_cli] at hb9
  have HX6 := Lib.hid hb9
  have HB6 := Lib.hid (below_grown (below_step HB3.out HV5.out) hg9 HB1.out.size)
  have HO6 : Hid (OS updK w6 w.heap.size A5 n5 c5 b) := Lib.hid (OS.grown HO5.out hg9 (fun ad e h => by have h1 := HA5.out ad e; have := blk_lt HX3.out; have := HV4.out.size; injection h with h; omega))
  clear hg9 hs9 hb9 HX3 HO5 HA5
  refine hK _ _ ?_
  clear hK K
  refine wpO_step3 rfl rfl (fun K hK => ?_); go_simp; refine hK _ _ ?_; clear hK K
  refine wpO_nil ?_
  have hca : ckB ⟨1, 1, true, b⟩ = true := ckB_away HIN.out (by decide) HBB.out
  have hok : Ck.ok ⟨1, 1, true, b⟩ := ⟨(by decide : (Lit.int .i64 (1 : Int)).wf = true), (by decide : (Lit.int .u32 (1 : Int)).wf = true), HBO.out⟩
  have hcall := cask_any ⟨1, 1, true, b⟩ A5 n5 c5 2 w6 (HL.out.below HB6.out) HO6.out.reads hok (by have := HN5.out; omega)
  have hak := ask_away (tg := 2) hca rfl (by decide)
  rw [hak.1, hak.2] at hcall
  obtain ⟨m, hm⟩ : ∃ m, (⟨6, 2 + (⟨1, 1, true, b⟩ : Ck).num, 2, (⟨1, 1, true, b⟩ : Ck).seq, (⟨1, 1, true, b⟩ : Ck).t⟩ : Gm) = m := ⟨_, rfl⟩
  rw [hm] at hcall
  have HM := Lib.hid hm
  have HMO : Hid (AskOk m) := Lib.hid (hm ▸ ⟨rfl, (by decide : (2 : Int) < 2 + 1 ∧ (2 : Int) + 1 ≤ 4), (by decide : (1 : Int) ≤ 2 ∧ (2 : Int) ≤ 2)⟩)
  have HMT : Hid (m.t = b) := Lib.hid (hm ▸ rfl)
  have HM6 : Hid (m.kd = 6 ∧ m.frm = 3 ∧ m.seq = 1) := Lib.hid (hm ▸ ⟨rfl, rfl, rfl⟩)
  have HCA := Lib.hid hca
  have HOK := Lib.hid hok
  clear hca hak hok hm
  go_wp2_with (first | ((with_reducible show wpList _ _ _ (Oper.mk _ (Op.load _ _) _ _ _ _ :: _) _ _); refine wpList_load_g (load_cli HX6.out) _ rfl rfl (by go_simp) ?_))
  refine hcall.mono ?_
  clear hcall
  rintro e w7 ⟨A7, n7, c7, rfl, hO7, hb7⟩
  have HB7 := Lib.hid (below_step HB6.out hb7)
  have HX7 := Lib.hid (blk_below HX6.out hb7)
  have HO7 := Lib.hid (HO6.out.below hb7)
  have HT7 := Lib.hid hO7.reads
  have HA7 := Lib.hid hO7.base_
  have HS7 := Lib.hid hb7.size
  clear hO7 hb7 HX6 HO6 HB6
  go_upto_region 6 with (first | ((with_reducible show wpList _ _ _ (Oper.mk _ (Op.store _ _ _) _ _ _ _ :: _) _ _); refine wpList_store_blk (blk_new w7 (.cells (gmV gmZ none 0 0) 45)) 45 0 (gmV m A7 n7 c7) (Nat.le_refl _) (info_gm _ _ _ _) (gm_one _ _ _ _) _ _ rfl rfl rfl rfl ?_; intro w8 hg9 hs9 hb9; rw [splice_gm] at hb9; have H8 := Lib.hid (And.intro hg9 hb9); clear hg9 hs9 hb9))
  try dsimp only [Act.put]
  have hb78 := below_grown (below_alloc (Below.refl w7.heap.size w7) (.cells (gmV gmZ none 0 0) 45)) H8.out.1 (Nat.le_refl _)
  have HB8 := Lib.hid (below_step HB7.out hb78)
  have HX8 := Lib.hid (blk_below HX7.out hb78)
  have HO8 := Lib.hid (HO7.out.below hb78)
  have HT8 := Lib.hid (HT7.out.below hb78)
  have HG8 := Lib.hid H8.out.2
  obtain ⟨g8, hg8⟩ : ∃ g, w7.heap.size = g := ⟨_, rfl⟩
  rw [hg8] at HG8 ⊢
  have HLD := Lib.hid (gm_ld HG8.out)
  have HKD := Lib.hid HLD.out.kind
  have HSQ := Lib.hid HLD.out.seq
  have HFR := Lib.hid HLD.out.frm
  rw [HM6.out.1] at HKD
  rw [HM6.out.2.2] at HSQ
  rw [HM6.out.2.1] at HFR
  have HN7 : Hid (n7 = 1) := Lib.hid (by have := HT8.out.len; rw [HMT.out, HBE.out] at this; rw [← this]; rfl)
  have hcall := fcheck_ask m A7 n7 c7 w8 (HL.out.below HB8.out) HT8.out (by rw [HMT.out]; exact HBO.out) (by have := HN7.out; omega) HMO.out (by rw [HM6.out.2.2]; decide) (by rw [HM6.out.2.2]; decide) (by rw [HMT.out]; exact HBB.out)
  clear hb78 H8 HX7 HO7 HT7 HB7 hg8 HA7 HS7
  go_wp2_with (first | ((with_reducible show wpList _ _ _ (Oper.mk _ (Op.load _ _) _ _ _ _ :: _) _ _); refine wpList_load_g (HKD.out) _ rfl rfl (by go_simp) ?_) | ((with_reducible show wpList _ _ _ (Oper.mk _ (Op.load _ _) _ _ _ _ :: _) _ _); refine wpList_load_g (HSQ.out) _ rfl rfl (by go_simp) ?_) | ((with_reducible show wpList _ _ _ (Oper.mk _ (Op.load _ _) _ _ _ _ :: _) _ _); refine wpList_load_g (HFR.out) _ rfl rfl (by go_simp) ?_) | ((with_reducible show wpList _ _ _ (Oper.mk _ (Op.load _ _) _ _ _ _ :: _) _ _); refine wpList_load_g (HLD.out.all) _ rfl rfl (by go_simp) ?_))
  refine hcall.mono ?_
  clear hcall
  rintro e w9 ⟨rfl, hb9⟩
  have HB9 := Lib.hid (below_step HB8.out hb9)
  have HX9 := Lib.hid (blk_below HX8.out hb9)
  have HO9 := Lib.hid (HO8.out.below hb9)
  clear hb9 HB8 HX8 HO8 HT8 HG8 HLD HKD HSQ HFR
  obtain ⟨q, hq⟩ : ∃ q, mw = q := ⟨_, rfl⟩
  have HQ : Hid (∀ W : World, (Instr.build 45 #[(0, .int .i64 7), (1, .int .i64 2), (2, .int .i64 3), (11, .int .u32 1), (8, .int .u64 7)]).run Tryd.prog W = .ok (.agg (msgV q)) W) := Lib.hid (fun W => by rw [← hq]; exact run_build_mw W)
  have hcall := chear_any ⟨1, 1, true, b⟩ A5 n5 c5 mw w9 (HL.out.below HB9.out) HO9.out.reads HOK.out (by have := HN5.out; omega) mw_fits
  rw [show hearB ⟨1, 1, true, b⟩ mw.kind mw.tgt mw.seq mw.err = true from rfl, show hearK ⟨1, 1, true, b⟩ true = ⟨1, 1, false, []⟩ by unfold hearK; rw [HCA.out]; rfl, show hearH ⟨1, 1, true, b⟩ true mw.err mw.index = ⟨true, 0, 1, 7, b⟩ by unfold hearH; rw [HCA.out]; rfl, show ckE ⟨1, 1, true, b⟩ = 0 by unfold ckE; rw [HCA.out]; rfl, hq] at hcall
  clear hq
  go_wp2_with (first | ((with_reducible show wpList _ _ _ (Oper.mk _ (Op.load _ _) _ _ _ _ :: _) _ _); refine wpList_load_g (load_cli HX9.out) _ rfl rfl (by go_simp) ?_) | ((with_reducible show wpList _ _ _ (Oper.mk _ (Op.build 45 _) _ _ _ _ :: _) _ _); refine wpList_exw rfl (exec_build5 rfl rfl rfl rfl rfl rfl (HQ.out _)) ?_))
  refine hcall.mono ?_
  clear hcall
  rintro e w10 ⟨A1, n1, c1, A2, n2, c2, rfl, hO1, hO2, hb10⟩
  have HB10 := Lib.hid (below_step HB9.out hb10)
  have HX10 := Lib.hid (blk_below HX9.out hb10)
  have hn1 : n1 = 0 := hO1.len.symm
  subst hn1
  have hxa := blk_below HX10.out (below_alloc (Below.refl _ _) (.cells (hdV hdZ none 0 0) 61))
  have hha := blk_new w10 (.cells (hdV hdZ none 0 0) 61)
  have HSZ : Hid (w1.heap.size < w10.heap.size) := Lib.hid (blk_lt HX10.out)
  clear hO1 hO2 hb10 HX9 HO9
  go_upto_region 9 with (first | ((with_reducible show wpList _ _ _ (Oper.mk _ (Op.store _ _ _) _ _ _ _ :: _) _ _); refine wpList_store_blk hxa 27 0 (cliV ⟨1, 1, false, []⟩ A1 0 c1) (Nat.le_refl _) (info_cli _ _ _ _) (cli_one _ _ _ _) _ _ rfl rfl rfl rfl ?_; intro w11 hg9 hs9 hb9; rw [splice_cli] at hb9; have H11 := Lib.hid (And.intro hg9 hb9); clear hg9 hs9 hb9) | ((with_reducible show wpList _ _ _ (Oper.mk _ (Op.store _ _ _) _ _ _ _ :: _) _ _); refine wpList_store_blk (blk_grown hha H11.out.1 (fun e => by injection e with e; have := HSZ.out; omega)) 61 0 (hdV ⟨true, 0, 1, 7, b⟩ A2 n2 c2) (Nat.le_refl _) (info_hd _ _ _ _) (hd_one _ _ _ _) _ _ rfl rfl rfl rfl ?_; intro w12 hg9 hs9 hb9; rw [splice_hd] at hb9; have H12 := Lib.hid (And.intro hg9 hb9); clear hg9 hs9 hb9))
  try dsimp only [Act.put]
  have HC12 := Lib.hid ((cli_at (blk_grown H11.out.2 H12.out.1 (fun e => by injection e with e; have := HSZ.out; omega))).all _ (Below.refl _ _))
  have HD12 := Lib.hid (load_hdf H12.out.2)
  have HB12 := Lib.hid (below_grown (below_grown (below_alloc HB10.out (.cells (hdV hdZ none 0 0) 61)) H11.out.1 HB1.out.size) H12.out.1 HB10.out.size)
  clear hxa hha H11 H12 HX10 HB10
  go_wp2_with (first | ((with_reducible show wpList _ _ _ (Oper.mk _ (Op.load _ _) _ _ _ _ :: _) _ _); refine wpList_load_g (HD12.out.1) _ rfl rfl (by go_simp) ?_) | ((with_reducible show wpList _ _ _ (Oper.mk _ (Op.load _ _) _ _ _ _ :: _) _ _); refine wpList_load_g (HD12.out.2) _ rfl rfl (by go_simp) ?_) | ((with_reducible show wpList _ _ _ (Oper.mk _ (Op.load _ _) _ _ _ _ :: _) _ _); refine wpList_load_g (HC12.out.away) _ rfl rfl (by go_simp) ?_) | ((with_reducible show wpList _ _ _ (Oper.mk _ (Op.load _ _) _ _ _ _ :: _) _ _); refine wpList_load_g (HC12.out.upd) _ rfl rfl (by go_simp) ?_))
  go_ret
  exact ⟨rfl, HB12.out⟩
end Go.Proofs.YtifejiclenpfoaaDoor

/- Layer 20 (client): what the law's ops need: msg, spoil; the document's Copy, SameHeard. -/
namespace Go.Proofs.YtifejiclenpfoaaDoor
open Go.RowKit
set_option linter.unusedVariables false
set_option linter.unusedSimpArgs false
set_option maxRecDepth 4000
/-- A message of what counts, with no more than ten updates. -/
def cutM (m : Fm) (A : Option Addr) (n c : Nat) : Fm := ⟨m.kd, m.frm, m.tgt, m.epo, 0, 0, none, 0, 0, 0, m.ok, m.idx, 0, 0, 0, none, 0, 0, 0, 0, 0, 0, 0, 0, m.seq, A, n, c, m.err, [], [], m.t.take 10⟩
theorem run_build_cutM (w : World) (m : Fm) (A : Option Addr) (n c : Nat) : (Instr.build 45 #[(0, .int .i64 m.kd), (1, .int .i64 m.frm), (2, .int .i64 m.tgt), (3, .int .u64 m.epo), (7, .bool m.ok), (8, .int .u64 m.idx), (11, .int .u32 m.seq), (13, .int .i64 m.err), (12, .agg (tabV A n c))]).run Tryd.prog w = .ok (.agg (fmV (cutM m A n c))) w := run_build w _ _ _ (by kernel_rfl)
theorem load_fm {w : World} {g : Nat} {m : Fm} (h : w.heap[g]? = some (.cells (fmV m) 45 (0, 0))) : (Instr.loadAt 45 (.pointer (some ⟨g, 0, none⟩))).run Tryd.prog w = .ok (.agg (fmV m)) w := (fm_ld h).all
set_option maxHeartbeats 4000000 in
theorem lmsg_any (m : Fm) (w : World) (hr : RS updK w m.BA m.bn m.bc m.t) (hn : m.bn ≤ 140737488355328) :
    Calls Tryd.prog 26 #[.agg (fmV m)] w fun e w' => ∃ A' c', e = .returned (.agg (fmV (cutM m A' (min m.bn 10) c'))) ∧ OS updK w' w.heap.size A' (min m.bn 10) c' (m.t.take 10) ∧ Below w.heap.size w w' := by
  have hblk1 := blk_new w (.cells (fmV m) 45)
  have hbel1 : Below w.heap.size w (w.alloc (.cells (fmV m) 45)) := below_alloc (Below.refl _ _) _
  have HP1 := Lib.hid (fm_at hblk1)
  have HBK1 := Lib.hid hblk1
  have HBE := Lib.hid hbel1
  obtain ⟨cs1, hcs1⟩ : ∃ cs, fmV m = cs := ⟨_, rfl⟩
  simp only [hcs1] at HBE HP1 HBK1 ⊢
  have HC1 := Lib.hid hcs1
  clear hcs1 hblk1 hbel1
  have hs0 : (w.alloc (.cells cs1 45)).heap.size = w.heap.size + 1 := by simp
  obtain ⟨W1, hW1⟩ : ∃ W1, (w.alloc (.cells cs1 45)).alloc (.cells #[.int .i64 0, .int .i64 0, .int .i64 0, .int .u64 0, .int .u64 0, .int .u64 0, .slice none 0 0, .int .u64 0, .bool false, .int .u64 0, .int .u64 0, .int .u64 0, .int .u64 0, .slice none 0 0, .int .u32 0, .int .u64 0, .int .u32 0, .int .u64 0, .int .u32 0, .int .u64 0, .int .u32 0, .slice none 0 0, .int .i64 0] 45) = W1 := ⟨_, rfl⟩
  have HBR : Hid (Below (w.alloc (.cells cs1 45)).heap.size (w.alloc (.cells cs1 45)) W1) := Lib.hid (hW1 ▸ below_alloc (Below.refl _ _) _)
  have HB1 : Hid (Below w.heap.size w W1) := Lib.hid (below_step HBE.out HBR.out)
  have HZ1 : Hid (W1.heap[w.heap.size + 1]? = some (.cells (fmV fmZ) 45 (0, 0))) := Lib.hid (by rw [← hW1, ← hs0]; exact blk_new _ _)
  have HR := Lib.hid (hr.below HB1.out)
  have HS1 : Hid (w.heap.size + 2 ≤ W1.heap.size) := Lib.hid (by rw [← hW1]; simp)
  obtain ⟨q, hq⟩ : ∃ q, min m.bn 10 = q := ⟨_, rfl⟩
  have HQ := Lib.hid hq
  rw [hq]
  clear hr hs0 hq
  go_enter Tryd.func26, Tryd.ntmps26
  go_upto_region 1 with fail
  clear hW1
  refine wp_region_mix ((fun w0 => Below W1.heap.size W1 w0)) [(0, 4), (1, 0), (2, 4), (3, 0), (4, 4), (5, 0), (6, 4), (7, 0), (8, 4), (9, 0), (10, 4), (11, 0), (12, 4), (13, 0), (14, 4), (15, 0), (16, 4), (17, 0), (18, 2), (19, 0), (20, 3)] (by kernel_rfl) (by kernel_rfl) ((below_drew1 _)) ?_
  simp only [List.map_cons, List.map_nil]
  iterate 1 (refine wpO_step4 rfl rfl (fun K hK => ?_); go_simp; refine hK _ _ ?_; clear hK K)
  refine wpO_loadW (t := 3) (ad := ⟨w.heap.size, 0, none⟩) rfl rfl ?hw rfl rfl ((fun w0 hS => (HP1.out.all w0 (below_step HBR.out hS)).kind)) ?_
  case hw => go_simp
  iterate 1 (refine wpO_step4 rfl rfl (fun K hK => ?_); go_simp; refine hK _ _ ?_; clear hK K)
  refine wpO_loadW (t := 3) (ad := ⟨w.heap.size, 1, none⟩) rfl rfl ?hw rfl rfl ((fun w0 hS => (HP1.out.all w0 (below_step HBR.out hS)).frm)) ?_
  case hw => go_simp
  iterate 1 (refine wpO_step4 rfl rfl (fun K hK => ?_); go_simp; refine hK _ _ ?_; clear hK K)
  refine wpO_loadW (t := 3) (ad := ⟨w.heap.size, 2, none⟩) rfl rfl ?hw rfl rfl ((fun w0 hS => (HP1.out.all w0 (below_step HBR.out hS)).tgt)) ?_
  case hw => go_simp
  iterate 1 (refine wpO_step4 rfl rfl (fun K hK => ?_); go_simp; refine hK _ _ ?_; clear hK K)
  refine wpO_loadW (t := 31) (ad := ⟨w.heap.size, 3, none⟩) rfl rfl ?hw rfl rfl ((fun w0 hS => (HP1.out.all w0 (below_step HBR.out hS)).epoch)) ?_
  case hw => go_simp
  iterate 1 (refine wpO_step4 rfl rfl (fun K hK => ?_); go_simp; refine hK _ _ ?_; clear hK K)
  refine wpO_loadW (t := 4) (ad := ⟨w.heap.size, 8, none⟩) rfl rfl ?hw rfl rfl ((fun w0 hS => (HP1.out.all w0 (below_step HBR.out hS)).ok)) ?_
  case hw => go_simp
  iterate 1 (refine wpO_step4 rfl rfl (fun K hK => ?_); go_simp; refine hK _ _ ?_; clear hK K)
  refine wpO_loadW (t := 31) (ad := ⟨w.heap.size, 9, none⟩) rfl rfl ?hw rfl rfl ((fun w0 hS => (HP1.out.all w0 (below_step HBR.out hS)).index)) ?_
  case hw => go_simp
  iterate 1 (refine wpO_step4 rfl rfl (fun K hK => ?_); go_simp; refine hK _ _ ?_; clear hK K)
  refine wpO_loadW (t := 22) (ad := ⟨w.heap.size, 20, none⟩) rfl rfl ?hw rfl rfl ((fun w0 hS => (HP1.out.all w0 (below_step HBR.out hS)).seq)) ?_
  case hw => go_simp
  iterate 1 (refine wpO_step4 rfl rfl (fun K hK => ?_); go_simp; refine hK _ _ ?_; clear hK K)
  refine wpO_loadW (t := 43) (ad := ⟨w.heap.size, 22, none⟩) rfl rfl ?hw rfl rfl ((fun w0 hS => (HP1.out.all w0 (below_step HBR.out hS)).err)) ?_
  case hw => go_simp
  iterate 1 (refine wpO_step4 rfl rfl (fun K hK => ?_); go_simp; refine hK _ _ ?_; clear hK K)
  refine wpO_loadW (t := 25) (ad := ⟨w.heap.size, 21, none⟩) rfl rfl ?hw rfl rfl ((fun w0 hS => (HP1.out.all w0 (below_step HBR.out hS)).bat)) ?_
  case hw => go_simp
  refine wpO_step2 rfl rfl (below_drew1 _) (fun K hK => ?_)
  go_simp
  refine (lbatch_any m.BA m.bn m.bc m.t _ (HR.out.below (below_drew1 _)) hn).mono ?_
  rw [HQ.out]
  rintro e w2 ⟨A2, c2, rfl, hO2, hb2⟩
  have HV2 := Lib.hid (below_step (below_drew1 W1) hb2)
  have HO2 := Lib.hid (hO2.lower HS1.out)
  have HZ2 := Lib.hid (blk_below HZ1.out HV2.out)
  clear hO2 hb2
  refine hK _ _ ⟨HV2.out, ?_⟩
  clear hK K
  refine wpO_step0 rfl rfl (fun K hK => ?_)
  rw [if_pos (show Region.wanted _ _ = true from rfl)]
  refine ⟨_, fun w0 => exec_build9 rfl rfl rfl rfl rfl rfl rfl rfl rfl rfl (run_build_cutM w0 m A2 q c2), hK _ _ ?_⟩
  clear hK K
  refine wpO_step3 rfl rfl (fun K hK => ?_)
  rw [if_pos (show Region.wanted _ _ = true from rfl)]
  refine oper_store_blk HZ2.out 45 0 (fmV (cutM m A2 q c2)) (Nat.le_refl _) (info_fm _) (fm_one _) _ _ rfl rfl rfl ?_
  intro w5 hg5 hs5 hb5
  rw [splice_fm] at hb5
  have H5 := Lib.hid (And.intro hg5 hb5)
  clear hg5 hs5 hb5
  refine hK _ _ ?_
  clear hK K
  refine wpO_nil ?_
  go_wp2_with fail
  refine bodyPost_ret (results_c1 rfl rfl (load_fm H5.out.2)) rfl ?_
  exact ⟨A2, c2, rfl, (HO2.out.grown H5.out.1 (fun ad e h => by have h1 := HO2.out.base_ ad e; injection h with h; omega)).lower (by omega), below_grown (below_step HB1.out HV2.out) H5.out.1 (by omega)⟩
structure HdLd (w : World) (g : Nat) (h : Hd) (A : Option Addr) (n c : Nat) : Prop where
  all : (Instr.loadAt 61 (.pointer (some ⟨g, 0, none⟩))).run Tryd.prog w = .ok (.agg (hdV h A n c)) w
  done : (Instr.loadAt 4 (.pointer (some ⟨g, 0, none⟩))).run Tryd.prog w = .ok (.bool h.done) w
  err : (Instr.loadAt 43 (.pointer (some ⟨g, 1, none⟩))).run Tryd.prog w = .ok (.int .i64 h.err) w
  seq : (Instr.loadAt 22 (.pointer (some ⟨g, 2, none⟩))).run Tryd.prog w = .ok (.int .u32 h.seq) w
  bat : (Instr.loadAt 25 (.pointer (some ⟨g, 3, none⟩))).run Tryd.prog w = .ok (.agg (tabV A n c)) w
  idx : (Instr.loadAt 31 (.pointer (some ⟨g, 4, none⟩))).run Tryd.prog w = .ok (.int .u64 h.index) w
theorem hd_ld {w : World} {g : Nat} {h : Hd} {A : Option Addr} {n c : Nat} (hb : w.heap[g]? = some (.cells (hdV h A n c) 61 (0, 0))) : HdLd w g h A n c := by
  have h0 : CellsAt w g 0 [.bool h.done, .int .i64 h.err, .int .u32 h.seq, .slice A n c, .int .u64 h.index] := cells_blk hb
  exact ⟨load_hd hb, loadr_bool (h0 0 _ rfl), load_errk (h0 1 _ rfl), load_u32k (h0 2 _ rfl), load_cells (cs := tabV A n c) (cells_mid h0 3 1) Tryd.underlying25 rfl (info_bat _ _ _), load_u64k (h0 4 _ rfl)⟩
/-- What may be written over: a row in cells of its own. -/
structure Soft (w : World) (A : Option Addr) (n c : Nat) : Prop where
  bare : A = none → n = 0
  cap : n ≤ c
  small : n ≤ 281474976710656
  form : ∀ ad, A = some ad → ad.spot = none ∧ ∃ cur t, w.heap[ad.block]? = some (.cells cur t (0, 0)) ∧ ad.off + c * 22 ≤ cur.size
theorem Soft.grown {w w1 : World} {A : Option Addr} {n c : Nat} (h : Soft w A n c) {row : Option Nat} (hg : w.grownBy w1 row) (hne : ∀ ad, A = some ad → some ad.block ≠ row) : Soft w1 A n c :=
  ⟨h.bare, h.cap, h.small, fun ad e => by
    obtain ⟨h2, cur, t, h3, h4⟩ := h.form ad e
    exact ⟨h2, cur, t, blk_grown h3 hg (hne ad e), h4⟩⟩
theorem Soft.below {w w1 : World} {A : Option Addr} {n c : Nat} (h : Soft w A n c) (hb : Below w.heap.size w w1) : Soft w1 A n c := h.grown (grown_of_below hb none) (fun _ _ => by simp)
end Go.Proofs.YtifejiclenpfoaaDoor

/- Layer 20 (client): the document's Copy, Ask. -/
namespace Go.Proofs.YtifejiclenpfoaaDoor
open Go.RowKit
set_option linter.unusedVariables false
set_option linter.unusedSimpArgs false
set_option maxRecDepth 4000
end Go.Proofs.YtifejiclenpfoaaDoor

/- Layer 20 (client): the document's Hear. -/
namespace Go.Proofs.YtifejiclenpfoaaDoor
open Go.RowKit
set_option linter.unusedVariables false
set_option linter.unusedSimpArgs false
set_option maxRecDepth 4000
end Go.Proofs.YtifejiclenpfoaaDoor

/- Layer 20 (client): the law's asks. -/
namespace Go.Proofs.YtifejiclenpfoaaDoor
open Go.RowKit
set_option linter.unusedVariables false
set_option linter.unusedSimpArgs false
set_option maxRecDepth 4000
end Go.Proofs.YtifejiclenpfoaaDoor

/- A region that draws its order, where two or three operations that act may stand in any order: all orders are walked. -/
namespace Go.Proofs.YtifejiclenpfoaaDoor
open Go.RowKit
set_option linter.unusedVariables false
set_option linter.unusedSimpArgs false
set_option maxRecDepth 4000

section
variable {P : Program} {S : World → Prop} {ops : Array Oper} {md : Region.Mode} {cl : Nat → Nat}
inductive OrdN where
  | lin (l : List Nat)
  | fork (l : List Nat) (i j : Nat) (r s : OrdN)
  | fork3 (l : List Nat) (i j k : Nat) (r s t : OrdN)
def OrdN.len : OrdN → Nat
  | .lin l => l.length
  | .fork l _ _ r _ => l.length + (r.len + 1)
  | .fork3 l _ _ _ r _ _ => l.length + (r.len + 1)
end
end Go.Proofs.YtifejiclenpfoaaDoor

/- Layer 20 (client): the law's ops in memory. -/
namespace Go.Proofs.YtifejiclenpfoaaDoor
open Go.RowKit
set_option linter.unusedVariables false
set_option linter.unusedSimpArgs false
set_option maxRecDepth 4000
/-- What happens, and where its batch lies. -/
structure Opn where
  kind : Int
  tg : Int
  A : Option Addr
  n : Nat
  c : Nat
  t : List Upd
  m : Fm
def opC (o : Opn) : List Value := [.int .i64 o.kind, .int .i64 o.tg, .slice o.A o.n o.c] ++ fmC o.m
def opV (o : Opn) : Array Value := (opC o).toArray
def opZ : Opn := ⟨0, 0, none, 0, 0, [], fmZ⟩
theorem info_op (o : Opn) : (Tryd.prog.info? 47).map (·.size) = some (opV o).size := by show _ = some 26; kernel_rfl
theorem op_one (o : Opn) : (opV o).all (·.oneCell') = true := by simp [opV, opC, fmC, Value.oneCell']
theorem splice_op (m m2 : Opn) : splice (opV m) 0 (opV m2).toList = opV m2 := splice_all _ _ rfl
theorem zero_op : (Tryd.prog.info? 47).map (fun i => (i.zero, i.size, i.bytes)) = some (some (.agg (opV opZ)), 26, 272) := by kernel_rfl
structure OpLd (w : World) (g : Nat) (o : Opn) : Prop where
  all : (Instr.loadAt 47 (.pointer (some ⟨g, 0, none⟩))).run Tryd.prog w = .ok (.agg (opV o)) w
  kind : (Instr.loadAt 3 (.pointer (some ⟨g, 0, none⟩))).run Tryd.prog w = .ok (.int .i64 o.kind) w
  tg : (Instr.loadAt 3 (.pointer (some ⟨g, 1, none⟩))).run Tryd.prog w = .ok (.int .i64 o.tg) w
  bat : (Instr.loadAt 25 (.pointer (some ⟨g, 2, none⟩))).run Tryd.prog w = .ok (.agg (tabV o.A o.n o.c)) w
  msg : (Instr.loadAt 45 (.pointer (some ⟨g, 3, none⟩))).run Tryd.prog w = .ok (.agg (fmV o.m)) w
theorem op_ld {w : World} {g : Nat} {o : Opn} (hb : w.heap[g]? = some (.cells (opV o) 47 (0, 0))) : OpLd w g o := by
  have h : CellsAt w g 0 (opC o) := cells_blk hb
  exact ⟨load_cells (cs := opV o) h Tryd.underlying47 rfl (info_op _), load_int (h 0 _ rfl), load_int (h 1 _ rfl), load_cells (cs := tabV o.A o.n o.c) (cells_mid h 2 1) Tryd.underlying25 rfl (info_bat _ _ _), load_cells (cs := fmV o.m) (cells_mid h 3 23) Tryd.underlying45 rfl (info_fm _)⟩
structure OpAt (w : World) (g : Nat) (o : Opn) : Prop where
  all : ∀ w0, Below w.heap.size w w0 → OpLd w0 g o
theorem op_at {w : World} {g : Nat} {o : Opn} (hb : w.heap[g]? = some (.cells (opV o) 47 (0, 0))) : OpAt w g o := ⟨fun w0 hs => op_ld (blk_below hb hs)⟩
def opK : Shape Opn where
  t := 47
  ts := 28
  sz := 26
  bytes := 272
  z := opZ
  ok := fun _ => True
  enc := opC
  val := fun x => .agg (opV x)
  len := fun _ _ => rfl
  one := fun x u hu => by
    have h := op_one x
    rw [← Array.all_toList, List.all_eq_true] at h
    exact h u (by simpa [opV] using hu)
  okz := trivial
  pos := by omega
  bpos := by omega
  blt := by omega
  und := Tryd.underlying28
  info := zero_op
  venc := fun _ => rfl
  ld := fun w b o x _ h => load_cells (cs := opV x) h Tryd.underlying47 rfl (info_op _)
/-- What holds of an op that was handed in. -/
structure OpIn (W : World) (o : Opn) : Prop where
  rs : RS updK W o.A o.n o.c o.t
  oku : Oku o.t
  small : o.n * 64 ≤ 140737488351232
  m : FmIn W o.m
theorem OpIn.below {W W1 : World} {o : Opn} (h : OpIn W o) (hb : Below W.heap.size W W1) : OpIn W1 o := ⟨h.rs.below hb, h.oku, h.small, h.m.below hb⟩
/-- A block of another type is another block. -/
theorem OS.apart {α : Type} {S : Shape α} {w : World} {base : Nat} {A : Option Addr} {n c : Nat} {l : List α} (h : OS S w base A n c l) {g : Nat} {cs : Array Value} {t : TypeId} (hz : w.heap[g]? = some (.cells cs t (0, 0))) (hne : S.t ≠ t) : ∀ ad, A = some ad → ad.block ≠ g := fun ad e hg => by
  obtain ⟨_, _, cur, hh, _⟩ := h.ov.form ad e
  rw [hg, hz] at hh
  injection hh with hh
  injection hh with h1 h2
  exact hne h2.symm
theorem OS.grownT {α : Type} {S : Shape α} {w w1 : World} {base : Nat} {A : Option Addr} {n c : Nat} {l : List α} (h : OS S w base A n c l) {g : Nat} {cs : Array Value} {t : TypeId} (hz : w.heap[g]? = some (.cells cs t (0, 0))) (hne : S.t ≠ t) (hg : w.grownBy w1 (some g)) : OS S w1 base A n c l :=
  h.grown hg (fun ad e k => h.apart hz hne ad e (by injection k))
end Go.Proofs.YtifejiclenpfoaaDoor

/- Arguments that are slices of the law's ops, opened. -/
namespace Go.Proofs.YtifejiclenpfoaaDoor
open Go.ChangeShapes Go.WideShapes Go.ChangeAt Go.RowKit
set_option linter.unusedVariables false
set_option linter.unusedSimpArgs false
set_option maxRecDepth 4000
section
variable {H : Type} {enc : TypeId × Value → H} {W : World} {base : Nat} {spare : Nat → Bool} {held : Bool}
theorem open_op_cells {fuel : Nat} {cs : List Value} {y : DataW H × List MemPlace} (h : DataW.trod enc Tryd.prog W base spare held fuel 47 cs = some y) (hl : Light Tryd.prog 47 y.1) : ∃ o : Opn, cs = opC o ∧ OpIn W o := by
  obtain ⟨xs, m, -, hx, hlen, hxl, hg⟩ := DataW.trod_struct Tryd.underlying47 h
  have cI : Tryd.prog.cellsOf 3 = 1 := by kernel_rfl
  have cT : Tryd.prog.cellsOf 25 = 1 := by kernel_rfl
  have cM : Tryd.prog.cellsOf 45 = 23 := by kernel_rfl
  have cO : Tryd.prog.cellsOf 47 = 26 := by kernel_rfl
  have h0 : DataW.trod enc Tryd.prog W base spare held m 3 ((cs.drop 0).take (Tryd.prog.cellsOf 3)) = xs[0]? := hg 0 _ rfl
  have h1 : DataW.trod enc Tryd.prog W base spare held m 3 ((cs.drop 1).take (Tryd.prog.cellsOf 3)) = xs[1]? := hg 1 _ rfl
  have h2 : DataW.trod enc Tryd.prog W base spare held m 25 ((cs.drop 2).take (Tryd.prog.cellsOf 25)) = xs[2]? := hg 2 _ rfl
  have h3 : DataW.trod enc Tryd.prog W base spare held m 45 ((cs.drop 3).take (Tryd.prog.cellsOf 45)) = xs[3]? := hg 3 _ rfl
  rw [cO] at hlen
  rw [cI] at h0 h1
  rw [cT] at h2
  rw [cM] at h3
  have hx4 : xs.length = 4 := hxl
  subst hx
  match cs, hlen, xs, hx4 with
  | [d0, d1, d2, d3, d4, d5, d6, d7, d8, d9, d10, d11, d12, d13, d14, d15, d16, d17, d18, d19, d20, d21, d22, d23, d24, d25], _, [x0, x1, x2, x3], _ =>
    obtain ⟨kd, hv0, -, hw0⟩ := DataW.trod_int Tryd.underlying3 (show DataW.trod enc Tryd.prog W base spare held m 3 [d0] = some x0 from h0)
    obtain ⟨tg, hv1, -, hw1⟩ := DataW.trod_int Tryd.underlying3 (show DataW.trod enc Tryd.prog W base spare held m 3 [d1] = some x1 from h1)
    have hl2 : Light Tryd.prog 25 x2.1 := light_field Tryd.underlying47 hl (i := 2) (f := _) rfl rfl
    obtain ⟨BA, bn, bc, t, hv2, hr2, ho2, hs2⟩ := open_bat_cells (show DataW.trod enc Tryd.prog W base spare held m 25 [d2] = some x2 from h2) hl2
    have hl3 : Light Tryd.prog 45 x3.1 := light_field Tryd.underlying47 hl (i := 3) (f := _) rfl rfl
    obtain ⟨q, hv3, hq⟩ := open_msg_cells (show DataW.trod enc Tryd.prog W base spare held m 45 [d3, d4, d5, d6, d7, d8, d9, d10, d11, d12, d13, d14, d15, d16, d17, d18, d19, d20, d21, d22, d23, d24, d25] = some x3 from h3) hl3
    refine ⟨⟨kd, tg, BA, bn, bc, t, q⟩, ?_, hr2, ho2, hs2, hq⟩
    simp only [List.cons.injEq, and_true] at hv0 hv1 hv2
    subst hv0 hv1 hv2
    show _ = [Value.int .i64 kd, .int .i64 tg, .slice BA bn bc] ++ fmC q
    rw [← hv3]
    rfl
end
theorem open_ops20 {H : Type} {enc : TypeId × Value → H} {W : World} {base b0 : Nat} {spare : Nat → Bool} {held : Bool} {v : Value} {d : DataW H} {p : List MemPlace} (hv : Value.okWide Tryd.prog W .any b0 28 v)
    (h : DataW.Trod enc Tryd.prog W base spare held 28 v d p) (hl : Light Tryd.prog 28 d) : ∃ A n c l, v = .slice A n c ∧ RS opK W A n c l ∧ (∀ x ∈ l, OpIn W x) ∧ n * 272 ≤ 140737488351232 := by
  obtain ⟨a, len, cap, rfl⟩ := okWide_slice Tryd.underlying28 hv
  obtain ⟨fuel, hf⟩ := h
  obtain ⟨A, n, c, t, e1, e2, e3, e4⟩ := open_shp opK (fun x => OpIn W x) (by show Tryd.prog.cellsOf 47 = 26; kernel_rfl) (by show 0 < Tryd.prog.bytesOf 47; exact of_decide_eq_true (by kernel_rfl)) (fun fuel cs y hy hly => by
    obtain ⟨o, f1, f2⟩ := open_op_cells hy hly
    exact ⟨o, f1, trivial, f2⟩) hf hl
  have hb : Tryd.prog.bytesOf opK.t = 272 := by show Tryd.prog.bytesOf 47 = 272; kernel_rfl
  rw [hb] at e4
  have e1 : [Value.slice a len cap] = [.slice A n c] := e1
  injection e1 with e1
  exact ⟨A, n, c, t, e1, e2, e3, e4⟩
end Go.Proofs.YtifejiclenpfoaaDoor

/- Layer 20 (client): what the frame of the law's does holds. -/
namespace Go.Proofs.YtifejiclenpfoaaDoor
open Go.RowKit
set_option linter.unusedVariables false
set_option linter.unusedSimpArgs false
set_option maxRecDepth 4000
structure Hl where
  h : Hd
  A : Option Addr
  n : Nat
  c : Nat
def cliZ20 : Cli := ⟨ckZ, none, 0, 0⟩
def hlZ : Hl := ⟨hdZ, none, 0, 0⟩
def Cli.vv (x : Cli) : Array Value := cliV x.k x.A x.n x.c
def Hl.vv (x : Hl) : Array Value := hdV x.h x.A x.n x.c
/-- The cells of does: c, the op, the result, was, n, want, h, told. -/
structure DoesS (w wx : World) (gr gw gn gt gh gd : Nat) (k : Ck) (A : Option Addr) (n c : Nat) (o : Opn) (A2 : Option Addr) (c2 : Nat) (N T : Cli) (H D : Hl) : Prop where
  bel : Below w.heap.size w wx
  ord : w.heap.size + 1 < gr ∧ gr < gw ∧ gw < gn ∧ gn < gt ∧ gt < gh ∧ gh < gd ∧ gd < wx.heap.size
  x : wx.heap[w.heap.size]? = some (.cells (cliV k A n c) 27 (0, 0))
  y : wx.heap[w.heap.size + 1]? = some (.cells (opV o) 47 (0, 0))
  z : wx.heap[gr]? = some (.cells (cliV ckZ none 0 0) 27 (0, 0))
  w_ : wx.heap[gw]? = some (.cells (cliV k A2 n c2) 27 (0, 0))
  was : OS updK wx 0 A2 n c2 k.t
  lt : ∀ ad, A2 = some ad → ad.block < gw
  n_ : wx.heap[gn]? = some (.cells N.vv 27 (0, 0))
  t_ : wx.heap[gt]? = some (.cells T.vv 27 (0, 0))
  h_ : wx.heap[gh]? = some (.cells H.vv 61 (0, 0))
  d_ : wx.heap[gd]? = some (.cells D.vv 61 (0, 0))
section
variable {w wx wy : World} {gr gw gn gt gh gd : Nat} {k : Ck} {A : Option Addr} {n c : Nat} {o : Opn} {A2 : Option Addr} {c2 : Nat} {N T : Cli} {H D : Hl}
theorem DoesS.step (h : DoesS w wx gr gw gn gt gh gd k A n c o A2 c2 N T H D) (hb : Below wx.heap.size wx wy) : DoesS w wy gr gw gn gt gh gd k A n c o A2 c2 N T H D :=
  ⟨below_step h.bel hb, ⟨h.ord.1, h.ord.2.1, h.ord.2.2.1, h.ord.2.2.2.1, h.ord.2.2.2.2.1, h.ord.2.2.2.2.2.1, Nat.lt_of_lt_of_le h.ord.2.2.2.2.2.2 hb.size⟩, blk_below h.x hb, blk_below h.y hb, blk_below h.z hb, blk_below h.w_ hb, h.was.below hb, h.lt, blk_below h.n_ hb, blk_below h.t_ hb, blk_below h.h_ hb, blk_below h.d_ hb⟩
theorem DoesS.setN (h : DoesS w wx gr gw gn gt gh gd k A n c o A2 c2 N T H D) (hg : wx.grownBy wy (some gn)) {N' : Cli} (hn : wy.heap[gn]? = some (.cells N'.vv 27 (0, 0))) : DoesS w wy gr gw gn gt gh gd k A n c o A2 c2 N' T H D := by
  obtain ⟨o1, o2, o3, o4, o5, o6, o7⟩ := h.ord
  exact ⟨below_grown h.bel hg (by omega), ⟨o1, o2, o3, o4, o5, o6, Nat.lt_of_lt_of_le o7 hg.size⟩, blk_grown h.x hg (fun e => by injection e with e; omega), blk_grown h.y hg (fun e => by injection e with e; omega), blk_grown h.z hg (fun e => by injection e with e; omega), blk_grown h.w_ hg (fun e => by injection e with e; omega), h.was.grown hg (fun ad e k => by have := h.lt ad e; injection k with k; omega), h.lt, hn, blk_grown h.t_ hg (fun e => by injection e with e; omega), blk_grown h.h_ hg (fun e => by injection e with e; omega), blk_grown h.d_ hg (fun e => by injection e with e; omega)⟩
theorem DoesS.setH (h : DoesS w wx gr gw gn gt gh gd k A n c o A2 c2 N T H D) (hg : wx.grownBy wy (some gh)) {H' : Hl} (hn : wy.heap[gh]? = some (.cells H'.vv 61 (0, 0))) : DoesS w wy gr gw gn gt gh gd k A n c o A2 c2 N T H' D := by
  obtain ⟨o1, o2, o3, o4, o5, o6, o7⟩ := h.ord
  exact ⟨below_grown h.bel hg (by omega), ⟨o1, o2, o3, o4, o5, o6, Nat.lt_of_lt_of_le o7 hg.size⟩, blk_grown h.x hg (fun e => by injection e with e; omega), blk_grown h.y hg (fun e => by injection e with e; omega), blk_grown h.z hg (fun e => by injection e with e; omega), blk_grown h.w_ hg (fun e => by injection e with e; omega), h.was.grown hg (fun ad e k => by have := h.lt ad e; injection k with k; omega), h.lt, blk_grown h.n_ hg (fun e => by injection e with e; omega), blk_grown h.t_ hg (fun e => by injection e with e; omega), hn, blk_grown h.d_ hg (fun e => by injection e with e; omega)⟩
/-- A row of one's own was written over. -/
theorem DoesS.own (h : DoesS w wx gr gw gn gt gh gd k A n c o A2 c2 N T H D) {B : Option Addr} {m d : Nat} (hg : wx.grownBy wy ((Value.slice B m d).ownBlock)) (hf : ∀ ad, B = some ad → gd < ad.block) : DoesS w wy gr gw gn gt gh gd k A n c o A2 c2 N T H D := by
  obtain ⟨o1, o2, o3, o4, o5, o6, o7⟩ := h.ord
  have hne : ∀ g, g ≤ gd → some g ≠ (Value.slice B m d).ownBlock := fun g hgd e => by
    obtain ⟨ad, e1, e2⟩ := own_of e.symm
    have := hf ad e1
    omega
  exact ⟨below_own h.bel hg (fun ad e => by have := hf ad e; omega), ⟨o1, o2, o3, o4, o5, o6, Nat.lt_of_lt_of_le o7 hg.size⟩, blk_grown h.x hg (hne _ (by omega)), blk_grown h.y hg (hne _ (by omega)), blk_grown h.z hg (hne _ (by omega)), blk_grown h.w_ hg (hne _ (by omega)), h.was.grown hg (fun ad e => hne _ (by have := h.lt ad e; omega)), h.lt, blk_grown h.n_ hg (hne _ (by omega)), blk_grown h.t_ hg (hne _ (by omega)), blk_grown h.h_ hg (hne _ (by omega)), blk_grown h.d_ hg (hne _ (by omega))⟩
end
end Go.Proofs.YtifejiclenpfoaaDoor

/- Layer 20 (client): the law's step. -/
namespace Go.Proofs.YtifejiclenpfoaaDoor
open Go.RowKit
set_option linter.unusedVariables false
set_option linter.unusedSimpArgs false
set_option maxRecDepth 4000
/-- A client behind a step; what is learnt. kind: the rest by 4. -/
def stepK (k : Ck) (q : Int) (b : List Upd) (hb : Bool) : Ck := if q = 0 then (if subN k b = 0 then subK k b else k) else if q = 1 then k else if ckB k then hearK k hb else k
def stepH (k : Ck) (q : Int) (hb : Bool) (err idx : Int) : Hd := if q = 0 then hdZ else if q = 1 then hdZ else hearH k hb err idx
def opQ (o : Opn) : Int := (IntKind.u64.wrap o.kind).tmod 4
structure StpS (w wx : World) (gr gq gn gh : Nat) (k : Ck) (A : Option Addr) (n c : Nat) (o : Opn) (N : Cli) (H : Hl) : Prop where
  bel : Below w.heap.size w wx
  ord : w.heap.size + 1 < gr ∧ gr < gq ∧ gq < gn ∧ gn < gh ∧ gh < wx.heap.size
  x : wx.heap[w.heap.size]? = some (.cells (cliV k A n c) 27 (0, 0))
  y : wx.heap[w.heap.size + 1]? = some (.cells (opV o) 47 (0, 0))
  z : wx.heap[gr]? = some (.cells (cliV ckZ none 0 0) 27 (0, 0))
  q : wx.heap[gq]? = some (.cells (hdV hdZ none 0 0) 61 (0, 0))
  n_ : wx.heap[gn]? = some (.cells (cliV N.k N.A N.n N.c) 27 (0, 0))
  h_ : wx.heap[gh]? = some (.cells (hdV H.h H.A H.n H.c) 61 (0, 0))
section
variable {w wx wy : World} {gr gq gn gh : Nat} {k : Ck} {A : Option Addr} {n c : Nat} {o : Opn} {N : Cli} {H : Hl}
theorem StpS.step (h : StpS w wx gr gq gn gh k A n c o N H) (hb : Below wx.heap.size wx wy) : StpS w wy gr gq gn gh k A n c o N H :=
  ⟨below_step h.bel hb, ⟨h.ord.1, h.ord.2.1, h.ord.2.2.1, h.ord.2.2.2.1, Nat.lt_of_lt_of_le h.ord.2.2.2.2 hb.size⟩, blk_below h.x hb, blk_below h.y hb, blk_below h.z hb, blk_below h.q hb, blk_below h.n_ hb, blk_below h.h_ hb⟩
theorem StpS.setN (h : StpS w wx gr gq gn gh k A n c o N H) (hg : wx.grownBy wy (some gn)) {N' : Cli} (hn : wy.heap[gn]? = some (.cells (cliV N'.k N'.A N'.n N'.c) 27 (0, 0))) : StpS w wy gr gq gn gh k A n c o N' H := by
  obtain ⟨o1, o2, o3, o4, o5⟩ := h.ord
  exact ⟨below_grown h.bel hg (by omega), ⟨o1, o2, o3, o4, Nat.lt_of_lt_of_le o5 hg.size⟩, blk_grown h.x hg (fun e => by injection e with e; omega), blk_grown h.y hg (fun e => by injection e with e; omega), blk_grown h.z hg (fun e => by injection e with e; omega), blk_grown h.q hg (fun e => by injection e with e; omega), hn, blk_grown h.h_ hg (fun e => by injection e with e; omega)⟩
theorem StpS.setH (h : StpS w wx gr gq gn gh k A n c o N H) (hg : wx.grownBy wy (some gh)) {H' : Hl} (hn : wy.heap[gh]? = some (.cells (hdV H'.h H'.A H'.n H'.c) 61 (0, 0))) : StpS w wy gr gq gn gh k A n c o N H' := by
  obtain ⟨o1, o2, o3, o4, o5⟩ := h.ord
  exact ⟨below_grown h.bel hg (by omega), ⟨o1, o2, o3, o4, Nat.lt_of_lt_of_le o5 hg.size⟩, blk_grown h.x hg (fun e => by injection e with e; omega), blk_grown h.y hg (fun e => by injection e with e; omega), blk_grown h.z hg (fun e => by injection e with e; omega), blk_grown h.q hg (fun e => by injection e with e; omega), blk_grown h.n_ hg (fun e => by injection e with e; omega), hn⟩
end
set_option maxHeartbeats 16000000 in
set_option maxRecDepth 100000 in
theorem step20_any (k : Ck) (A : Option Addr) (n c : Nat) (o : Opn) (w : World) (hL : Laid w) (hr : OS updK w 0 A n c k.t) (ok : k.ok) (hn : n ≤ 10) (ho : OpIn w o) (hck : ckB k = true) :
    Calls Tryd.prog 19 #[.agg (cliV k A n c), .agg (opV o)] w fun e w' => ∃ (A1 : Option Addr) (n1 c1 : Nat) (A2 : Option Addr) (n2 c2 : Nat), e = .returned (.tuple #[.agg (cliV (stepK k (opQ o) (o.t.take 10) (hearB k o.m.kd o.m.tgt o.m.seq o.m.err)) A1 n1 c1), .agg (hdV (stepH k (opQ o) (hearB k o.m.kd o.m.tgt o.m.seq o.m.err) o.m.err o.m.idx) A2 n2 c2)]) ∧
      OS updK w' 0 A1 n1 c1 (stepK k (opQ o) (o.t.take 10) (hearB k o.m.kd o.m.tgt o.m.seq o.m.err)).t ∧ OS updK w' 0 A2 n2 c2 (stepH k (opQ o) (hearB k o.m.kd o.m.tgt o.m.seq o.m.err) o.m.err o.m.idx).t ∧ Below w.heap.size w w' := by
  obtain ⟨hB, hhB⟩ : ∃ y, hearB k o.m.kd o.m.tgt o.m.seq o.m.err = y := ⟨_, rfl⟩
  obtain ⟨q, hqo⟩ : ∃ y, opQ o = y := ⟨_, rfl⟩
  have HHB := Lib.hid hhB
  have HQO := Lib.hid hqo
  rw [hhB, hqo]
  clear hhB hqo
  have HLW := Lib.hid hL
  have HRO := Lib.hid hr
  have HRW := Lib.hid hr.reads
  have HOW := Lib.hid ho
  have HCB := Lib.hid hck
  have OK := Lib.hid ok
  have hblk1 := blk_new w (.cells (cliV k A n c) 27)
  have hbel1 : Below w.heap.size w (w.alloc (.cells (cliV k A n c) 27)) := below_alloc (Below.refl _ _) _
  have hblk2 := blk_new (w.alloc (.cells (cliV k A n c) 27)) (.cells (opV o) 47)
  have hbel2 : Below w.heap.size w ((w.alloc (.cells (cliV k A n c) 27)).alloc (.cells (opV o) 47)) := below_alloc (hbel1) _
  rw [show (w.alloc (.cells (cliV k A n c) 27)).heap.size = w.heap.size + 1 by simp] at hblk2
  replace hblk1 := blk_below hblk1 (below_alloc (Below.refl _ _) (.cells (opV o) 47))
  have HP1 := Lib.hid (cli_at hblk1)
  have HBK1 := Lib.hid hblk1
  have HP2 := Lib.hid (op_at hblk2)
  have HBK2 := Lib.hid hblk2
  have HBE := Lib.hid hbel2
  have HL := Lib.hid (hL.below HBE.out)
  obtain ⟨cs1, hcs1⟩ : ∃ cs, cliV k A n c = cs := ⟨_, rfl⟩
  obtain ⟨cs2, hcs2⟩ : ∃ cs, opV o = cs := ⟨_, rfl⟩
  simp only [hcs1, hcs2] at HBE HL HP1 HP2 HBK1 HBK2 ⊢
  have HC1 := Lib.hid hcs1
  have HC2 := Lib.hid hcs2
  clear hL hcs1 hblk1 hbel1 hcs2 hblk2 hbel2
  have HX0 : Hid (((w.alloc (.cells cs1 27)).alloc (.cells cs2 47)).heap[w.heap.size]? = some (.cells (cliV k A n c) 27 (0, 0))) := Lib.hid (HBK1.out.trans (by rw [HC1.out]))
  have HY0 : Hid (((w.alloc (.cells cs1 27)).alloc (.cells cs2 47)).heap[w.heap.size + 1]? = some (.cells (opV o) 47 (0, 0))) := Lib.hid (HBK2.out.trans (by rw [HC2.out]))
  have HS0 : Hid (((w.alloc (.cells cs1 27)).alloc (.cells cs2 47)).heap.size = w.heap.size + 2) := Lib.hid (by simp)
  clear hr ok ho hck
  obtain ⟨W0, hW0⟩ : ∃ W, ((w.alloc (.cells cs1 27)).alloc (.cells cs2 47)) = W := ⟨_, rfl⟩
  obtain ⟨W1, hW1⟩ : ∃ W, W0.alloc (.cells (cliV ckZ none 0 0) 27) = W := ⟨_, rfl⟩
  obtain ⟨W2, hW2⟩ : ∃ W, W1.alloc (.cells (hdV hdZ none 0 0) 61) = W := ⟨_, rfl⟩
  obtain ⟨W3, hW3⟩ : ∃ W, W2.alloc (.cells (cliV ckZ none 0 0) 27) = W := ⟨_, rfl⟩
  obtain ⟨W4, hW4⟩ : ∃ W, W3.alloc (.cells (hdV hdZ none 0 0) 61) = W := ⟨_, rfl⟩
  rw [hW0] at HBE HX0 HY0 HS0
  have HD : Hid (StpS w W4 W0.heap.size W1.heap.size W2.heap.size W3.heap.size k A n c o cliZ20 hlZ) := Lib.hid (by
    have b1 : Below W0.heap.size W0 W1 := hW1 ▸ below_alloc (Below.refl _ _) _
    have b2 : Below W1.heap.size W1 W2 := hW2 ▸ below_alloc (Below.refl _ _) _
    have b3 : Below W2.heap.size W2 W3 := hW3 ▸ below_alloc (Below.refl _ _) _
    have b4 : Below W3.heap.size W3 W4 := hW4 ▸ below_alloc (Below.refl _ _) _
    have s0 := HS0.out
    have s1 : W1.heap.size = W0.heap.size + 1 := by rw [← hW1]; simp
    have s2 : W2.heap.size = W1.heap.size + 1 := by rw [← hW2]; simp
    have s3 : W3.heap.size = W2.heap.size + 1 := by rw [← hW3]; simp
    have s4 : W4.heap.size = W3.heap.size + 1 := by rw [← hW4]; simp
    have n1 : W1.heap[W0.heap.size]? = some (.cells (cliV ckZ none 0 0) 27 (0, 0)) := hW1 ▸ blk_new _ _
    have n2 : W2.heap[W1.heap.size]? = some (.cells (hdV hdZ none 0 0) 61 (0, 0)) := hW2 ▸ blk_new _ _
    have n3 : W3.heap[W2.heap.size]? = some (.cells (cliV ckZ none 0 0) 27 (0, 0)) := hW3 ▸ blk_new _ _
    have n4 : W4.heap[W3.heap.size]? = some (.cells (hdV hdZ none 0 0) 61 (0, 0)) := hW4 ▸ blk_new _ _
    have b04 := below_step (below_step (below_step b1 b2) b3) b4
    exact ⟨below_step HBE.out b04, by omega, blk_below HX0.out b04, blk_below HY0.out b04, blk_below (blk_below (blk_below n1 b2) b3) b4, blk_below (blk_below n2 b3) b4, blk_below n3 b4, n4⟩)
  clear HX0 HY0 HS0 HBE HP1 HP2 HBK1 HBK2 HL
  have hw1 : W0.alloc (.cells #[.int .i64 0, .int .u32 0, .slice none 0 0, .bool false] 27) = W1 := hW1
  have hw2 : W1.alloc (.cells #[.bool false, .int .i64 0, .int .u32 0, .slice none 0 0, .int .u64 0] 61) = W2 := hW2
  have hw3 : W2.alloc (.cells #[.int .i64 0, .int .u32 0, .slice none 0 0, .bool false] 27) = W3 := hW3
  have hw4 : W3.alloc (.cells #[.bool false, .int .i64 0, .int .u32 0, .slice none 0 0, .int .u64 0] 61) = W4 := hW4
  clear hW1 hW2 hW3 hW4
  go_enter Tryd.func19, Tryd.ntmps19
  go_upto_region 4 with fail
  clear hW0 hw1 hw2 hw3 hw4
  obtain ⟨gr, hgr⟩ : ∃ g, W0.heap.size = g := ⟨_, rfl⟩
  obtain ⟨gq, hgq⟩ : ∃ g, W1.heap.size = g := ⟨_, rfl⟩
  obtain ⟨gn, hgn⟩ : ∃ g, W2.heap.size = g := ⟨_, rfl⟩
  obtain ⟨gh, hgh⟩ : ∃ g, W3.heap.size = g := ⟨_, rfl⟩
  rw [hgr, hgq, hgn, hgh] at HD ⊢
  clear hgr hgq hgn hgh
  have HOL := Lib.hid ((op_at HD.out.y).all _ (Below.refl _ _))
  have hq : (IntKind.u64.wrap o.kind).tmod 4 = q := HQO.out
  obtain ⟨q10, hq10⟩ : ∃ q10, min o.n 10 = q10 := ⟨_, rfl⟩
  have HQ := Lib.hid hq10
  have HQ10 : Hid (q10 ≤ 10) := Lib.hid (by omega)
  have HON : Hid (o.n ≤ 140737488355328 ∧ o.m.bn ≤ 140737488355328) := Lib.hid ⟨by have := HOW.out.small; omega, by have := HOW.out.m.tsm; omega⟩
  have OKU : Hid (Oku (o.t.take 10)) := Lib.hid (fun u hu => HOW.out.oku u (List.mem_of_mem_take hu))
  clear hq10
  go_upto_block 0 with (first | ((with_reducible show wpList _ _ _ (Oper.mk _ (Op.load _ _) _ _ _ _ :: _) _ _); refine wpList_load_g (HOL.out.kind) _ rfl rfl (by go_simp) ?_))
  try dsimp only [Act.put]
  clear hq HOL
  by_cases hq1 : q = 1
  · have hqz : (q == 0) = false := by rw [hq1]; rfl
    have hqy : (q == 1) = true := by simpa using hq1
    have HSK : Hid (stepK k q (o.t.take 10) hB = k ∧ stepH k q hB o.m.err o.m.idx = hdZ) := Lib.hid ⟨by unfold stepK; rw [hq1]; rfl, by unfold stepH; rw [hq1]; rfl⟩
    clear hq1
    go_upto_region 9 with fail
    try dsimp only [Act.put]
    have HD5 := Lib.hid (HD.out.step (below_drew1 W4))
    refine wp_region_mix ((fun w0 => w0.heap[w.heap.size]? = some (.cells (cliV k A n c) 27 (0, 0)) ∧ w0.heap[gh]? = some (.cells (hdV hdZ none 0 0) 61 (0, 0)))) [(0, 0), (1, 0), (2, 2), (3, 2)] (by kernel_rfl) (by kernel_rfl) (⟨HD5.out.x, HD5.out.h_⟩) ?_
    simp only [List.map_cons, List.map_nil]
    refine wpO_loadW (t := 27) (ad := ⟨w.heap.size, 0, none⟩) rfl rfl ?hw rfl rfl ((fun w0 hS => load_cli hS.1)) ?_
    case hw => go_simp
    refine wpO_loadW (t := 61) (ad := ⟨gh, 0, none⟩) rfl rfl ?hw rfl rfl ((fun w0 hS => load_hd hS.2)) ?_
    case hw => go_simp
    refine wpO_step2 rfl rfl (⟨HD5.out.x, HD5.out.h_⟩) (fun K hK => ?_)
    rw [if_pos (show Region.wanted _ _ = true from rfl)]
    refine oper_store_blk HD5.out.z 27 0 (cliV k A n c) (Nat.le_refl _) (info_cli _ _ _ _) (cli_one _ _ _ _) _ _ rfl rfl rfl ?_
    intro w9 hg9 hs9 hb9
    rw [splice_cli] at hb9
    have H9 := Lib.hid (And.intro hg9 hb9)
    clear hg9 hs9 hb9
    refine hK _ _ ⟨⟨blk_grown HD5.out.x H9.out.1 (fun e => by injection e with e; have := HD5.out.ord; omega), blk_grown HD5.out.h_ H9.out.1 (fun e => by injection e with e; have := HD5.out.ord; omega)⟩, ?_⟩
    clear hK K
    refine wpO_step2 rfl rfl (⟨blk_grown HD5.out.x H9.out.1 (fun e => by injection e with e; have := HD5.out.ord; omega), blk_grown HD5.out.h_ H9.out.1 (fun e => by injection e with e; have := HD5.out.ord; omega)⟩) (fun K hK => ?_)
    rw [if_pos (show Region.wanted _ _ = true from rfl)]
    refine oper_store_blk (blk_grown HD5.out.q H9.out.1 (fun e => by injection e with e; have := HD5.out.ord; omega)) 61 0 (hdV hdZ none 0 0) (Nat.le_refl _) (info_hd _ _ _ _) (hd_one _ _ _ _) _ _ rfl rfl rfl ?_
    intro w10 hg9 hs9 hb9
    rw [splice_hd] at hb9
    have H10 := Lib.hid (And.intro hg9 hb9)
    clear hg9 hs9 hb9
    refine hK _ _ ⟨⟨blk_grown (blk_grown HD5.out.x H9.out.1 (fun e => by injection e with e; have := HD5.out.ord; omega)) H10.out.1 (fun e => by injection e with e; have := HD5.out.ord; omega), blk_grown (blk_grown HD5.out.h_ H9.out.1 (fun e => by injection e with e; have := HD5.out.ord; omega)) H10.out.1 (fun e => by injection e with e; have := HD5.out.ord; omega)⟩, ?_⟩
    clear hK K
    refine wpO_nil ?_
    go_wp2_with fail
    refine bodyPost_ret (results_c2c rfl rfl (load_cli (blk_grown H9.out.2 H10.out.1 (fun e => by injection e with e; have := HD5.out.ord; omega))) rfl (load_hd H10.out.2)) rfl ?_
    have ho := HD5.out.ord
    have hb9 := below_grown (below_grown HD5.out.bel H9.out.1 (by omega)) H10.out.1 (by omega)
    rw [HSK.out.1, HSK.out.2]
    exact ⟨A, n, c, none, 0, 0, rfl, HRO.out.below hb9, OS.nil _ _ _, hb9⟩
  · have hqy : (q == 1) = false := by simpa using hq1
    go_cut [8] (fun s8 wx => ∃ NN : Int, s8 = .int .i64 NN ∧ Hid (∃ (N : Cli) (H : Hl), StpS w wx gr gq gn gh k A n c o N H ∧ OS updK wx 0 N.A N.n N.c N.k.t ∧ OS updK wx 0 H.A H.n H.c H.h.t ∧ (NN ≠ 0 → stepK k q (o.t.take 10) hB = k ∧ stepH k q hB o.m.err o.m.idx = hdZ) ∧ (NN = 0 → stepK k q (o.t.take 10) hB = N.k ∧ stepH k q hB o.m.err o.m.idx = H.h)))
    case first =>
      by_cases hq0 : q = 0
      · have hqz : (q == 0) = true := by simpa using hq0
        have HSK : Hid (stepK k q (o.t.take 10) hB = if subN k (o.t.take 10) = 0 then subK k (o.t.take 10) else k) := Lib.hid (by unfold stepK; rw [if_pos hq0])
        have HSH : Hid (stepH k q hB o.m.err o.m.idx = hdZ) := Lib.hid (by unfold stepH; rw [if_pos hq0])
        clear hq0 hq1
        go_upto_region 7 with fail
        try dsimp only [Act.put]
        refine wp_region_mix ((fun w0 => Below W4.heap.size W4 w0)) [(0, 0), (1, 4), (2, 0), (3, 2), (4, 2), (5, 4), (6, 4), (7, 4), (8, 3), (9, 3)] (by kernel_rfl) (by kernel_rfl) ((below_drew1 _)) ?_
        simp only [List.map_cons, List.map_nil]
        refine wpO_loadW (t := 27) (ad := ⟨w.heap.size, 0, none⟩) rfl rfl ?hw rfl rfl ((fun w0 hS => load_cli (blk_below HD.out.x hS))) ?_
        case hw => go_simp
        iterate 1 (refine wpO_step4 rfl rfl (fun K hK => ?_); go_simp; refine hK _ _ ?_; clear hK K)
        refine wpO_loadW (t := 25) (ad := ⟨(w.heap.size+1), 2, none⟩) rfl rfl ?hw rfl rfl ((fun w0 hS => ((op_at HD.out.y).all _ hS).bat)) ?_
        case hw => go_simp
        refine wpO_step2 rfl rfl (below_drew1 _) (fun K hK => ?_)
        go_simp
        have HB0 := Lib.hid (below_drew1 W4)
        refine (lbatch_any o.A o.n o.c o.t _ (HOW.out.rs.below (below_step HD.out.bel HB0.out)) HON.out.1).mono ?_
        rw [HQ.out]
        rintro e w5 ⟨A5, c5, rfl, hO5, hb5⟩
        have HV5 := Lib.hid (below_step HB0.out hb5)
        have HO5 := Lib.hid hO5.reads
        clear hO5 hb5 HB0
        refine hK _ _ ⟨HV5.out, ?_⟩
        clear hK K
        refine wpO_step2 rfl rfl (HV5.out) (fun K hK => ?_)
        go_simp
        have HD5 := Lib.hid (HD.out.step HV5.out)
        refine (csubmit_any k A n c A5 q10 c5 (o.t.take 10) w5 (HLW.out.below HD5.out.bel) (HRW.out.below HD5.out.bel) OK.out (by omega) HO5.out OKU.out (by have := HQ10.out; omega)).mono ?_
        rintro e w6 ⟨A6, n6, c6, rfl, hO6, hb6⟩
        have HV6 := Lib.hid (below_step HV5.out hb6)
        have HO6 := Lib.hid (hO6.lower (Nat.zero_le _))
        have HD6 := Lib.hid (HD5.out.step hb6)
        clear hO6 hb6 HO5 HD5
        refine hK _ _ ⟨HV6.out, ?_⟩
        clear hK K
        iterate 3 (refine wpO_step4 rfl rfl (fun K hK => ?_); go_simp; refine hK _ _ ?_; clear hK K)
        refine wpO_step3 rfl rfl (fun K hK => ?_)
        rw [if_pos (show Region.wanted _ _ = true from rfl)]
        have HNN : Hid (w6.heap[gn]? = some (.cells (cliV ckZ none 0 0) 27 (0, 0))) := Lib.hid HD6.out.n_
        refine oper_store_blk HNN.out 27 0 (cliV (subK k (o.t.take 10)) A6 n6 c6) (Nat.le_refl _) (info_cli _ _ _ _) (cli_one _ _ _ _) _ _ rfl rfl rfl ?_
        intro w7 hg9 hs9 hb9
        rw [splice_cli] at hb9
        have HD7 : Hid (StpS w w7 gr gq gn gh k A n c o ⟨subK k (o.t.take 10), A6, n6, c6⟩ hlZ) := Lib.hid (HD6.out.setN hg9 hb9)
        have HO7 := Lib.hid (HO6.out.grownT HNN.out (by decide) hg9)
        clear hg9 hs9 hb9 HNN HO6 HD6
        refine hK _ _ ?_
        clear hK K
        refine wpO_step3 rfl rfl (fun K hK => ?_); go_simp; refine hK _ _ ?_; clear hK K
        refine wpO_nil ?_
        go_wp2_with fail
        try dsimp only [Act.put]
        go_meet
        exact ⟨subN k (o.t.take 10), rfl, _, _, HD7.out, HO7.out, OS.nil _ _ _, fun h => ⟨by rw [HSK.out, if_neg h], HSH.out⟩, fun h => ⟨by rw [HSK.out, if_pos h], HSH.out⟩⟩
      · have hqz : (q == 0) = false := by simpa using hq0
        have HSK : Hid (stepK k q (o.t.take 10) hB = hearK k hB) := Lib.hid (by unfold stepK; rw [if_neg hq0, if_neg hq1, HCB.out]; rfl)
        have HSH : Hid (stepH k q hB o.m.err o.m.idx = hearH k hB o.m.err o.m.idx) := Lib.hid (by unfold stepH; rw [if_neg hq0, if_neg hq1])
        have HE : Hid (ckE k = 0) := Lib.hid (by unfold ckE; rw [HCB.out]; rfl)
        clear hq0 hq1
        obtain ⟨qm, hqm⟩ : ∃ qm, min o.m.bn 10 = qm := ⟨_, rfl⟩
        have HQM := Lib.hid hqm
        clear hqm
        go_upto_region 5 with fail
        try dsimp only [Act.put]
        refine wp_region_mix ((fun w0 => Below W4.heap.size W4 w0)) [(0, 0), (1, 4), (2, 0), (3, 2), (4, 2), (5, 4), (6, 4), (7, 4), (8, 4), (9, 3), (10, 3), (11, 3)] (by kernel_rfl) (by kernel_rfl) ((below_drew1 _)) ?_
        simp only [List.map_cons, List.map_nil]
        refine wpO_loadW (t := 27) (ad := ⟨w.heap.size, 0, none⟩) rfl rfl ?hw rfl rfl ((fun w0 hS => load_cli (blk_below HD.out.x hS))) ?_
        case hw => go_simp
        iterate 1 (refine wpO_step4 rfl rfl (fun K hK => ?_); go_simp; refine hK _ _ ?_; clear hK K)
        refine wpO_loadW (t := 45) (ad := ⟨(w.heap.size+1), 3, none⟩) rfl rfl ?hw rfl rfl ((fun w0 hS => ((op_at HD.out.y).all _ hS).msg)) ?_
        case hw => go_simp
        refine wpO_step2 rfl rfl (below_drew1 _) (fun K hK => ?_)
        go_simp
        have HB0 := Lib.hid (below_drew1 W4)
        refine (lmsg_any o.m _ (HOW.out.m.t.below (below_step HD.out.bel HB0.out)) HON.out.2).mono ?_
        rw [HQM.out]
        rintro e w5 ⟨A5, c5, rfl, hO5, hb5⟩
        have HV5 := Lib.hid (below_step HB0.out hb5)
        have HD5 := Lib.hid (HD.out.step HV5.out)
        clear hO5 hb5 HB0
        refine hK _ _ ⟨HV5.out, ?_⟩
        clear hK K
        refine wpO_step2 rfl rfl (HV5.out) (fun K hK => ?_)
        go_simp
        have hcall : Calls Tryd.prog 27 #[.agg (cliV k A n c), .agg (fmV (cutM o.m A5 qm c5))] w5 fun e w' => ∃ A1 n1 c1 A2 n2 c2, e = .returned (.tuple #[.agg (cliV (hearK k (hearB k o.m.kd o.m.tgt o.m.seq o.m.err)) A1 n1 c1), .agg (hdV (hearH k (hearB k o.m.kd o.m.tgt o.m.seq o.m.err) o.m.err o.m.idx) A2 n2 c2), .int .i64 (ckE k)]) ∧
            OS updK w' w5.heap.size A1 n1 c1 (hearK k (hearB k o.m.kd o.m.tgt o.m.seq o.m.err)).t ∧ OS updK w' w5.heap.size A2 n2 c2 (hearH k (hearB k o.m.kd o.m.tgt o.m.seq o.m.err) o.m.err o.m.idx).t ∧ Below w5.heap.size w5 w' := chear_any k A n c (cutM o.m A5 qm c5).mg w5 (HLW.out.below HD5.out.bel) (HRW.out.below HD5.out.bel) OK.out (by omega) (mg_fits _)
        rw [HHB.out, HE.out] at hcall
        refine hcall.mono ?_
        clear hcall
        rintro e w6 ⟨A6, n6, c6, B6, m6, d6, rfl, hO6, hP6, hb6⟩
        obtain ⟨KN, hKN⟩ : ∃ x, hearK k hB = x := ⟨_, rfl⟩
        obtain ⟨HN, hHN⟩ : ∃ x, hearH k hB o.m.err o.m.idx = x := ⟨_, rfl⟩
        have HKN := Lib.hid (And.intro hKN hHN)
        rw [hKN] at hO6
        rw [hHN] at hP6
        rw [hKN, hHN]
        have HV6 := Lib.hid (below_step HV5.out hb6)
        have HO6 := Lib.hid (hO6.lower (Nat.zero_le _))
        have HP6 := Lib.hid (hP6.lower (Nat.zero_le _))
        have HD6 := Lib.hid (HD5.out.step hb6)
        clear hO6 hP6 hb6 HD5 hKN hHN
        refine hK _ _ ⟨HV6.out, ?_⟩
        clear hK K
        iterate 4 (refine wpO_step4 rfl rfl (fun K hK => ?_); go_simp; refine hK _ _ ?_; clear hK K)
        refine wpO_step3 rfl rfl (fun K hK => ?_)
        rw [if_pos (show Region.wanted _ _ = true from rfl)]
        have HNN : Hid (w6.heap[gn]? = some (.cells (cliV ckZ none 0 0) 27 (0, 0))) := Lib.hid HD6.out.n_
        refine oper_store_blk HNN.out 27 0 (cliV KN A6 n6 c6) (Nat.le_refl _) (info_cli _ _ _ _) (cli_one _ _ _ _) _ _ rfl rfl rfl ?_
        intro w7 hg9 hs9 hb9
        rw [splice_cli] at hb9
        have HD7 : Hid (StpS w w7 gr gq gn gh k A n c o ⟨KN, A6, n6, c6⟩ hlZ) := Lib.hid (HD6.out.setN hg9 hb9)
        have HO7 := Lib.hid (HO6.out.grownT HNN.out (by decide) hg9)
        have HP7 := Lib.hid (HP6.out.grownT HNN.out (by decide) hg9)
        clear hg9 hs9 hb9 HNN HO6 HP6 HD6
        refine hK _ _ ?_
        clear hK K
        refine wpO_step3 rfl rfl (fun K hK => ?_)
        rw [if_pos (show Region.wanted _ _ = true from rfl)]
        have HNN : Hid (w7.heap[gh]? = some (.cells (hdV hdZ none 0 0) 61 (0, 0))) := Lib.hid HD7.out.h_
        refine oper_store_blk HNN.out 61 0 (hdV HN B6 m6 d6) (Nat.le_refl _) (info_hd _ _ _ _) (hd_one _ _ _ _) _ _ rfl rfl rfl ?_
        intro w8 hg9 hs9 hb9
        rw [splice_hd] at hb9
        have HD8 : Hid (StpS w w8 gr gq gn gh k A n c o ⟨KN, A6, n6, c6⟩ ⟨HN, B6, m6, d6⟩) := Lib.hid (HD7.out.setH hg9 hb9)
        have HO8 := Lib.hid (HO7.out.grownT HNN.out (by decide) hg9)
        have HP8 := Lib.hid (HP7.out.grownT HNN.out (by decide) hg9)
        clear hg9 hs9 hb9 HNN HO7 HP7 HD7
        refine hK _ _ ?_
        clear hK K
        refine wpO_step3 rfl rfl (fun K hK => ?_); go_simp; refine hK _ _ ?_; clear hK K
        refine wpO_nil ?_
        go_wp2_with fail
        try dsimp only [Act.put]
        go_meet
        exact ⟨0, rfl, _, _, HD8.out, HO8.out, HP8.out, fun h => absurd rfl h, fun _ => ⟨by rw [HSK.out, HKN.out.1], by rw [HSH.out, HKN.out.2]⟩⟩
    case rest =>
      obtain ⟨NN, rfl, HC⟩ := hcut
      obtain ⟨w9, rfl⟩ : ∃ w9, w9 = wc := ⟨wc, rfl⟩
      obtain ⟨⟨K9, A9, n9, c9⟩, ⟨H, B9, m9, d9⟩, hd9, ho9, hp9, hno, hyes⟩ := HC.out
      have HD9 := Lib.hid hd9
      have HO9 := Lib.hid ho9
      have HP9 := Lib.hid hp9
      clear HC hd9 ho9 hp9 HD
      by_cases hNN : NN = 0
      · have hNz : (NN != 0) = false := by simpa using hNN
        have HY := Lib.hid (hyes hNN)
        clear hno hyes hNN
        go_upto_region 12 with fail
        try dsimp only [Act.put]
        have HDD := Lib.hid (HD9.out.step (below_drew1 w9))
        have hdn : w9.drew.heap[gn]? = some (.cells (cliV K9 A9 n9 c9) 27 (0, 0)) := HDD.out.n_
        have hdh : w9.drew.heap[gh]? = some (.cells (hdV H B9 m9 d9) 61 (0, 0)) := HDD.out.h_
        have HNH := Lib.hid (And.intro hdn hdh)
        clear hdn hdh
        refine wp_region_mix ((fun w0 => w0.heap[gn]? = some (.cells (cliV K9 A9 n9 c9) 27 (0, 0)) ∧ w0.heap[gh]? = some (.cells (hdV H B9 m9 d9) 61 (0, 0)))) [(0, 0), (1, 0), (2, 2), (3, 2)] (by kernel_rfl) (by kernel_rfl) (HNH.out) ?_
        simp only [List.map_cons, List.map_nil]
        refine wpO_loadW (t := 27) (ad := ⟨gn, 0, none⟩) rfl rfl ?hw rfl rfl ((fun w0 hS => load_cli hS.1)) ?_
        case hw => go_simp
        refine wpO_loadW (t := 61) (ad := ⟨gh, 0, none⟩) rfl rfl ?hw rfl rfl ((fun w0 hS => load_hd hS.2)) ?_
        case hw => go_simp
        refine wpO_step2 rfl rfl (HNH.out) (fun K hK => ?_)
        rw [if_pos (show Region.wanted _ _ = true from rfl)]
        refine oper_store_blk HDD.out.z 27 0 (cliV K9 A9 n9 c9) (Nat.le_refl _) (info_cli _ _ _ _) (cli_one _ _ _ _) _ _ rfl rfl rfl ?_
        intro w10 hg9 hs9 hb9
        rw [splice_cli] at hb9
        have H9 := Lib.hid (And.intro hg9 hb9)
        replace HNH := Lib.hid (And.intro (blk_grown HNH.out.1 hg9 (fun e => by injection e with e; have := HDD.out.ord; omega)) (blk_grown HNH.out.2 hg9 (fun e => by injection e with e; have := HDD.out.ord; omega)))
        clear hg9 hs9 hb9
        refine hK _ _ ⟨HNH.out, ?_⟩
        clear hK K
        refine wpO_step2 rfl rfl (HNH.out) (fun K hK => ?_)
        rw [if_pos (show Region.wanted _ _ = true from rfl)]
        refine oper_store_blk (blk_grown HDD.out.q H9.out.1 (fun e => by injection e with e; have := HDD.out.ord; omega)) 61 0 (hdV H B9 m9 d9) (Nat.le_refl _) (info_hd _ _ _ _) (hd_one _ _ _ _) _ _ rfl rfl rfl ?_
        intro w11 hg9 hs9 hb9
        rw [splice_hd] at hb9
        have H10 := Lib.hid (And.intro hg9 hb9)
        replace HNH := Lib.hid (And.intro (blk_grown HNH.out.1 hg9 (fun e => by injection e with e; have := HDD.out.ord; omega)) (blk_grown HNH.out.2 hg9 (fun e => by injection e with e; have := HDD.out.ord; omega)))
        clear hg9 hs9 hb9
        refine hK _ _ ⟨HNH.out, ?_⟩
        clear hK K
        refine wpO_nil ?_
        go_wp2_with fail
        refine bodyPost_ret (results_c2c rfl rfl (load_cli (blk_grown H9.out.2 H10.out.1 (fun e => by injection e with e; have := HDD.out.ord; omega))) rfl (load_hd H10.out.2)) rfl ?_
        have ho := HDD.out.ord
        have hb9 := below_grown (below_grown HDD.out.bel H9.out.1 (by omega)) H10.out.1 (by omega)
        rw [HY.out.1, HY.out.2]
        have hq9 := blk_grown HDD.out.q H9.out.1 (fun e => by injection e with e; omega)
        exact ⟨A9, n9, c9, B9, m9, d9, rfl, ((OS.below HO9.out (below_drew1 _)).grownT HDD.out.z (by decide) H9.out.1).grownT hq9 (by decide) H10.out.1, ((OS.below HP9.out (below_drew1 _)).grownT HDD.out.z (by decide) H9.out.1).grownT hq9 (by decide) H10.out.1, hb9⟩
      · have hNz : (NN != 0) = true := by simpa using hNN
        have HY := Lib.hid (hno hNN)
        clear hno hyes hNN
        go_wp2_with (first | ((with_reducible show wpList _ _ _ (Oper.mk _ (Op.load _ _) _ _ _ _ :: _) _ _); refine wpList_load_g (load_cli HD9.out.x) _ rfl rfl (by go_simp) ?_) | ((with_reducible show wpList _ _ _ (Oper.mk _ (Op.build _ _) _ _ _ _ :: _) _ _); refine wpList_exw rfl (exec_build 61 #[] rfl #[] rfl ((run_build_hd_nil _))) ?_) | ((with_reducible show wpList _ _ _ (Oper.mk _ (Op.store _ _ _) _ _ _ _ :: _) _ _); refine wpList_store_blk HD9.out.z 27 0 (cliV k A n c) (Nat.le_refl _) (info_cli _ _ _ _) (cli_one _ _ _ _) _ _ rfl rfl rfl rfl ?_; intro w10 hg9 hs9 hb9; rw [splice_cli] at hb9; have H9 := Lib.hid (And.intro hg9 hb9); clear hg9 hs9 hb9) | ((with_reducible show wpList _ _ _ (Oper.mk _ (Op.store _ _ _) _ _ _ _ :: _) _ _); refine wpList_store_blk (blk_grown HD9.out.q H9.out.1 (fun e => by injection e with e; have := HD9.out.ord; omega)) 61 0 (hdV hdZ none 0 0) (Nat.le_refl _) (info_hd _ _ _ _) (hd_one _ _ _ _) _ _ rfl rfl rfl rfl ?_; intro w11 hg9 hs9 hb9; rw [splice_hd] at hb9; have H10 := Lib.hid (And.intro hg9 hb9); clear hg9 hs9 hb9))
        refine bodyPost_ret (results_c2c rfl rfl (load_cli (blk_grown H9.out.2 H10.out.1 (fun e => by injection e with e; have := HD9.out.ord; omega))) rfl (load_hd H10.out.2)) rfl ?_
        have ho := HD9.out.ord
        have hb9 := below_grown (below_grown HD9.out.bel H9.out.1 (by omega)) H10.out.1 (by omega)
        rw [HY.out.1, HY.out.2]
        exact ⟨A, n, c, none, 0, 0, rfl, HRO.out.below hb9, OS.nil _ _ _, hb9⟩
end Go.Proofs.YtifejiclenpfoaaDoor
