/- Layer 20 (client): Hear. -/
import Derived.Test.YtifejiclenpfoaaDoorClientHearsB
namespace Go.Proofs.YtifejiclenpfoaaDoor
open Go.RowKit
set_option linter.unusedVariables false
set_option linter.unusedSimpArgs false
set_option maxRecDepth 4000
def hdV (h : Hd) (A : Option Addr) (n c : Nat) : Array Value := #[.bool h.done, .int .i64 h.err, .int .u32 h.seq, .slice A n c, .int .u64 h.index]
theorem info_hd (h : Hd) (A : Option Addr) (n c : Nat) : (Tryd.prog.info? 61).map (·.size) = some (hdV h A n c).size := by show _ = some 5; kernel_rfl
theorem hd_one (h : Hd) (A : Option Addr) (n c : Nat) : (hdV h A n c).all (·.oneCell') = true := by simp [hdV, Value.oneCell']
theorem splice_hd (k : Hd) (A : Option Addr) (n c : Nat) (k2 : Hd) (A2 : Option Addr) (n2 c2 : Nat) : splice (hdV k A n c) 0 (hdV k2 A2 n2 c2).toList = hdV k2 A2 n2 c2 := splice_all _ _ rfl
theorem run_build_hd_nil (w : World) : (Instr.build 61 #[]).run Tryd.prog w = .ok (.agg (hdV hdZ none 0 0)) w := run_build w _ _ _ (by kernel_rfl)
theorem run_build_hd (w : World) (err seq : Int) (t : List Upd) (A : Option Addr) (n c : Nat) : (Instr.build 61 #[(0, .bool true), (1, .int .i64 err), (2, .int .u32 seq), (3, .agg (tabV A n c))]).run Tryd.prog w = .ok (.agg (hdV ⟨true, err, seq, 0, t⟩ A n c)) w := run_build w _ _ _ (by kernel_rfl)
theorem load_hd {w : World} {g : Nat} {k : Hd} {A : Option Addr} {n c : Nat} (h : w.heap[g]? = some (.cells (hdV k A n c) 61 (0, 0))) : (Instr.loadAt 61 (.pointer (some ⟨g, 0, none⟩))).run Tryd.prog w = .ok (.agg (hdV k A n c)) w := load_cells (cs := hdV k A n c) (cells_blk h) Tryd.underlying61 rfl (info_hd _ _ _ _)
theorem results_ccs {P : Program} {w : World} {fn : Func} {p q u : Tmp} {ty ty2 : TypeId} {ad ad2 : Addr} {v v2 : Value} {tmps : Array Value} (h : fn.results = #[.cell p ty, .cell q ty2, .tmp u]) (hp : tmps.getD p undef = .pointer (some ad)) (hl : (Instr.loadAt ty (.pointer (some ad))).run P w = .ok v w) (hq : tmps.getD q undef = .pointer (some ad2)) (hl2 : (Instr.loadAt ty2 (.pointer (some ad2))).run P w = .ok v2 w) :
    (results fn tmps).run P w = .ok (.tuple #[v, v2, tmps.getD u undef]) w := by
  have hp' : tmps[p]?.getD undef = .pointer (some ad) := by simpa using hp
  have hq' : tmps[q]?.getD undef = .pointer (some ad2) := by simpa using hq
  simp [results, h, hp', hq', asAddr, loadVar_of hl, loadVar_of hl2]
set_option maxHeartbeats 8000000 in
set_option maxRecDepth 100000 in
theorem chear_any (k : Ck) (A : Option Addr) (n c : Nat) (m : Mg) (w : World) (hL : Laid w) (hr : RS updK w A n c k.t) (ok : k.ok) (hn : n ≤ 100000) (hm : m.fits) :
    Calls Tryd.prog 27 #[.agg (cliV k A n c), .agg (msgV m)] w fun e w' => ∃ A1 n1 c1 A2 n2 c2, e = .returned (.tuple #[.agg (cliV (hearK k (hearB k m.kind m.tgt m.seq m.err)) A1 n1 c1), .agg (hdV (hearH k (hearB k m.kind m.tgt m.seq m.err) m.err m.index) A2 n2 c2), .int .i64 (ckE k)]) ∧
      OS updK w' w.heap.size A1 n1 c1 (hearK k (hearB k m.kind m.tgt m.seq m.err)).t ∧ OS updK w' w.heap.size A2 n2 c2 (hearH k (hearB k m.kind m.tgt m.seq m.err) m.err m.index).t ∧ Below w.heap.size w w' := by
  have hblk1 := blk_new w (.cells (cliV k A n c) 27)
  have hbel1 : Below w.heap.size w (w.alloc (.cells (cliV k A n c) 27)) := below_alloc (Below.refl _ _) _
  have hblk2 := blk_new (w.alloc (.cells (cliV k A n c) 27)) (.cells (msgV m) 45)
  have hbel2 : Below w.heap.size w ((w.alloc (.cells (cliV k A n c) 27)).alloc (.cells (msgV m) 45)) := below_alloc (hbel1) _
  rw [show (w.alloc (.cells (cliV k A n c) 27)).heap.size = w.heap.size + 1 by simp] at hblk2
  replace hblk1 := blk_below hblk1 (below_alloc (Below.refl _ _) (.cells (msgV m) 45))
  have HP1 := Lib.hid (cli_at hblk1)
  have HBK1 := Lib.hid hblk1
  have HP2 := Lib.hid (msg_at hm hblk2)
  have HBK2 := Lib.hid hblk2
  have HBE := Lib.hid hbel2
  have HL := Lib.hid (hL.below HBE.out)
  obtain ⟨cs1, hcs1⟩ : ∃ cs, cliV k A n c = cs := ⟨_, rfl⟩
  obtain ⟨cs2, hcs2⟩ : ∃ cs, msgV m = cs := ⟨_, rfl⟩
  simp only [hcs1, hcs2] at HBE HL HP1 HP2 HBK1 HBK2 ⊢
  have HC1 := Lib.hid hcs1
  have HC2 := Lib.hid hcs2
  clear hL hcs1 hblk1 hbel1 hcs2 hblk2 hbel2
  have hs0 : ((w.alloc (.cells cs1 27)).alloc (.cells cs2 45)).heap.size = w.heap.size + 2 := by simp
  obtain ⟨W0, hW0⟩ : ∃ W0, ((w.alloc (.cells cs1 27)).alloc (.cells cs2 45)).alloc (.cells #[.int .i64 0, .int .u32 0, .slice none 0 0, .bool false] 27) = W0 := ⟨_, rfl⟩
  have hs1 : W0.heap.size = w.heap.size + 3 := by rw [← hW0]; simp
  obtain ⟨W1, hW1⟩ : ∃ W1, W0.alloc (.cells #[.bool false, .int .i64 0, .int .u32 0, .slice none 0 0, .int .u64 0] 61) = W1 := ⟨_, rfl⟩
  have HBR : Hid (Below ((w.alloc (.cells cs1 27)).alloc (.cells cs2 45)).heap.size ((w.alloc (.cells cs1 27)).alloc (.cells cs2 45)) W1) := Lib.hid (hW1 ▸ below_alloc (hW0 ▸ below_alloc (Below.refl _ _) _) _)
  have HB1 : Hid (Below w.heap.size w W1) := Lib.hid (below_step HBE.out HBR.out)
  have HX1 : Hid (W1.heap[w.heap.size]? = some (.cells (cliV k A n c) 27 (0, 0))) := Lib.hid ((blk_below HBK1.out HBR.out).trans (by rw [HC1.out]))
  have HZ1 : Hid (W1.heap[w.heap.size + 2]? = some (.cells (cliV ckZ none 0 0) 27 (0, 0))) := Lib.hid (by rw [← hW1, ← hs0]; refine blk_below ?_ (below_alloc (Below.refl _ _) _); rw [← hW0]; exact blk_new _ _)
  have HH1 : Hid (W1.heap[W0.heap.size]? = some (.cells (hdV hdZ none 0 0) 61 (0, 0))) := Lib.hid (by rw [← hW1]; exact blk_new _ _)
  have HW0 := Lib.hid hs1
  have HM1 := Lib.hid (msg_ld hm (show W1.heap[w.heap.size + 1]? = some (.cells (msgV m) 45 (0, 0)) from (blk_below HBK2.out HBR.out).trans (by rw [HC2.out])))
  have HS1 : Hid (w.heap.size + 4 ≤ W1.heap.size) := Lib.hid (by rw [← hW1]; simp; omega)
  have HR := Lib.hid (hr.below HB1.out)
  have OK := Lib.hid ok
  have HMF := Lib.hid hm
  have hnw := wf_i64 ok.num
  have HHB : Hid (hearB k m.kind m.tgt m.seq m.err = (decide (m.kind = 7) && decide (m.tgt = 2 + k.num) && decide (m.seq = k.seq) && k.away && !decide (m.err = 270))) := Lib.hid rfl
  clear hr ok hm hs0 hs1
  go_enter Tryd.func27, Tryd.ntmps27
  go_wp2_with (first | ((with_reducible show wpList _ _ _ (Oper.mk _ (Op.load _ _) _ _ _ _ :: _) _ _); refine wpList_load_g (((cli_at HX1.out).all _ (Below.refl _ _)).all) _ rfl rfl (by go_simp) ?_))
  clear hW1 hW0
  refine (ccheck20_any k A n c W1 (HL.out.below HBR.out) HR.out OK.out.t hn).mono ?_
  rintro e w2 ⟨rfl, hb2⟩
  have HB2 := Lib.hid (below_step HB1.out hb2)
  have HX2 := Lib.hid (blk_below HX1.out hb2)
  have HZ2 := Lib.hid (blk_below HZ1.out hb2)
  have HH2 := Lib.hid (blk_below HH1.out hb2)
  have HR2 := Lib.hid (HR.out.below hb2)
  have HS2 : Hid (w.heap.size + 4 ≤ w2.heap.size) := Lib.hid (Nat.le_trans HS1.out hb2.size)
  have HY2 := Lib.hid (blk_below ((blk_below HBK2.out HBR.out).trans (by rw [HC2.out] : some (Obj.cells cs2 _ (0, 0)) = some (.cells (msgV m) 45 (0, 0)))) hb2)
  clear hb2 HX1 HZ1 HH1 HR HM1 HS1
  cases hc : ckB k with
  | false =>
    have HK : Hid (∀ b, hearK k b = ckZ) := Lib.hid (fun b => by unfold hearK; rw [hc]; rfl)
    have HD : Hid (∀ b e i, hearH k b e i = hdZ) := Lib.hid (fun b e i => by unfold hearH; rw [hc]; rfl)
    have HE : Hid (ckE k = 300) := Lib.hid (by unfold ckE; rw [hc]; rfl)
    rw [HE.out]
    clear hc
    go_wp2_with (first | ((with_reducible show wpList _ _ _ (Oper.mk _ (Op.build _ _) _ _ _ _ :: _) _ _); refine wpList_exw rfl (exec_build 27 #[] rfl #[] rfl ((run_build_cli_nil _))) ?_) | ((with_reducible show wpList _ _ _ (Oper.mk _ (Op.build _ _) _ _ _ _ :: _) _ _); refine wpList_exw rfl (exec_build 61 #[] rfl #[] rfl ((run_build_hd_nil _))) ?_) | ((with_reducible show wpList _ _ _ (Oper.mk _ (Op.store _ _ _) _ _ _ _ :: _) _ _); refine wpList_store_blk HZ2.out 27 0 (cliV ckZ none 0 0) (Nat.le_refl _) (info_cli _ _ _ _) (cli_one _ _ _ _) _ _ rfl rfl rfl rfl ?_; intro w8 hg9 hs9 hb9; rw [splice_cli] at hb9; have H8 := Lib.hid (And.intro hg9 hb9); clear hg9 hs9 hb9) | ((with_reducible show wpList _ _ _ (Oper.mk _ (Op.store _ _ _) _ _ _ _ :: _) _ _); refine wpList_store_blk (blk_grown HH2.out H8.out.1 (fun e => by injection e with e; have := HW0.out; omega)) 61 0 (hdV hdZ none 0 0) (Nat.le_refl _) (info_hd _ _ _ _) (hd_one _ _ _ _) _ _ rfl rfl rfl rfl ?_; intro w9 hg9 hs9 hb9; rw [splice_hd] at hb9; have H9 := Lib.hid (And.intro hg9 hb9); clear hg9 hs9 hb9))
    refine bodyPost_ret (results_ccs rfl rfl (load_cli (blk_grown H8.out.2 H9.out.1 (fun e => by injection e with e; have := HW0.out; omega))) rfl (load_hd H9.out.2)) rfl ?_
    rw [HK.out, HD.out, HE.out]
    exact ⟨none, 0, 0, none, 0, 0, rfl, OS.nil _ _ _, OS.nil _ _ _, below_grown (below_grown HB2.out H8.out.1 (by omega)) H9.out.1 (by have := HW0.out; omega)⟩
  | true =>
    have HE : Hid (ckE k = 0) := Lib.hid (by unfold ckE; rw [hc]; rfl)
    have hk2 : 1 ≤ k.num ∧ k.num ≤ 2 := by
      unfold ckB at hc
      simp only [Bool.and_eq_true, decide_eq_true_eq] at hc
      exact hc.1
    have hwn : IntKind.i64.wrap (2 + k.num) = 2 + k.num := IntWalk.i64_in _ (by omega)
    have HCB := Lib.hid hc
    rw [HE.out]
    clear hc
    go_wp2_with (first | ((with_reducible show wpList _ _ _ (Oper.mk _ (Op.load _ _) _ _ _ _ :: _) _ _); refine wpList_load_g (((cli_at HX2.out).all _ (Below.refl _ _)).bat) _ rfl rfl (by go_simp) ?_))
    refine (ccopied_any A n c k.t w2 HR2.out (by omega)).mono ?_
    rintro e w3 ⟨A3, c3, rfl, hO3, hb3⟩
    have HB3 := Lib.hid (below_step HB2.out hb3)
    have HX3 := Lib.hid (blk_below HX2.out hb3)
    have HZ3 := Lib.hid (blk_below HZ2.out hb3)
    have HH3 := Lib.hid (blk_below HH2.out hb3)
    have HY3 := Lib.hid (blk_below HY2.out hb3)
    have HO3 := Lib.hid hO3
    clear hO3 hb3 HX2 HZ2 HH2 HR2 HY2 HB2
    go_upto_region 5 with (first | ((with_reducible show wpList _ _ _ (Oper.mk _ (Op.store _ _ _) _ _ _ _ :: _) _ _); refine wpList_store_blk HX3.out 25 2 (tabV A3 n c3) (by show 2 + 1 ≤ 4; omega) (info_bat _ _ _) (tab_one _ _ _) _ _ rfl rfl rfl rfl ?_; intro w4 hg9 hs9 hb9; have H4 := Lib.hid (And.intro hg9 (show (World.heap w4)[w.heap.size]? = some (.cells (cliV k A3 n c3) 27 (0, 0)) from hb9)); clear hg9 hs9 hb9))
    try dsimp only [Act.put]
    have HX4 := Lib.hid H4.out.2
    have HC4 := Lib.hid ((cli_at HX4.out).all _ (Below.refl _ _))
    have HAW := Lib.hid HC4.out.away
    have HB4 := Lib.hid (below_grown HB3.out H4.out.1 (Nat.le_refl _))
    have HZ4 := Lib.hid (blk_grown HZ3.out H4.out.1 (fun e => by injection e with e; omega))
    have HH4 := Lib.hid (blk_grown HH3.out H4.out.1 (fun e => by injection e with e; have := HW0.out; omega))
    have HY4 := Lib.hid (blk_grown HY3.out H4.out.1 (fun e => by injection e with e; omega))
    have HM4 := Lib.hid (msg_ld HMF.out HY4.out)
    have HO4 : Hid (OS updK w4 (w.heap.size + 4) A3 n c3 k.t) := Lib.hid ((HO3.out.grown H4.out.1 (fun ad e h => by have := HO3.out.base_ ad e; have := HS2.out; injection h with h; omega)).lower HS2.out)
    clear H4 HX3 HZ3 HH3 HY3 HO3 HB3
    cases h1 : (m.kind != 7) with
    | true =>
      have HN : Hid (hearB k m.kind m.tgt m.seq m.err = false) := Lib.hid (by rw [HHB.out, decide_eq_false (show ¬ m.kind = 7 by simpa using h1)]; rfl)
      have HK : Hid (hearK k false = k) := Lib.hid (by unfold hearK; rw [HCB.out]; rfl)
      have HD : Hid (∀ e i, hearH k false e i = hdZ) := Lib.hid (fun e i => by unfold hearH; rw [Bool.and_false]; rfl)
      go_wp2_with (first | ((with_reducible show wpList _ _ _ (Oper.mk _ (Op.load _ _) _ _ _ _ :: _) _ _); refine wpList_load_g (HM4.out.kind) _ rfl rfl (by go_simp) ?_) | ((with_reducible show wpList _ _ _ (Oper.mk _ (Op.load _ _) _ _ _ _ :: _) _ _); refine wpList_load_g (HM4.out.tgt) _ rfl rfl (by go_simp) ?_) | ((with_reducible show wpList _ _ _ (Oper.mk _ (Op.load _ _) _ _ _ _ :: _) _ _); refine wpList_load_g (HM4.out.seq) _ rfl rfl (by go_simp) ?_) | ((with_reducible show wpList _ _ _ (Oper.mk _ (Op.load _ _) _ _ _ _ :: _) _ _); refine wpList_load_g (HM4.out.err) _ rfl rfl (by go_simp) ?_) | ((with_reducible show wpList _ _ _ (Oper.mk _ (Op.load _ _) _ _ _ _ :: _) _ _); refine wpList_load_g (HC4.out.num) _ rfl rfl (by go_simp) ?_) | ((with_reducible show wpList _ _ _ (Oper.mk _ (Op.load _ _) _ _ _ _ :: _) _ _); refine wpList_load_g (HC4.out.seq) _ rfl rfl (by go_simp) ?_) | ((with_reducible show wpList _ _ _ (Oper.mk _ (Op.load _ _) _ _ _ _ :: _) _ _); refine wpList_load_g (HAW.out) _ rfl rfl (by go_simp) ?_) | ((with_reducible show wpList _ _ _ (Oper.mk _ (Op.load _ _) _ _ _ _ :: _) _ _); refine wpList_load_g (HC4.out.all) _ rfl rfl (by go_simp) ?_) | ((with_reducible show wpList _ _ _ (Oper.mk _ (Op.build _ _) _ _ _ _ :: _) _ _); refine wpList_exw rfl (exec_build 61 #[] rfl #[] rfl ((run_build_hd_nil _))) ?_) | ((with_reducible show wpList _ _ _ (Oper.mk _ (Op.store _ _ _) _ _ _ _ :: _) _ _); refine wpList_store_blk HZ4.out 27 0 (cliV k A3 n c3) (Nat.le_refl _) (info_cli _ _ _ _) (cli_one _ _ _ _) _ _ rfl rfl rfl rfl ?_; intro w8 hg9 hs9 hb9; rw [splice_cli] at hb9; have H8 := Lib.hid (And.intro hg9 hb9); clear hg9 hs9 hb9) | ((with_reducible show wpList _ _ _ (Oper.mk _ (Op.store _ _ _) _ _ _ _ :: _) _ _); refine wpList_store_blk (blk_grown HH4.out H8.out.1 (fun e => by injection e with e; have := HW0.out; omega)) 61 0 (hdV hdZ none 0 0) (Nat.le_refl _) (info_hd _ _ _ _) (hd_one _ _ _ _) _ _ rfl rfl rfl rfl ?_; intro w9 hg9 hs9 hb9; rw [splice_hd] at hb9; have H9 := Lib.hid (And.intro hg9 hb9); clear hg9 hs9 hb9))
      refine bodyPost_ret (results_ccs rfl rfl (load_cli (blk_grown H8.out.2 H9.out.1 (fun e => by injection e with e; have := HW0.out; omega))) rfl (load_hd H9.out.2)) rfl ?_
      rw [HN.out, HK.out, HD.out, HE.out]
      exact ⟨A3, n, c3, none, 0, 0, rfl, ((HO4.out.grown H8.out.1 (fun ad e h => by have := HO4.out.base_ ad e; injection h with h; omega)).grown H9.out.1 (fun ad e h => by have := HO4.out.base_ ad e; have := HW0.out; injection h with h; omega)).lower (by omega), OS.nil _ _ _, below_grown (below_grown HB4.out H8.out.1 (by omega)) H9.out.1 (by have := HW0.out; omega)⟩
    | false =>
      cases h2 : (m.tgt != 2 + k.num) with
      | true =>
        have HN : Hid (hearB k m.kind m.tgt m.seq m.err = false) := Lib.hid (by rw [HHB.out, decide_eq_false (show ¬ m.tgt = 2 + k.num by simpa using h2)]; simp)
        have HK : Hid (hearK k false = k) := Lib.hid (by unfold hearK; rw [HCB.out]; rfl)
        have HD : Hid (∀ e i, hearH k false e i = hdZ) := Lib.hid (fun e i => by unfold hearH; rw [Bool.and_false]; rfl)
        go_wp2_with (first | ((with_reducible show wpList _ _ _ (Oper.mk _ (Op.load _ _) _ _ _ _ :: _) _ _); refine wpList_load_g (HM4.out.kind) _ rfl rfl (by go_simp) ?_) | ((with_reducible show wpList _ _ _ (Oper.mk _ (Op.load _ _) _ _ _ _ :: _) _ _); refine wpList_load_g (HM4.out.tgt) _ rfl rfl (by go_simp) ?_) | ((with_reducible show wpList _ _ _ (Oper.mk _ (Op.load _ _) _ _ _ _ :: _) _ _); refine wpList_load_g (HM4.out.seq) _ rfl rfl (by go_simp) ?_) | ((with_reducible show wpList _ _ _ (Oper.mk _ (Op.load _ _) _ _ _ _ :: _) _ _); refine wpList_load_g (HM4.out.err) _ rfl rfl (by go_simp) ?_) | ((with_reducible show wpList _ _ _ (Oper.mk _ (Op.load _ _) _ _ _ _ :: _) _ _); refine wpList_load_g (HC4.out.num) _ rfl rfl (by go_simp) ?_) | ((with_reducible show wpList _ _ _ (Oper.mk _ (Op.load _ _) _ _ _ _ :: _) _ _); refine wpList_load_g (HC4.out.seq) _ rfl rfl (by go_simp) ?_) | ((with_reducible show wpList _ _ _ (Oper.mk _ (Op.load _ _) _ _ _ _ :: _) _ _); refine wpList_load_g (HAW.out) _ rfl rfl (by go_simp) ?_) | ((with_reducible show wpList _ _ _ (Oper.mk _ (Op.load _ _) _ _ _ _ :: _) _ _); refine wpList_load_g (HC4.out.all) _ rfl rfl (by go_simp) ?_) | ((with_reducible show wpList _ _ _ (Oper.mk _ (Op.build _ _) _ _ _ _ :: _) _ _); refine wpList_exw rfl (exec_build 61 #[] rfl #[] rfl ((run_build_hd_nil _))) ?_) | ((with_reducible show wpList _ _ _ (Oper.mk _ (Op.store _ _ _) _ _ _ _ :: _) _ _); refine wpList_store_blk HZ4.out 27 0 (cliV k A3 n c3) (Nat.le_refl _) (info_cli _ _ _ _) (cli_one _ _ _ _) _ _ rfl rfl rfl rfl ?_; intro w8 hg9 hs9 hb9; rw [splice_cli] at hb9; have H8 := Lib.hid (And.intro hg9 hb9); clear hg9 hs9 hb9) | ((with_reducible show wpList _ _ _ (Oper.mk _ (Op.store _ _ _) _ _ _ _ :: _) _ _); refine wpList_store_blk (blk_grown HH4.out H8.out.1 (fun e => by injection e with e; have := HW0.out; omega)) 61 0 (hdV hdZ none 0 0) (Nat.le_refl _) (info_hd _ _ _ _) (hd_one _ _ _ _) _ _ rfl rfl rfl rfl ?_; intro w9 hg9 hs9 hb9; rw [splice_hd] at hb9; have H9 := Lib.hid (And.intro hg9 hb9); clear hg9 hs9 hb9))
        refine bodyPost_ret (results_ccs rfl rfl (load_cli (blk_grown H8.out.2 H9.out.1 (fun e => by injection e with e; have := HW0.out; omega))) rfl (load_hd H9.out.2)) rfl ?_
        rw [HN.out, HK.out, HD.out, HE.out]
        exact ⟨A3, n, c3, none, 0, 0, rfl, ((HO4.out.grown H8.out.1 (fun ad e h => by have := HO4.out.base_ ad e; injection h with h; omega)).grown H9.out.1 (fun ad e h => by have := HO4.out.base_ ad e; have := HW0.out; injection h with h; omega)).lower (by omega), OS.nil _ _ _, below_grown (below_grown HB4.out H8.out.1 (by omega)) H9.out.1 (by have := HW0.out; omega)⟩
      | false =>
        cases h3 : (m.seq != k.seq) with
        | true =>
          have HN : Hid (hearB k m.kind m.tgt m.seq m.err = false) := Lib.hid (by rw [HHB.out, decide_eq_false (show ¬ m.seq = k.seq by simpa using h3)]; simp)
          have HK : Hid (hearK k false = k) := Lib.hid (by unfold hearK; rw [HCB.out]; rfl)
          have HD : Hid (∀ e i, hearH k false e i = hdZ) := Lib.hid (fun e i => by unfold hearH; rw [Bool.and_false]; rfl)
          go_wp2_with (first | ((with_reducible show wpList _ _ _ (Oper.mk _ (Op.load _ _) _ _ _ _ :: _) _ _); refine wpList_load_g (HM4.out.kind) _ rfl rfl (by go_simp) ?_) | ((with_reducible show wpList _ _ _ (Oper.mk _ (Op.load _ _) _ _ _ _ :: _) _ _); refine wpList_load_g (HM4.out.tgt) _ rfl rfl (by go_simp) ?_) | ((with_reducible show wpList _ _ _ (Oper.mk _ (Op.load _ _) _ _ _ _ :: _) _ _); refine wpList_load_g (HM4.out.seq) _ rfl rfl (by go_simp) ?_) | ((with_reducible show wpList _ _ _ (Oper.mk _ (Op.load _ _) _ _ _ _ :: _) _ _); refine wpList_load_g (HM4.out.err) _ rfl rfl (by go_simp) ?_) | ((with_reducible show wpList _ _ _ (Oper.mk _ (Op.load _ _) _ _ _ _ :: _) _ _); refine wpList_load_g (HC4.out.num) _ rfl rfl (by go_simp) ?_) | ((with_reducible show wpList _ _ _ (Oper.mk _ (Op.load _ _) _ _ _ _ :: _) _ _); refine wpList_load_g (HC4.out.seq) _ rfl rfl (by go_simp) ?_) | ((with_reducible show wpList _ _ _ (Oper.mk _ (Op.load _ _) _ _ _ _ :: _) _ _); refine wpList_load_g (HAW.out) _ rfl rfl (by go_simp) ?_) | ((with_reducible show wpList _ _ _ (Oper.mk _ (Op.load _ _) _ _ _ _ :: _) _ _); refine wpList_load_g (HC4.out.all) _ rfl rfl (by go_simp) ?_) | ((with_reducible show wpList _ _ _ (Oper.mk _ (Op.build _ _) _ _ _ _ :: _) _ _); refine wpList_exw rfl (exec_build 61 #[] rfl #[] rfl ((run_build_hd_nil _))) ?_) | ((with_reducible show wpList _ _ _ (Oper.mk _ (Op.store _ _ _) _ _ _ _ :: _) _ _); refine wpList_store_blk HZ4.out 27 0 (cliV k A3 n c3) (Nat.le_refl _) (info_cli _ _ _ _) (cli_one _ _ _ _) _ _ rfl rfl rfl rfl ?_; intro w8 hg9 hs9 hb9; rw [splice_cli] at hb9; have H8 := Lib.hid (And.intro hg9 hb9); clear hg9 hs9 hb9) | ((with_reducible show wpList _ _ _ (Oper.mk _ (Op.store _ _ _) _ _ _ _ :: _) _ _); refine wpList_store_blk (blk_grown HH4.out H8.out.1 (fun e => by injection e with e; have := HW0.out; omega)) 61 0 (hdV hdZ none 0 0) (Nat.le_refl _) (info_hd _ _ _ _) (hd_one _ _ _ _) _ _ rfl rfl rfl rfl ?_; intro w9 hg9 hs9 hb9; rw [splice_hd] at hb9; have H9 := Lib.hid (And.intro hg9 hb9); clear hg9 hs9 hb9))
          refine bodyPost_ret (results_ccs rfl rfl (load_cli (blk_grown H8.out.2 H9.out.1 (fun e => by injection e with e; have := HW0.out; omega))) rfl (load_hd H9.out.2)) rfl ?_
          rw [HN.out, HK.out, HD.out, HE.out]
          exact ⟨A3, n, c3, none, 0, 0, rfl, ((HO4.out.grown H8.out.1 (fun ad e h => by have := HO4.out.base_ ad e; injection h with h; omega)).grown H9.out.1 (fun ad e h => by have := HO4.out.base_ ad e; have := HW0.out; injection h with h; omega)).lower (by omega), OS.nil _ _ _, below_grown (below_grown HB4.out H8.out.1 (by omega)) H9.out.1 (by have := HW0.out; omega)⟩
        | false =>
          cases ha : k.away with
          | false =>
            rw [ha] at HAW
            have HN : Hid (hearB k m.kind m.tgt m.seq m.err = false) := Lib.hid (by rw [HHB.out, ha]; simp)
            have HK : Hid (hearK k false = k) := Lib.hid (by unfold hearK; rw [HCB.out]; rfl)
            have HD : Hid (∀ e i, hearH k false e i = hdZ) := Lib.hid (fun e i => by unfold hearH; rw [Bool.and_false]; rfl)
            go_wp2_with (first | ((with_reducible show wpList _ _ _ (Oper.mk _ (Op.load _ _) _ _ _ _ :: _) _ _); refine wpList_load_g (HM4.out.kind) _ rfl rfl (by go_simp) ?_) | ((with_reducible show wpList _ _ _ (Oper.mk _ (Op.load _ _) _ _ _ _ :: _) _ _); refine wpList_load_g (HM4.out.tgt) _ rfl rfl (by go_simp) ?_) | ((with_reducible show wpList _ _ _ (Oper.mk _ (Op.load _ _) _ _ _ _ :: _) _ _); refine wpList_load_g (HM4.out.seq) _ rfl rfl (by go_simp) ?_) | ((with_reducible show wpList _ _ _ (Oper.mk _ (Op.load _ _) _ _ _ _ :: _) _ _); refine wpList_load_g (HM4.out.err) _ rfl rfl (by go_simp) ?_) | ((with_reducible show wpList _ _ _ (Oper.mk _ (Op.load _ _) _ _ _ _ :: _) _ _); refine wpList_load_g (HC4.out.num) _ rfl rfl (by go_simp) ?_) | ((with_reducible show wpList _ _ _ (Oper.mk _ (Op.load _ _) _ _ _ _ :: _) _ _); refine wpList_load_g (HC4.out.seq) _ rfl rfl (by go_simp) ?_) | ((with_reducible show wpList _ _ _ (Oper.mk _ (Op.load _ _) _ _ _ _ :: _) _ _); refine wpList_load_g (HAW.out) _ rfl rfl (by go_simp) ?_) | ((with_reducible show wpList _ _ _ (Oper.mk _ (Op.load _ _) _ _ _ _ :: _) _ _); refine wpList_load_g (HC4.out.all) _ rfl rfl (by go_simp) ?_) | ((with_reducible show wpList _ _ _ (Oper.mk _ (Op.build _ _) _ _ _ _ :: _) _ _); refine wpList_exw rfl (exec_build 61 #[] rfl #[] rfl ((run_build_hd_nil _))) ?_) | ((with_reducible show wpList _ _ _ (Oper.mk _ (Op.store _ _ _) _ _ _ _ :: _) _ _); refine wpList_store_blk HZ4.out 27 0 (cliV k A3 n c3) (Nat.le_refl _) (info_cli _ _ _ _) (cli_one _ _ _ _) _ _ rfl rfl rfl rfl ?_; intro w8 hg9 hs9 hb9; rw [splice_cli] at hb9; have H8 := Lib.hid (And.intro hg9 hb9); clear hg9 hs9 hb9) | ((with_reducible show wpList _ _ _ (Oper.mk _ (Op.store _ _ _) _ _ _ _ :: _) _ _); refine wpList_store_blk (blk_grown HH4.out H8.out.1 (fun e => by injection e with e; have := HW0.out; omega)) 61 0 (hdV hdZ none 0 0) (Nat.le_refl _) (info_hd _ _ _ _) (hd_one _ _ _ _) _ _ rfl rfl rfl rfl ?_; intro w9 hg9 hs9 hb9; rw [splice_hd] at hb9; have H9 := Lib.hid (And.intro hg9 hb9); clear hg9 hs9 hb9))
            refine bodyPost_ret (results_ccs rfl rfl (load_cli (blk_grown H8.out.2 H9.out.1 (fun e => by injection e with e; have := HW0.out; omega))) rfl (load_hd H9.out.2)) rfl ?_
            rw [HN.out, HK.out, HD.out, HE.out]
            exact ⟨A3, n, c3, none, 0, 0, rfl, ((HO4.out.grown H8.out.1 (fun ad e h => by have := HO4.out.base_ ad e; injection h with h; omega)).grown H9.out.1 (fun ad e h => by have := HO4.out.base_ ad e; have := HW0.out; injection h with h; omega)).lower (by omega), OS.nil _ _ _, below_grown (below_grown HB4.out H8.out.1 (by omega)) H9.out.1 (by have := HW0.out; omega)⟩
          | true =>
            rw [ha] at HAW
            cases h4 : (m.err == 270) with
            | true =>
              have HN : Hid (hearB k m.kind m.tgt m.seq m.err = false) := Lib.hid (by rw [HHB.out, decide_eq_true (show m.err = 270 by simpa using h4)]; simp)
              have HK : Hid (hearK k false = k) := Lib.hid (by unfold hearK; rw [HCB.out]; rfl)
              have HD : Hid (∀ e i, hearH k false e i = hdZ) := Lib.hid (fun e i => by unfold hearH; rw [Bool.and_false]; rfl)
              go_wp2_with (first | ((with_reducible show wpList _ _ _ (Oper.mk _ (Op.load _ _) _ _ _ _ :: _) _ _); refine wpList_load_g (HM4.out.kind) _ rfl rfl (by go_simp) ?_) | ((with_reducible show wpList _ _ _ (Oper.mk _ (Op.load _ _) _ _ _ _ :: _) _ _); refine wpList_load_g (HM4.out.tgt) _ rfl rfl (by go_simp) ?_) | ((with_reducible show wpList _ _ _ (Oper.mk _ (Op.load _ _) _ _ _ _ :: _) _ _); refine wpList_load_g (HM4.out.seq) _ rfl rfl (by go_simp) ?_) | ((with_reducible show wpList _ _ _ (Oper.mk _ (Op.load _ _) _ _ _ _ :: _) _ _); refine wpList_load_g (HM4.out.err) _ rfl rfl (by go_simp) ?_) | ((with_reducible show wpList _ _ _ (Oper.mk _ (Op.load _ _) _ _ _ _ :: _) _ _); refine wpList_load_g (HC4.out.num) _ rfl rfl (by go_simp) ?_) | ((with_reducible show wpList _ _ _ (Oper.mk _ (Op.load _ _) _ _ _ _ :: _) _ _); refine wpList_load_g (HC4.out.seq) _ rfl rfl (by go_simp) ?_) | ((with_reducible show wpList _ _ _ (Oper.mk _ (Op.load _ _) _ _ _ _ :: _) _ _); refine wpList_load_g (HAW.out) _ rfl rfl (by go_simp) ?_) | ((with_reducible show wpList _ _ _ (Oper.mk _ (Op.load _ _) _ _ _ _ :: _) _ _); refine wpList_load_g (HC4.out.all) _ rfl rfl (by go_simp) ?_) | ((with_reducible show wpList _ _ _ (Oper.mk _ (Op.build _ _) _ _ _ _ :: _) _ _); refine wpList_exw rfl (exec_build 61 #[] rfl #[] rfl ((run_build_hd_nil _))) ?_) | ((with_reducible show wpList _ _ _ (Oper.mk _ (Op.store _ _ _) _ _ _ _ :: _) _ _); refine wpList_store_blk HZ4.out 27 0 (cliV k A3 n c3) (Nat.le_refl _) (info_cli _ _ _ _) (cli_one _ _ _ _) _ _ rfl rfl rfl rfl ?_; intro w8 hg9 hs9 hb9; rw [splice_cli] at hb9; have H8 := Lib.hid (And.intro hg9 hb9); clear hg9 hs9 hb9) | ((with_reducible show wpList _ _ _ (Oper.mk _ (Op.store _ _ _) _ _ _ _ :: _) _ _); refine wpList_store_blk (blk_grown HH4.out H8.out.1 (fun e => by injection e with e; have := HW0.out; omega)) 61 0 (hdV hdZ none 0 0) (Nat.le_refl _) (info_hd _ _ _ _) (hd_one _ _ _ _) _ _ rfl rfl rfl rfl ?_; intro w9 hg9 hs9 hb9; rw [splice_hd] at hb9; have H9 := Lib.hid (And.intro hg9 hb9); clear hg9 hs9 hb9))
              refine bodyPost_ret (results_ccs rfl rfl (load_cli (blk_grown H8.out.2 H9.out.1 (fun e => by injection e with e; have := HW0.out; omega))) rfl (load_hd H9.out.2)) rfl ?_
              rw [HN.out, HK.out, HD.out, HE.out]
              exact ⟨A3, n, c3, none, 0, 0, rfl, ((HO4.out.grown H8.out.1 (fun ad e h => by have := HO4.out.base_ ad e; injection h with h; omega)).grown H9.out.1 (fun ad e h => by have := HO4.out.base_ ad e; have := HW0.out; injection h with h; omega)).lower (by omega), OS.nil _ _ _, below_grown (below_grown HB4.out H8.out.1 (by omega)) H9.out.1 (by have := HW0.out; omega)⟩
            | false =>
              have HN : Hid (hearB k m.kind m.tgt m.seq m.err = true) := Lib.hid (by rw [HHB.out, decide_eq_true (show m.kind = 7 by simpa using h1), decide_eq_true (show m.tgt = 2 + k.num by simpa using h2), decide_eq_true (show m.seq = k.seq by simpa using h3), ha, decide_eq_false (show ¬ m.err = 270 by simpa using h4)]; rfl)
              have HK : Hid (hearK k true = ⟨k.num, k.seq, false, []⟩) := Lib.hid (by unfold hearK; rw [HCB.out]; rfl)
              have HD : Hid (hearH k true m.err m.index = ⟨true, m.err, k.seq, if m.err = 0 then m.index else 0, k.t⟩) := Lib.hid (by unfold hearH; rw [HCB.out]; rfl)
              clear ha
              go_upto_region 8 with (first | ((with_reducible show wpList _ _ _ (Oper.mk _ (Op.load _ _) _ _ _ _ :: _) _ _); refine wpList_load_g (HM4.out.kind) _ rfl rfl (by go_simp) ?_) | ((with_reducible show wpList _ _ _ (Oper.mk _ (Op.load _ _) _ _ _ _ :: _) _ _); refine wpList_load_g (HM4.out.tgt) _ rfl rfl (by go_simp) ?_) | ((with_reducible show wpList _ _ _ (Oper.mk _ (Op.load _ _) _ _ _ _ :: _) _ _); refine wpList_load_g (HM4.out.seq) _ rfl rfl (by go_simp) ?_) | ((with_reducible show wpList _ _ _ (Oper.mk _ (Op.load _ _) _ _ _ _ :: _) _ _); refine wpList_load_g (HM4.out.err) _ rfl rfl (by go_simp) ?_) | ((with_reducible show wpList _ _ _ (Oper.mk _ (Op.load _ _) _ _ _ _ :: _) _ _); refine wpList_load_g (HC4.out.num) _ rfl rfl (by go_simp) ?_) | ((with_reducible show wpList _ _ _ (Oper.mk _ (Op.load _ _) _ _ _ _ :: _) _ _); refine wpList_load_g (HC4.out.seq) _ rfl rfl (by go_simp) ?_) | ((with_reducible show wpList _ _ _ (Oper.mk _ (Op.load _ _) _ _ _ _ :: _) _ _); refine wpList_load_g (HAW.out) _ rfl rfl (by go_simp) ?_) | ((with_reducible show wpList _ _ _ (Oper.mk _ (Op.load _ _) _ _ _ _ :: _) _ _); refine wpList_load_g (HC4.out.bat) _ rfl rfl (by go_simp) ?_) | ((with_reducible show wpList _ _ _ (Oper.mk _ (Op.build 61 _) _ _ _ _ :: _) _ _); refine wpList_exw rfl (exec_build4 rfl rfl rfl rfl rfl (run_build_hd _ m.err k.seq k.t A3 n c3)) ?_) | ((with_reducible show wpList _ _ _ (Oper.mk _ (Op.store _ _ _) _ _ _ _ :: _) _ _); refine wpList_store_blk (blk_new w4 (.cells (hdV hdZ none 0 0) 61)) 61 0 (hdV ⟨true, m.err, k.seq, 0, k.t⟩ A3 n c3) (Nat.le_refl _) (info_hd _ _ _ _) (hd_one _ _ _ _) _ _ rfl rfl rfl rfl ?_; intro w5 hg9 hs9 hb9; rw [splice_hd] at hb9; have H5 := Lib.hid (And.intro hg9 hb9); clear hg9 hs9 hb9))
              try dsimp only [Act.put]
              clear h1 h2 h3 h4
              have HBA : Hid (Below w4.heap.size w4 (w4.alloc (.cells (hdV hdZ none 0 0) 61))) := Lib.hid (below_alloc (Below.refl _ _) _)
              have HB45 : Hid (Below w4.heap.size w4 w5) := Lib.hid (below_grown HBA.out H5.out.1 (Nat.le_refl _))
              have HB5 := Lib.hid (below_step HB4.out HB45.out)
              have HX5 := Lib.hid (blk_below HX4.out HB45.out)
              have HZ5 := Lib.hid (blk_below HZ4.out HB45.out)
              have HH5 := Lib.hid (blk_below HH4.out HB45.out)
              have HM5 := Lib.hid (msg_ld HMF.out (blk_below HY4.out HB45.out))
              have HO5 : Hid (OS updK w5 (w.heap.size + 4) A3 n c3 k.t) := Lib.hid (((HO4.out.below HBA.out).grown H5.out.1 (fun ad e h => by have := HO4.out.lt ad e; injection h with h; omega)))
              have HI5 := Lib.hid H5.out.2
              have HNE : Hid (∀ ad, A3 = some ad → ad.block ≠ w4.heap.size) := Lib.hid (fun ad e => by have := HO4.out.lt ad e; omega)
              have HS4 : Hid (w.heap.size + 3 < w4.heap.size) := Lib.hid (by have := blk_lt HH4.out; have := HW0.out; omega)
              clear H5 HBA HB45 HX4 HZ4 HH4 HM4 HO4 HB4 HC4 HAW HY4
              by_cases he : m.err = 0
              · have hez : (m.err == 0) = true := by simpa using he
                have HD2 : Hid ((⟨true, m.err, k.seq, if m.err = 0 then m.index else 0, k.t⟩ : Hd) = ⟨true, m.err, k.seq, m.index, k.t⟩) := Lib.hid (by rw [if_pos he])
                clear he
                go_upto_region 10 with (first | ((with_reducible show wpList _ _ _ (Oper.mk _ (Op.load _ _) _ _ _ _ :: _) _ _); refine wpList_load_g (HM5.out.err) _ rfl rfl (by go_simp) ?_) | ((with_reducible show wpList _ _ _ (Oper.mk _ (Op.load _ _) _ _ _ _ :: _) _ _); refine wpList_load_g (HM5.out.index) _ rfl rfl (by go_simp) ?_) | ((with_reducible show wpList _ _ _ (Oper.mk _ (Op.store _ _ _) _ _ _ _ :: _) _ _); refine wpList_store_cell HI5.out 31 4 (.int .u64 m.index) (by show 4 < 5; omega) (by kernel_rfl) rfl rfl _ _ rfl rfl rfl rfl ?_; intro w6 hg9 hs9 hb9; have H6 := Lib.hid (And.intro hg9 (show (World.heap w6)[w4.heap.size]? = some (.cells (hdV ⟨true, m.err, k.seq, m.index, k.t⟩ A3 n c3) 61 (0, 0)) from hb9)); clear hg9 hs9 hb9))
                try dsimp only [Act.put]
                have HX6 := Lib.hid (blk_grown HX5.out H6.out.1 (fun e => by injection e with e; have := HS4.out; omega))
                have HZ6 := Lib.hid (blk_grown HZ5.out H6.out.1 (fun e => by injection e with e; have := HS4.out; omega))
                have HH6 := Lib.hid (blk_grown HH5.out H6.out.1 (fun e => by injection e with e; have := HS4.out; have := HW0.out; omega))
                have HB6 := Lib.hid (below_grown HB5.out H6.out.1 (by have := HS4.out; omega))
                have HO6 : Hid (OS updK w6 (w.heap.size + 4) A3 n c3 k.t) := Lib.hid (HO5.out.grown H6.out.1 (fun ad e h => HNE.out ad e (by injection h)))
                have HI6 := Lib.hid H6.out.2
                clear H6 HX5 HZ5 HH5 HB5 HO5 HI5 HM5
                go_upto_region 11 with (first | ((with_reducible show wpList _ _ _ (Oper.mk _ (Op.store 4 _ _) _ _ _ _ :: _) _ _); refine wpList_store_cell HX6.out 4 3 (.bool false) (by show 3 < 4; omega) (by kernel_rfl) rfl rfl _ _ rfl rfl rfl rfl ?_; intro w7 hg9 hs9 hb9; have H7 := Lib.hid (And.intro hg9 (show (World.heap w7)[w.heap.size]? = some (.cells (cliV ⟨k.num, k.seq, false, k.t⟩ A3 n c3) 27 (0, 0)) from hb9)); clear hg9 hs9 hb9) | ((with_reducible show wpList _ _ _ (Oper.mk _ (Op.build 25 _) _ _ _ _ :: _) _ _); refine wpList_exw rfl (exec_build 25 #[] rfl #[] rfl (run_build w7 _ (.agg (tabV none 0 0)) _ (by kernel_rfl))) ?_) | ((with_reducible show wpList _ _ _ (Oper.mk _ (Op.build 25 _) _ _ _ _ :: _) _ _); refine wpList_exw rfl (exec_build 25 #[] rfl #[] rfl (run_build w6 _ (.agg (tabV none 0 0)) _ (by kernel_rfl))) ?_) | ((with_reducible show wpList _ _ _ (Oper.mk _ (Op.store _ _ _) _ _ _ _ :: _) _ _); refine wpList_store_blk H7.out.2 25 2 (tabV none 0 0) (by show 2 + 1 ≤ 4; omega) (info_bat _ _ _) (tab_one _ _ _) _ _ rfl rfl rfl rfl ?_; intro w8 hg9 hs9 hb9; have H8 := Lib.hid (And.intro hg9 (show (World.heap w8)[w.heap.size]? = some (.cells (cliV ⟨k.num, k.seq, false, []⟩ none 0 0) 27 (0, 0)) from hb9)); clear hg9 hs9 hb9))
                try dsimp only [Act.put]
                have HX8 := Lib.hid H8.out.2
                have HZ8 := Lib.hid (blk_grown (blk_grown HZ6.out H7.out.1 (fun e => by injection e with e; omega)) H8.out.1 (fun e => by injection e with e; omega))
                have HH8 := Lib.hid (blk_grown (blk_grown HH6.out H7.out.1 (fun e => by injection e with e; have := HW0.out; omega)) H8.out.1 (fun e => by injection e with e; have := HW0.out; omega))
                have HI8 := Lib.hid (blk_grown (blk_grown HI6.out H7.out.1 (fun e => by injection e with e; have := HS4.out; omega)) H8.out.1 (fun e => by injection e with e; have := HS4.out; omega))
                have HB8 := Lib.hid (below_grown (below_grown HB6.out H7.out.1 (Nat.le_refl _)) H8.out.1 (Nat.le_refl _))
                have HO8 : Hid (OS updK w8 (w.heap.size + 4) A3 n c3 k.t) := Lib.hid ((HO6.out.grown H7.out.1 (fun ad e h => by have := HO6.out.base_ ad e; injection h with h; omega)).grown H8.out.1 (fun ad e h => by have := HO6.out.base_ ad e; injection h with h; omega))
                clear H7 H8 HX6 HZ6 HH6 HI6 HB6 HO6
                have HS8 : Hid ((w8.drew).heap[w.heap.size]? = some (.cells (cliV ⟨k.num, k.seq, false, []⟩ none 0 0) 27 (0, 0)) ∧ (w8.drew).heap[w4.heap.size]? = some (.cells (hdV ⟨true, m.err, k.seq, m.index, k.t⟩ A3 n c3) 61 (0, 0))) := Lib.hid ⟨blk_below HX8.out (below_drew1 _), blk_below HI8.out (below_drew1 _)⟩
                refine wp_region_mix (fun w0 => w0.heap[w.heap.size]? = some (.cells (cliV ⟨k.num, k.seq, false, []⟩ none 0 0) 27 (0, 0)) ∧ w0.heap[w4.heap.size]? = some (.cells (hdV ⟨true, m.err, k.seq, m.index, k.t⟩ A3 n c3) 61 (0, 0))) [(0, 0), (1, 0), (2, 2), (3, 3), (4, 3)] (by kernel_rfl) (by kernel_rfl) HS8.out ?_
                simp only [List.map_cons, List.map_nil]
                refine wpO_loadW (t := 27) (ad := ⟨w.heap.size, 0, none⟩) rfl rfl ?hw rfl rfl ((fun w0 hS => load_cli hS.1)) ?_
                case hw => go_simp
                refine wpO_loadW (t := 61) (ad := ⟨w4.heap.size, 0, none⟩) rfl rfl ?hw rfl rfl ((fun w0 hS => load_hd hS.2)) ?_
                case hw => go_simp
                refine wpO_step2 rfl rfl (HS8.out) (fun K hK => ?_)
                rw [if_pos (show Region.wanted _ _ = true from rfl)]
                refine oper_store_blk (blk_below HZ8.out (below_drew1 _)) 27 0 (cliV ⟨k.num, k.seq, false, []⟩ none 0 0) (Nat.le_refl _) (info_cli _ _ _ _) (cli_one _ _ _ _) _ _ rfl rfl rfl ?_
                intro w9 hg9 hs9 hb9
                rw [splice_cli] at hb9
                have H9 := Lib.hid (And.intro hg9 hb9)
                clear hg9 hs9 hb9
                refine hK _ _ ⟨⟨blk_grown HS8.out.1 H9.out.1 (fun e => by injection e with e; omega), blk_grown HS8.out.2 H9.out.1 (fun e => by injection e with e; have := HS4.out; omega)⟩, ?_⟩
                clear hK K
                refine wpO_step3 rfl rfl (fun K hK => ?_)
                rw [if_pos (show Region.wanted _ _ = true from rfl)]
                refine oper_store_blk (blk_grown (blk_below HH8.out (below_drew1 _)) H9.out.1 (fun e => by injection e with e; have := HW0.out; omega)) 61 0 (hdV ⟨true, m.err, k.seq, m.index, k.t⟩ A3 n c3) (Nat.le_refl _) (info_hd _ _ _ _) (hd_one _ _ _ _) _ _ rfl rfl rfl ?_
                intro w10 hg9 hs9 hb9
                rw [splice_hd] at hb9
                have H10 := Lib.hid (And.intro hg9 hb9)
                clear hg9 hs9 hb9
                refine hK _ _ ?_
                clear hK K
                refine wpO_step3 rfl rfl (fun K hK => ?_); go_simp; refine hK _ _ ?_; clear hK K
                refine wpO_nil ?_
                go_wp2_with fail
                refine bodyPost_ret (results_ccs rfl rfl (load_cli (blk_grown H9.out.2 H10.out.1 (fun e => by injection e with e; have := HW0.out; omega))) rfl (load_hd H10.out.2)) rfl ?_
                rw [HN.out, HK.out, HD.out, HE.out, HD2.out]
                exact ⟨none, 0, 0, A3, n, c3, rfl, OS.nil _ _ _, (((HO8.out.below (below_drew1 _)).grown H9.out.1 (fun ad e h => by have := HO8.out.base_ ad e; injection h with h; omega)).grown H10.out.1 (fun ad e h => by have := HO8.out.base_ ad e; have := HW0.out; injection h with h; omega)).lower (by omega), below_grown (below_grown (below_step HB8.out (below_drew1 _)) H9.out.1 (by omega)) H10.out.1 (by have := HW0.out; omega)⟩
              · have hez : (m.err == 0) = false := by simpa using he
                have HD2 : Hid ((⟨true, m.err, k.seq, if m.err = 0 then m.index else 0, k.t⟩ : Hd) = ⟨true, m.err, k.seq, 0, k.t⟩) := Lib.hid (by rw [if_neg he])
                clear he
                go_upto_region 10 with (first | ((with_reducible show wpList _ _ _ (Oper.mk _ (Op.load _ _) _ _ _ _ :: _) _ _); refine wpList_load_g (HM5.out.err) _ rfl rfl (by go_simp) ?_))
                try dsimp only [Act.put]
                obtain ⟨w6, hw6⟩ : ∃ w6, w5 = w6 := ⟨_, rfl⟩
                subst hw6
                have HX6 := HX5
                have HZ6 := HZ5
                have HH6 := HH5
                have HB6 := HB5
                have HO6 := HO5
                have HI6 := HI5
                clear HX5 HZ5 HH5 HB5 HO5 HI5 HM5
                go_upto_region 11 with (first | ((with_reducible show wpList _ _ _ (Oper.mk _ (Op.store 4 _ _) _ _ _ _ :: _) _ _); refine wpList_store_cell HX6.out 4 3 (.bool false) (by show 3 < 4; omega) (by kernel_rfl) rfl rfl _ _ rfl rfl rfl rfl ?_; intro w7 hg9 hs9 hb9; have H7 := Lib.hid (And.intro hg9 (show (World.heap w7)[w.heap.size]? = some (.cells (cliV ⟨k.num, k.seq, false, k.t⟩ A3 n c3) 27 (0, 0)) from hb9)); clear hg9 hs9 hb9) | ((with_reducible show wpList _ _ _ (Oper.mk _ (Op.build 25 _) _ _ _ _ :: _) _ _); refine wpList_exw rfl (exec_build 25 #[] rfl #[] rfl (run_build w7 _ (.agg (tabV none 0 0)) _ (by kernel_rfl))) ?_) | ((with_reducible show wpList _ _ _ (Oper.mk _ (Op.build 25 _) _ _ _ _ :: _) _ _); refine wpList_exw rfl (exec_build 25 #[] rfl #[] rfl (run_build w6 _ (.agg (tabV none 0 0)) _ (by kernel_rfl))) ?_) | ((with_reducible show wpList _ _ _ (Oper.mk _ (Op.store _ _ _) _ _ _ _ :: _) _ _); refine wpList_store_blk H7.out.2 25 2 (tabV none 0 0) (by show 2 + 1 ≤ 4; omega) (info_bat _ _ _) (tab_one _ _ _) _ _ rfl rfl rfl rfl ?_; intro w8 hg9 hs9 hb9; have H8 := Lib.hid (And.intro hg9 (show (World.heap w8)[w.heap.size]? = some (.cells (cliV ⟨k.num, k.seq, false, []⟩ none 0 0) 27 (0, 0)) from hb9)); clear hg9 hs9 hb9))
                try dsimp only [Act.put]
                have HX8 := Lib.hid H8.out.2
                have HZ8 := Lib.hid (blk_grown (blk_grown HZ6.out H7.out.1 (fun e => by injection e with e; omega)) H8.out.1 (fun e => by injection e with e; omega))
                have HH8 := Lib.hid (blk_grown (blk_grown HH6.out H7.out.1 (fun e => by injection e with e; have := HW0.out; omega)) H8.out.1 (fun e => by injection e with e; have := HW0.out; omega))
                have HI8 := Lib.hid (blk_grown (blk_grown HI6.out H7.out.1 (fun e => by injection e with e; have := HS4.out; omega)) H8.out.1 (fun e => by injection e with e; have := HS4.out; omega))
                have HB8 := Lib.hid (below_grown (below_grown HB6.out H7.out.1 (Nat.le_refl _)) H8.out.1 (Nat.le_refl _))
                have HO8 : Hid (OS updK w8 (w.heap.size + 4) A3 n c3 k.t) := Lib.hid ((HO6.out.grown H7.out.1 (fun ad e h => by have := HO6.out.base_ ad e; injection h with h; omega)).grown H8.out.1 (fun ad e h => by have := HO6.out.base_ ad e; injection h with h; omega))
                clear H7 H8 HX6 HZ6 HH6 HI6 HB6 HO6
                have HS8 : Hid ((w8.drew).heap[w.heap.size]? = some (.cells (cliV ⟨k.num, k.seq, false, []⟩ none 0 0) 27 (0, 0)) ∧ (w8.drew).heap[w4.heap.size]? = some (.cells (hdV ⟨true, m.err, k.seq, 0, k.t⟩ A3 n c3) 61 (0, 0))) := Lib.hid ⟨blk_below HX8.out (below_drew1 _), blk_below HI8.out (below_drew1 _)⟩
                refine wp_region_mix (fun w0 => w0.heap[w.heap.size]? = some (.cells (cliV ⟨k.num, k.seq, false, []⟩ none 0 0) 27 (0, 0)) ∧ w0.heap[w4.heap.size]? = some (.cells (hdV ⟨true, m.err, k.seq, 0, k.t⟩ A3 n c3) 61 (0, 0))) [(0, 0), (1, 0), (2, 2), (3, 3), (4, 3)] (by kernel_rfl) (by kernel_rfl) HS8.out ?_
                simp only [List.map_cons, List.map_nil]
                refine wpO_loadW (t := 27) (ad := ⟨w.heap.size, 0, none⟩) rfl rfl ?hw rfl rfl ((fun w0 hS => load_cli hS.1)) ?_
                case hw => go_simp
                refine wpO_loadW (t := 61) (ad := ⟨w4.heap.size, 0, none⟩) rfl rfl ?hw rfl rfl ((fun w0 hS => load_hd hS.2)) ?_
                case hw => go_simp
                refine wpO_step2 rfl rfl (HS8.out) (fun K hK => ?_)
                rw [if_pos (show Region.wanted _ _ = true from rfl)]
                refine oper_store_blk (blk_below HZ8.out (below_drew1 _)) 27 0 (cliV ⟨k.num, k.seq, false, []⟩ none 0 0) (Nat.le_refl _) (info_cli _ _ _ _) (cli_one _ _ _ _) _ _ rfl rfl rfl ?_
                intro w9 hg9 hs9 hb9
                rw [splice_cli] at hb9
                have H9 := Lib.hid (And.intro hg9 hb9)
                clear hg9 hs9 hb9
                refine hK _ _ ⟨⟨blk_grown HS8.out.1 H9.out.1 (fun e => by injection e with e; omega), blk_grown HS8.out.2 H9.out.1 (fun e => by injection e with e; have := HS4.out; omega)⟩, ?_⟩
                clear hK K
                refine wpO_step3 rfl rfl (fun K hK => ?_)
                rw [if_pos (show Region.wanted _ _ = true from rfl)]
                refine oper_store_blk (blk_grown (blk_below HH8.out (below_drew1 _)) H9.out.1 (fun e => by injection e with e; have := HW0.out; omega)) 61 0 (hdV ⟨true, m.err, k.seq, 0, k.t⟩ A3 n c3) (Nat.le_refl _) (info_hd _ _ _ _) (hd_one _ _ _ _) _ _ rfl rfl rfl ?_
                intro w10 hg9 hs9 hb9
                rw [splice_hd] at hb9
                have H10 := Lib.hid (And.intro hg9 hb9)
                clear hg9 hs9 hb9
                refine hK _ _ ?_
                clear hK K
                refine wpO_step3 rfl rfl (fun K hK => ?_); go_simp; refine hK _ _ ?_; clear hK K
                refine wpO_nil ?_
                go_wp2_with fail
                refine bodyPost_ret (results_ccs rfl rfl (load_cli (blk_grown H9.out.2 H10.out.1 (fun e => by injection e with e; have := HW0.out; omega))) rfl (load_hd H10.out.2)) rfl ?_
                rw [HN.out, HK.out, HD.out, HE.out, HD2.out]
                exact ⟨none, 0, 0, A3, n, c3, rfl, OS.nil _ _ _, (((HO8.out.below (below_drew1 _)).grown H9.out.1 (fun ad e h => by have := HO8.out.base_ ad e; injection h with h; omega)).grown H10.out.1 (fun ad e h => by have := HO8.out.base_ ad e; have := HW0.out; injection h with h; omega)).lower (by omega), below_grown (below_grown (below_step HB8.out (below_drew1 _)) H9.out.1 (by omega)) H10.out.1 (by have := HW0.out; omega)⟩
end Go.Proofs.YtifejiclenpfoaaDoor

/- Layer 20 (client): Same, New; the document's Same; the law's short, one. -/
namespace Go.Proofs.YtifejiclenpfoaaDoor
open Go.RowKit
set_option linter.unusedVariables false
set_option linter.unusedSimpArgs false
set_option maxRecDepth 4000
/-- Are two clients one? -/
def cliB (a b : Ck) : Bool := (a.num == b.num) && (a.seq == b.seq) && (a.away == b.away) && updE.eqL a.t b.t
set_option maxHeartbeats 2000000 in
theorem csame20_any (a : Ck) (A : Option Addr) (n c : Nat) (b : Ck) (A2 : Option Addr) (m c2 : Nat) (w : World) (ha : RS updK w A n c a.t) (hb : RS updK w A2 m c2 b.t) (oa : Oku a.t) (ob : Oku b.t) (hn : n ≤ 100000) (hm : m ≤ 100000) :
    Calls Tryd.prog 25 #[.agg (cliV a A n c), .agg (cliV b A2 m c2)] w fun e w' => e = .returned (.bool (cliB a b)) ∧ Below w.heap.size w w' := by
  have hblk1 := blk_new w (.cells (cliV a A n c) 27)
  have hbel1 : Below w.heap.size w (w.alloc (.cells (cliV a A n c) 27)) := below_alloc (Below.refl _ _) _
  have hblk2 := blk_new (w.alloc (.cells (cliV a A n c) 27)) (.cells (cliV b A2 m c2) 27)
  have hbel2 : Below w.heap.size w ((w.alloc (.cells (cliV a A n c) 27)).alloc (.cells (cliV b A2 m c2) 27)) := below_alloc (hbel1) _
  rw [show (w.alloc (.cells (cliV a A n c) 27)).heap.size = w.heap.size + 1 by simp] at hblk2
  replace hblk1 := blk_below hblk1 (below_alloc (Below.refl _ _) (.cells (cliV b A2 m c2) 27))
  have HP1 := Lib.hid (cli_at hblk1)
  have HBK1 := Lib.hid hblk1
  have HP2 := Lib.hid (cli_at hblk2)
  have HBK2 := Lib.hid hblk2
  have HBE := Lib.hid hbel2
  obtain ⟨cs1, hcs1⟩ : ∃ cs, cliV a A n c = cs := ⟨_, rfl⟩
  obtain ⟨cs2, hcs2⟩ : ∃ cs, cliV b A2 m c2 = cs := ⟨_, rfl⟩
  simp only [hcs1, hcs2] at HBE HP1 HP2 HBK1 HBK2 ⊢
  have HC1 := Lib.hid hcs1
  have HC2 := Lib.hid hcs2
  clear hcs1 hblk1 hbel1 hcs2 hblk2 hbel2
  have H1 := Lib.hid (ha.below HBE.out)
  have H2 := Lib.hid (hb.below HBE.out)
  have HX := Lib.hid (HP1.out.all _ (Below.refl _ _))
  have HY := Lib.hid (HP2.out.all _ (Below.refl _ _))
  clear ha hb
  go_enter Tryd.func25, Tryd.ntmps25
  cases h1 : (a.num == b.num) with
  | false =>
    have HE : Hid (cliB a b = false) := Lib.hid (by unfold cliB; rw [h1]; rfl)
    go_wp2_with (first | ((with_reducible show wpList _ _ _ (Oper.mk _ (Op.load _ _) _ _ _ _ :: _) _ _); refine wpList_load_g (HX.out.num) _ rfl rfl (by go_simp) ?_) | ((with_reducible show wpList _ _ _ (Oper.mk _ (Op.load _ _) _ _ _ _ :: _) _ _); refine wpList_load_g (HY.out.num) _ rfl rfl (by go_simp) ?_))
    go_ret
    rw [HE.out]
    exact ⟨rfl, HBE.out⟩
  | true =>
    cases h2 : (a.seq == b.seq) with
    | false =>
      have HE : Hid (cliB a b = false) := Lib.hid (by unfold cliB; rw [h1, h2]; rfl)
      go_wp2_with (first | ((with_reducible show wpList _ _ _ (Oper.mk _ (Op.load _ _) _ _ _ _ :: _) _ _); refine wpList_load_g (HX.out.num) _ rfl rfl (by go_simp) ?_) | ((with_reducible show wpList _ _ _ (Oper.mk _ (Op.load _ _) _ _ _ _ :: _) _ _); refine wpList_load_g (HY.out.num) _ rfl rfl (by go_simp) ?_) | ((with_reducible show wpList _ _ _ (Oper.mk _ (Op.load _ _) _ _ _ _ :: _) _ _); refine wpList_load_g (HX.out.seq) _ rfl rfl (by go_simp) ?_) | ((with_reducible show wpList _ _ _ (Oper.mk _ (Op.load _ _) _ _ _ _ :: _) _ _); refine wpList_load_g (HY.out.seq) _ rfl rfl (by go_simp) ?_))
      go_ret
      rw [HE.out]
      exact ⟨rfl, HBE.out⟩
    | true =>
      cases h3 : (a.away == b.away) with
      | false =>
        have HE : Hid (cliB a b = false) := Lib.hid (by unfold cliB; rw [h1, h2, h3]; rfl)
        go_wp2_with (first | ((with_reducible show wpList _ _ _ (Oper.mk _ (Op.load _ _) _ _ _ _ :: _) _ _); refine wpList_load_g (HX.out.num) _ rfl rfl (by go_simp) ?_) | ((with_reducible show wpList _ _ _ (Oper.mk _ (Op.load _ _) _ _ _ _ :: _) _ _); refine wpList_load_g (HY.out.num) _ rfl rfl (by go_simp) ?_) | ((with_reducible show wpList _ _ _ (Oper.mk _ (Op.load _ _) _ _ _ _ :: _) _ _); refine wpList_load_g (HX.out.seq) _ rfl rfl (by go_simp) ?_) | ((with_reducible show wpList _ _ _ (Oper.mk _ (Op.load _ _) _ _ _ _ :: _) _ _); refine wpList_load_g (HY.out.seq) _ rfl rfl (by go_simp) ?_) | ((with_reducible show wpList _ _ _ (Oper.mk _ (Op.load _ _) _ _ _ _ :: _) _ _); refine wpList_load_g (HX.out.away) _ rfl rfl (by go_simp) ?_) | ((with_reducible show wpList _ _ _ (Oper.mk _ (Op.load _ _) _ _ _ _ :: _) _ _); refine wpList_load_g (HY.out.away) _ rfl rfl (by go_simp) ?_))
        go_ret
        rw [HE.out]
        exact ⟨rfl, HBE.out⟩
      | true =>
        have HE : Hid (cliB a b = updE.eqL a.t b.t) := Lib.hid (by unfold cliB; rw [h1, h2, h3]; rfl)
        go_wp2_with (first | ((with_reducible show wpList _ _ _ (Oper.mk _ (Op.load _ _) _ _ _ _ :: _) _ _); refine wpList_load_g (HX.out.num) _ rfl rfl (by go_simp) ?_) | ((with_reducible show wpList _ _ _ (Oper.mk _ (Op.load _ _) _ _ _ _ :: _) _ _); refine wpList_load_g (HY.out.num) _ rfl rfl (by go_simp) ?_) | ((with_reducible show wpList _ _ _ (Oper.mk _ (Op.load _ _) _ _ _ _ :: _) _ _); refine wpList_load_g (HX.out.seq) _ rfl rfl (by go_simp) ?_) | ((with_reducible show wpList _ _ _ (Oper.mk _ (Op.load _ _) _ _ _ _ :: _) _ _); refine wpList_load_g (HY.out.seq) _ rfl rfl (by go_simp) ?_) | ((with_reducible show wpList _ _ _ (Oper.mk _ (Op.load _ _) _ _ _ _ :: _) _ _); refine wpList_load_g (HX.out.away) _ rfl rfl (by go_simp) ?_) | ((with_reducible show wpList _ _ _ (Oper.mk _ (Op.load _ _) _ _ _ _ :: _) _ _); refine wpList_load_g (HY.out.away) _ rfl rfl (by go_simp) ?_) | ((with_reducible show wpList _ _ _ (Oper.mk _ (Op.load _ _) _ _ _ _ :: _) _ _); refine wpList_load_g (HX.out.bat) _ rfl rfl (by go_simp) ?_) | ((with_reducible show wpList _ _ _ (Oper.mk _ (Op.load _ _) _ _ _ _ :: _) _ _); refine wpList_load_g (HY.out.bat) _ rfl rfl (by go_simp) ?_))
        refine (rsameb_any A n c a.t A2 m c2 b.t _ H1.out H2.out oa ob hn hm).mono ?_
        rintro e w1 ⟨rfl, hb1⟩
        have HB1 := Lib.hid hb1
        clear hb1
        go_wp2_with fail
        go_ret
        rw [HE.out]
        exact ⟨rfl, below_step HBE.out HB1.out⟩
/-- A client that is new. -/
def newK (num : Int) : Ck := ⟨num, 0, false, []⟩
def newE (num : Int) : Int := if 1 ≤ num ∧ num ≤ 2 then 0 else 2
def newC (num : Int) : Ck := if 1 ≤ num ∧ num ≤ 2 then newK num else ckZ
theorem run_build_cli1 (w : World) (num : Int) : (Instr.build 27 #[(0, .int .i64 num)]).run Tryd.prog w = .ok (.agg (cliV (newK num) none 0 0)) w := run_build w _ _ _ (by kernel_rfl)
theorem ckE_new (num : Int) : ckE (newK num) = if 1 ≤ num ∧ num ≤ 2 then 0 else 300 := by
  unfold ckE ckB newK
  by_cases h1 : 1 ≤ num
  · by_cases h2 : num ≤ 2
    · simp [h1, h2]
    · simp [h1, h2]
  · simp [h1]
set_option maxHeartbeats 2000000 in
theorem cnew_any (num : Int) (w : World) (hL : Laid w) : Calls Tryd.prog 17 #[.int .i64 num] w fun e w' => e = .returned (.tuple #[.agg (cliV (newC num) none 0 0), .int .i64 (newE num)]) ∧ Below w.heap.size w w' := by
  have HL := Lib.hid hL
  clear hL
  go_enter Tryd.func17, Tryd.ntmps17
  obtain ⟨W0, hW0⟩ : ∃ W, w.alloc (.cells #[.int .i64 0, .int .u32 0, .slice none 0 0, .bool false] 27) = W := ⟨_, rfl⟩
  have hs0 : W0.heap.size = w.heap.size + 1 := by rw [← hW0]; simp
  have HZ0 : Hid (W0.heap[w.heap.size]? = some (.cells (cliV ckZ none 0 0) 27 (0, 0))) := Lib.hid (by rw [← hW0]; exact blk_new _ _)
  have HB0 : Hid (Below w.heap.size w W0) := Lib.hid (hW0 ▸ below_alloc (Below.refl _ _) _)
  obtain ⟨W1, hW1⟩ : ∃ W, W0.alloc (.cells (cliV ckZ none 0 0) 27) = W := ⟨_, rfl⟩
  have HY1 : Hid (W1.heap[w.heap.size + 1]? = some (.cells (cliV ckZ none 0 0) 27 (0, 0))) := Lib.hid (by rw [← hW1, ← hs0]; exact blk_new _ _)
  have HZ1 : Hid (W1.heap[w.heap.size]? = some (.cells (cliV ckZ none 0 0) 27 (0, 0))) := Lib.hid (hW1 ▸ blk_below HZ0.out (below_alloc (Below.refl _ _) _))
  have HB1 : Hid (Below w.heap.size w W1) := Lib.hid (hW1 ▸ below_alloc HB0.out _)
  have hw1 : W0.alloc (.cells #[.int .i64 0, .int .u32 0, .slice none 0 0, .bool false] 27) = W1 := hW1
  clear hW1
  go_upto_region 2 with (first | ((with_reducible show wpList _ _ _ (Oper.mk _ (Op.build 27 _) _ _ _ _ :: _) _ _); refine wpList_exw rfl (exec_build1 rfl rfl (run_build_cli1 _ num)) ?_) | ((with_reducible show wpList _ _ _ (Oper.mk _ (Op.store _ _ _) _ _ _ _ :: _) _ _); refine wpList_store_blk HY1.out 27 0 (cliV (newK num) none 0 0) (Nat.le_refl _) (info_cli _ _ _ _) (cli_one _ _ _ _) _ _ rfl rfl rfl rfl ?_; intro w1 hg9 hs9 hb9; rw [splice_cli] at hb9; have H1 := Lib.hid (And.intro hg9 hb9); clear hg9 hs9 hb9))
  try dsimp only [Act.put]
  have HX1 := Lib.hid H1.out.2
  have HZ2 := Lib.hid (blk_grown HZ1.out H1.out.1 (fun e => by injection e with e; omega))
  have HB2 := Lib.hid (below_grown HB1.out H1.out.1 (by omega))
  have HL2 := Lib.hid (HL.out.below HB2.out)
  clear H1 hw1 hW0
  have hcall := ccheck20_any (newK num) none 0 0 w1 HL2.out (RS.nil _ _ _ _) (fun r hr => by cases hr) (by omega)
  go_wp2_with (first | ((with_reducible show wpList _ _ _ (Oper.mk _ (Op.load _ _) _ _ _ _ :: _) _ _); refine wpList_load_g (load_cli HX1.out) _ rfl rfl (by go_simp) ?_))
  refine hcall.mono ?_
  clear hcall
  rintro e w2 ⟨rfl, hb2⟩
  have HX3 := Lib.hid (blk_below HX1.out hb2)
  have HZ3 := Lib.hid (blk_below HZ2.out hb2)
  have HB3 := Lib.hid (below_step HB2.out hb2)
  clear hb2
  rw [ckE_new]
  by_cases h : 1 ≤ num ∧ num ≤ 2
  · have HE : Hid (newC num = newK num ∧ newE num = 0) := Lib.hid ⟨by unfold newC; rw [if_pos h], by unfold newE; rw [if_pos h]⟩
    rw [if_pos h]
    clear h
    go_wp2_with (first | ((with_reducible show wpList _ _ _ (Oper.mk _ (Op.load _ _) _ _ _ _ :: _) _ _); refine wpList_load_g (load_cli HX3.out) _ rfl rfl (by go_simp) ?_) | ((with_reducible show wpList _ _ _ (Oper.mk _ (Op.store _ _ _) _ _ _ _ :: _) _ _); refine wpList_store_blk HZ3.out 27 0 (cliV (newK num) none 0 0) (Nat.le_refl _) (info_cli _ _ _ _) (cli_one _ _ _ _) _ _ rfl rfl rfl rfl ?_; intro w9 hg9 hs9 hb9; rw [splice_cli] at hb9; have H9 := Lib.hid (And.intro hg9 hb9); clear hg9 hs9 hb9))
    refine bodyPost_ret (results_c2 rfl rfl (load_cli H9.out.2)) rfl ?_
    rw [HE.out.1, HE.out.2]
    exact ⟨rfl, below_grown HB3.out H9.out.1 (Nat.le_refl _)⟩
  · have HE : Hid (newC num = ckZ ∧ newE num = 2) := Lib.hid ⟨by unfold newC; rw [if_neg h], by unfold newE; rw [if_neg h]⟩
    rw [if_neg h]
    clear h
    go_wp2_with (first | ((with_reducible show wpList _ _ _ (Oper.mk _ (Op.build _ _) _ _ _ _ :: _) _ _); refine wpList_exw rfl (exec_build 27 #[] rfl #[] rfl ((run_build_cli_nil _))) ?_) | ((with_reducible show wpList _ _ _ (Oper.mk _ (Op.store _ _ _) _ _ _ _ :: _) _ _); refine wpList_store_blk HZ3.out 27 0 (cliV ckZ none 0 0) (Nat.le_refl _) (info_cli _ _ _ _) (cli_one _ _ _ _) _ _ rfl rfl rfl rfl ?_; intro w9 hg9 hs9 hb9; rw [splice_cli] at hb9; have H9 := Lib.hid (And.intro hg9 hb9); clear hg9 hs9 hb9))
    refine bodyPost_ret (results_c2 rfl rfl (load_cli H9.out.2)) rfl ?_
    rw [HE.out.1, HE.out.2]
    exact ⟨rfl, below_grown HB3.out H9.out.1 (Nat.le_refl _)⟩
def oneB : List Upd := [wkU2]
theorem oneB_ok : Oku oneB := by
  intro u hu
  simp only [oneB, List.mem_cons, List.not_mem_nil, or_false] at hu
  subst hu
  exact ⟨⟨ten8_B, by decide, by decide⟩, by decide, by decide, by decide⟩
set_option maxHeartbeats 2000000 in
theorem one20_any (w : World) : Calls Tryd.prog 33 #[] w fun e w' => ∃ A', e = .returned (.agg (tabV A' 1 1)) ∧ OS updK w' w.heap.size A' 1 1 oneB ∧ Below w.heap.size w w' := by
  obtain ⟨u, hu⟩ : ∃ u : Upd, u = wkU2 := ⟨_, rfl⟩
  have HU := Lib.hid hu
  have hf : u.fits := by rw [hu]; exact ten8_B
  clear hu
  obtain ⟨W1, hW1⟩ : ∃ W1, w.alloc (.cells #[.slice none 0 0] 25) = W1 := ⟨_, rfl⟩
  have HZ1 : Hid (W1.heap[w.heap.size]? = some (.cells (tabV none 0 0) 25 (0, 0))) := Lib.hid (by rw [← hW1]; exact blk_new _ _)
  have HB1 : Hid (Below w.heap.size w W1) := Lib.hid (hW1 ▸ below_alloc (Below.refl _ _) _)
  have hs1 : W1.heap.size = w.heap.size + 1 := by rw [← hW1]; simp
  obtain ⟨W2, hW2⟩ : ∃ W2, W1.alloc (.cells (updK.enc u).toArray updK.t) = W2 := ⟨_, rfl⟩
  have HO2 : Hid (OS updK W2 (w.heap.size + 1) (some ⟨w.heap.size + 1, 0, none⟩) 1 1 oneB) := Lib.hid (by rw [← hW2, ← hs1]; unfold oneB; rw [← HU.out]; exact OS.one updK W1 _ u (Nat.le_refl _) hf)
  have HZ2 : Hid (W2.heap[w.heap.size]? = some (.cells (tabV none 0 0) 25 (0, 0))) := Lib.hid (hW2 ▸ blk_below HZ1.out (below_alloc (Below.refl _ _) _))
  have HB2 : Hid (Below w.heap.size w W2) := Lib.hid (hW2 ▸ below_alloc HB1.out _)
  have hb3 : Below w.heap.size w (w.alloc (.cells #[.slice none 0 0] 25)) := below_alloc (Below.refl _ _) _
  go_enter Tryd.func33, Tryd.ntmps33
  go_wp2_with (first | ((with_reducible show wpList _ _ _ (Oper.mk _ (Op.build 104 _) _ _ _ _ :: _) _ _); refine wpList_exw rfl (exec_build4 rfl rfl rfl rfl rfl (run_build_upd _ wkP 1 5 9 rfl)) ?_) | ((with_reducible show wpList _ _ _ (Oper.mk _ (Op.buildSlice _ _ _) _ _ _ _ :: _) _ _); refine wpList_exw rfl (exec_lit1 updK (x := .tmp 4) rfl u (by rw [HU.out]; rfl) hf (by show 22 ≤ _; omega) _) ?_) | ((with_reducible show wpList _ _ _ (Oper.mk _ (Op.store _ _ _) _ _ _ _ :: _) _ _); refine wpList_store_blk HZ2.out 25 0 (tabV (some ⟨w.heap.size + 1, 0, none⟩) 1 1) (Nat.le_refl _) (info_bat _ _ _) (tab_one _ _ _) _ _ rfl rfl rfl rfl ?_; intro w9 hg9 hs9 hb9; rw [splice_tab] at hb9; have H9 := Lib.hid (And.intro hg9 hb9); clear hg9 hs9 hb9))
  have hld := load_bat H9.out.2
  refine bodyPost_ret (results_c1 rfl rfl hld) rfl ?_
  exact ⟨_, rfl, OS.lower (HO2.out.grown H9.out.1 (fun ad e h => by injection e with e; subst e; injection h with h; have h2 : w.heap.size + 1 = w.heap.size := h; omega)) (by omega), below_grown HB2.out H9.out.1 (Nat.le_refl _)⟩
end Go.Proofs.YtifejiclenpfoaaDoor

/- Layer 15 (frame), for what a client asks: server, client, ends, goes, place, small, counts. -/
namespace Go.Proofs.YtifejiclenpfoaaDoor
open Go.RowKit
set_option linter.unusedVariables false
set_option linter.unusedSimpArgs false
set_option maxRecDepth 4000
theorem fserver_any (n : Int) (w : World) : Calls Tryd.prog 97 #[.int .i64 n] w fun e w' => e = .returned (.bool (decide (1 ≤ n) && decide (n ≤ 2))) ∧ w = w' := by
  by_cases h1 : 1 ≤ n
  · have h1b : decide (1 ≤ n) = true := decide_eq_true h1
    go_enter Tryd.func97, Tryd.ntmps97
    go_wp2
    go_ret
    exact ⟨by simp [h1b], rfl⟩
  · have h1b : decide (1 ≤ n) = false := decide_eq_false h1
    go_enter Tryd.func97, Tryd.ntmps97
    go_wp2
    go_ret
    exact ⟨by simp [h1b], rfl⟩
theorem fclient_any (n : Int) (w : World) : Calls Tryd.prog 96 #[.int .i64 n] w fun e w' => e = .returned (.bool (decide (2 < n) && decide (n ≤ 4))) ∧ w = w' := by
  by_cases h1 : 2 < n
  · have h1b : decide (2 < n) = true := decide_eq_true h1
    go_enter Tryd.func96, Tryd.ntmps96
    go_wp2
    go_ret
    exact ⟨by simp [h1b], rfl⟩
  · have h1b : decide (2 < n) = false := decide_eq_false h1
    go_enter Tryd.func96, Tryd.ntmps96
    go_wp2
    go_ret
    exact ⟨by simp [h1b], rfl⟩
theorem fends6 (w : World) : Calls Tryd.prog 95 #[.int .i64 6] w fun e w' => e = .returned (.tuple #[.int .i64 1, .bool true]) ∧ w = w' := by
  go_enter Tryd.func95, Tryd.ntmps95
  go_wp2
  go_ret2
  exact ⟨rfl, rfl⟩
/-- What a client asks may be. -/
structure AskOk (m : Gm) : Prop where
  kd : m.kd = 6
  frm : 2 < m.frm ∧ m.frm ≤ 4
  tgt : 1 ≤ m.tgt ∧ m.tgt ≤ 2
theorem fgoes_any (m : Gm) (A : Option Addr) (n c : Nat) (w : World) (h : AskOk m) : Calls Tryd.prog 65 #[.agg (gmV m A n c)] w fun e w' => e = .returned (.bool true) ∧ Below w.heap.size w w' := by
  have hblk1 := blk_new w (.cells (gmV m A n c) 45)
  have hbel1 : Below w.heap.size w (w.alloc (.cells (gmV m A n c) 45)) := below_alloc (Below.refl _ _) _
  have HP1 := Lib.hid (gm_at hblk1)
  have HBK1 := Lib.hid hblk1
  have HBE := Lib.hid hbel1
  obtain ⟨cs1, hcs1⟩ : ∃ cs, gmV m A n c = cs := ⟨_, rfl⟩
  simp only [hcs1] at HBE HP1 HBK1 ⊢
  have HC1 := Lib.hid hcs1
  clear hcs1 hblk1 hbel1
  have HLD := Lib.hid (HP1.out.all _ (Below.refl _ _))
  have HKD := Lib.hid HLD.out.kind
  rw [h.kd] at HKD
  have h1 : (decide (2 < m.frm) && decide (m.frm ≤ 4)) = true := by simp [h.frm.1, h.frm.2]
  have h2 : (decide (1 ≤ m.tgt) && decide (m.tgt ≤ 2)) = true := by simp [h.tgt.1, h.tgt.2]
  have H1 := Lib.hid (And.intro h1 h2)
  clear h1 h2
  go_enter Tryd.func65, Tryd.ntmps65
  go_wp2_with (first | ((with_reducible show wpList _ _ _ (Oper.mk _ (Op.load _ _) _ _ _ _ :: _) _ _); refine wpList_load_g (HKD.out) _ rfl rfl (by go_simp) ?_))
  refine (fends6 _).mono ?_
  rintro e w1 ⟨rfl, rfl⟩
  go_wp2_with (first | ((with_reducible show wpList _ _ _ (Oper.mk _ (Op.load _ _) _ _ _ _ :: _) _ _); refine wpList_load_g (HLD.out.frm) _ rfl rfl (by go_simp) ?_))
  refine (fclient_any m.frm _).mono ?_
  rw [H1.out.1]
  rintro e w1 ⟨rfl, rfl⟩
  go_wp2_with (first | ((with_reducible show wpList _ _ _ (Oper.mk _ (Op.load _ _) _ _ _ _ :: _) _ _); refine wpList_load_g (HLD.out.tgt) _ rfl rfl (by go_simp) ?_))
  refine (fserver_any m.tgt _).mono ?_
  rw [H1.out.2]
  rintro e w1 ⟨rfl, rfl⟩
  go_wp2_with (first | ((with_reducible show wpList _ _ _ (Oper.mk _ (Op.load _ _) _ _ _ _ :: _) _ _); refine wpList_load_g (HLD.out.epoch) _ rfl rfl (by go_simp) ?_))
  go_ret
  exact ⟨rfl, HBE.out⟩
theorem fsmall0 (w : World) : Calls Tryd.prog 68 #[.int .u64 0] w fun e w' => e = .returned (.bool true) ∧ w = w' := by
  go_enter Tryd.func68, Tryd.ntmps68
  go_wp2
  go_ret
  exact ⟨rfl, rfl⟩
theorem load_at0 {w : World} {g : Nat} {t : TypeId} (h : w.heap[g]? = some (.cells at0 t (0, 0))) : (Instr.loadAt 31 (.pointer (some ⟨g, 0, none⟩))).run Tryd.prog w = .ok (.int .u64 0) w ∧ (Instr.loadAt 31 (.pointer (some ⟨g, 1, none⟩))).run Tryd.prog w = .ok (.int .u64 0) w :=
  ⟨load_u64k (by rw [blk_cell h]; rfl), load_u64k (by rw [blk_cell h]; rfl)⟩
theorem fplace0 (w : World) : Calls Tryd.prog 67 #[.agg at0, .int .u64 0] w fun e w' => e = .returned (.bool true) ∧ Below w.heap.size w w' := by
  have hb := below_alloc (Below.refl w.heap.size w) (.cells at0 33)
  have HL := Lib.hid (load_at0 (blk_new w (.cells at0 33)))
  go_enter Tryd.func67, Tryd.ntmps67
  go_wp2_with (first | ((with_reducible show wpList _ _ _ (Oper.mk _ (Op.load _ _) _ _ _ _ :: _) _ _); refine wpList_load_g (HL.out.1) _ rfl rfl (by go_simp) ?_) | ((with_reducible show wpList _ _ _ (Oper.mk _ (Op.load _ _) _ _ _ _ :: _) _ _); refine wpList_load_g (HL.out.2) _ rfl rfl (by go_simp) ?_))
  go_ret
  exact ⟨rfl, hb⟩
theorem run_build_gm4 (w : World) (kd frm tgt : Int) : (Instr.build 45 #[(0, .int .i64 kd), (1, .int .i64 frm), (2, .int .i64 tgt), (3, .int .u64 0)]).run Tryd.prog w = .ok (.agg (gmV ⟨kd, frm, tgt, 0, []⟩ none 0 0)) w := run_build w _ _ _ (by kernel_rfl)
end Go.Proofs.YtifejiclenpfoaaDoor

/- Layer 15 (frame), for what a client asks: counts. -/
namespace Go.Proofs.YtifejiclenpfoaaDoor
open Go.RowKit
set_option linter.unusedVariables false
set_option linter.unusedSimpArgs false
set_option maxRecDepth 4000
set_option maxHeartbeats 4000000 in
set_option maxRecDepth 100000 in
theorem fcounts_any (m : Gm) (A : Option Addr) (n c : Nat) (w : World) (h : AskOk m) : Calls Tryd.prog 66 #[.agg (gmV m A n c)] w fun e w' => e = .returned (.agg (gmV m A n c)) ∧ Below w.heap.size w w' := by
  have hblk1 := blk_new w (.cells (gmV m A n c) 45)
  have hbel1 : Below w.heap.size w (w.alloc (.cells (gmV m A n c) 45)) := below_alloc (Below.refl _ _) _
  have HP1 := Lib.hid (gm_at hblk1)
  have HBK1 := Lib.hid hblk1
  have HBE := Lib.hid hbel1
  obtain ⟨cs1, hcs1⟩ : ∃ cs, gmV m A n c = cs := ⟨_, rfl⟩
  simp only [hcs1] at HBE HP1 HBK1 ⊢
  have HC1 := Lib.hid hcs1
  clear hcs1 hblk1 hbel1
  have hs0 : (w.alloc (.cells cs1 45)).heap.size = w.heap.size + 1 := by simp
  obtain ⟨W1, hW1⟩ : ∃ W1, (w.alloc (.cells cs1 45)).alloc (.cells #[.int .i64 0, .int .i64 0, .int .i64 0, .int .u64 0, .int .u64 0, .int .u64 0, .slice none 0 0, .int .u64 0, .bool false, .int .u64 0, .int .u64 0, .int .u64 0, .int .u64 0, .slice none 0 0, .int .u32 0, .int .u64 0, .int .u32 0, .int .u64 0, .int .u32 0, .int .u64 0, .int .u32 0, .slice none 0 0, .int .i64 0] 45) = W1 := ⟨_, rfl⟩
  have HBR : Hid (Below (w.alloc (.cells cs1 45)).heap.size (w.alloc (.cells cs1 45)) W1) := Lib.hid (hW1 ▸ below_alloc (Below.refl _ _) _)
  have HB1 : Hid (Below w.heap.size w W1) := Lib.hid (below_step HBE.out HBR.out)
  have HZ1 : Hid (W1.heap[w.heap.size + 1]? = some (.cells (gmV gmZ none 0 0) 45 (0, 0))) := Lib.hid (by rw [← hW1, ← hs0]; exact blk_new _ _)
  have HKf : Hid (∀ w0, Below (w.alloc (.cells cs1 45)).heap.size (w.alloc (.cells cs1 45)) w0 → (Instr.loadAt 3 (.pointer (some ⟨w.heap.size, 0, none⟩))).run Tryd.prog w0 = .ok (.int .i64 6) w0) := Lib.hid (fun w0 hb => by have := (HP1.out.all w0 hb).kind; rw [h.kd] at this; exact this)
  clear hs0
  go_enter Tryd.func66, Tryd.ntmps66
  go_upto_region 13 with (first | ((with_reducible show wpList _ _ _ (Oper.mk _ (Op.load _ _) _ _ _ _ :: _) _ _); refine wpList_load_g (HKf.out _ HBR.out) _ rfl rfl (by go_simp) ?_) | ((with_reducible show wpList _ _ _ (Oper.mk _ (Op.load _ _) _ _ _ _ :: _) _ _); refine wpList_load_g ((HP1.out.all _ HBR.out).frm) _ rfl rfl (by go_simp) ?_) | ((with_reducible show wpList _ _ _ (Oper.mk _ (Op.load _ _) _ _ _ _ :: _) _ _); refine wpList_load_g ((HP1.out.all _ HBR.out).tgt) _ rfl rfl (by go_simp) ?_) | ((with_reducible show wpList _ _ _ (Oper.mk _ (Op.load _ _) _ _ _ _ :: _) _ _); refine wpList_load_g ((HP1.out.all _ HBR.out).epoch) _ rfl rfl (by go_simp) ?_) | ((with_reducible show wpList _ _ _ (Oper.mk _ (Op.build 45 _) _ _ _ _ :: _) _ _); refine wpList_exw rfl (exec_build4 rfl rfl rfl rfl rfl (run_build_gm4 _ 6 m.frm m.tgt)) ?_) | ((with_reducible show wpList _ _ _ (Oper.mk _ (Op.store _ _ _) _ _ _ _ :: _) _ _); refine wpList_store_blk (blk_new W1 (.cells (gmV gmZ none 0 0) 45)) 45 0 (gmV ⟨6, m.frm, m.tgt, 0, []⟩ none 0 0) (Nat.le_refl _) (info_gm _ _ _ _) (gm_one _ _ _ _) _ _ rfl rfl rfl rfl ?_; intro w2 hg9 hs9 hb9; rw [splice_gm] at hb9; have H2 := Lib.hid (And.intro hg9 hb9); clear hg9 hs9 hb9) | ((with_reducible show wpList _ _ _ (Oper.mk _ (Op.load _ _) _ _ _ _ :: _) _ _); refine wpList_load_g (HKf.out _ (below_step HBR.out (below_grown (below_alloc (Below.refl W1.heap.size W1) _) H2.out.1 (Nat.le_refl _)))) _ rfl rfl (by go_simp) ?_))
  clear hW1
  have hb12 := below_grown (below_alloc (Below.refl W1.heap.size W1) (.cells (gmV gmZ none 0 0) 45)) H2.out.1 (Nat.le_refl _)
  have HB2 := Lib.hid (below_step HB1.out hb12)
  have HBR2 := Lib.hid (below_step HBR.out hb12)
  have HZ2 := Lib.hid (blk_below HZ1.out hb12)
  have HX2 := Lib.hid H2.out.2
  have HG : Hid (w.heap.size + 1 < W1.heap.size) := Lib.hid (blk_lt HZ1.out)
  have HK2 : Hid (w2.heap[w.heap.size]? = some (.cells (gmV m A n c) 45 (0, 0))) := Lib.hid ((blk_below (blk_below HBK1.out HBR.out) hb12).trans (by rw [HC1.out]))
  obtain ⟨gx, hgx⟩ : ∃ g, W1.heap.size = g := ⟨_, rfl⟩
  rw [hgx] at HX2 HG ⊢
  clear H2 hb12 hgx
  refine wp_region_mix ((fun w0 => w0.heap[w.heap.size]? = some (.cells (gmV m A n c) 45 (0, 0)))) [(0, 0), (1, 0), (2, 0), (3, 0), (4, 0), (5, 2), (6, 0), (7, 2)] (by kernel_rfl) (by kernel_rfl) (HK2.out) ?_
  simp only [List.map_cons, List.map_nil]
  iterate 1 (refine wpO_step0 rfl rfl (fun K hK => ?_); go_simp; refine hK _ _ ?_; clear hK K)
  refine wpO_loadW (t := 22) (ad := ⟨w.heap.size, 20, none⟩) rfl rfl ?hw rfl rfl ((fun w0 hS => (gm_ld hS).seq)) ?_
  case hw => go_simp
  iterate 1 (refine wpO_step0 rfl rfl (fun K hK => ?_); go_simp; refine hK _ _ ?_; clear hK K)
  refine wpO_loadW (t := 25) (ad := ⟨w.heap.size, 21, none⟩) rfl rfl ?hw rfl rfl ((fun w0 hS => (gm_ld hS).bat)) ?_
  case hw => go_simp
  iterate 1 (refine wpO_step0 rfl rfl (fun K hK => ?_); go_simp; refine hK _ _ ?_; clear hK K)
  refine wpO_step2 rfl rfl (HK2.out) (fun K hK => ?_)
  rw [if_pos (show Region.wanted _ _ = true from rfl)]
  refine oper_store_cell (show w2.drew.heap[gx]? = _ from HX2.out) 22 20 (.int .u32 m.seq) (by show 20 < 23; omega) (by kernel_rfl) rfl rfl _ _ rfl rfl rfl ?_
  intro w3 hg3 hs3 hb3
  have HX3 : Hid (w3.heap[gx]? = some (.cells (gmV ⟨6, m.frm, m.tgt, m.seq, []⟩ none 0 0) 45 (0, 0))) := Lib.hid hb3
  have HG3 := Lib.hid hg3
  have HK3 := Lib.hid (blk_grown (show w2.drew.heap[w.heap.size]? = _ from HK2.out) hg3 (fun e => by injection e with e; have := HG.out; omega))
  clear hg3 hs3 hb3
  refine hK _ _ ⟨HK3.out, ?_⟩
  clear hK K
  iterate 1 (refine wpO_step0 rfl rfl (fun K hK => ?_); go_simp; refine hK _ _ ?_; clear hK K)
  refine wpO_step2 rfl rfl (HK3.out) (fun K hK => ?_)
  rw [if_pos (show Region.wanted _ _ = true from rfl)]
  refine oper_store_blk HX3.out 25 21 (tabV A n c) (by show 21 + 1 ≤ 23; omega) (info_bat _ _ _) (tab_one _ _ _) _ _ rfl rfl rfl ?_
  intro w4 hg4 hs4 hb4
  have HX4 : Hid (w4.heap[gx]? = some (.cells (gmV m A n c) 45 (0, 0))) := Lib.hid (by
    have e : gmV m A n c = gmV ⟨6, m.frm, m.tgt, m.seq, m.t⟩ A n c := by rw [← h.kd]
    rw [e]
    exact hb4)
  have HK4 := Lib.hid (blk_grown HK3.out hg4 (fun e => by injection e with e; have := HG.out; omega))
  have HB4 := Lib.hid (below_grown (below_grown (below_step HB2.out (below_drew1 w2)) HG3.out (by have := HG.out; omega)) hg4 (by have := HG.out; omega))
  have HZ4 := Lib.hid (blk_grown (blk_grown (show w2.drew.heap[w.heap.size + 1]? = _ from HZ2.out) HG3.out (fun e => by injection e with e; have := HG.out; omega)) hg4 (fun e => by injection e with e; have := HG.out; omega))
  clear hg4 hs4 hb4
  refine hK _ _ ⟨HK4.out, ?_⟩
  clear hK K
  refine wpO_nil ?_
  go_wp2_with (first | ((with_reducible show wpList _ _ _ (Oper.mk _ (Op.load _ _) _ _ _ _ :: _) _ _); refine wpList_load_g (load_gm HX4.out) _ rfl rfl (by go_simp) ?_) | ((with_reducible show wpList _ _ _ (Oper.mk _ (Op.store _ _ _) _ _ _ _ :: _) _ _); refine wpList_store_blk HZ4.out 45 0 (gmV m A n c) (Nat.le_refl _) (info_gm _ _ _ _) (gm_one _ _ _ _) _ _ rfl rfl rfl rfl ?_; intro w5 hg9 hs9 hb9; rw [splice_gm] at hb9; have H5 := Lib.hid (And.intro hg9 hb9); clear hg9 hs9 hb9))
  refine bodyPost_ret (results_c1 rfl rfl (load_gm H5.out.2)) rfl ?_
  exact ⟨by rw [HC1.out], below_grown HB4.out H5.out.1 (by omega)⟩
end Go.Proofs.YtifejiclenpfoaaDoor

/- Layer 15 (frame), for what a client asks: Same, entries. -/
namespace Go.Proofs.YtifejiclenpfoaaDoor
open Go.RowKit
set_option linter.unusedVariables false
set_option linter.unusedSimpArgs false
set_option maxRecDepth 4000
theorem at0_equal (w : World) : (Op.equal 33 (.agg at0) (.agg at0)).run Tryd.prog w = .ok true w := by kernel_rfl
theorem last0_equal (w : World) : (Op.equal 40 (.agg last0) (.agg last0)).run Tryd.prog w = .ok true w := by kernel_rfl
section
variable {r : Operand → Value} {o : Oper} {x y : Operand} {ty : TypeId}
theorem at0_eql_exec (ho : o.op = .binOp .eql 33 x y ty) (hx : r x = .agg at0) (hy : r y = .agg at0) (w : World) : (execOp r o).run Tryd.prog w = .ok (.value (.bool true)) w :=
  exec_eql 33 (by kernel_rfl) ho _ _ hx hy w (at0_equal w)
theorem last0_eql_exec (ho : o.op = .binOp .eql 40 x y ty) (hx : r x = .agg last0) (hy : r y = .agg last0) (w : World) : (execOp r o).run Tryd.prog w = .ok (.value (.bool true)) w :=
  exec_eql 40 (by kernel_rfl) ho _ _ hx hy w (last0_equal w)
end
theorem eqfun0 (f : Value) (w : World) : Calls Tryd.prog 47 #[.slice none 0 0, .slice none 0 0, f] w fun e w' => e = .returned (.bool true) ∧ w = w' := by
  go_enter Tryd.func47, Tryd.ntmps47
  go_wp2
  go_loopw [17] (fun x wr => x = .int .i64 0 ∧ Hid (w = wr)) (fun x _ => (intOf x).toNat)
  case atStart => exact ⟨rfl, rfl⟩
  case round =>
    obtain ⟨rfl, HE⟩ := hrel
    obtain rfl := HE.out
    go_wp2
    go_ret
    exact ⟨rfl, rfl⟩
theorem fentries0 (m : Gm) (A : Option Addr) (n c : Nat) (w : World) : Calls Tryd.prog 69 #[.agg (gmV m A n c)] w fun e w' => e = .returned (.bool true) ∧ Below w.heap.size w w' := by
  have hblk1 := blk_new w (.cells (gmV m A n c) 45)
  have hbel1 : Below w.heap.size w (w.alloc (.cells (gmV m A n c) 45)) := below_alloc (Below.refl _ _) _
  have HP1 := Lib.hid (gm_at hblk1)
  have HBK1 := Lib.hid hblk1
  have HBE := Lib.hid hbel1
  obtain ⟨cs1, hcs1⟩ : ∃ cs, gmV m A n c = cs := ⟨_, rfl⟩
  simp only [hcs1] at HBE HP1 HBK1 ⊢
  have HC1 := Lib.hid hcs1
  clear hcs1 hblk1 hbel1
  have HLD := Lib.hid (HP1.out.all _ (Below.refl _ _))
  go_enter Tryd.func69, Tryd.ntmps69
  go_wp2_with (first | ((with_reducible show wpList _ _ _ (Oper.mk _ (Op.load _ _) _ _ _ _ :: _) _ _); refine wpList_load_g (HLD.out.pepo) _ rfl rfl (by go_simp) ?_) | ((with_reducible show wpList _ _ _ (Oper.mk _ (Op.load _ _) _ _ _ _ :: _) _ _); refine wpList_load_g (HLD.out.ents) _ rfl rfl (by go_simp) ?_))
  go_loopw [13] (fun x wr => x = .int .i64 0 ∧ Hid (Below w.heap.size w wr)) (fun x _ => (intOf x).toNat)
  case atStart => exact ⟨rfl, HBE.out⟩
  case round =>
    obtain ⟨rfl, HE⟩ := hrel
    go_wp2
    go_ret
    exact ⟨rfl, HE.out⟩
set_option maxHeartbeats 4000000 in
set_option maxRecDepth 100000 in
theorem fsame_any (m : Gm) (A : Option Addr) (n c : Nat) (A2 : Option Addr) (n2 c2 : Nat) (w : World) (hr : RS updK w A n c m.t) (hr2 : RS updK w A2 n2 c2 m.t) (ok : Oku m.t) (hn : n ≤ 100000) (hn2 : n2 ≤ 100000) :
    Calls Tryd.prog 22 #[.agg (gmV m A n c), .agg (gmV m A2 n2 c2)] w fun e w' => e = .returned (.bool true) ∧ Below w.heap.size w w' := by
  have hblk1 := blk_new w (.cells (gmV m A n c) 45)
  have hbel1 : Below w.heap.size w (w.alloc (.cells (gmV m A n c) 45)) := below_alloc (Below.refl _ _) _
  have hblk2 := blk_new (w.alloc (.cells (gmV m A n c) 45)) (.cells (gmV m A2 n2 c2) 45)
  have hbel2 : Below w.heap.size w ((w.alloc (.cells (gmV m A n c) 45)).alloc (.cells (gmV m A2 n2 c2) 45)) := below_alloc (hbel1) _
  rw [show (w.alloc (.cells (gmV m A n c) 45)).heap.size = w.heap.size + 1 by simp] at hblk2
  replace hblk1 := blk_below hblk1 (below_alloc (Below.refl _ _) (.cells (gmV m A2 n2 c2) 45))
  have HP1 := Lib.hid (gm_at hblk1)
  have HBK1 := Lib.hid hblk1
  have HP2 := Lib.hid (gm_at hblk2)
  have HBK2 := Lib.hid hblk2
  have HBE := Lib.hid hbel2
  obtain ⟨cs1, hcs1⟩ : ∃ cs, gmV m A n c = cs := ⟨_, rfl⟩
  obtain ⟨cs2, hcs2⟩ : ∃ cs, gmV m A2 n2 c2 = cs := ⟨_, rfl⟩
  simp only [hcs1, hcs2] at HBE HP1 HP2 HBK1 HBK2 ⊢
  have HC1 := Lib.hid hcs1
  have HC2 := Lib.hid hcs2
  clear hcs1 hblk1 hbel1 hcs2 hblk2 hbel2
  have HR := Lib.hid (hr.below HBE.out)
  have HR2 := Lib.hid (hr2.below HBE.out)
  have OK := Lib.hid ok
  have HLA := Lib.hid (HP1.out.all _ (Below.refl _ _))
  have HLB := Lib.hid (HP2.out.all _ (Below.refl _ _))
  obtain ⟨kd, hkd⟩ : ∃ x, m.kd = x := ⟨_, rfl⟩
  obtain ⟨fr, hfr⟩ : ∃ x, m.frm = x := ⟨_, rfl⟩
  obtain ⟨tg, htg⟩ : ∃ x, m.tgt = x := ⟨_, rfl⟩
  obtain ⟨sq, hsq⟩ : ∃ x, m.seq = x := ⟨_, rfl⟩
  have HV := Lib.hid (And.intro hkd (And.intro hfr (And.intro htg hsq)))
  clear hkd hfr htg hsq
  clear hr hr2 ok
  go_enter Tryd.func22, Tryd.ntmps22
  go_upto_region 1 with fail
  refine wp_region_list ?_
  simp only [List.toList_toArray]
  iterate 76 (first | (first | (refine wpList_load_g (HLA.out.kind) _ rfl rfl ?hw ?_; case hw => go_simp) | (refine wpList_load_g (HLB.out.kind) _ rfl rfl ?hw ?_; case hw => go_simp) | (refine wpList_load_g (HLA.out.frm) _ rfl rfl ?hw ?_; case hw => go_simp) | (refine wpList_load_g (HLB.out.frm) _ rfl rfl ?hw ?_; case hw => go_simp) | (refine wpList_load_g (HLA.out.tgt) _ rfl rfl ?hw ?_; case hw => go_simp) | (refine wpList_load_g (HLB.out.tgt) _ rfl rfl ?hw ?_; case hw => go_simp) | (refine wpList_load_g (HLA.out.epoch) _ rfl rfl ?hw ?_; case hw => go_simp) | (refine wpList_load_g (HLB.out.epoch) _ rfl rfl ?hw ?_; case hw => go_simp) | (refine wpList_load_g (HLA.out.prev) _ rfl rfl ?hw ?_; case hw => go_simp) | (refine wpList_load_g (HLB.out.prev) _ rfl rfl ?hw ?_; case hw => go_simp) | (refine wpList_load_g (HLA.out.done) _ rfl rfl ?hw ?_; case hw => go_simp) | (refine wpList_load_g (HLB.out.done) _ rfl rfl ?hw ?_; case hw => go_simp) | (refine wpList_load_g (HLA.out.ok) _ rfl rfl ?hw ?_; case hw => go_simp) | (refine wpList_load_g (HLB.out.ok) _ rfl rfl ?hw ?_; case hw => go_simp) | (refine wpList_load_g (HLA.out.index) _ rfl rfl ?hw ?_; case hw => go_simp) | (refine wpList_load_g (HLB.out.index) _ rfl rfl ?hw ?_; case hw => go_simp) | (refine wpList_load_g (HLA.out.stamp) _ rfl rfl ?hw ?_; case hw => go_simp) | (refine wpList_load_g (HLB.out.stamp) _ rfl rfl ?hw ?_; case hw => go_simp) | (refine wpList_load_g (HLA.out.seq) _ rfl rfl ?hw ?_; case hw => go_simp) | (refine wpList_load_g (HLB.out.seq) _ rfl rfl ?hw ?_; case hw => go_simp) | (refine wpList_load_g (HLA.out.err) _ rfl rfl ?hw ?_; case hw => go_simp) | (refine wpList_load_g (HLB.out.err) _ rfl rfl ?hw ?_; case hw => go_simp)) | (refine wpList_exw ?hw (at0_eql_exec rfl rfl rfl _) ?_; case hw => go_simp) | (refine wpList_step (fun K hK => ?_); go_simp; refine hK _ _ ?_; clear hK K))
  go_wp2_with (first | ((with_reducible show wpList _ _ _ (Oper.mk _ (Op.load _ _) _ _ _ _ :: _) _ _); refine wpList_load_g (HLA.out.bat_) _ rfl rfl (by go_simp) ?_) | ((with_reducible show wpList _ _ _ (Oper.mk _ (Op.load _ _) _ _ _ _ :: _) _ _); refine wpList_load_g (HLB.out.bat_) _ rfl rfl (by go_simp) ?_) | ((with_reducible show wpList _ _ _ (Oper.mk _ (Op.load _ _) _ _ _ _ :: _) _ _); refine wpList_load_g (HLA.out.last) _ rfl rfl (by go_simp) ?_) | ((with_reducible show wpList _ _ _ (Oper.mk _ (Op.load _ _) _ _ _ _ :: _) _ _); refine wpList_load_g (HLB.out.last) _ rfl rfl (by go_simp) ?_) | ((with_reducible show wpList _ _ _ (Oper.mk _ (Op.load _ _) _ _ _ _ :: _) _ _); refine wpList_load_g (HLA.out.brib) _ rfl rfl (by go_simp) ?_) | ((with_reducible show wpList _ _ _ (Oper.mk _ (Op.load _ _) _ _ _ _ :: _) _ _); refine wpList_load_g (HLB.out.brib) _ rfl rfl (by go_simp) ?_) | ((with_reducible show wpList _ _ _ (Oper.mk _ (Op.binOp _ 33 _ _ _) _ _ _ _ :: _) _ _); refine wpList_exw rfl (at0_eql_exec rfl rfl rfl _) ?_) | ((with_reducible show wpList _ _ _ (Oper.mk _ (Op.binOp _ 40 _ _ _) _ _ _ _ :: _) _ _); refine wpList_exw rfl (last0_eql_exec rfl rfl rfl _) ?_))
  refine (rsame_any none 0 0 [] none 0 0 [] _ (RS.nil _ _ _ _) (RS.nil _ _ _ _) (fun r hr => by cases hr) (fun r hr => by cases hr) (by omega) (by omega)).mono ?_
  rw [show rteE.eqL [] [] = true from (ShapeEq.eqL_iff rteE _ _).2 rfl]
  rintro e w2 ⟨rfl, hb2⟩
  have HB2 := Lib.hid (below_step HBE.out hb2)
  have HLA2 := Lib.hid (HP1.out.all _ hb2)
  have HLB2 := Lib.hid (HP2.out.all _ hb2)
  have HB23 := Lib.hid hb2
  have HR2a := Lib.hid (HR.out.below hb2)
  have HR2b := Lib.hid (HR2.out.below hb2)
  clear hb2
  go_wp2_with (first | ((with_reducible show wpList _ _ _ (Oper.mk _ (Op.load _ _) _ _ _ _ :: _) _ _); refine wpList_load_g (HLA2.out.bat) _ rfl rfl (by go_simp) ?_) | ((with_reducible show wpList _ _ _ (Oper.mk _ (Op.load _ _) _ _ _ _ :: _) _ _); refine wpList_load_g (HLB2.out.bat) _ rfl rfl (by go_simp) ?_))
  refine (rsameb_any A n c m.t A2 n2 c2 m.t w2 HR2a.out HR2b.out OK.out OK.out hn hn2).mono ?_
  rw [show updE.eqL m.t m.t = true from (ShapeEq.eqL_iff updE _ _).2 rfl]
  rintro e w3 ⟨rfl, hb3⟩
  have HB3 := Lib.hid (below_step HB2.out hb3)
  have HLA3 := Lib.hid (HP1.out.all w3 (below_step HB23.out hb3))
  have HLB3 := Lib.hid (HP2.out.all w3 (below_step HB23.out hb3))
  clear hb3
  go_wp2_with (first | ((with_reducible show wpList _ _ _ (Oper.mk _ (Op.load _ _) _ _ _ _ :: _) _ _); refine wpList_load_g (HLA3.out.ents) _ rfl rfl (by go_simp) ?_) | ((with_reducible show wpList _ _ _ (Oper.mk _ (Op.load _ _) _ _ _ _ :: _) _ _); refine wpList_load_g (HLB3.out.ents) _ rfl rfl (by go_simp) ?_))
  refine (eqfun0 _ w3).mono ?_
  rintro e w4 ⟨rfl, rfl⟩
  go_wp2
  go_ret
  exact ⟨rfl, HB3.out⟩
end Go.Proofs.YtifejiclenpfoaaDoor

/- Layer 15 (frame), for what a client asks: fits. -/
namespace Go.Proofs.YtifejiclenpfoaaDoor
open Go.RowKit
set_option linter.unusedVariables false
set_option linter.unusedSimpArgs false
set_option maxRecDepth 4000
set_option maxHeartbeats 8000000 in
set_option maxRecDepth 100000 in
theorem ffits_any (m : Gm) (A : Option Addr) (n c : Nat) (w : World) (hL : Laid w) (hr : RS updK w A n c m.t) (ok : Oku m.t) (hn : n ≤ 100000) (h : AskOk m) (hs : 0 < m.seq) (hb : batB m.t = true) : Calls Tryd.prog 44 #[.agg (gmV m A n c)] w fun e w' => e = .returned (.bool true) ∧ Below w.heap.size w w' := by
  have hblk1 := blk_new w (.cells (gmV m A n c) 45)
  have hbel1 : Below w.heap.size w (w.alloc (.cells (gmV m A n c) 45)) := below_alloc (Below.refl _ _) _
  have HP1 := Lib.hid (gm_at hblk1)
  have HBK1 := Lib.hid hblk1
  have HBE := Lib.hid hbel1
  have HL := Lib.hid (hL.below HBE.out)
  obtain ⟨cs1, hcs1⟩ : ∃ cs, gmV m A n c = cs := ⟨_, rfl⟩
  simp only [hcs1] at HBE HL HP1 HBK1 ⊢
  have HC1 := Lib.hid hcs1
  clear hL hcs1 hblk1 hbel1
  have HR := Lib.hid (hr.below HBE.out)
  have OK := Lib.hid ok
  have HA := Lib.hid h
  have hsb : decide (0 < m.seq) = true := decide_eq_true hs
  have HBB := Lib.hid hb
  clear hr ok h hb hs
  go_enter Tryd.func44, Tryd.ntmps44
  go_upto_region 1 with fail
  refine wp_region_mix (fun w0 => Below (w.alloc (.cells cs1 45)).heap.size (w.alloc (.cells cs1 45)) w0) [(0, 0), (1, 2), (2, 0), (3, 0), (4, 0), (5, 0), (6, 2), (7, 2), (8, 0), (9, 0), (10, 0), (11, 0), (12, 0), (13, 0), (14, 0), (15, 2), (16, 0), (17, 0), (18, 0), (19, 0), (20, 0), (21, 2), (22, 0), (23, 0), (24, 0), (25, 0), (26, 0), (27, 2), (28, 0), (29, 0), (30, 0), (31, 0), (32, 0), (33, 2), (34, 0), (35, 0), (36, 0), (37, 0), (38, 2), (39, 0), (40, 0)] (by kernel_rfl) (by kernel_rfl) (below_drew1 _) ?_
  simp only [List.map_cons, List.map_nil]
  refine wpO_loadW (t := 45) (ad := ⟨w.heap.size, 0, none⟩) rfl rfl ?hw rfl rfl ((fun w0 hS => (HP1.out.all w0 hS).all)) ?_
  case hw => go_simp
  refine wpO_step2 rfl rfl (below_drew1 _) (fun K hK => ?_)
  go_simp
  refine (fgoes_any m A n c _ HA.out).mono ?_
  rintro e w2 ⟨rfl, hb2⟩
  have HV2 := Lib.hid (below_step (below_drew1 _) hb2)
  clear hb2
  refine hK _ _ ⟨HV2.out, ?_⟩
  clear hK K
  iterate 2 (refine wpO_step0 rfl rfl (fun K hK => ?_); go_simp; refine hK _ _ ?_; clear hK K)
  refine wpO_loadW (t := 45) (ad := ⟨w.heap.size, 0, none⟩) rfl rfl ?hw rfl rfl ((fun w0 hS => (HP1.out.all w0 hS).all)) ?_
  case hw => go_simp
  refine wpO_loadW (t := 45) (ad := ⟨w.heap.size, 0, none⟩) rfl rfl ?hw rfl rfl ((fun w0 hS => (HP1.out.all w0 hS).all)) ?_
  case hw => go_simp
  refine wpO_step2 rfl rfl (HV2.out) (fun K hK => ?_)
  go_simp
  refine (fcounts_any m A n c _ HA.out).mono ?_
  rintro e w3 ⟨rfl, hb3⟩
  have HV3 := Lib.hid (below_step HV2.out hb3)
  clear hb3
  refine hK _ _ ⟨HV3.out, ?_⟩
  clear hK K
  refine wpO_step2 rfl rfl (HV3.out) (fun K hK => ?_)
  go_simp
  refine (fsame_any m A n c A n c _ (HR.out.below HV3.out) (HR.out.below HV3.out) OK.out hn hn).mono ?_
  rintro e w4 ⟨rfl, hb4⟩
  have HV4 := Lib.hid (below_step HV3.out hb4)
  clear hb4
  refine hK _ _ ⟨HV4.out, ?_⟩
  clear hK K
  iterate 4 (refine wpO_step0 rfl rfl (fun K hK => ?_); go_simp; refine hK _ _ ?_; clear hK K)
  refine wpO_loadW (t := 33) (ad := ⟨w.heap.size, 4, none⟩) rfl rfl ?hw rfl rfl ((fun w0 hS => (HP1.out.all w0 hS).prev)) ?_
  case hw => go_simp
  iterate 1 (refine wpO_step0 rfl rfl (fun K hK => ?_); go_simp; refine hK _ _ ?_; clear hK K)
  refine wpO_loadW (t := 31) (ad := ⟨w.heap.size, 3, none⟩) rfl rfl ?hw rfl rfl ((fun w0 hS => (HP1.out.all w0 hS).epoch)) ?_
  case hw => go_simp
  refine wpO_step2 rfl rfl (HV4.out) (fun K hK => ?_)
  go_simp
  refine (fplace0 _).mono ?_
  rintro e w6 ⟨rfl, hb6⟩
  have HV6 := Lib.hid (below_step HV4.out hb6)
  clear hb6
  refine hK _ _ ⟨HV6.out, ?_⟩
  clear hK K
  iterate 4 (refine wpO_step0 rfl rfl (fun K hK => ?_); go_simp; refine hK _ _ ?_; clear hK K)
  refine wpO_loadW (t := 31) (ad := ⟨w.heap.size, 7, none⟩) rfl rfl ?hw rfl rfl ((fun w0 hS => (HP1.out.all w0 hS).done)) ?_
  case hw => go_simp
  refine wpO_step2 rfl rfl (HV6.out) (fun K hK => ?_)
  go_simp
  refine (fsmall0 _).mono ?_
  rintro e w7 ⟨rfl, rfl⟩
  refine hK _ _ ⟨HV6.out, ?_⟩
  clear hK K
  iterate 4 (refine wpO_step0 rfl rfl (fun K hK => ?_); go_simp; refine hK _ _ ?_; clear hK K)
  refine wpO_loadW (t := 31) (ad := ⟨w.heap.size, 9, none⟩) rfl rfl ?hw rfl rfl ((fun w0 hS => (HP1.out.all w0 hS).index)) ?_
  case hw => go_simp
  refine wpO_step2 rfl rfl (HV6.out) (fun K hK => ?_)
  go_simp
  refine (fsmall0 _).mono ?_
  rintro e w7 ⟨rfl, rfl⟩
  refine hK _ _ ⟨HV6.out, ?_⟩
  clear hK K
  iterate 4 (refine wpO_step0 rfl rfl (fun K hK => ?_); go_simp; refine hK _ _ ?_; clear hK K)
  refine wpO_loadW (t := 31) (ad := ⟨w.heap.size, 10, none⟩) rfl rfl ?hw rfl rfl ((fun w0 hS => (HP1.out.all w0 hS).stamp)) ?_
  case hw => go_simp
  refine wpO_step2 rfl rfl (HV6.out) (fun K hK => ?_)
  go_simp
  refine (fsmall0 _).mono ?_
  rintro e w7 ⟨rfl, rfl⟩
  refine hK _ _ ⟨HV6.out, ?_⟩
  clear hK K
  iterate 3 (refine wpO_step0 rfl rfl (fun K hK => ?_); go_simp; refine hK _ _ ?_; clear hK K)
  refine wpO_loadW (t := 45) (ad := ⟨w.heap.size, 0, none⟩) rfl rfl ?hw rfl rfl ((fun w0 hS => (HP1.out.all w0 hS).all)) ?_
  case hw => go_simp
  refine wpO_step2 rfl rfl (HV6.out) (fun K hK => ?_)
  go_simp
  refine (fentries0 m A n c _).mono ?_
  rintro e w8 ⟨rfl, hb8⟩
  have HV8 := Lib.hid (below_step HV6.out hb8)
  clear hb8
  refine hK _ _ ⟨HV8.out, ?_⟩
  clear hK K
  iterate 2 (refine wpO_step0 rfl rfl (fun K hK => ?_); go_simp; refine hK _ _ ?_; clear hK K)
  refine wpO_nil ?_
  have HKD := Lib.hid (HP1.out.all _ HV8.out).kind
  rw [HA.out.kd] at HKD
  have HL8 := Lib.hid (HP1.out.all _ HV8.out)
  go_wp2_with (first | ((with_reducible show wpList _ _ _ (Oper.mk _ (Op.load _ _) _ _ _ _ :: _) _ _); refine wpList_load_g (HKD.out) _ rfl rfl (by go_simp) ?_) | ((with_reducible show wpList _ _ _ (Oper.mk _ (Op.load _ _) _ _ _ _ :: _) _ _); refine wpList_load_g (HL8.out.seq) _ rfl rfl (by go_simp) ?_) | ((with_reducible show wpList _ _ _ (Oper.mk _ (Op.load _ _) _ _ _ _ :: _) _ _); refine wpList_load_g (HL8.out.bat) _ rfl rfl (by go_simp) ?_))
  refine (rcheckb_any A n c m.t _ (HL.out.below HV8.out) (HR.out.below HV8.out) OK.out hn).mono ?_
  rw [show batE m.t = 0 by unfold batE; rw [HBB.out]; rfl]
  rintro e w9 ⟨rfl, hb9⟩
  have HV9 := Lib.hid (below_step HV8.out hb9)
  clear hb9
  go_wp2
  go_ret
  exact ⟨rfl, below_step HBE.out HV9.out⟩
end Go.Proofs.YtifejiclenpfoaaDoor

/- Layer 11 (route): lay, and the closures of Encode and EncodeBatch. -/
namespace Go.Proofs.YtifejiclenpfoaaDoor
open Go.RowKit
set_option linter.unusedVariables false
set_option linter.unusedSimpArgs false
set_option maxRecDepth 4000
/-- What stays where bytes have been put behind a slice of one's own. -/
structure LayK (w w' : World) (A : Option Addr) : Prop where
  bel : ∀ w0, Below w0.heap.size w0 w → (∀ ad, A = some ad → w0.heap.size ≤ ad.block) → Below w0.heap.size w0 w'
  blk : ∀ g o, w.heap[g]? = some o → (∀ ad, A = some ad → ad.block ≠ g) → w'.heap[g]? = some o
  size : w.heap.size ≤ w'.heap.size
theorem LayK.of {w w1 w2 : World} {A : Option Addr} {n c : Nat} (hb : Below w.heap.size w w1) (hg : w1.grownBy w2 ((Value.slice A n c).ownBlock)) : LayK w w2 A :=
  ⟨fun w0 h ha => below_own (below_step h hb) hg ha, fun g o h hne => blk_ownN (blk_below h hb) hg hne, Nat.le_trans hb.size hg.size⟩
theorem rb_blk {w : World} {g : Nat} {t : TypeId} {xs : List Int} (h : w.heap[g]? = some (.cells (nums .u8 xs).toArray t (0, 0))) (hn : xs.length ≤ 1000) (hx : Bytes xs) : RB w (some ⟨g, 0, none⟩) xs.length xs.length xs :=
  ⟨⟨by rw [nums_length]; omega, Nat.le_refl _, by omega, fun _ => ⟨_, rfl, fun j v hj => by
    rw [add_plain, blk_cell h]
    simpa using hj⟩⟩, hx⟩
theorem encPE_len {p : Pfx} (hp : B16 p.l) : (encPE p).length ≤ 18 := by
  unfold encPE
  split
  · rename_i h
    obtain ⟨b, hb, _, h2⟩ := right_b h
    have h1 := fullB_le h2
    rw [encP_len hp h, hb]
    omega
  · simp
set_option maxHeartbeats 1000000 in
theorem lay_any (p : Pfx) (A : Option Addr) (n c : Nat) (xs : List Int) (base : Nat) (w : World) (hL : Laid w) (hp : B16 p.l) (ho : OB w base A n c xs) (hbs : base ≤ w.heap.size) (hn : n ≤ 100000) :
    Calls Tryd.prog 102 #[.slice A n c, .agg (pfxV p.v p.l p.b)] w fun e w' => ∃ A' n' c', e = .returned (.slice A' n' c') ∧ OB w' base A' n' c' (xs ++ encPE p) ∧ n' ≤ n + 18 ∧ (A' = A ∨ ∀ ad, A' = some ad → w.heap.size ≤ ad.block) ∧ LayK w w' A := by
  have hblk1 := blk_new w (.cells (pfxV p.v p.l p.b) 102)
  have hbel1 : Below w.heap.size w (w.alloc (.cells (pfxV p.v p.l p.b) 102)) := below_alloc (Below.refl _ _) _
  have HP1 := Lib.hid (pfx_at hp hblk1)
  have HBK1 := Lib.hid hblk1
  have HBE := Lib.hid hbel1
  have HL := Lib.hid (hL.below HBE.out)
  obtain ⟨cs1, hcs1⟩ : ∃ cs, pfxV p.v p.l p.b = cs := ⟨_, rfl⟩
  simp only [hcs1] at HBE HL HP1 HBK1 ⊢
  have HC1 := Lib.hid hcs1
  clear hL hcs1 hblk1 hbel1
  have HO := Lib.hid (ho.below HBE.out)
  clear ho
  go_enter Tryd.func102, Tryd.ntmps102
  go_wp2_with (first | ((with_reducible show wpList _ _ _ (Oper.mk _ (Op.load _ _) _ _ _ _ :: _) _ _); refine wpList_load_g ((HP1.out.all _ (Below.refl _ _)).2.2.2.2) _ rfl rfl (by go_simp) ?_))
  refine (encode_any p _ HL.out hp).mono ?_
  rintro e w2 ⟨A2, n2, c2, rfl, hO2, hb2⟩
  have hn2 : n2 ≤ 18 := by rw [← hO2.len]; exact encPE_len hp
  have HO2 := Lib.hid hO2.reads
  have HB2 := Lib.hid (below_step HBE.out hb2)
  have HO3 := Lib.hid (HO.out.below hb2)
  have hs2 : base ≤ w2.heap.size := Nat.le_trans hbs HB2.out.size
  clear hO2 hb2 HO
  go_wp2_with (first | (at_builtin; refine wpList_append_bytes rfl (.tmp 12) (.tmp 13) rfl rfl rfl HO3.out HO2.out hs2 (by omega) ?_; intro A3 c3 w3 h1 h2 h3; have H3 := Lib.hid (And.intro h1 (And.intro h2 h3)); clear h1 h2 h3))
  go_ret
  refine ⟨A3, n + n2, c3, rfl, H3.out.1, by omega, ?_, LayK.of HB2.out H3.out.2.1⟩
  rcases H3.out.2.2 with h | h
  · exact .inl h
  · exact .inr (fun ad e => Nat.le_trans HB2.out.size (h ad e))
theorem LayK.step {w w1 w2 : World} {A : Option Addr} (h : LayK w w1 A) (hb : Below w1.heap.size w1 w2) : LayK w w2 A :=
  ⟨fun w0 h0 ha => below_step (h.bel w0 h0 ha) hb, fun g o hg hne => blk_below (h.blk g o hg hne) hb, Nat.le_trans h.size hb.size⟩
theorem LayK.pre {w w1 w2 : World} {A : Option Addr} (hb : Below w.heap.size w w1) (h : LayK w1 w2 A) : LayK w w2 A :=
  ⟨fun w0 h0 ha => h.bel w0 (below_step h0 hb) ha, fun g o hg hne => h.blk g o (blk_below hg hb) hne, Nat.le_trans hb.size h.size⟩
theorem LayK.app {w w1 w2 : World} {A A2 : Option Addr} {n c : Nat} (h : LayK w w1 A) (ha : A2 = A ∨ ∀ ad, A2 = some ad → w.heap.size ≤ ad.block) (hg : w1.grownBy w2 ((Value.slice A2 n c).ownBlock)) : LayK w w2 A := by
  refine ⟨fun w0 h0 hA => below_own (h.bel w0 h0 hA) hg (fun ad e => ?_), fun g o hgo hne => blk_ownN (h.blk g o hgo hne) hg (fun ad e => ?_), Nat.le_trans h.size hg.size⟩
  · rcases ha with k | k
    · exact hA ad (k ▸ e)
    · exact Nat.le_trans h0.size (k ad e)
  · rcases ha with k | k
    · exact hne ad (k ▸ e)
    · have h1 := k ad e
      have h2 := blk_lt hgo
      omega
theorem LayK.refl (w : World) (A : Option Addr) : LayK w w A := ⟨fun _ h _ => h, fun _ _ h _ => h, Nat.le_refl _⟩
theorem u8w (y : Int) : IntKind.u8.wrap y = y % 256 := by simp [IntKind.wrap, IntKind.bits, IntKind.signed]
def goneB (g : Bool) : Int := if g then 1 else 0
def encUp (x : Upd) : List Int := encPE x.p ++ [x.s % 256, goneB x.g, x.f % 256, x.h % 256]
set_option maxHeartbeats 4000000 in
theorem enc2_any (x : Upd) (A : Option Addr) (n c : Nat) (xs : List Int) (base : Nat) (w : World) (hL : Laid w) (hx : x.fits) (ho : OB w base A n c xs) (hbs : base ≤ w.heap.size) (hn : n ≤ 100000) :
    Calls Tryd.prog 101 #[.slice A n c, .agg (updV x)] w fun e w' => ∃ A' n' c', e = .returned (.slice A' n' c') ∧ OB w' base A' n' c' (xs ++ encUp x) ∧ n' ≤ n + 22 ∧ (A' = A ∨ ∀ ad, A' = some ad → w.heap.size ≤ ad.block) ∧ LayK w w' A := by
  have HLT := Lib.hid ho.lt
  have hblk1 := blk_new w (.cells (updV x) 104)
  have hbel1 : Below w.heap.size w (w.alloc (.cells (updV x) 104)) := below_alloc (Below.refl _ _) _
  have HP1 := Lib.hid (upd_at hx hblk1)
  have HBK1 := Lib.hid hblk1
  have HBE := Lib.hid hbel1
  have HL := Lib.hid (hL.below HBE.out)
  obtain ⟨cs1, hcs1⟩ : ∃ cs, updV x = cs := ⟨_, rfl⟩
  simp only [hcs1] at HBE HL HP1 HBK1 ⊢
  have HC1 := Lib.hid hcs1
  clear hL hcs1 hblk1 hbel1
  have HO := Lib.hid ((ho.below HBE.out).below (below_drew1 _))
  have HBD := Lib.hid (below_step HBE.out (below_drew1 _))
  have HS := Lib.hid (show ((w.alloc (.cells cs1 104)).drew).heap[w.heap.size]? = some (.cells (updV x) 104 (0, 0)) by rw [HC1.out]; exact HBK1.out)
  have hsz : ((w.alloc (.cells cs1 104)).drew).heap.size = w.heap.size + 1 := by simp
  clear ho
  go_enter Tryd.func101, Tryd.ntmps101
  cases hg : x.g with
  | true =>
    have HGB : Hid (goneB x.g = 1) := Lib.hid (by rw [hg]; rfl)
    have HM : Hid (Bytes [x.s % 256, 1, x.f % 256, x.h % 256]) := Lib.hid (fun y hy => by
      simp only [List.mem_cons, List.not_mem_nil, or_false] at hy
      rcases hy with rfl | rfl | rfl | rfl <;> omega)
    have hgl := (HP1.out.all _ (Below.refl _ _)).gon
    rw [hg] at hgl
    clear hg
    go_upto_region 4 with (first | ((with_reducible show wpList _ _ _ (Oper.mk _ (Op.load _ _) _ _ _ _ :: _) _ _); refine wpList_load_g hgl _ rfl rfl (by go_simp) ?_))
    clear hgl
    refine wp_region_fork ((fun w0 => w0.heap[w.heap.size]? = some (.cells (updV x) 104 (0, 0)))) (OrdT.fork [0, 1, 2, 4, 5, 6, 7, 8, 9, 10, 11, 12, 13] 3 14 (OrdT.lin [14, 15, 16]) (OrdT.lin [3, 15, 16])) [(0, 0), (1, 0), (2, 0), (3, 2), (4, 0), (5, 0), (6, 0), (7, 0), (8, 0), (9, 0), (10, 0), (11, 0), (12, 0), (13, 0), (14, 2), (15, 2), (16, 0)] (by kernel_rfl) (by kernel_rfl) (HS.out) ?_
    simp only [wpF]
    iterate 2 (refine wpO_step0 rfl rfl (fun K hK => ?_); go_simp; refine hK _ _ ?_; clear hK K)
    refine wpO_loadW (t := 102) (ad := ⟨w.heap.size, 0, none⟩) rfl rfl ?hw rfl rfl ((fun w0 hS => ((upd_at hx hS).all _ (Below.refl _ _)).pfx)) ?_
    case hw => go_simp
    iterate 1 (refine wpO_step0 rfl rfl (fun K hK => ?_); go_simp; refine hK _ _ ?_; clear hK K)
    refine wpO_loadW (t := 3) (ad := ⟨w.heap.size, 18, none⟩) rfl rfl ?hw rfl rfl ((fun w0 hS => ((upd_at hx hS).all _ (Below.refl _ _)).src)) ?_
    case hw => go_simp
    iterate 3 (refine wpO_step0 rfl rfl (fun K hK => ?_); go_simp; refine hK _ _ ?_; clear hK K)
    refine wpO_loadW (t := 3) (ad := ⟨w.heap.size, 20, none⟩) rfl rfl ?hw rfl rfl ((fun w0 hS => ((upd_at hx hS).all _ (Below.refl _ _)).prf)) ?_
    case hw => go_simp
    iterate 2 (refine wpO_step0 rfl rfl (fun K hK => ?_); go_simp; refine hK _ _ ?_; clear hK K)
    refine wpO_loadW (t := 3) (ad := ⟨w.heap.size, 21, none⟩) rfl rfl ?hw rfl rfl ((fun w0 hS => ((upd_at hx hS).all _ (Below.refl _ _)).hop)) ?_
    case hw => go_simp
    iterate 1 (refine wpO_step0 rfl rfl (fun K hK => ?_); go_simp; refine hK _ _ ?_; clear hK K)
    refine wpO_nil ⟨?_, ?_⟩
    · refine wpO_step2 rfl rfl (HS.out) (fun K hK => ?_)
      go_simp
      refine (lay_any x.p A n c xs base _ (HL.out.below (below_drew1 _)) hx HO.out (by omega) hn).mono ?_
      rintro e w2 ⟨A2, n2, c2, rfl, hO2, hn2, hA2, hK2⟩
      have HO2 := Lib.hid hO2
      have HA2 : Hid (A2 = A ∨ ∀ ad, A2 = some ad → w.heap.size + 1 ≤ ad.block) := Lib.hid (hA2.imp id (fun k ad e => Nat.le_trans (by omega) (k ad e)))
      have HK2 := Lib.hid (LayK.pre HBD.out hK2)
      have HS2 := Lib.hid (hK2.blk _ _ HS.out (fun ad e => by have := HLT.out ad e; omega))
      try replace HLB := Lib.hid (hK2.blk _ _ HLB.out (fun ad e => by have := HLT.out ad e; omega))
      have hz2 := hK2.size
      clear hO2 hA2 hK2
      refine hK _ _ ⟨HS2.out, ?_⟩
      clear hK K
      refine wpO_nil ?_
      rw [u8w x.s, u8w x.f, u8w x.h]
      refine wpO_step2 rfl rfl (HS2.out) (fun K hK => ?_)
      go_simp
      obtain ⟨w3, hw9⟩ : ∃ w9, World.alloc w2 (.cells (nums .u8 [x.s % 256, 1, x.f % 256, x.h % 256]).toArray 5) = w9 := ⟨_, rfl⟩
      have HLB := Lib.hid (show (World.heap w3)[(World.heap w2).size]? = some (.cells (nums .u8 [x.s % 256, 1, x.f % 256, x.h % 256]).toArray 5 (0, 0)) from hw9 ▸ blk_new _ _)
      have ha9 : Below (World.heap w2).size w2 w3 := hw9 ▸ below_alloc (Below.refl _ _) _
      have HS3 := Lib.hid (blk_below HS2.out ha9)
      have HB9 := Lib.hid ha9
      refine kw_cast hw9 ?_
      have hz9 := ha9.size
      clear hw9 ha9
      refine hK _ _ ⟨HS3.out, ?_⟩
      clear hK K
      have HO3 := Lib.hid (HO2.out.below HB9.out)
      have HK3 := Lib.hid (LayK.step HK2.out HB9.out)
      refine wpO_step2 rfl rfl (HS3.out) (fun K hK => ?_)
      rw [if_pos (show Region.wanted _ _ = true from rfl)]
      refine oper_append_bytes (.tmp 11) (.tmp 22) rfl rfl rfl HO3.out (rb_blk HLB.out (by simp) HM.out) (by omega) (by simp; omega) ?_
      intro A5 c5 w5 h1 h2 h3
      have HS5 := Lib.hid (blk_ownN HS3.out h2 (fun ad e => by
        rcases HA2.out with k | k
        · have := HLT.out ad (k ▸ e); omega
        · have := k ad e; omega))
      have HK5 := Lib.hid (LayK.app HK3.out (HA2.out.imp id (fun k ad e => Nat.le_of_succ_le (k ad e))) h2)
      have H5 := Lib.hid (And.intro h1 h3)
      clear h1 h2 h3
      refine hK _ _ ⟨HS5.out, ?_⟩
      clear hK K
      iterate 1 (refine wpO_step0 rfl rfl (fun K hK => ?_); go_simp; refine hK _ _ ?_; clear hK K)
      refine wpO_nil ?_
      go_wp2_with fail
      go_ret
      refine ⟨A5, _, c5, rfl, by unfold encUp; rw [show goneB x.g = 1 from HGB.out]; rw [← List.append_assoc]; exact H5.out.1, by simp; omega, ?_, HK5.out⟩
      rcases H5.out.2 with h | h
      · rcases HA2.out with k | k
        · exact .inl (h.trans k)
        · exact .inr (fun ad e => by have := k ad (h ▸ e); omega)
      · exact .inr (fun ad e => by have := h ad e; omega)
    · rw [u8w x.s, u8w x.f, u8w x.h]
      refine wpO_step2 rfl rfl (HS.out) (fun K hK => ?_)
      go_simp
      obtain ⟨w2, hw9⟩ : ∃ w9, World.alloc (w.alloc (.cells cs1 104)).drew (.cells (nums .u8 [x.s % 256, 1, x.f % 256, x.h % 256]).toArray 5) = w9 := ⟨_, rfl⟩
      have HLB := Lib.hid (show (World.heap w2)[(World.heap (w.alloc (.cells cs1 104)).drew).size]? = some (.cells (nums .u8 [x.s % 256, 1, x.f % 256, x.h % 256]).toArray 5 (0, 0)) from hw9 ▸ blk_new _ _)
      have ha9 : Below (World.heap (w.alloc (.cells cs1 104)).drew).size (w.alloc (.cells cs1 104)).drew w2 := hw9 ▸ below_alloc (Below.refl _ _) _
      have HS2 := Lib.hid (blk_below HS.out ha9)
      have HB9 := Lib.hid ha9
      refine kw_cast hw9 ?_
      have hz9 := ha9.size
      clear hw9 ha9
      refine hK _ _ ⟨HS2.out, ?_⟩
      clear hK K
      refine wpO_nil ?_
      rw [hsz] at HLB
      have HO3 := Lib.hid (HO.out.below HB9.out)
      have HB2 := Lib.hid (below_step HBD.out HB9.out)
      have HL2 := Lib.hid ((HL.out.below (below_drew1 _)).below HB9.out)
      refine wpO_step2 rfl rfl (HS2.out) (fun K hK => ?_)
      go_simp
      refine (lay_any x.p A n c xs base _ (HL2.out) hx HO3.out (by omega) hn).mono ?_
      rintro e w3 ⟨A2, n2, c2, rfl, hO2, hn2, hA2, hK2⟩
      have HO2 := Lib.hid hO2
      have HA2 : Hid (A2 = A ∨ ∀ ad, A2 = some ad → w.heap.size + 1 ≤ ad.block) := Lib.hid (hA2.imp id (fun k ad e => Nat.le_trans (by omega) (k ad e)))
      have HK3 := Lib.hid (LayK.pre HB2.out hK2)
      have HS3 := Lib.hid (hK2.blk _ _ HS2.out (fun ad e => by have := HLT.out ad e; omega))
      try replace HLB := Lib.hid (hK2.blk _ _ HLB.out (fun ad e => by have := HLT.out ad e; omega))
      have hz2 := hK2.size
      clear hO2 hA2 hK2
      refine hK _ _ ⟨HS3.out, ?_⟩
      clear hK K
      refine wpO_step2 rfl rfl (HS3.out) (fun K hK => ?_)
      rw [if_pos (show Region.wanted _ _ = true from rfl)]
      refine oper_append_bytes (.tmp 11) (.tmp 22) rfl rfl rfl HO2.out (rb_blk HLB.out (by simp) HM.out) (by omega) (by simp; omega) ?_
      intro A5 c5 w5 h1 h2 h3
      have HS5 := Lib.hid (blk_ownN HS3.out h2 (fun ad e => by
        rcases HA2.out with k | k
        · have := HLT.out ad (k ▸ e); omega
        · have := k ad e; omega))
      have HK5 := Lib.hid (LayK.app HK3.out (HA2.out.imp id (fun k ad e => Nat.le_of_succ_le (k ad e))) h2)
      have H5 := Lib.hid (And.intro h1 h3)
      clear h1 h2 h3
      refine hK _ _ ⟨HS5.out, ?_⟩
      clear hK K
      iterate 1 (refine wpO_step0 rfl rfl (fun K hK => ?_); go_simp; refine hK _ _ ?_; clear hK K)
      refine wpO_nil ?_
      go_wp2_with fail
      go_ret
      refine ⟨A5, _, c5, rfl, by unfold encUp; rw [show goneB x.g = 1 from HGB.out]; rw [← List.append_assoc]; exact H5.out.1, by simp; omega, ?_, HK5.out⟩
      rcases H5.out.2 with h | h
      · rcases HA2.out with k | k
        · exact .inl (h.trans k)
        · exact .inr (fun ad e => by have := k ad (h ▸ e); omega)
      · exact .inr (fun ad e => by have := h ad e; omega)
  | false =>
    have HGB : Hid (goneB x.g = 0) := Lib.hid (by rw [hg]; rfl)
    have HM : Hid (Bytes [x.s % 256, 0, x.f % 256, x.h % 256]) := Lib.hid (fun y hy => by
      simp only [List.mem_cons, List.not_mem_nil, or_false] at hy
      rcases hy with rfl | rfl | rfl | rfl <;> omega)
    have hgl := (HP1.out.all _ (Below.refl _ _)).gon
    rw [hg] at hgl
    clear hg
    go_upto_region 4 with (first | ((with_reducible show wpList _ _ _ (Oper.mk _ (Op.load _ _) _ _ _ _ :: _) _ _); refine wpList_load_g hgl _ rfl rfl (by go_simp) ?_))
    clear hgl
    refine wp_region_fork ((fun w0 => w0.heap[w.heap.size]? = some (.cells (updV x) 104 (0, 0)))) (OrdT.fork [0, 1, 2, 4, 5, 6, 7, 8, 9, 10, 11, 12, 13] 3 14 (OrdT.lin [14, 15, 16]) (OrdT.lin [3, 15, 16])) [(0, 0), (1, 0), (2, 0), (3, 2), (4, 0), (5, 0), (6, 0), (7, 0), (8, 0), (9, 0), (10, 0), (11, 0), (12, 0), (13, 0), (14, 2), (15, 2), (16, 0)] (by kernel_rfl) (by kernel_rfl) (HS.out) ?_
    simp only [wpF]
    iterate 2 (refine wpO_step0 rfl rfl (fun K hK => ?_); go_simp; refine hK _ _ ?_; clear hK K)
    refine wpO_loadW (t := 102) (ad := ⟨w.heap.size, 0, none⟩) rfl rfl ?hw rfl rfl ((fun w0 hS => ((upd_at hx hS).all _ (Below.refl _ _)).pfx)) ?_
    case hw => go_simp
    iterate 1 (refine wpO_step0 rfl rfl (fun K hK => ?_); go_simp; refine hK _ _ ?_; clear hK K)
    refine wpO_loadW (t := 3) (ad := ⟨w.heap.size, 18, none⟩) rfl rfl ?hw rfl rfl ((fun w0 hS => ((upd_at hx hS).all _ (Below.refl _ _)).src)) ?_
    case hw => go_simp
    iterate 3 (refine wpO_step0 rfl rfl (fun K hK => ?_); go_simp; refine hK _ _ ?_; clear hK K)
    refine wpO_loadW (t := 3) (ad := ⟨w.heap.size, 20, none⟩) rfl rfl ?hw rfl rfl ((fun w0 hS => ((upd_at hx hS).all _ (Below.refl _ _)).prf)) ?_
    case hw => go_simp
    iterate 2 (refine wpO_step0 rfl rfl (fun K hK => ?_); go_simp; refine hK _ _ ?_; clear hK K)
    refine wpO_loadW (t := 3) (ad := ⟨w.heap.size, 21, none⟩) rfl rfl ?hw rfl rfl ((fun w0 hS => ((upd_at hx hS).all _ (Below.refl _ _)).hop)) ?_
    case hw => go_simp
    iterate 1 (refine wpO_step0 rfl rfl (fun K hK => ?_); go_simp; refine hK _ _ ?_; clear hK K)
    refine wpO_nil ⟨?_, ?_⟩
    · refine wpO_step2 rfl rfl (HS.out) (fun K hK => ?_)
      go_simp
      refine (lay_any x.p A n c xs base _ (HL.out.below (below_drew1 _)) hx HO.out (by omega) hn).mono ?_
      rintro e w2 ⟨A2, n2, c2, rfl, hO2, hn2, hA2, hK2⟩
      have HO2 := Lib.hid hO2
      have HA2 : Hid (A2 = A ∨ ∀ ad, A2 = some ad → w.heap.size + 1 ≤ ad.block) := Lib.hid (hA2.imp id (fun k ad e => Nat.le_trans (by omega) (k ad e)))
      have HK2 := Lib.hid (LayK.pre HBD.out hK2)
      have HS2 := Lib.hid (hK2.blk _ _ HS.out (fun ad e => by have := HLT.out ad e; omega))
      try replace HLB := Lib.hid (hK2.blk _ _ HLB.out (fun ad e => by have := HLT.out ad e; omega))
      have hz2 := hK2.size
      clear hO2 hA2 hK2
      refine hK _ _ ⟨HS2.out, ?_⟩
      clear hK K
      refine wpO_nil ?_
      rw [u8w x.s, u8w x.f, u8w x.h]
      refine wpO_step2 rfl rfl (HS2.out) (fun K hK => ?_)
      go_simp
      obtain ⟨w3, hw9⟩ : ∃ w9, World.alloc w2 (.cells (nums .u8 [x.s % 256, 0, x.f % 256, x.h % 256]).toArray 5) = w9 := ⟨_, rfl⟩
      have HLB := Lib.hid (show (World.heap w3)[(World.heap w2).size]? = some (.cells (nums .u8 [x.s % 256, 0, x.f % 256, x.h % 256]).toArray 5 (0, 0)) from hw9 ▸ blk_new _ _)
      have ha9 : Below (World.heap w2).size w2 w3 := hw9 ▸ below_alloc (Below.refl _ _) _
      have HS3 := Lib.hid (blk_below HS2.out ha9)
      have HB9 := Lib.hid ha9
      refine kw_cast hw9 ?_
      have hz9 := ha9.size
      clear hw9 ha9
      refine hK _ _ ⟨HS3.out, ?_⟩
      clear hK K
      have HO3 := Lib.hid (HO2.out.below HB9.out)
      have HK3 := Lib.hid (LayK.step HK2.out HB9.out)
      refine wpO_step2 rfl rfl (HS3.out) (fun K hK => ?_)
      rw [if_pos (show Region.wanted _ _ = true from rfl)]
      refine oper_append_bytes (.tmp 11) (.tmp 22) rfl rfl rfl HO3.out (rb_blk HLB.out (by simp) HM.out) (by omega) (by simp; omega) ?_
      intro A5 c5 w5 h1 h2 h3
      have HS5 := Lib.hid (blk_ownN HS3.out h2 (fun ad e => by
        rcases HA2.out with k | k
        · have := HLT.out ad (k ▸ e); omega
        · have := k ad e; omega))
      have HK5 := Lib.hid (LayK.app HK3.out (HA2.out.imp id (fun k ad e => Nat.le_of_succ_le (k ad e))) h2)
      have H5 := Lib.hid (And.intro h1 h3)
      clear h1 h2 h3
      refine hK _ _ ⟨HS5.out, ?_⟩
      clear hK K
      iterate 1 (refine wpO_step0 rfl rfl (fun K hK => ?_); go_simp; refine hK _ _ ?_; clear hK K)
      refine wpO_nil ?_
      go_wp2_with fail
      go_ret
      refine ⟨A5, _, c5, rfl, by unfold encUp; rw [show goneB x.g = 0 from HGB.out]; rw [← List.append_assoc]; exact H5.out.1, by simp; omega, ?_, HK5.out⟩
      rcases H5.out.2 with h | h
      · rcases HA2.out with k | k
        · exact .inl (h.trans k)
        · exact .inr (fun ad e => by have := k ad (h ▸ e); omega)
      · exact .inr (fun ad e => by have := h ad e; omega)
    · rw [u8w x.s, u8w x.f, u8w x.h]
      refine wpO_step2 rfl rfl (HS.out) (fun K hK => ?_)
      go_simp
      obtain ⟨w2, hw9⟩ : ∃ w9, World.alloc (w.alloc (.cells cs1 104)).drew (.cells (nums .u8 [x.s % 256, 0, x.f % 256, x.h % 256]).toArray 5) = w9 := ⟨_, rfl⟩
      have HLB := Lib.hid (show (World.heap w2)[(World.heap (w.alloc (.cells cs1 104)).drew).size]? = some (.cells (nums .u8 [x.s % 256, 0, x.f % 256, x.h % 256]).toArray 5 (0, 0)) from hw9 ▸ blk_new _ _)
      have ha9 : Below (World.heap (w.alloc (.cells cs1 104)).drew).size (w.alloc (.cells cs1 104)).drew w2 := hw9 ▸ below_alloc (Below.refl _ _) _
      have HS2 := Lib.hid (blk_below HS.out ha9)
      have HB9 := Lib.hid ha9
      refine kw_cast hw9 ?_
      have hz9 := ha9.size
      clear hw9 ha9
      refine hK _ _ ⟨HS2.out, ?_⟩
      clear hK K
      refine wpO_nil ?_
      rw [hsz] at HLB
      have HO3 := Lib.hid (HO.out.below HB9.out)
      have HB2 := Lib.hid (below_step HBD.out HB9.out)
      have HL2 := Lib.hid ((HL.out.below (below_drew1 _)).below HB9.out)
      refine wpO_step2 rfl rfl (HS2.out) (fun K hK => ?_)
      go_simp
      refine (lay_any x.p A n c xs base _ (HL2.out) hx HO3.out (by omega) hn).mono ?_
      rintro e w3 ⟨A2, n2, c2, rfl, hO2, hn2, hA2, hK2⟩
      have HO2 := Lib.hid hO2
      have HA2 : Hid (A2 = A ∨ ∀ ad, A2 = some ad → w.heap.size + 1 ≤ ad.block) := Lib.hid (hA2.imp id (fun k ad e => Nat.le_trans (by omega) (k ad e)))
      have HK3 := Lib.hid (LayK.pre HB2.out hK2)
      have HS3 := Lib.hid (hK2.blk _ _ HS2.out (fun ad e => by have := HLT.out ad e; omega))
      try replace HLB := Lib.hid (hK2.blk _ _ HLB.out (fun ad e => by have := HLT.out ad e; omega))
      have hz2 := hK2.size
      clear hO2 hA2 hK2
      refine hK _ _ ⟨HS3.out, ?_⟩
      clear hK K
      refine wpO_step2 rfl rfl (HS3.out) (fun K hK => ?_)
      rw [if_pos (show Region.wanted _ _ = true from rfl)]
      refine oper_append_bytes (.tmp 11) (.tmp 22) rfl rfl rfl HO2.out (rb_blk HLB.out (by simp) HM.out) (by omega) (by simp; omega) ?_
      intro A5 c5 w5 h1 h2 h3
      have HS5 := Lib.hid (blk_ownN HS3.out h2 (fun ad e => by
        rcases HA2.out with k | k
        · have := HLT.out ad (k ▸ e); omega
        · have := k ad e; omega))
      have HK5 := Lib.hid (LayK.app HK3.out (HA2.out.imp id (fun k ad e => Nat.le_of_succ_le (k ad e))) h2)
      have H5 := Lib.hid (And.intro h1 h3)
      clear h1 h2 h3
      refine hK _ _ ⟨HS5.out, ?_⟩
      clear hK K
      iterate 1 (refine wpO_step0 rfl rfl (fun K hK => ?_); go_simp; refine hK _ _ ?_; clear hK K)
      refine wpO_nil ?_
      go_wp2_with fail
      go_ret
      refine ⟨A5, _, c5, rfl, by unfold encUp; rw [show goneB x.g = 0 from HGB.out]; rw [← List.append_assoc]; exact H5.out.1, by simp; omega, ?_, HK5.out⟩
      rcases H5.out.2 with h | h
      · rcases HA2.out with k | k
        · exact .inl (h.trans k)
        · exact .inr (fun ad e => by have := k ad (h ▸ e); omega)
      · exact .inr (fun ad e => by have := h ad e; omega)
end Go.Proofs.YtifejiclenpfoaaDoor

/- Layer 11 (route): list, Encode, EncodeBatch. -/
namespace Go.Proofs.YtifejiclenpfoaaDoor
open Go.RowKit
set_option linter.unusedVariables false
set_option linter.unusedSimpArgs false
set_option maxRecDepth 4000
set_option maxHeartbeats 2000000 in
theorem listu_any (A : Option Addr) (n c : Nat) (l : List Upd) (w : World) (hL : Laid w) (hr : RS updK w A n c l) (ok : ∀ a ∈ l, a.ok) (hn : n ≤ 200) :
    Calls Tryd.prog 100 #[.slice A n c, .func (Fn.func 101) #[] #[]] w fun e w' => ∃ A' n' c', e = .returned (.slice A' n' c') ∧ OB w' w.heap.size A' n' c' ((n : Int) :: l.flatMap encUp) ∧ n' ≤ 5000 ∧ 1 ≤ n' ∧ Below w.heap.size w w' := by
  have HR := Lib.hid hr
  have OK := Lib.hid ok
  have HL := Lib.hid hL
  have hw8 : IntKind.u8.wrap (n : Int) = n := by rw [u8w]; omega
  have HO0 := Lib.hid (OB.one w (n : Int) (by omega) w.heap.size (Nat.le_refl _))
  clear hr ok hL
  go_enter Tryd.func100, Tryd.ntmps100
  go_wp2_with fail
  go_loopw [5, 14] (fun s5 s14 wr => ∃ (i : Nat) (A1 : Option Addr) (n1 c1 : Nat), s14 = .int .i64 i ∧ s5 = .slice A1 n1 c1 ∧ Hid (i ≤ n ∧ n1 ≤ 1 + 22 * i ∧ 1 ≤ n1 ∧ OB wr w.heap.size A1 n1 c1 ((n : Int) :: (l.take i).flatMap encUp) ∧ Below w.heap.size w wr)) (fun _ y _ => n - (intOf y).toNat)
  case atStart => exact ⟨0, _, 1, 1, rfl, rfl, Nat.zero_le _, by omega, by omega, HO0.out, below_alloc (Below.refl _ _) _⟩
  case round =>
    obtain ⟨i, A1, n1, c1, rfl, rfl, HI⟩ := hrel
    obtain ⟨wk, rfl⟩ : ∃ wk, wk = wr := ⟨wr, rfl⟩
    have hn1 := HI.out.2.1
    by_cases hlt : i < n
    · have hlt' : (i : Int) < n := by omega
      obtain ⟨b, o, rfl, hc⟩ := RS.at_ HR.out (by omega)
      have hil : i < l.length := by rw [HR.out.len]; exact hlt
      have HXO := Lib.hid (OK.out _ (getD_mem (z := (updK).z) hil))
      have hla := Shape.ld updK wk b _ _ (RS.fits_at HR.out hlt) ((hc i hlt).below HI.out.2.2.2.2)
      have hla : (Instr.loadAt 104 (.pointer (some ⟨b, o + i * 22, none⟩))).run Tryd.prog wk = .ok (.agg (updV (l.getD i (updK).z))) wk := hla
      have HTS : Hid ((l.take (i + 1)).flatMap encUp = (l.take i).flatMap encUp ++ encUp (l.getD i (updK).z)) := Lib.hid (by rw [take_getD (updK).z hil]; simp)
      obtain ⟨x, hx⟩ : ∃ x, l.getD i (updK).z = x := ⟨_, rfl⟩
      rw [hx] at hla HXO HTS
      have HB2f := Lib.hid (fun (W : World) (h : (wk.alloc (.cells (updV updZ) 104)).grownBy W (some wk.heap.size)) => below_grown (below_alloc (Below.refl wk.heap.size wk) (.cells (updV updZ) 104)) h (Nat.le_refl _))
      clear hc hil hx
      go_wp2_with (first | ((with_reducible show wpList _ _ _ (Oper.mk _ (Op.load _ _) _ _ _ _ :: _) _ _); refine wpList_load_g hla _ rfl rfl (by go_simp) ?_) | ((with_reducible show wpList _ _ _ (Oper.mk _ (Op.store _ _ _) _ _ _ _ :: _) _ _); refine wpList_store_blk (blk_new wk _) 104 0 (updV x) (store_upd_fit HXO.out.fits rfl) (info_upd HXO.out.fits) (updV_one _) _ _ rfl rfl rfl rfl ?_; intro w2 hg9 hs9 hb9; rw [splice_upd HXO.out.fits rfl] at hb9; have H2 := Lib.hid (And.intro hg9 hb9); clear hg9 hs9 hb9) | ((with_reducible show wpList _ _ _ (Oper.mk _ (Op.load _ _) _ _ _ _ :: _) _ _); refine wpList_load_g (((upd_at HXO.out.fits H2.out.2).all _ (Below.refl _ _)).all) _ rfl rfl (by go_simp) ?_))
      have HB2 := Lib.hid (HB2f.out _ H2.out.1)
      have HBW := Lib.hid (below_step HI.out.2.2.2.2 HB2.out)
      refine (enc2_any x A1 n1 c1 _ w.heap.size w2 (HL.out.below HBW.out) HXO.out.fits (HI.out.2.2.2.1.below HB2.out) HBW.out.size (by omega)).mono ?_
      rintro e w3 ⟨A3, n3, c3, rfl, hO3, hn3, hA3, hK3⟩
      have HO3 := Lib.hid hO3
      have HB3 := Lib.hid (hK3.bel w HBW.out HI.out.2.2.2.1.base_)
      have HN3 : Hid (n1 ≤ n3) := Lib.hid (by
        have h1 := hO3.len
        have h2 := HI.out.2.2.2.1.len
        rw [List.length_append, h2] at h1
        omega)
      clear hO3 hA3 hK3 hla HB2f H2
      go_wp2_with fail
      go_roundw
      case measure => simp [intOf]; omega
      case rel => exact ⟨i + 1, A3, n3, c3, by go_num, rfl, by omega, by omega, by have h1 := HN3.out; have h2 := HI.out.2.2.1; omega, by rw [HTS.out]; exact HO3.out, HB3.out⟩
    · have hlt' : decide (i < n) = false := decide_eq_false hlt
      have hi : i = l.length := by rw [HR.out.len]; have := HI.out.1; omega
      have HT : Hid (l.take i = l) := Lib.hid (by rw [hi, List.take_length])
      clear hlt hi
      go_wp2_with fail
      go_ret
      refine ⟨A1, n1, c1, rfl, ?_, by have := HI.out.1; omega, HI.out.2.2.1, HI.out.2.2.2.2⟩
      have h := HI.out.2.2.2.1
      rwa [HT.out] at h
def encBat (l : List Upd) : List Int := if batB l then (l.length : Int) :: l.flatMap encUp else []
set_option maxHeartbeats 2000000 in
theorem rencodeb_any (A : Option Addr) (n c : Nat) (l : List Upd) (w : World) (hL : Laid w) (hr : RS updK w A n c l) (ok : Oku l) (hn : n ≤ 10000) :
    Calls Tryd.prog 75 #[.agg (tabV A n c)] w fun e w' => ∃ A' n' c', e = .returned (.tuple #[.slice A' n' c', .int .i64 (batE l)]) ∧ OB w' w.heap.size A' n' c' (encBat l) ∧ n' ≤ 5000 ∧ Below w.heap.size w w' := by
  have hblk1 := blk_new w (.cells (tabV A n c) 25)
  have hbel1 : Below w.heap.size w (w.alloc (.cells (tabV A n c) 25)) := below_alloc (Below.refl _ _) _
  have HP1 := Lib.hid (bat_at hblk1)
  have HBK1 := Lib.hid hblk1
  have HBE := Lib.hid hbel1
  have HL := Lib.hid (hL.below HBE.out)
  obtain ⟨cs1, hcs1⟩ : ∃ cs, tabV A n c = cs := ⟨_, rfl⟩
  simp only [hcs1] at HBE HL HP1 HBK1 ⊢
  have HC1 := Lib.hid hcs1
  clear hL hcs1 hblk1 hbel1
  have HR := Lib.hid (hr.below HBE.out)
  have OK := Lib.hid ok
  clear hr ok
  go_enter Tryd.func75, Tryd.ntmps75
  go_wp2_with (first | ((with_reducible show wpList _ _ _ (Oper.mk _ (Op.load _ _) _ _ _ _ :: _) _ _); refine wpList_load_g ((HP1.out.all _ (Below.refl _ _)).1) _ rfl rfl (by go_simp) ?_))
  refine (rcheckb_any A n c l _ HL.out HR.out OK.out (by omega)).mono ?_
  rintro e w1 ⟨rfl, hb1⟩
  have HB1 := Lib.hid hb1
  clear hb1
  cases hrb : batB l with
  | false =>
    have HE : Hid (batE l = 210 ∧ encBat l = []) := Lib.hid ⟨by unfold batE; rw [hrb]; rfl, by unfold encBat; rw [hrb]; rfl⟩
    rw [HE.out.1]
    clear hrb
    go_wp2
    go_ret2
    rw [HE.out.1, HE.out.2]
    exact ⟨_, _, _, rfl, OB.nil _ _, by omega, below_step HBE.out HB1.out⟩
  | true =>
    have HE : Hid (batE l = 0 ∧ encBat l = (n : Int) :: l.flatMap encUp) := Lib.hid ⟨by unfold batE; rw [hrb]; rfl, by unfold encBat; rw [hrb, if_pos rfl, HR.out.len]⟩
    have hn8 : n ≤ 8 := by
      rw [← HR.out.len]
      unfold batB at hrb
      simp only [Bool.and_eq_true, decide_eq_true_eq] at hrb
      exact hrb.1.2
    rw [HE.out.1]
    clear hrb
    go_wp2_with (first | ((with_reducible show wpList _ _ _ (Oper.mk _ (Op.load _ _) _ _ _ _ :: _) _ _); refine wpList_load_g ((HP1.out.all _ HB1.out).2) _ rfl rfl (by go_simp) ?_))
    refine (listu_any A n c l w1 (HL.out.below HB1.out) (HR.out.below HB1.out) OK.out (by omega)).mono ?_
    rintro e w2 ⟨A2, n2, c2, rfl, hO2, hn2, _, hb2⟩
    have HO2 := Lib.hid (hO2.lower (below_step HBE.out HB1.out).size)
    have HB2 := Lib.hid (below_step HBE.out (below_step HB1.out hb2))
    clear hO2 hb2
    go_wp2
    go_ret2
    rw [HE.out.1, HE.out.2]
    exact ⟨A2, n2, c2, rfl, HO2.out, hn2, HB2.out⟩
end Go.Proofs.YtifejiclenpfoaaDoor

/- Layer 15 (frame), for what a client asks: lay, Check. -/
namespace Go.Proofs.YtifejiclenpfoaaDoor
open Go.RowKit
set_option linter.unusedVariables false
set_option linter.unusedSimpArgs false
set_option maxRecDepth 4000
theorem OB.three (W : World) (x y z : Int) (hx : 0 ≤ x ∧ x < 256) (hy : 0 ≤ y ∧ y < 256) (hz : 0 ≤ z ∧ z < 256) (base : Nat) (hb : base ≤ W.heap.size) : OB (W.alloc (.cells #[.int .u8 x, .int .u8 y, .int .u8 z] 5)) base (some ⟨W.heap.size, 0, none⟩) 3 3 [x, y, z] :=
  OB.new W base [x, y, z] hb (by simp) (fun v hv => by
    simp only [List.mem_cons, List.not_mem_nil, or_false] at hv
    rcases hv with rfl | rfl | rfl <;> assumption)
theorem encBat_len {b : List Upd} (ok : Oku b) (hb : batB b = true) : (encBat b).length ≤ 177 := by
  have key : ∀ l : List Upd, Oku l → (l.flatMap encUp).length ≤ 22 * l.length := fun l => by
    induction l with
    | nil => intro _; simp
    | cons u l ih =>
      intro ho
      have h1 := encPE_len (ho u (by simp)).p.l
      have h2 := ih (fun v hv => ho v (by simp [hv]))
      rw [List.flatMap_cons, List.length_append, List.length_cons]
      have h3 : (encUp u).length = (encPE u.p).length + 4 := by simp [encUp]
      omega
  have h1 := key b ok
  have h2 : b.length ≤ 8 := by
    unfold batB at hb
    simp only [Bool.and_eq_true, decide_eq_true_eq] at hb
    exact hb.1.2
  unfold encBat
  rw [if_pos hb, List.length_cons]
  omega
set_option maxHeartbeats 8000000 in
set_option maxRecDepth 100000 in
theorem flay_any (m : Gm) (A : Option Addr) (n c : Nat) (w : World) (hL : Laid w) (hr : RS updK w A n c m.t) (ok : Oku m.t) (hn : n ≤ 10000) (h : AskOk m) (hsq : (Lit.int .u32 m.seq).wf = true) (hb : batB m.t = true) : Calls Tryd.prog 45 #[.agg (gmV m A n c)] w fun e w' => ∃ A' n' c', e = .returned (.slice A' n' c') ∧ n' ≤ 3000 ∧ Below w.heap.size w w' := by
  have hblk1 := blk_new w (.cells (gmV m A n c) 45)
  have hbel1 : Below w.heap.size w (w.alloc (.cells (gmV m A n c) 45)) := below_alloc (Below.refl _ _) _
  have HP1 := Lib.hid (gm_at hblk1)
  have HBK1 := Lib.hid hblk1
  have HBE := Lib.hid hbel1
  have HL := Lib.hid (hL.below HBE.out)
  obtain ⟨cs1, hcs1⟩ : ∃ cs, gmV m A n c = cs := ⟨_, rfl⟩
  simp only [hcs1] at HBE HL HP1 HBK1 ⊢
  have HC1 := Lib.hid hcs1
  clear hL hcs1 hblk1 hbel1
  have HR := Lib.hid (hr.below HBE.out)
  have OK := Lib.hid ok
  have HA := Lib.hid h
  have HBB := Lib.hid hb
  have hs := u32_wf hsq
  have hwf : IntKind.u8.wrap m.frm = m.frm := by show m.frm % 256 = _; have := h.frm; omega
  have hwt : IntKind.u8.wrap m.tgt = m.tgt := by show m.tgt % 256 = _; have := h.tgt; omega
  have HKf : Hid (∀ w0, Below (w.alloc (.cells cs1 45)).heap.size (w.alloc (.cells cs1 45)) w0 → (Instr.loadAt 3 (.pointer (some ⟨w.heap.size, 0, none⟩))).run Tryd.prog w0 = .ok (.int .i64 6) w0) := Lib.hid (fun w0 hb => by have := (HP1.out.all w0 hb).kind; rw [HA.out.kd] at this; exact this)
  have HO1 := Lib.hid (OB.three (w.alloc (.cells cs1 45)) 6 m.frm m.tgt (by omega) (by have := h.frm; omega) (by have := h.tgt; omega) 0 (Nat.zero_le _)).reads
  have hs0 : (w.alloc (.cells cs1 45)).heap.size = w.heap.size + 1 := by simp
  rw [hs0] at HO1
  have hbz := below_alloc (Below.refl (w.alloc (.cells cs1 45)).heap.size (w.alloc (.cells cs1 45))) (.cells #[.int .u8 6, .int .u8 m.frm, .int .u8 m.tgt] 5)
  have HBZ := Lib.hid hbz
  clear hr ok h hb hbz hs0
  go_enter Tryd.func45, Tryd.ntmps45
  go_wp2_with (first | ((with_reducible show wpList _ _ _ (Oper.mk _ (Op.load _ _) _ _ _ _ :: _) _ _); refine wpList_load_g (HKf.out _ (Below.refl _ _)) _ rfl rfl (by go_simp) ?_) | ((with_reducible show wpList _ _ _ (Oper.mk _ (Op.load _ _) _ _ _ _ :: _) _ _); refine wpList_load_g (HKf.out _ HBZ.out) _ rfl rfl (by go_simp) ?_) | ((with_reducible show wpList _ _ _ (Oper.mk _ (Op.load _ _) _ _ _ _ :: _) _ _); refine wpList_load_g ((HP1.out.all _ (Below.refl _ _)).frm) _ rfl rfl (by go_simp) ?_) | ((with_reducible show wpList _ _ _ (Oper.mk _ (Op.load _ _) _ _ _ _ :: _) _ _); refine wpList_load_g ((HP1.out.all _ (Below.refl _ _)).tgt) _ rfl rfl (by go_simp) ?_) | ((with_reducible show wpList _ _ _ (Oper.mk _ (Op.load _ _) _ _ _ _ :: _) _ _); refine wpList_load_g ((HP1.out.all _ HBZ.out).epoch) _ rfl rfl (by go_simp) ?_))
  refine (put64_any (some ⟨w.heap.size + 1, 0, none⟩) 3 3 [6, m.frm, m.tgt] 0 _ HO1.out (by omega) (by omega) (by omega)).mono ?_
  rintro e w2 ⟨A2, rfl, hO2, hb2⟩
  have HB2 := Lib.hid (below_step HBZ.out hb2)
  have HO2 := Lib.hid hO2.reads
  clear hb2 hO2
  go_wp2_with (first | ((with_reducible show wpList _ _ _ (Oper.mk _ (Op.load _ _) _ _ _ _ :: _) _ _); refine wpList_load_g (HKf.out _ HB2.out) _ rfl rfl (by go_simp) ?_) | ((with_reducible show wpList _ _ _ (Oper.mk _ (Op.load _ _) _ _ _ _ :: _) _ _); refine wpList_load_g ((HP1.out.all _ HB2.out).bat) _ rfl rfl (by go_simp) ?_))
  refine (rencodeb_any A n c m.t w2 (HL.out.below HB2.out) (HR.out.below HB2.out) OK.out hn).mono ?_
  rw [show batE m.t = 0 by unfold batE; rw [HBB.out]; rfl]
  rintro e w3 ⟨A3, n3, c3, rfl, hO3, hn3, hb3⟩
  have HB3 := Lib.hid (below_step HB2.out hb3)
  have HO3 := Lib.hid hO3.reads
  have HN3 : Hid (n3 ≤ 177) := Lib.hid (by rw [← hO3.len]; exact encBat_len OK.out HBB.out)
  have HP3 := Lib.hid (HO2.out.below hb3)
  clear hb3 hO3 hn3
  go_wp2_with (first | ((with_reducible show wpList _ _ _ (Oper.mk _ (Op.load _ _) _ _ _ _ :: _) _ _); refine wpList_load_g ((HP1.out.all _ HB3.out).seq) _ rfl rfl (by go_simp) ?_))
  refine (put32_any A2 11 11 _ m.seq w3 HP3.out (by omega) (by omega) (by omega)).mono ?_
  rintro e w4 ⟨A4, rfl, hO4, hb4⟩
  have HB4 := Lib.hid (below_step HB3.out hb4)
  have HO4 := Lib.hid hO4
  have HR4 := Lib.hid (HO3.out.below hb4)
  have HS4 := Lib.hid hb4.size
  have hn4 : n3 ≤ 177 := HN3.out
  clear hb4 hO4
  have hb34 : w3.heap.size ≤ w4.heap.size := HS4.out
  go_wp2_with (at_builtin; refine wpList_append_bytes rfl (.tmp 104) (.tmp 105) rfl rfl rfl HO4.out HR4.out hb34 (by omega) ?_; intro A5 c5 w5 h1 h2 h3; have H5 := Lib.hid h2; clear h1 h2 h3)
  go_ret
  exact ⟨_, _, _, rfl, by omega, below_own (below_step HBE.out HB4.out) H5.out (fun ad e => by have h1 := HO4.out.base_ ad e; have h2 := HB3.out.size; have h3 := HBE.out.size; omega)⟩
end Go.Proofs.YtifejiclenpfoaaDoor

/- Layer 15 (frame), for what a client asks: Check. -/
namespace Go.Proofs.YtifejiclenpfoaaDoor
open Go.RowKit
set_option linter.unusedVariables false
set_option linter.unusedSimpArgs false
set_option maxRecDepth 4000
theorem fcheck_ask (m : Gm) (A : Option Addr) (n c : Nat) (w : World) (hL : Laid w) (hr : RS updK w A n c m.t) (ok : Oku m.t) (hn : n ≤ 10000) (h : AskOk m) (hsq : (Lit.int .u32 m.seq).wf = true) (hs : 0 < m.seq) (hb : batB m.t = true) : Calls Tryd.prog 21 #[.agg (gmV m A n c)] w fun e w' => e = .returned (.int .i64 0) ∧ Below w.heap.size w w' := by
  have hblk1 := blk_new w (.cells (gmV m A n c) 45)
  have hbel1 : Below w.heap.size w (w.alloc (.cells (gmV m A n c) 45)) := below_alloc (Below.refl _ _) _
  have HP1 := Lib.hid (gm_at hblk1)
  have HBK1 := Lib.hid hblk1
  have HBE := Lib.hid hbel1
  have HL := Lib.hid (hL.below HBE.out)
  obtain ⟨cs1, hcs1⟩ : ∃ cs, gmV m A n c = cs := ⟨_, rfl⟩
  simp only [hcs1] at HBE HL HP1 HBK1 ⊢
  have HC1 := Lib.hid hcs1
  clear hL hcs1 hblk1 hbel1
  have HR := Lib.hid (hr.below HBE.out)
  have OK := Lib.hid ok
  have HA := Lib.hid h
  clear hr ok h
  go_enter Tryd.func21, Tryd.ntmps21
  go_wp2_with (first | ((with_reducible show wpList _ _ _ (Oper.mk _ (Op.load _ _) _ _ _ _ :: _) _ _); refine wpList_load_g ((HP1.out.all _ (Below.refl _ _)).all) _ rfl rfl (by go_simp) ?_))
  refine (ffits_any m A n c _ HL.out HR.out OK.out (by omega) HA.out hs hb).mono ?_
  rintro e w2 ⟨rfl, hb2⟩
  have HB2 := Lib.hid hb2
  clear hb2
  go_wp2_with (first | ((with_reducible show wpList _ _ _ (Oper.mk _ (Op.load _ _) _ _ _ _ :: _) _ _); refine wpList_load_g ((HP1.out.all _ HB2.out).all) _ rfl rfl (by go_simp) ?_))
  refine (flay_any m A n c w2 (HL.out.below HB2.out) (HR.out.below HB2.out) OK.out hn HA.out hsq hb).mono ?_
  rintro e w3 ⟨A3, n3, c3, rfl, hn3, hb3⟩
  have HB3 := Lib.hid (below_step HB2.out hb3)
  have hw3 : IntKind.i64.wrap ((n3 : Int) + 4) = (n3 : Int) + 4 := IntWalk.i64_in _ (by omega)
  have hl3 : decide ((4000 : Int) < (n3 : Int) + 4) = false := decide_eq_false (by omega)
  clear hb3
  go_wp2_with fail
  go_ret
  exact ⟨rfl, below_step HBE.out HB3.out⟩
end Go.Proofs.YtifejiclenpfoaaDoor

/- Layer 20 (client): plain laws of the law's wakes. -/
namespace Go.Proofs.YtifejiclenpfoaaDoor
open Go.RowKit
set_option linter.unusedVariables false
set_option linter.unusedSimpArgs false
set_option maxRecDepth 4000
theorem newC_in {num : Int} (h : 1 ≤ num ∧ num ≤ 2) : newC num = newK num := by unfold newC; rw [if_pos h]
theorem newE_in {num : Int} (h : 1 ≤ num ∧ num ≤ 2) : newE num = 0 := by unfold newE; rw [if_pos h]
theorem ckB_new {num : Int} (h : 1 ≤ num ∧ num ≤ 2) : ckB (newK num) = true := by simp [ckB, newK, h.1, h.2]
theorem sub_new {num : Int} {b : List Upd} (h : 1 ≤ num ∧ num ≤ 2) (hb : batB b = true) : subN (newK num) b = 0 ∧ subK (newK num) b = ⟨num, 1, true, b⟩ := by
  have h0 : subN (newK num) b = 0 := by unfold subN; rw [ckB_new h, hb]; simp [newK]
  exact ⟨h0, by unfold subK; rw [if_pos h0]; rfl⟩
theorem sub_new0 {num : Int} {b : List Upd} (h : 1 ≤ num ∧ num ≤ 2) (hb : batB b = false) : subN (newK num) b = 210 ∧ subK (newK num) b = ckZ := by
  have h0 : subN (newK num) b = 210 := by unfold subN; rw [ckB_new h, hb]; simp [newK]
  exact ⟨h0, by unfold subK; rw [if_neg (by rw [h0]; decide)]⟩
theorem ckB_away {num seq : Int} {b : List Upd} (h : 1 ≤ num ∧ num ≤ 2) (hs : 0 < seq) (hb : batB b = true) : ckB ⟨num, seq, true, b⟩ = true := by simp [ckB, h.1, h.2, hs, hb]
theorem ask_away {k : Ck} {tg : Int} (hc : ckB k = true) (ha : k.away = true) (ht : 1 ≤ tg ∧ tg ≤ 2) : askN k tg = 0 ∧ askM k tg = ⟨6, 2 + k.num, tg, k.seq, k.t⟩ := by
  have h0 : askN k tg = 0 := by unfold askN; rw [hc, if_pos rfl, if_pos ht, ha]; rfl
  exact ⟨h0, by unfold askM; rw [if_pos h0]⟩
def mw : Mg := ⟨7, 2, 3, 0, [.int .u64 0, .int .u64 0, .slice none 0 0, .int .u64 0], false, 7, [.int .u64 0, .int .u64 0, .int .u64 0, .slice none 0 0, .int .u32 0, .int .u64 0, .int .u32 0, .int .u64 0, .int .u32 0, .int .u64 0], 1, none, 0, 0, 0, []⟩
theorem mw_fits : mw.fits := ⟨rfl, rfl, by simp [mw, Value.oneCell'], by simp [mw, Value.oneCell']⟩
theorem run_build_mw (w : World) : (Instr.build 45 #[(0, .int .i64 7), (1, .int .i64 2), (2, .int .i64 3), (11, .int .u32 1), (8, .int .u64 7)]).run Tryd.prog w = .ok (.agg (msgV mw)) w := run_build w _ _ _ (by kernel_rfl)
theorem load_hdf {w : World} {g : Nat} {k : Hd} {A : Option Addr} {n c : Nat} (h : w.heap[g]? = some (.cells (hdV k A n c) 61 (0, 0))) : (Instr.loadAt 4 (.pointer (some ⟨g, 0, none⟩))).run Tryd.prog w = .ok (.bool k.done) w ∧ (Instr.loadAt 31 (.pointer (some ⟨g, 4, none⟩))).run Tryd.prog w = .ok (.int .u64 k.index) w :=
  ⟨loadr_bool (by rw [blk_cell h]; rfl), load_u64k (by rw [blk_cell h]; rfl)⟩
theorem cliB_self (k : Ck) : cliB k k = true := by simp [cliB, (ShapeEq.eqL_iff updE k.t k.t).2 rfl]
theorem oneB_bat : batB oneB = true := by decide +kernel
end Go.Proofs.YtifejiclenpfoaaDoor

/- Layer 20 (client): the law's wakes. -/
namespace Go.Proofs.YtifejiclenpfoaaDoor
open Go.RowKit
set_option linter.unusedVariables false
set_option linter.unusedSimpArgs false
set_option maxRecDepth 4000
set_option maxHeartbeats 8000000 in
set_option maxRecDepth 100000 in
theorem wakes20_any (w : World) (hL : Laid w) : Calls Tryd.prog 10 #[] w fun e w' => e = .returned (.bool true) ∧ Below w.heap.size w w' := by
  have HL := Lib.hid hL
  clear hL
  obtain ⟨b, hb⟩ : ∃ b, b = oneB := ⟨_, rfl⟩
  have HBB : Hid (batB b = true) := Lib.hid (hb ▸ oneB_bat)
  have HBO : Hid (Oku b) := Lib.hid (hb ▸ oneB_ok)
  have HBE := Lib.hid hb
  have hin : (1 : Int) ≤ 1 ∧ (1 : Int) ≤ 2 := by decide
  have HIN := Lib.hid hin
  obtain ⟨k1, hk1⟩ : ∃ k, k = newK 1 := ⟨_, rfl⟩
  have HK1 := Lib.hid hk1
  have HO1 : Hid k1.ok := Lib.hid (hk1 ▸ ⟨by decide, by decide, fun r hr => by cases hr⟩)
  have HS1 : Hid (subN k1 b = 0 ∧ subK k1 b = ⟨1, 1, true, b⟩) := Lib.hid (hk1 ▸ sub_new hin HBB.out)
  have hcall := cnew_any 1 w HL.out
  rw [newC_in hin, newE_in hin, ← hk1] at hcall
  clear hb hk1 hin
  go_enter Tryd.func10, Tryd.ntmps10
  go_wp2_with fail
  refine hcall.mono ?_
  clear hcall
  rintro e w1 ⟨rfl, hb1⟩
  have HB1 := Lib.hid hb1
  obtain ⟨W2, hW2⟩ : ∃ W2, w1.alloc (.cells (cliV ckZ none 0 0) 27) = W2 := ⟨_, rfl⟩
  have HZ2 : Hid (W2.heap[w1.heap.size]? = some (.cells (cliV ckZ none 0 0) 27 (0, 0))) := Lib.hid (by rw [← hW2]; exact blk_new _ _)
  have HB2 : Hid (Below w.heap.size w W2) := Lib.hid (hW2 ▸ below_alloc hb1 _)
  have hw2 : w1.alloc (.cells #[.int .i64 0, .int .u32 0, .slice none 0 0, .bool false] 27) = W2 := hW2
  clear hb1 hW2
  go_upto_region 4 with (first | ((with_reducible show wpList _ _ _ (Oper.mk _ (Op.store _ _ _) _ _ _ _ :: _) _ _); refine wpList_store_blk HZ2.out 27 0 (cliV k1 none 0 0) (Nat.le_refl _) (info_cli _ _ _ _) (cli_one _ _ _ _) _ _ rfl rfl rfl rfl ?_; intro w3 hg9 hs9 hb9; rw [splice_cli] at hb9; have H3 := Lib.hid (And.intro hg9 hb9); clear hg9 hs9 hb9))
  try dsimp only [Act.put]
  have HX3 := Lib.hid H3.out.2
  have HB3 := Lib.hid (below_grown HB2.out H3.out.1 HB1.out.size)
  clear H3 hw2 HZ2 HB2
  refine wp_region_mix ((fun w0 => Below w3.heap.size w3 w0)) [(0, 0), (1, 2), (2, 2), (3, 4), (4, 4), (5, 4), (6, 3), (7, 3)] (by kernel_rfl) (by kernel_rfl) ((below_drew1 _)) ?_
  simp only [List.map_cons, List.map_nil]
  refine wpO_loadW (t := 27) (ad := ⟨w1.heap.size, 0, none⟩) rfl rfl ?hw rfl rfl ((fun w0 hS => load_cli (blk_below HX3.out hS))) ?_
  case hw => go_simp
  refine wpO_step2 rfl rfl (below_drew1 _) (fun K hK => ?_)
  go_simp
  refine (one20_any _).mono ?_
  rintro e w4 ⟨A4, rfl, hO4, hb4⟩
  rw [← HBE.out] at hO4
  have HV4 := Lib.hid (below_step (below_drew1 w3) hb4)
  have HO4 := Lib.hid (hO4.lower HB3.out.size)
  clear hO4 hb4
  refine hK _ _ ⟨HV4.out, ?_⟩
  clear hK K
  refine wpO_step2 rfl rfl (HV4.out) (fun K hK => ?_)
  go_simp
  refine (csubmit_any k1 none 0 0 A4 1 1 b w4 (HL.out.below (below_step HB3.out HV4.out)) (HK1.out ▸ RS.nil _ _ _ _) HO1.out (by omega) HO4.out.reads HBO.out (by omega)).mono ?_
  rw [HS1.out.1, HS1.out.2]
  rintro e w5 ⟨A5, n5, c5, rfl, hO5, hb5⟩
  have HV5 := Lib.hid (below_step HV4.out hb5)
  have HO5 := Lib.hid (hO5.lower (below_step HB3.out HV4.out).size)
  have HN5 : Hid (n5 = 1) := Lib.hid (by have := hO5.len; rw [← this]; show b.length = 1; rw [HBE.out]; rfl)
  have HA5 := Lib.hid hO5.base_
  clear hO5 hb5 HO4
  refine hK _ _ ⟨HV5.out, ?_⟩
  clear hK K
  iterate 3 (refine wpO_step4 rfl rfl (fun K hK => ?_); go_simp; refine hK _ _ ?_; clear hK K)
  refine wpO_step3 rfl rfl (fun K hK => ?_)
  rw [if_pos (show Region.wanted _ _ = true from rfl)]
  refine oper_store_blk (blk_below HX3.out HV5.out) 27 0 (cliV ⟨1, 1, true, b⟩ A5 n5 c5) (Nat.le_refl _) (info_cli _ _ _ _) (cli_one _ _ _ _) _ _ rfl rfl rfl ?_
  intro w6 hg9 hs9 hb9
  rw [splice_cli] at hb9
  have HX6 := Lib.hid hb9
  have HB6 := Lib.hid (below_grown (below_step HB3.out HV5.out) hg9 HB1.out.size)
  have HO6 : Hid (OS updK w6 w.heap.size A5 n5 c5 b) := Lib.hid (OS.grown HO5.out hg9 (fun ad e h => by have h1 := HA5.out ad e; have := blk_lt HX3.out; have := HV4.out.size; injection h with h; omega))
  clear hg9 hs9 hb9 HX3 HO5 HA5
  refine hK _ _ ?_
  clear hK K
  refine wpO_step3 rfl rfl (fun K hK => ?_); go_simp; refine hK _ _ ?_; clear hK K
  refine wpO_nil ?_
  have hca : ckB ⟨1, 1, true, b⟩ = true := ckB_away HIN.out (by decide) HBB.out
  have hok : Ck.ok ⟨1, 1, true, b⟩ := ⟨(by decide : (Lit.int .i64 (1 : Int)).wf = true), (by decide : (Lit.int .u32 (1 : Int)).wf = true), HBO.out⟩
  have hcall := cask_any ⟨1, 1, true, b⟩ A5 n5 c5 2 w6 (HL.out.below HB6.out) HO6.out.reads hok (by have := HN5.out; omega)
  have hak := ask_away (tg := 2) hca rfl (by decide)
  rw [hak.1, hak.2] at hcall
  obtain ⟨m, hm⟩ : ∃ m, (⟨6, 2 + (⟨1, 1, true, b⟩ : Ck).num, 2, (⟨1, 1, true, b⟩ : Ck).seq, (⟨1, 1, true, b⟩ : Ck).t⟩ : Gm) = m := ⟨_, rfl⟩
  rw [hm] at hcall
  have HM := Lib.hid hm
  have HMO : Hid (AskOk m) := Lib.hid (hm ▸ ⟨rfl, (by decide : (2 : Int) < 2 + 1 ∧ (2 : Int) + 1 ≤ 4), (by decide : (1 : Int) ≤ 2 ∧ (2 : Int) ≤ 2)⟩)
  have HMT : Hid (m.t = b) := Lib.hid (hm ▸ rfl)
  have HM6 : Hid (m.kd = 6 ∧ m.frm = 3 ∧ m.seq = 1) := Lib.hid (hm ▸ ⟨rfl, rfl, rfl⟩)
  have HCA := Lib.hid hca
  have HOK := Lib.hid hok
  clear hca hak hok hm
  go_wp2_with (first | ((with_reducible show wpList _ _ _ (Oper.mk _ (Op.load _ _) _ _ _ _ :: _) _ _); refine wpList_load_g (load_cli HX6.out) _ rfl rfl (by go_simp) ?_))
  refine hcall.mono ?_
  clear hcall
  rintro e w7 ⟨A7, n7, c7, rfl, hO7, hb7⟩
  have HB7 := Lib.hid (below_step HB6.out hb7)
  have HX7 := Lib.hid (blk_below HX6.out hb7)
  have HO7 := Lib.hid (HO6.out.below hb7)
  have HT7 := Lib.hid hO7.reads
  have HA7 := Lib.hid hO7.base_
  have HS7 := Lib.hid hb7.size
  clear hO7 hb7 HX6 HO6 HB6
  go_upto_region 6 with (first | ((with_reducible show wpList _ _ _ (Oper.mk _ (Op.store _ _ _) _ _ _ _ :: _) _ _); refine wpList_store_blk (blk_new w7 (.cells (gmV gmZ none 0 0) 45)) 45 0 (gmV m A7 n7 c7) (Nat.le_refl _) (info_gm _ _ _ _) (gm_one _ _ _ _) _ _ rfl rfl rfl rfl ?_; intro w8 hg9 hs9 hb9; rw [splice_gm] at hb9; have H8 := Lib.hid (And.intro hg9 hb9); clear hg9 hs9 hb9))
  try dsimp only [Act.put]
  have hb78 := below_grown (below_alloc (Below.refl w7.heap.size w7) (.cells (gmV gmZ none 0 0) 45)) H8.out.1 (Nat.le_refl _)
  have HB8 := Lib.hid (below_step HB7.out hb78)
  have HX8 := Lib.hid (blk_below HX7.out hb78)
  have HO8 := Lib.hid (HO7.out.below hb78)
  have HT8 := Lib.hid (HT7.out.below hb78)
  have HG8 := Lib.hid H8.out.2
  obtain ⟨g8, hg8⟩ : ∃ g, w7.heap.size = g := ⟨_, rfl⟩
  rw [hg8] at HG8 ⊢
  have HLD := Lib.hid (gm_ld HG8.out)
  have HKD := Lib.hid HLD.out.kind
  have HSQ := Lib.hid HLD.out.seq
  have HFR := Lib.hid HLD.out.frm
  rw [HM6.out.1] at HKD
  rw [HM6.out.2.2] at HSQ
  rw [HM6.out.2.1] at HFR
  have HN7 : Hid (n7 = 1) := Lib.hid (by have := HT8.out.len; rw [HMT.out, HBE.out] at this; rw [← this]; rfl)
  have hcall := fcheck_ask m A7 n7 c7 w8 (HL.out.below HB8.out) HT8.out (by rw [HMT.out]; exact HBO.out) (by have := HN7.out; omega) HMO.out (by rw [HM6.out.2.2]; decide) (by rw [HM6.out.2.2]; decide) (by rw [HMT.out]; exact HBB.out)
  clear hb78 H8 HX7 HO7 HT7 HB7 hg8 HA7 HS7
  go_wp2_with (first | ((with_reducible show wpList _ _ _ (Oper.mk _ (Op.load _ _) _ _ _ _ :: _) _ _); refine wpList_load_g (HKD.out) _ rfl rfl (by go_simp) ?_) | ((with_reducible show wpList _ _ _ (Oper.mk _ (Op.load _ _) _ _ _ _ :: _) _ _); refine wpList_load_g (HSQ.out) _ rfl rfl (by go_simp) ?_) | ((with_reducible show wpList _ _ _ (Oper.mk _ (Op.load _ _) _ _ _ _ :: _) _ _); refine wpList_load_g (HFR.out) _ rfl rfl (by go_simp) ?_) | ((with_reducible show wpList _ _ _ (Oper.mk _ (Op.load _ _) _ _ _ _ :: _) _ _); refine wpList_load_g (HLD.out.all) _ rfl rfl (by go_simp) ?_))
  refine hcall.mono ?_
  clear hcall
  rintro e w9 ⟨rfl, hb9⟩
  have HB9 := Lib.hid (below_step HB8.out hb9)
  have HX9 := Lib.hid (blk_below HX8.out hb9)
  have HO9 := Lib.hid (HO8.out.below hb9)
  clear hb9 HB8 HX8 HO8 HT8 HG8 HLD HKD HSQ HFR
  obtain ⟨q, hq⟩ : ∃ q, mw = q := ⟨_, rfl⟩
  have HQ : Hid (∀ W : World, (Instr.build 45 #[(0, .int .i64 7), (1, .int .i64 2), (2, .int .i64 3), (11, .int .u32 1), (8, .int .u64 7)]).run Tryd.prog W = .ok (.agg (msgV q)) W) := Lib.hid (fun W => by rw [← hq]; exact run_build_mw W)
  have hcall := chear_any ⟨1, 1, true, b⟩ A5 n5 c5 mw w9 (HL.out.below HB9.out) HO9.out.reads HOK.out (by have := HN5.out; omega) mw_fits
  rw [show hearB ⟨1, 1, true, b⟩ mw.kind mw.tgt mw.seq mw.err = true from rfl, show hearK ⟨1, 1, true, b⟩ true = ⟨1, 1, false, []⟩ by unfold hearK; rw [HCA.out]; rfl, show hearH ⟨1, 1, true, b⟩ true mw.err mw.index = ⟨true, 0, 1, 7, b⟩ by unfold hearH; rw [HCA.out]; rfl, show ckE ⟨1, 1, true, b⟩ = 0 by unfold ckE; rw [HCA.out]; rfl, hq] at hcall
  clear hq
  go_wp2_with (first | ((with_reducible show wpList _ _ _ (Oper.mk _ (Op.load _ _) _ _ _ _ :: _) _ _); refine wpList_load_g (load_cli HX9.out) _ rfl rfl (by go_simp) ?_) | ((with_reducible show wpList _ _ _ (Oper.mk _ (Op.build 45 _) _ _ _ _ :: _) _ _); refine wpList_exw rfl (exec_build5 rfl rfl rfl rfl rfl rfl (HQ.out _)) ?_))
  refine hcall.mono ?_
  clear hcall
  rintro e w10 ⟨A1, n1, c1, A2, n2, c2, rfl, hO1, hO2, hb10⟩
  have HB10 := Lib.hid (below_step HB9.out hb10)
  have HX10 := Lib.hid (blk_below HX9.out hb10)
  have hn1 : n1 = 0 := hO1.len.symm
  subst hn1
  have hxa := blk_below HX10.out (below_alloc (Below.refl _ _) (.cells (hdV hdZ none 0 0) 61))
  have hha := blk_new w10 (.cells (hdV hdZ none 0 0) 61)
  have HSZ : Hid (w1.heap.size < w10.heap.size) := Lib.hid (blk_lt HX10.out)
  clear hO1 hO2 hb10 HX9 HO9
  go_upto_region 9 with (first | ((with_reducible show wpList _ _ _ (Oper.mk _ (Op.store _ _ _) _ _ _ _ :: _) _ _); refine wpList_store_blk hxa 27 0 (cliV ⟨1, 1, false, []⟩ A1 0 c1) (Nat.le_refl _) (info_cli _ _ _ _) (cli_one _ _ _ _) _ _ rfl rfl rfl rfl ?_; intro w11 hg9 hs9 hb9; rw [splice_cli] at hb9; have H11 := Lib.hid (And.intro hg9 hb9); clear hg9 hs9 hb9) | ((with_reducible show wpList _ _ _ (Oper.mk _ (Op.store _ _ _) _ _ _ _ :: _) _ _); refine wpList_store_blk (blk_grown hha H11.out.1 (fun e => by injection e with e; have := HSZ.out; omega)) 61 0 (hdV ⟨true, 0, 1, 7, b⟩ A2 n2 c2) (Nat.le_refl _) (info_hd _ _ _ _) (hd_one _ _ _ _) _ _ rfl rfl rfl rfl ?_; intro w12 hg9 hs9 hb9; rw [splice_hd] at hb9; have H12 := Lib.hid (And.intro hg9 hb9); clear hg9 hs9 hb9))
  try dsimp only [Act.put]
  have HC12 := Lib.hid ((cli_at (blk_grown H11.out.2 H12.out.1 (fun e => by injection e with e; have := HSZ.out; omega))).all _ (Below.refl _ _))
  have HD12 := Lib.hid (load_hdf H12.out.2)
  have HB12 := Lib.hid (below_grown (below_grown (below_alloc HB10.out (.cells (hdV hdZ none 0 0) 61)) H11.out.1 HB1.out.size) H12.out.1 HB10.out.size)
  clear hxa hha H11 H12 HX10 HB10
  go_wp2_with (first | ((with_reducible show wpList _ _ _ (Oper.mk _ (Op.load _ _) _ _ _ _ :: _) _ _); refine wpList_load_g (HD12.out.1) _ rfl rfl (by go_simp) ?_) | ((with_reducible show wpList _ _ _ (Oper.mk _ (Op.load _ _) _ _ _ _ :: _) _ _); refine wpList_load_g (HD12.out.2) _ rfl rfl (by go_simp) ?_) | ((with_reducible show wpList _ _ _ (Oper.mk _ (Op.load _ _) _ _ _ _ :: _) _ _); refine wpList_load_g (HC12.out.away) _ rfl rfl (by go_simp) ?_) | ((with_reducible show wpList _ _ _ (Oper.mk _ (Op.load _ _) _ _ _ _ :: _) _ _); refine wpList_load_g (HC12.out.upd) _ rfl rfl (by go_simp) ?_))
  go_ret
  exact ⟨rfl, HB12.out⟩
end Go.Proofs.YtifejiclenpfoaaDoor

/- Layer 20 (client): what the law's ops need: msg, spoil; the document's Copy, SameHeard. -/
namespace Go.Proofs.YtifejiclenpfoaaDoor
open Go.RowKit
set_option linter.unusedVariables false
set_option linter.unusedSimpArgs false
set_option maxRecDepth 4000
/-- A message of what counts, with no more than ten updates. -/
def cutM (m : Fm) (A : Option Addr) (n c : Nat) : Fm := ⟨m.kd, m.frm, m.tgt, m.epo, 0, 0, none, 0, 0, 0, m.ok, m.idx, 0, 0, 0, none, 0, 0, 0, 0, 0, 0, 0, 0, m.seq, A, n, c, m.err, [], [], m.t.take 10⟩
theorem run_build_cutM (w : World) (m : Fm) (A : Option Addr) (n c : Nat) : (Instr.build 45 #[(0, .int .i64 m.kd), (1, .int .i64 m.frm), (2, .int .i64 m.tgt), (3, .int .u64 m.epo), (7, .bool m.ok), (8, .int .u64 m.idx), (11, .int .u32 m.seq), (13, .int .i64 m.err), (12, .agg (tabV A n c))]).run Tryd.prog w = .ok (.agg (fmV (cutM m A n c))) w := run_build w _ _ _ (by kernel_rfl)
theorem load_fm {w : World} {g : Nat} {m : Fm} (h : w.heap[g]? = some (.cells (fmV m) 45 (0, 0))) : (Instr.loadAt 45 (.pointer (some ⟨g, 0, none⟩))).run Tryd.prog w = .ok (.agg (fmV m)) w := (fm_ld h).all
set_option maxHeartbeats 4000000 in
theorem lmsg_any (m : Fm) (w : World) (hr : RS updK w m.BA m.bn m.bc m.t) (hn : m.bn ≤ 140737488355328) :
    Calls Tryd.prog 26 #[.agg (fmV m)] w fun e w' => ∃ A' c', e = .returned (.agg (fmV (cutM m A' (min m.bn 10) c'))) ∧ OS updK w' w.heap.size A' (min m.bn 10) c' (m.t.take 10) ∧ Below w.heap.size w w' := by
  have hblk1 := blk_new w (.cells (fmV m) 45)
  have hbel1 : Below w.heap.size w (w.alloc (.cells (fmV m) 45)) := below_alloc (Below.refl _ _) _
  have HP1 := Lib.hid (fm_at hblk1)
  have HBK1 := Lib.hid hblk1
  have HBE := Lib.hid hbel1
  obtain ⟨cs1, hcs1⟩ : ∃ cs, fmV m = cs := ⟨_, rfl⟩
  simp only [hcs1] at HBE HP1 HBK1 ⊢
  have HC1 := Lib.hid hcs1
  clear hcs1 hblk1 hbel1
  have hs0 : (w.alloc (.cells cs1 45)).heap.size = w.heap.size + 1 := by simp
  obtain ⟨W1, hW1⟩ : ∃ W1, (w.alloc (.cells cs1 45)).alloc (.cells #[.int .i64 0, .int .i64 0, .int .i64 0, .int .u64 0, .int .u64 0, .int .u64 0, .slice none 0 0, .int .u64 0, .bool false, .int .u64 0, .int .u64 0, .int .u64 0, .int .u64 0, .slice none 0 0, .int .u32 0, .int .u64 0, .int .u32 0, .int .u64 0, .int .u32 0, .int .u64 0, .int .u32 0, .slice none 0 0, .int .i64 0] 45) = W1 := ⟨_, rfl⟩
  have HBR : Hid (Below (w.alloc (.cells cs1 45)).heap.size (w.alloc (.cells cs1 45)) W1) := Lib.hid (hW1 ▸ below_alloc (Below.refl _ _) _)
  have HB1 : Hid (Below w.heap.size w W1) := Lib.hid (below_step HBE.out HBR.out)
  have HZ1 : Hid (W1.heap[w.heap.size + 1]? = some (.cells (fmV fmZ) 45 (0, 0))) := Lib.hid (by rw [← hW1, ← hs0]; exact blk_new _ _)
  have HR := Lib.hid (hr.below HB1.out)
  have HS1 : Hid (w.heap.size + 2 ≤ W1.heap.size) := Lib.hid (by rw [← hW1]; simp)
  obtain ⟨q, hq⟩ : ∃ q, min m.bn 10 = q := ⟨_, rfl⟩
  have HQ := Lib.hid hq
  rw [hq]
  clear hr hs0 hq
  go_enter Tryd.func26, Tryd.ntmps26
  go_upto_region 1 with fail
  clear hW1
  refine wp_region_mix ((fun w0 => Below W1.heap.size W1 w0)) [(0, 4), (1, 0), (2, 4), (3, 0), (4, 4), (5, 0), (6, 4), (7, 0), (8, 4), (9, 0), (10, 4), (11, 0), (12, 4), (13, 0), (14, 4), (15, 0), (16, 4), (17, 0), (18, 2), (19, 0), (20, 3)] (by kernel_rfl) (by kernel_rfl) ((below_drew1 _)) ?_
  simp only [List.map_cons, List.map_nil]
  iterate 1 (refine wpO_step4 rfl rfl (fun K hK => ?_); go_simp; refine hK _ _ ?_; clear hK K)
  refine wpO_loadW (t := 3) (ad := ⟨w.heap.size, 0, none⟩) rfl rfl ?hw rfl rfl ((fun w0 hS => (HP1.out.all w0 (below_step HBR.out hS)).kind)) ?_
  case hw => go_simp
  iterate 1 (refine wpO_step4 rfl rfl (fun K hK => ?_); go_simp; refine hK _ _ ?_; clear hK K)
  refine wpO_loadW (t := 3) (ad := ⟨w.heap.size, 1, none⟩) rfl rfl ?hw rfl rfl ((fun w0 hS => (HP1.out.all w0 (below_step HBR.out hS)).frm)) ?_
  case hw => go_simp
  iterate 1 (refine wpO_step4 rfl rfl (fun K hK => ?_); go_simp; refine hK _ _ ?_; clear hK K)
  refine wpO_loadW (t := 3) (ad := ⟨w.heap.size, 2, none⟩) rfl rfl ?hw rfl rfl ((fun w0 hS => (HP1.out.all w0 (below_step HBR.out hS)).tgt)) ?_
  case hw => go_simp
  iterate 1 (refine wpO_step4 rfl rfl (fun K hK => ?_); go_simp; refine hK _ _ ?_; clear hK K)
  refine wpO_loadW (t := 31) (ad := ⟨w.heap.size, 3, none⟩) rfl rfl ?hw rfl rfl ((fun w0 hS => (HP1.out.all w0 (below_step HBR.out hS)).epoch)) ?_
  case hw => go_simp
  iterate 1 (refine wpO_step4 rfl rfl (fun K hK => ?_); go_simp; refine hK _ _ ?_; clear hK K)
  refine wpO_loadW (t := 4) (ad := ⟨w.heap.size, 8, none⟩) rfl rfl ?hw rfl rfl ((fun w0 hS => (HP1.out.all w0 (below_step HBR.out hS)).ok)) ?_
  case hw => go_simp
  iterate 1 (refine wpO_step4 rfl rfl (fun K hK => ?_); go_simp; refine hK _ _ ?_; clear hK K)
  refine wpO_loadW (t := 31) (ad := ⟨w.heap.size, 9, none⟩) rfl rfl ?hw rfl rfl ((fun w0 hS => (HP1.out.all w0 (below_step HBR.out hS)).index)) ?_
  case hw => go_simp
  iterate 1 (refine wpO_step4 rfl rfl (fun K hK => ?_); go_simp; refine hK _ _ ?_; clear hK K)
  refine wpO_loadW (t := 22) (ad := ⟨w.heap.size, 20, none⟩) rfl rfl ?hw rfl rfl ((fun w0 hS => (HP1.out.all w0 (below_step HBR.out hS)).seq)) ?_
  case hw => go_simp
  iterate 1 (refine wpO_step4 rfl rfl (fun K hK => ?_); go_simp; refine hK _ _ ?_; clear hK K)
  refine wpO_loadW (t := 43) (ad := ⟨w.heap.size, 22, none⟩) rfl rfl ?hw rfl rfl ((fun w0 hS => (HP1.out.all w0 (below_step HBR.out hS)).err)) ?_
  case hw => go_simp
  iterate 1 (refine wpO_step4 rfl rfl (fun K hK => ?_); go_simp; refine hK _ _ ?_; clear hK K)
  refine wpO_loadW (t := 25) (ad := ⟨w.heap.size, 21, none⟩) rfl rfl ?hw rfl rfl ((fun w0 hS => (HP1.out.all w0 (below_step HBR.out hS)).bat)) ?_
  case hw => go_simp
  refine wpO_step2 rfl rfl (below_drew1 _) (fun K hK => ?_)
  go_simp
  refine (lbatch_any m.BA m.bn m.bc m.t _ (HR.out.below (below_drew1 _)) hn).mono ?_
  rw [HQ.out]
  rintro e w2 ⟨A2, c2, rfl, hO2, hb2⟩
  have HV2 := Lib.hid (below_step (below_drew1 W1) hb2)
  have HO2 := Lib.hid (hO2.lower HS1.out)
  have HZ2 := Lib.hid (blk_below HZ1.out HV2.out)
  clear hO2 hb2
  refine hK _ _ ⟨HV2.out, ?_⟩
  clear hK K
  refine wpO_step0 rfl rfl (fun K hK => ?_)
  rw [if_pos (show Region.wanted _ _ = true from rfl)]
  refine ⟨_, fun w0 => exec_build9 rfl rfl rfl rfl rfl rfl rfl rfl rfl rfl (run_build_cutM w0 m A2 q c2), hK _ _ ?_⟩
  clear hK K
  refine wpO_step3 rfl rfl (fun K hK => ?_)
  rw [if_pos (show Region.wanted _ _ = true from rfl)]
  refine oper_store_blk HZ2.out 45 0 (fmV (cutM m A2 q c2)) (Nat.le_refl _) (info_fm _) (fm_one _) _ _ rfl rfl rfl ?_
  intro w5 hg5 hs5 hb5
  rw [splice_fm] at hb5
  have H5 := Lib.hid (And.intro hg5 hb5)
  clear hg5 hs5 hb5
  refine hK _ _ ?_
  clear hK K
  refine wpO_nil ?_
  go_wp2_with fail
  refine bodyPost_ret (results_c1 rfl rfl (load_fm H5.out.2)) rfl ?_
  exact ⟨A2, c2, rfl, (HO2.out.grown H5.out.1 (fun ad e h => by have h1 := HO2.out.base_ ad e; injection h with h; omega)).lower (by omega), below_grown (below_step HB1.out HV2.out) H5.out.1 (by omega)⟩
structure HdLd (w : World) (g : Nat) (h : Hd) (A : Option Addr) (n c : Nat) : Prop where
  all : (Instr.loadAt 61 (.pointer (some ⟨g, 0, none⟩))).run Tryd.prog w = .ok (.agg (hdV h A n c)) w
  done : (Instr.loadAt 4 (.pointer (some ⟨g, 0, none⟩))).run Tryd.prog w = .ok (.bool h.done) w
  err : (Instr.loadAt 43 (.pointer (some ⟨g, 1, none⟩))).run Tryd.prog w = .ok (.int .i64 h.err) w
  seq : (Instr.loadAt 22 (.pointer (some ⟨g, 2, none⟩))).run Tryd.prog w = .ok (.int .u32 h.seq) w
  bat : (Instr.loadAt 25 (.pointer (some ⟨g, 3, none⟩))).run Tryd.prog w = .ok (.agg (tabV A n c)) w
  idx : (Instr.loadAt 31 (.pointer (some ⟨g, 4, none⟩))).run Tryd.prog w = .ok (.int .u64 h.index) w
theorem hd_ld {w : World} {g : Nat} {h : Hd} {A : Option Addr} {n c : Nat} (hb : w.heap[g]? = some (.cells (hdV h A n c) 61 (0, 0))) : HdLd w g h A n c := by
  have h0 : CellsAt w g 0 [.bool h.done, .int .i64 h.err, .int .u32 h.seq, .slice A n c, .int .u64 h.index] := cells_blk hb
  exact ⟨load_hd hb, loadr_bool (h0 0 _ rfl), load_errk (h0 1 _ rfl), load_u32k (h0 2 _ rfl), load_cells (cs := tabV A n c) (cells_mid h0 3 1) Tryd.underlying25 rfl (info_bat _ _ _), load_u64k (h0 4 _ rfl)⟩
/-- What may be written over: a row in cells of its own. -/
structure Soft (w : World) (A : Option Addr) (n c : Nat) : Prop where
  bare : A = none → n = 0
  cap : n ≤ c
  small : n ≤ 281474976710656
  form : ∀ ad, A = some ad → ad.spot = none ∧ ∃ cur t, w.heap[ad.block]? = some (.cells cur t (0, 0)) ∧ ad.off + c * 22 ≤ cur.size
theorem Soft.grown {w w1 : World} {A : Option Addr} {n c : Nat} (h : Soft w A n c) {row : Option Nat} (hg : w.grownBy w1 row) (hne : ∀ ad, A = some ad → some ad.block ≠ row) : Soft w1 A n c :=
  ⟨h.bare, h.cap, h.small, fun ad e => by
    obtain ⟨h2, cur, t, h3, h4⟩ := h.form ad e
    exact ⟨h2, cur, t, blk_grown h3 hg (hne ad e), h4⟩⟩
theorem Soft.below {w w1 : World} {A : Option Addr} {n c : Nat} (h : Soft w A n c) (hb : Below w.heap.size w w1) : Soft w1 A n c := h.grown (grown_of_below hb none) (fun _ _ => by simp)
end Go.Proofs.YtifejiclenpfoaaDoor

/- Layer 20 (client): the document's Copy, Ask. -/
namespace Go.Proofs.YtifejiclenpfoaaDoor
open Go.RowKit
set_option linter.unusedVariables false
set_option linter.unusedSimpArgs false
set_option maxRecDepth 4000
end Go.Proofs.YtifejiclenpfoaaDoor

/- Layer 20 (client): the document's Hear. -/
namespace Go.Proofs.YtifejiclenpfoaaDoor
open Go.RowKit
set_option linter.unusedVariables false
set_option linter.unusedSimpArgs false
set_option maxRecDepth 4000
end Go.Proofs.YtifejiclenpfoaaDoor

/- Layer 20 (client): the law's asks. -/
namespace Go.Proofs.YtifejiclenpfoaaDoor
open Go.RowKit
set_option linter.unusedVariables false
set_option linter.unusedSimpArgs false
set_option maxRecDepth 4000
end Go.Proofs.YtifejiclenpfoaaDoor

/- A region that draws its order, where two or three operations that act may stand in any order: all orders are walked. -/
namespace Go.Proofs.YtifejiclenpfoaaDoor
open Go.RowKit
set_option linter.unusedVariables false
set_option linter.unusedSimpArgs false
set_option maxRecDepth 4000

section
variable {P : Program} {S : World → Prop} {ops : Array Oper} {md : Region.Mode} {cl : Nat → Nat}
inductive OrdN where
  | lin (l : List Nat)
  | fork (l : List Nat) (i j : Nat) (r s : OrdN)
  | fork3 (l : List Nat) (i j k : Nat) (r s t : OrdN)
def OrdN.len : OrdN → Nat
  | .lin l => l.length
  | .fork l _ _ r _ => l.length + (r.len + 1)
  | .fork3 l _ _ _ r _ _ => l.length + (r.len + 1)
end
end Go.Proofs.YtifejiclenpfoaaDoor

/- Layer 20 (client): the law's ops in memory. -/
namespace Go.Proofs.YtifejiclenpfoaaDoor
open Go.RowKit
set_option linter.unusedVariables false
set_option linter.unusedSimpArgs false
set_option maxRecDepth 4000
/-- What happens, and where its batch lies. -/
structure Opn where
  kind : Int
  tg : Int
  A : Option Addr
  n : Nat
  c : Nat
  t : List Upd
  m : Fm
/-- What holds of an op that was handed in. -/
structure OpIn (W : World) (o : Opn) : Prop where
  rs : RS updK W o.A o.n o.c o.t
  oku : Oku o.t
  small : o.n * 64 ≤ 140737488351232
  m : FmIn W o.m
theorem OpIn.below {W W1 : World} {o : Opn} (h : OpIn W o) (hb : Below W.heap.size W W1) : OpIn W1 o := ⟨h.rs.below hb, h.oku, h.small, h.m.below hb⟩
/-- A block of another type is another block. -/
theorem OS.apart {α : Type} {S : Shape α} {w : World} {base : Nat} {A : Option Addr} {n c : Nat} {l : List α} (h : OS S w base A n c l) {g : Nat} {cs : Array Value} {t : TypeId} (hz : w.heap[g]? = some (.cells cs t (0, 0))) (hne : S.t ≠ t) : ∀ ad, A = some ad → ad.block ≠ g := fun ad e hg => by
  obtain ⟨_, _, cur, hh, _⟩ := h.ov.form ad e
  rw [hg, hz] at hh
  injection hh with hh
  injection hh with h1 h2
  exact hne h2.symm
theorem OS.grownT {α : Type} {S : Shape α} {w w1 : World} {base : Nat} {A : Option Addr} {n c : Nat} {l : List α} (h : OS S w base A n c l) {g : Nat} {cs : Array Value} {t : TypeId} (hz : w.heap[g]? = some (.cells cs t (0, 0))) (hne : S.t ≠ t) (hg : w.grownBy w1 (some g)) : OS S w1 base A n c l :=
  h.grown hg (fun ad e k => h.apart hz hne ad e (by injection k))
end Go.Proofs.YtifejiclenpfoaaDoor

/- Layer 20 (client): the law ClientHears. -/
namespace Go.Proofs.YtifejiclenpfoaaDoor
open Go.RowKit
set_option linter.unusedVariables false
set_option linter.unusedSimpArgs false
set_option maxRecDepth 4000
/-- The message, with what makes it a reply to what is under way. -/
def repM (m : Fm) (A : Option Addr) (n c : Nat) : Fm := { cutM m A n c with kd := 7, tgt := 3, seq := 1 }
set_option maxHeartbeats 8000000 in
set_option maxRecDepth 100000 in
theorem hears20_any (A : Option Addr) (n c : Nat) (b : List Upd) (m : Fm) (i : Int) (w : World) (hL : Laid w) (hu : RS updK w A n c b) (oku : Oku b) (hn : n ≤ 140737488355328) (hm : FmIn w m) (hi : (Lit.int .i64 i).wf = true) :
    Calls Tryd.prog 7 #[.agg (tabV A n c), .agg (fmV m), .int .i64 i] w fun e w' => e = .returned (.bool true) ∧ Below w.heap.size w w' := by
  have HLW := Lib.hid hL
  have HUW := Lib.hid hu
  have HMW := Lib.hid hm
  have OKU : Hid (Oku (b.take 10)) := Lib.hid (fun u hu => oku u (List.mem_of_mem_take hu))
  have hblk1 := blk_new w (.cells (tabV A n c) 25)
  have hbel1 : Below w.heap.size w (w.alloc (.cells (tabV A n c) 25)) := below_alloc (Below.refl _ _) _
  have hblk2 := blk_new (w.alloc (.cells (tabV A n c) 25)) (.cells (fmV m) 45)
  have hbel2 : Below w.heap.size w ((w.alloc (.cells (tabV A n c) 25)).alloc (.cells (fmV m) 45)) := below_alloc (hbel1) _
  rw [show (w.alloc (.cells (tabV A n c) 25)).heap.size = w.heap.size + 1 by simp] at hblk2
  replace hblk1 := blk_below hblk1 (below_alloc (Below.refl _ _) (.cells (fmV m) 45))
  have HP1 := Lib.hid (bat_at hblk1)
  have HBK1 := Lib.hid hblk1
  have HP2 := Lib.hid (fm_at hblk2)
  have HBK2 := Lib.hid hblk2
  have HBE := Lib.hid hbel2
  have HL := Lib.hid (hL.below HBE.out)
  obtain ⟨cs1, hcs1⟩ : ∃ cs, tabV A n c = cs := ⟨_, rfl⟩
  obtain ⟨cs2, hcs2⟩ : ∃ cs, fmV m = cs := ⟨_, rfl⟩
  simp only [hcs1, hcs2] at HBE HL HP1 HP2 HBK1 HBK2 ⊢
  have HC1 := Lib.hid hcs1
  have HC2 := Lib.hid hcs2
  clear hL hcs1 hblk1 hbel1 hcs2 hblk2 hbel2
  clear hu oku hm
  obtain ⟨W0, hW0⟩ : ∃ W, ((w.alloc (.cells cs1 25)).alloc (.cells cs2 45)) = W := ⟨_, rfl⟩
  go_enter Tryd.func7, Tryd.ntmps7
  rw [hW0] at HBE HP1 HP2 HL
  go_wp2_with fail
  clear hW0
  refine (wakes20_any W0 HL.out).mono ?_
  rintro e w1 ⟨rfl, hb1⟩
  have HB1 := Lib.hid (below_step HBE.out hb1)
  have HV1 := Lib.hid hb1
  clear hb1
  go_wp2_with fail
  refine (cnew_any 1 w1 (HLW.out.below HB1.out)).mono ?_
  have hin : (1 : Int) ≤ 1 ∧ (1 : Int) ≤ 2 := by decide
  rw [newC_in hin, newE_in hin]
  obtain ⟨k1, hk1⟩ : ∃ k, k = newK 1 := ⟨_, rfl⟩
  rw [← hk1]
  have HK1 := Lib.hid hk1
  have HO1 : Hid k1.ok := Lib.hid (hk1 ▸ ⟨by decide, by decide, fun r hr => by cases hr⟩)
  clear hin hk1
  rintro e w2 ⟨rfl, hb2⟩
  have HB2 := Lib.hid (below_step HB1.out hb2)
  have HV2 := Lib.hid (below_step HV1.out hb2)
  clear hb2 HB1 HV1
  have hz2 := blk_new w2 (.cells (cliV ckZ none 0 0) 27)
  have HBA := Lib.hid (below_alloc (Below.refl w2.heap.size w2) (.cells (cliV ckZ none 0 0) 27))
  go_upto_region 6 with (first | ((with_reducible show wpList _ _ _ (Oper.mk _ (Op.store _ _ _) _ _ _ _ :: _) _ _); refine wpList_store_blk hz2 27 0 (cliV k1 none 0 0) (Nat.le_refl _) (info_cli _ _ _ _) (cli_one _ _ _ _) _ _ rfl rfl rfl rfl ?_; intro w3 hg9 hs9 hb9; rw [splice_cli] at hb9; have H3 := Lib.hid (And.intro hg9 hb9); clear hg9 hs9 hb9))
  try dsimp only [Act.put]
  have hb23 := below_grown HBA.out H3.out.1 (Nat.le_refl _)
  have HB3 := Lib.hid (below_step HB2.out hb23)
  have HV3 := Lib.hid (below_step HV2.out hb23)
  have HX3 := Lib.hid H3.out.2
  have HGB : Hid (w.heap.size ≤ w2.heap.size) := Lib.hid HB2.out.size
  have HGW : Hid (W0.heap.size ≤ w2.heap.size) := Lib.hid HV2.out.size
  obtain ⟨g2, hg2⟩ : ∃ g, w2.heap.size = g := ⟨_, rfl⟩
  rw [hg2] at HX3 HGB HGW ⊢
  clear hz2 HBA H3 hb23 hg2 HB2 HV2
  obtain ⟨q, hq⟩ : ∃ q, min n 10 = q := ⟨_, rfl⟩
  have HQ := Lib.hid hq
  have HQ10 : Hid (q ≤ 10) := Lib.hid (by omega)
  clear hq
  refine wp_region_mix ((fun w0 => Below w3.heap.size w3 w0)) [(0, 0), (1, 0), (2, 2), (3, 2), (4, 4), (5, 4), (6, 4), (7, 3), (8, 3)] (by kernel_rfl) (by kernel_rfl) ((below_drew1 _)) ?_
  simp only [List.map_cons, List.map_nil]
  refine wpO_loadW (t := 27) (ad := ⟨g2, 0, none⟩) rfl rfl ?hw rfl rfl ((fun w0 hS => load_cli (blk_below HX3.out hS))) ?_
  case hw => go_simp
  refine wpO_loadW (t := 25) (ad := ⟨w.heap.size, 0, none⟩) rfl rfl ?hw rfl rfl ((fun w0 hS => (HP1.out.all w0 (below_step HV3.out hS)).1)) ?_
  case hw => go_simp
  refine wpO_step2 rfl rfl (below_drew1 _) (fun K hK => ?_)
  go_simp
  have HB0 := Lib.hid (below_drew1 w3)
  refine (lbatch_any A n c b _ (HUW.out.below (below_step HB3.out HB0.out)) hn).mono ?_
  rw [HQ.out]
  rintro e w4 ⟨A4, c4, rfl, hO4, hb4⟩
  have HV4 := Lib.hid (below_step HB0.out hb4)
  have HO4 := Lib.hid hO4.reads
  clear hO4 hb4 HB0
  refine hK _ _ ⟨HV4.out, ?_⟩
  clear hK K
  refine wpO_step2 rfl rfl (HV4.out) (fun K hK => ?_)
  go_simp
  refine (csubmit_any k1 none 0 0 A4 q c4 (b.take 10) w4 (HLW.out.below (below_step HB3.out HV4.out)) (HK1.out ▸ RS.nil _ _ _ _) HO1.out (by omega) HO4.out OKU.out (by have := HQ10.out; omega)).mono ?_
  rintro e w5 ⟨A5, n5, c5, rfl, hO5, hb5⟩
  have HV5 := Lib.hid (below_step HV4.out hb5)
  have HO5 := Lib.hid (hO5.lower (Nat.zero_le _))
  clear hO5 hb5 HO4
  refine hK _ _ ⟨HV5.out, ?_⟩
  clear hK K
  iterate 3 (refine wpO_step4 rfl rfl (fun K hK => ?_); go_simp; refine hK _ _ ?_; clear hK K)
  refine wpO_step3 rfl rfl (fun K hK => ?_)
  rw [if_pos (show Region.wanted _ _ = true from rfl)]
  obtain ⟨k5, hk5⟩ : ∃ k, subK k1 (b.take 10) = k := ⟨_, rfl⟩
  obtain ⟨N5, hN5⟩ : ∃ k, subN k1 (b.take 10) = k := ⟨_, rfl⟩
  have HK5 := Lib.hid (And.intro hk5 hN5)
  rw [hk5] at HO5
  rw [hk5, hN5]
  clear hk5 hN5
  have HXX := Lib.hid (blk_below HX3.out HV5.out)
  refine oper_store_blk HXX.out 27 0 (cliV k5 A5 n5 c5) (Nat.le_refl _) (info_cli _ _ _ _) (cli_one _ _ _ _) _ _ rfl rfl rfl ?_
  intro w6 hg9 hs9 hb9
  rw [splice_cli] at hb9
  have HX6 := Lib.hid hb9
  have HB6 := Lib.hid (below_grown (below_step HB3.out HV5.out) hg9 HGB.out)
  have HV6 := Lib.hid (below_grown (below_step HV3.out HV5.out) hg9 HGW.out)
  have HO6 := Lib.hid (HO5.out.grownT HXX.out (by decide) hg9)
  clear hg9 hs9 hb9 HX3 HO5 HXX
  refine hK _ _ ?_
  clear hK K
  refine wpO_step3 rfl rfl (fun K hK => ?_); go_simp; refine hK _ _ ?_; clear hK K
  refine wpO_nil ?_
  cases hbat : batB (b.take 10) with
  | false =>
    have h0 := sub_new0 (num := 1) (b := b.take 10) (by decide) hbat
    have HN5 : Hid (N5 = 210) := Lib.hid (by rw [← HK5.out.2, HK1.out]; exact h0.1)
    rw [HN5.out]
    clear h0 hbat
    go_wp2_with fail
    go_ret
    exact ⟨rfl, HB6.out⟩
  | true =>
    have h0 := sub_new (num := 1) (b := b.take 10) (by decide) hbat
    have HN5 : Hid (N5 = 0 ∧ k5 = ⟨1, 1, true, b.take 10⟩) := Lib.hid ⟨by rw [← HK5.out.2, HK1.out]; exact h0.1, by rw [← HK5.out.1, HK1.out]; exact h0.2⟩
    have HC5 : Hid (ckB k5 = true) := Lib.hid (by rw [HN5.out.2]; exact ckB_away (by decide) (by decide) hbat)
    have OK5 : Hid k5.ok := Lib.hid (by rw [HN5.out.2]; exact ⟨(by decide : (Lit.int .i64 (1 : Int)).wf = true), (by decide : (Lit.int .u32 (1 : Int)).wf = true), OKU.out⟩)
    have hn5 : n5 ≤ 10 := by
      have h1 := HO6.out.len
      rw [HN5.out.2] at h1
      have h2 : (b.take 10).length ≤ 10 := by simp; omega
      have h3 : (b.take 10).length = n5 := h1
      omega
    have HHB : Hid (∀ e, hearB k5 7 3 1 e = !decide (e = 270)) := Lib.hid (fun e => by rw [HN5.out.2]; simp [hearB])
    have HHF : Hid (∀ kd tg sq e, (kd ≠ 7 ∨ tg ≠ 3 ∨ sq ≠ 1) → hearB k5 kd tg sq e = false) := Lib.hid (fun kd tg sq e h => by
      rw [HN5.out.2]
      unfold hearB
      rcases h with h | h | h
      · simp [h]
      · have h3 : ¬ tg = 2 + (⟨1, 1, true, b.take 10⟩ : Ck).num := h
        rw [decide_eq_false h3]
        simp
      · simp [h])
    have HE5 : Hid (ckE k5 = 0) := Lib.hid (by unfold ckE; rw [HC5.out]; rfl)
    rw [HN5.out.1]
    clear h0 hbat
    have HMX := Lib.hid ((HP2.out.all _ HV6.out))
    obtain ⟨qm, hqm⟩ : ∃ qm, min m.bn 10 = qm := ⟨_, rfl⟩
    have HQM := Lib.hid hqm
    clear hqm
    go_wp2_with (first | ((with_reducible show wpList _ _ _ (Oper.mk _ (Op.load _ _) _ _ _ _ :: _) _ _); refine wpList_load_g (HMX.out.all) _ rfl rfl (by go_simp) ?_))
    refine (lmsg_any m w6 (HMW.out.t.below HB6.out) (by have := HMW.out.tsm; omega)).mono ?_
    rw [HQM.out]
    rintro e w7 ⟨A7, c7, rfl, hO7, hb7⟩
    have HB7 := Lib.hid (below_step HB6.out hb7)
    have HX7 := Lib.hid (blk_below HX6.out hb7)
    have HO7 := Lib.hid (HO6.out.below hb7)
    have HXL := Lib.hid (blk_lt HX7.out)
    clear hO7 hb7 HB6 HX6 HO6 HMX
    have hz7 := blk_new w7 (.cells (fmV fmZ) 45)
    have HBA := Lib.hid (below_alloc (Below.refl w7.heap.size w7) (.cells (fmV fmZ) 45))
    go_upto_region 11 with (first | ((with_reducible show wpList _ _ _ (Oper.mk _ (Op.store 3 _ _) _ _ _ _ :: _) _ _); refine wpList_store_cell H9.out.2 3 2 (.int .i64 3) (by show 2 < 23; omega) (by kernel_rfl) rfl rfl _ _ rfl rfl rfl rfl ?_; intro w10 hg9 hs9 hb9; have H10 := Lib.hid (And.intro hg9 (show (World.heap w10)[w7.heap.size]? = some (.cells (fmV { cutM m A7 qm c7 with kd := 7, tgt := 3 }) 45 (0, 0)) from hb9)); clear hg9 hs9 hb9) | ((with_reducible show wpList _ _ _ (Oper.mk _ (Op.store 3 _ _) _ _ _ _ :: _) _ _); refine wpList_store_cell H8.out.2 3 0 (.int .i64 7) (by show 0 < 23; omega) (by kernel_rfl) rfl rfl _ _ rfl rfl rfl rfl ?_; intro w9 hg9 hs9 hb9; have H9 := Lib.hid (And.intro hg9 (show (World.heap w9)[w7.heap.size]? = some (.cells (fmV { cutM m A7 qm c7 with kd := 7 }) 45 (0, 0)) from hb9)); clear hg9 hs9 hb9) | ((with_reducible show wpList _ _ _ (Oper.mk _ (Op.store 22 _ _) _ _ _ _ :: _) _ _); refine wpList_store_cell H10.out.2 22 20 (.int .u32 1) (by show 20 < 23; omega) (by kernel_rfl) rfl rfl _ _ rfl rfl rfl rfl ?_; intro w11 hg9 hs9 hb9; have H11 := Lib.hid (And.intro hg9 (show (World.heap w11)[w7.heap.size]? = some (.cells (fmV (repM m A7 qm c7)) 45 (0, 0)) from hb9)); clear hg9 hs9 hb9) | ((with_reducible show wpList _ _ _ (Oper.mk _ (Op.store _ _ _) _ _ _ _ :: _) _ _); refine wpList_store_blk hz7 45 0 (fmV (cutM m A7 qm c7)) (Nat.le_refl _) (info_fm _) (fm_one _) _ _ rfl rfl rfl rfl ?_; intro w8 hg9 hs9 hb9; rw [splice_fm] at hb9; have H8 := Lib.hid (And.intro hg9 hb9); clear hg9 hs9 hb9))
    try dsimp only [Act.put]
    obtain ⟨x, hx⟩ : ∃ x, repM m A7 qm c7 = x := ⟨_, rfl⟩
    have HXM : Hid (x.kd = 7 ∧ x.tgt = 3 ∧ x.seq = 1 ∧ x.err = m.err) := Lib.hid (hx ▸ ⟨rfl, rfl, rfl, rfl⟩)
    have HG11 := Lib.hid H11.out.2
    have hb11 := below_grown (below_grown (below_grown (below_grown HBA.out H8.out.1 (Nat.le_refl _)) H9.out.1 (Nat.le_refl _)) H10.out.1 (Nat.le_refl _)) H11.out.1 (Nat.le_refl _)
    rw [hx] at HG11
    (first | replace HB7 := Lib.hid (RS.below HB7.out hb11) | replace HB7 := Lib.hid (blk_below HB7.out hb11) | replace HB7 := Lib.hid (below_step HB7.out hb11) | replace HB7 := Lib.hid (HB7.out.below hb11))
    (first | replace HX7 := Lib.hid (RS.below HX7.out hb11) | replace HX7 := Lib.hid (blk_below HX7.out hb11) | replace HX7 := Lib.hid (below_step HX7.out hb11) | replace HX7 := Lib.hid (HX7.out.below hb11))
    have HO11 := Lib.hid (OS.below HO7.out hb11)
    have HGX : Hid (g2 < w7.heap.size) := Lib.hid HXL.out
    obtain ⟨gx, hgx⟩ : ∃ g, w7.heap.size = g := ⟨_, rfl⟩
    rw [hgx] at HG11 HGX ⊢
    clear hz7 HBA H8 H9 H10 H11 hb11 HO7 hgx hx HXL
    have hcall : Calls Tryd.prog 27 #[.agg (cliV k5 A5 n5 c5), .agg (fmV x)] w11 fun e w' => ∃ A1 n1 c1 A2 n2 c2, e = .returned (.tuple #[.agg (cliV (hearK k5 (hearB k5 x.kd x.tgt x.seq x.err)) A1 n1 c1), .agg (hdV (hearH k5 (hearB k5 x.kd x.tgt x.seq x.err) x.err x.idx) A2 n2 c2), .int .i64 (ckE k5)]) ∧
        OS updK w' w11.heap.size A1 n1 c1 (hearK k5 (hearB k5 x.kd x.tgt x.seq x.err)).t ∧ OS updK w' w11.heap.size A2 n2 c2 (hearH k5 (hearB k5 x.kd x.tgt x.seq x.err) x.err x.idx).t ∧ Below w11.heap.size w11 w' := chear_any k5 A5 n5 c5 x.mg w11 (HLW.out.below HB7.out) HO11.out.reads OK5.out (by omega) (mg_fits _)
    rw [HXM.out.1, HXM.out.2.1, HXM.out.2.2.1, HHB.out, HE5.out] at hcall
    obtain ⟨hB, hhB⟩ : ∃ y, (!decide (x.err = 270)) = y := ⟨_, rfl⟩
    rw [hhB] at hcall
    have HHB2 : Hid ((x.err != 270) = hB) := Lib.hid (by rw [← hhB]; by_cases h : x.err = 270 <;> simp [h])
    clear hhB
    go_wp2_with (first | ((with_reducible show wpList _ _ _ (Oper.mk _ (Op.load _ _) _ _ _ _ :: _) _ _); refine wpList_load_g (load_cli HX7.out) _ rfl rfl (by go_simp) ?_) | ((with_reducible show wpList _ _ _ (Oper.mk _ (Op.load _ _) _ _ _ _ :: _) _ _); refine wpList_load_g (load_fm HG11.out) _ rfl rfl (by go_simp) ?_))
    refine hcall.mono ?_
    clear hcall
    rintro e w12 ⟨A12, n12, c12, B12, m12, d12, rfl, hO12, hP12, hb12⟩
    obtain ⟨KN, hKN⟩ : ∃ y, hearK k5 hB = y := ⟨_, rfl⟩
    obtain ⟨HN, hHN⟩ : ∃ y, hearH k5 hB x.err x.idx = y := ⟨_, rfl⟩
    have HHN : Hid (HN.done = hB) := Lib.hid (by rw [← hHN]; unfold hearH; rw [HC5.out]; cases hB <;> rfl)
    rw [hKN, hHN]
    (first | replace HB7 := Lib.hid (RS.below HB7.out hb12) | replace HB7 := Lib.hid (blk_below HB7.out hb12) | replace HB7 := Lib.hid (below_step HB7.out hb12) | replace HB7 := Lib.hid (HB7.out.below hb12))
    (first | replace HX7 := Lib.hid (RS.below HX7.out hb12) | replace HX7 := Lib.hid (blk_below HX7.out hb12) | replace HX7 := Lib.hid (below_step HX7.out hb12) | replace HX7 := Lib.hid (HX7.out.below hb12))
    (first | replace HG11 := Lib.hid (RS.below HG11.out hb12) | replace HG11 := Lib.hid (blk_below HG11.out hb12) | replace HG11 := Lib.hid (below_step HG11.out hb12) | replace HG11 := Lib.hid (HG11.out.below hb12))
    have HO12 := Lib.hid (OS.below HO11.out hb12)
    have HS12 : Hid (g2 < w12.heap.size ∧ gx < w12.heap.size) := Lib.hid ⟨blk_lt HX7.out, blk_lt HG11.out⟩
    clear hO12 hP12 hb12 HO11 hKN hHN
    obtain ⟨W13, hW13⟩ : ∃ W, w12.alloc (.cells (cliV ckZ none 0 0) 27) = W := ⟨_, rfl⟩
    obtain ⟨W14, hW14⟩ : ∃ W, W13.alloc (.cells (hdV hdZ none 0 0) 61) = W := ⟨_, rfl⟩
    have b13 : Below w12.heap.size w12 W13 := hW13 ▸ below_alloc (Below.refl _ _) _
    have b14 : Below W13.heap.size W13 W14 := hW14 ▸ below_alloc (Below.refl _ _) _
    have HS13 : Hid (W13.heap.size = w12.heap.size + 1) := Lib.hid (by rw [← hW13]; simp)
    have n13 : W14.heap[w12.heap.size]? = some (.cells (cliV ckZ none 0 0) 27 (0, 0)) := blk_below (hW13 ▸ blk_new _ _) b14
    have n14 : W14.heap[W13.heap.size]? = some (.cells (hdV hdZ none 0 0) 61 (0, 0)) := hW14 ▸ blk_new _ _
    have hw13 : w12.alloc (.cells #[.int .i64 0, .int .u32 0, .slice none 0 0, .bool false] 27) = W13 := hW13
    have hw14 : W13.alloc (.cells #[.bool false, .int .i64 0, .int .u32 0, .slice none 0 0, .int .u64 0] 61) = W14 := hW14
    have HB14 := Lib.hid (below_step b13 b14)
    clear hW13 hW14
    go_upto_region 12 with (first | ((with_reducible show wpList _ _ _ (Oper.mk _ (Op.store _ _ _) _ _ _ _ :: _) _ _); refine wpList_store_blk n13 27 0 (cliV KN A12 n12 c12) (Nat.le_refl _) (info_cli _ _ _ _) (cli_one _ _ _ _) _ _ rfl rfl rfl rfl ?_; intro w15 hg9 hs9 hb9; rw [splice_cli] at hb9; have H15 := Lib.hid (And.intro hg9 hb9); clear hg9 hs9 hb9) | ((with_reducible show wpList _ _ _ (Oper.mk _ (Op.store _ _ _) _ _ _ _ :: _) _ _); refine wpList_store_blk (blk_grown n14 H15.out.1 (fun e => by have s13 := HS13.out; injection e with e; omega)) 61 0 (hdV HN B12 m12 d12) (Nat.le_refl _) (info_hd _ _ _ _) (hd_one _ _ _ _) _ _ rfl rfl rfl rfl ?_; intro w16 hg9 hs9 hb9; rw [splice_hd] at hb9; have H16 := Lib.hid (And.intro hg9 hb9); clear hg9 hs9 hb9))
    try dsimp only [Act.put]
    have HB16 := Lib.hid (below_grown (below_grown HB14.out H15.out.1 (Nat.le_refl _)) H16.out.1 (by have s13 := HS13.out; omega))
    (first | replace HB7 := Lib.hid (RS.below HB7.out HB16.out) | replace HB7 := Lib.hid (blk_below HB7.out HB16.out) | replace HB7 := Lib.hid (below_step HB7.out HB16.out) | replace HB7 := Lib.hid (HB7.out.below HB16.out))
    (first | replace HX7 := Lib.hid (RS.below HX7.out HB16.out) | replace HX7 := Lib.hid (blk_below HX7.out HB16.out) | replace HX7 := Lib.hid (below_step HX7.out HB16.out) | replace HX7 := Lib.hid (HX7.out.below HB16.out))
    (first | replace HG11 := Lib.hid (RS.below HG11.out HB16.out) | replace HG11 := Lib.hid (blk_below HG11.out HB16.out) | replace HG11 := Lib.hid (below_step HG11.out HB16.out) | replace HG11 := Lib.hid (HG11.out.below HB16.out))
    have HO16 := Lib.hid (OS.below HO12.out HB16.out)
    have HH16 := Lib.hid H16.out.2
    obtain ⟨gh, hgh⟩ : ∃ g, W13.heap.size = g := ⟨_, rfl⟩
    have HGH : Hid (gx < gh ∧ g2 < gh) := Lib.hid (by have := HS12.out; have := HS13.out; omega)
    rw [hgh] at HH16 ⊢
    have HLH : Hid (gh < w16.heap.size) := Lib.hid (blk_lt HH16.out)
    have HSW : Hid (w.heap.size ≤ w16.heap.size) := Lib.hid HB7.out.size
    clear b13 b14 HS13 n13 n14 hw13 hw14 HB14 H15 H16 HO12 HS12 hgh HB16
    have HDN : Hid ((Instr.loadAt 4 (.pointer (some ⟨gh, 0, none⟩))).run Tryd.prog w16 = .ok (.bool hB) w16) := Lib.hid (by rw [← HHN.out]; exact (hd_ld HH16.out).done)
    have HER := Lib.hid (fm_ld HG11.out).err
    have hbb := HHB2.out
    have hz16 := blk_new w16 (.cells (fmV fmZ) 45)
    have HBA := Lib.hid (below_alloc (Below.refl w16.heap.size w16) (.cells (fmV fmZ) 45))
    go_upto_region 15 with (first | ((with_reducible show wpList _ _ _ (Oper.mk _ (Op.load _ _) _ _ _ _ :: _) _ _); refine wpList_load_g (HDN.out) _ rfl rfl (by go_simp) ?_) | ((with_reducible show wpList _ _ _ (Oper.mk _ (Op.load _ _) _ _ _ _ :: _) _ _); refine wpList_load_g (HER.out) _ rfl rfl (by go_simp) ?_) | ((with_reducible show wpList _ _ _ (Oper.mk _ (Op.load _ _) _ _ _ _ :: _) _ _); refine wpList_load_g (load_fm HG11.out) _ rfl rfl (by go_simp) ?_) | ((with_reducible show wpList _ _ _ (Oper.mk _ (Op.store _ _ _) _ _ _ _ :: _) _ _); refine wpList_store_blk hz16 45 0 (fmV x) (Nat.le_refl _) (info_fm _) (fm_one _) _ _ rfl rfl rfl rfl ?_; intro w17 hg9 hs9 hb9; rw [splice_fm] at hb9; have H17 := Lib.hid (And.intro hg9 hb9); clear hg9 hs9 hb9))
    try dsimp only [Act.put]
    have HB17 := Lib.hid (below_grown HBA.out H17.out.1 (Nat.le_refl _))
    have HY17 := Lib.hid H17.out.2
    (first | replace HB7 := Lib.hid (RS.below HB7.out HB17.out) | replace HB7 := Lib.hid (blk_below HB7.out HB17.out) | replace HB7 := Lib.hid (below_step HB7.out HB17.out) | replace HB7 := Lib.hid (HB7.out.below HB17.out))
    (first | replace HX7 := Lib.hid (RS.below HX7.out HB17.out) | replace HX7 := Lib.hid (blk_below HX7.out HB17.out) | replace HX7 := Lib.hid (below_step HX7.out HB17.out) | replace HX7 := Lib.hid (HX7.out.below HB17.out))
    (first | replace HH16 := Lib.hid (RS.below HH16.out HB17.out) | replace HH16 := Lib.hid (blk_below HH16.out HB17.out) | replace HH16 := Lib.hid (below_step HH16.out HB17.out) | replace HH16 := Lib.hid (HH16.out.below HB17.out))
    have HO17 := Lib.hid (OS.below HO16.out HB17.out)
    have HGY : Hid (gh < w16.heap.size ∧ g2 < w16.heap.size ∧ w.heap.size ≤ w16.heap.size) := Lib.hid ⟨HLH.out, by have := HLH.out; have := HGH.out; omega, HSW.out⟩
    obtain ⟨gy, hgy⟩ : ∃ g, w16.heap.size = g := ⟨_, rfl⟩
    rw [hgy] at HY17 HGY ⊢
    clear hz16 HBA H17 HB17 HO16 HDN HER hbb hgy HG11
    obtain ⟨qi, hqi⟩ : ∃ q, (IntKind.u64.wrap i).tmod 3 = q := ⟨_, rfl⟩
    go_upto_block 0 with fail
    try dsimp only [Act.put]
    clear hqi
    go_cut [12] (fun s12 wx => s12 = .pointer (some ⟨gy, 0, none⟩) ∧ Hid (∃ y : Fm, wx.heap[gy]? = some (.cells (fmV y) 45 (0, 0)) ∧ (y.kd ≠ 7 ∨ y.tgt ≠ 3 ∨ y.seq ≠ 1) ∧ w17.grownBy wx (some gy)))
    case first =>
      by_cases h0 : qi = 0
      · have h0' : (qi == 0) = true := by simpa using h0
        clear h0
        go_wp2_with (first | ((with_reducible show wpList _ _ _ (Oper.mk _ (Op.store 22 _ _) _ _ _ _ :: _) _ _); refine wpList_store_cell HY17.out 22 20 (.int .u32 2) (by show 20 < 23; omega) (by kernel_rfl) rfl rfl _ _ rfl rfl rfl rfl ?_; intro w18 hg9 hs9 hb9; have H18 := Lib.hid (And.intro hg9 (show (World.heap w18)[gy]? = some (.cells (fmV { x with seq := 2 }) 45 (0, 0)) from hb9)); clear hg9 hs9 hb9))
        try dsimp only [Act.put]
        go_meet
        exact ⟨rfl, { x with seq := 2 }, H18.out.2, .inr (.inr (by decide : (2 : Int) ≠ 1)), H18.out.1⟩
      · have h0' : (qi == 0) = false := by simpa using h0
        by_cases h1 : qi = 1
        · have h1' : (qi == 1) = true := by simpa using h1
          clear h0 h1
          go_wp2_with (first | ((with_reducible show wpList _ _ _ (Oper.mk _ (Op.store 3 _ _) _ _ _ _ :: _) _ _); refine wpList_store_cell HY17.out 3 2 (.int .i64 4) (by show 2 < 23; omega) (by kernel_rfl) rfl rfl _ _ rfl rfl rfl rfl ?_; intro w18 hg9 hs9 hb9; have H18 := Lib.hid (And.intro hg9 (show (World.heap w18)[gy]? = some (.cells (fmV { x with tgt := 4 }) 45 (0, 0)) from hb9)); clear hg9 hs9 hb9))
          try dsimp only [Act.put]
          go_meet
          exact ⟨rfl, { x with tgt := 4 }, H18.out.2, .inr (.inl (by decide : (4 : Int) ≠ 3)), H18.out.1⟩
        · have h1' : (qi == 1) = false := by simpa using h1
          clear h0 h1
          go_wp2_with (first | ((with_reducible show wpList _ _ _ (Oper.mk _ (Op.store 3 _ _) _ _ _ _ :: _) _ _); refine wpList_store_cell HY17.out 3 0 (.int .i64 6) (by show 0 < 23; omega) (by kernel_rfl) rfl rfl _ _ rfl rfl rfl rfl ?_; intro w18 hg9 hs9 hb9; have H18 := Lib.hid (And.intro hg9 (show (World.heap w18)[gy]? = some (.cells (fmV { x with kd := 6 }) 45 (0, 0)) from hb9)); clear hg9 hs9 hb9))
          try dsimp only [Act.put]
          go_meet
          exact ⟨rfl, { x with kd := 6 }, H18.out.2, .inl (by decide : (6 : Int) ≠ 7), H18.out.1⟩
    case rest =>
      obtain ⟨rfl, HC⟩ := hcut
      obtain ⟨w18, rfl⟩ : ∃ w18, w18 = wc := ⟨wc, rfl⟩
      obtain ⟨y, hy1, hy2, hg18⟩ := HC.out
      have HY18 := Lib.hid hy1
      have HB18 := Lib.hid (below_grown HB7.out hg18 HGY.out.2.2)
      have HX18 := Lib.hid (blk_grown HX7.out hg18 (fun e => by injection e with e; have := HGY.out; omega))
      have HH18 := Lib.hid (blk_grown HH16.out hg18 (fun e => by injection e with e; have := HGY.out; omega))
      have HO18 := Lib.hid (HO17.out.grownT HY17.out (by decide) hg18)
      have HFF : Hid (hearB k5 y.kd y.tgt y.seq y.err = false) := Lib.hid (HHF.out _ _ _ _ hy2)
      clear HC hy1 hy2 hg18 HB7 HX7 HH16 HO17 HY17
      have hcall : Calls Tryd.prog 27 #[.agg (cliV k5 A5 n5 c5), .agg (fmV y)] w18 fun e w' => ∃ A1 n1 c1 A2 n2 c2, e = .returned (.tuple #[.agg (cliV (hearK k5 (hearB k5 y.kd y.tgt y.seq y.err)) A1 n1 c1), .agg (hdV (hearH k5 (hearB k5 y.kd y.tgt y.seq y.err) y.err y.idx) A2 n2 c2), .int .i64 (ckE k5)]) ∧
          OS updK w' w18.heap.size A1 n1 c1 (hearK k5 (hearB k5 y.kd y.tgt y.seq y.err)).t ∧ OS updK w' w18.heap.size A2 n2 c2 (hearH k5 (hearB k5 y.kd y.tgt y.seq y.err) y.err y.idx).t ∧ Below w18.heap.size w18 w' := chear_any k5 A5 n5 c5 y.mg w18 (HLW.out.below HB18.out) HO18.out.reads OK5.out (by omega) (mg_fits _)
      rw [HFF.out, HE5.out, show hearK k5 false = k5 by unfold hearK; rw [HC5.out]; rfl, show hearH k5 false y.err y.idx = hdZ by unfold hearH; rw [Bool.and_false]; rfl] at hcall
      go_wp2_with (first | ((with_reducible show wpList _ _ _ (Oper.mk _ (Op.load _ _) _ _ _ _ :: _) _ _); refine wpList_load_g (load_cli HX18.out) _ rfl rfl (by go_simp) ?_) | ((with_reducible show wpList _ _ _ (Oper.mk _ (Op.load _ _) _ _ _ _ :: _) _ _); refine wpList_load_g (load_fm HY18.out) _ rfl rfl (by go_simp) ?_))
      refine hcall.mono ?_
      clear hcall
      rintro e w19 ⟨A19, n19, c19, B19, m19, d19, rfl, hO19, hP19, hb19⟩
      have HR19 := Lib.hid (hO19.lower (Nat.zero_le _))
      have hn19 : n19 ≤ 10 := by have h1 := hO19.len; have h2 := HO18.out.len; omega
      (first | replace HB18 := Lib.hid (RS.below HB18.out hb19) | replace HB18 := Lib.hid (blk_below HB18.out hb19) | replace HB18 := Lib.hid (below_step HB18.out hb19) | replace HB18 := Lib.hid (HB18.out.below hb19))
      (first | replace HX18 := Lib.hid (RS.below HX18.out hb19) | replace HX18 := Lib.hid (blk_below HX18.out hb19) | replace HX18 := Lib.hid (below_step HX18.out hb19) | replace HX18 := Lib.hid (HX18.out.below hb19))
      (first | replace HH18 := Lib.hid (RS.below HH18.out hb19) | replace HH18 := Lib.hid (blk_below HH18.out hb19) | replace HH18 := Lib.hid (below_step HH18.out hb19) | replace HH18 := Lib.hid (HH18.out.below hb19))
      have HO19 := Lib.hid (OS.below HO18.out hb19)
      have HLH19 : Hid (gh < w19.heap.size ∧ g2 < w19.heap.size) := Lib.hid ⟨blk_lt HH18.out, blk_lt HX18.out⟩
      clear hO19 hP19 hb19 HO18 HY18
      have hz19 := blk_new w19 (.cells (cliV ckZ none 0 0) 27)
      have hh19 := blk_below HH18.out (below_alloc (Below.refl _ _) (.cells (cliV ckZ none 0 0) 27))
      have HBA := Lib.hid (below_alloc (Below.refl w19.heap.size w19) (.cells (cliV ckZ none 0 0) 27))
      go_upto_region 22 with (first | ((with_reducible show wpList _ _ _ (Oper.mk _ (Op.store _ _ _) _ _ _ _ :: _) _ _); refine wpList_store_blk hz19 27 0 (cliV k5 A19 n19 c19) (Nat.le_refl _) (info_cli _ _ _ _) (cli_one _ _ _ _) _ _ rfl rfl rfl rfl ?_; intro w20 hg9 hs9 hb9; rw [splice_cli] at hb9; have H20 := Lib.hid (And.intro hg9 hb9); clear hg9 hs9 hb9) | ((with_reducible show wpList _ _ _ (Oper.mk _ (Op.store _ _ _) _ _ _ _ :: _) _ _); refine wpList_store_blk (blk_grown hh19 H20.out.1 (fun e => by have h1 := HLH19.out; injection e with e; omega)) 61 0 (hdV hdZ B19 m19 d19) (Nat.le_refl _) (info_hd _ _ _ _) (hd_one _ _ _ _) _ _ rfl rfl rfl rfl ?_; intro w21 hg9 hs9 hb9; rw [splice_hd] at hb9; have H21 := Lib.hid (And.intro hg9 hb9); clear hg9 hs9 hb9))
      try dsimp only [Act.put]
      have HB20 := Lib.hid (below_grown HBA.out H20.out.1 (Nat.le_refl _))
      have HX20 := Lib.hid (blk_below HX18.out HB20.out)
      have HX21 := Lib.hid (blk_grown HX20.out H21.out.1 (fun e => by injection e with e; have := HGH.out; omega))
      have HN21 := Lib.hid (blk_grown H20.out.2 H21.out.1 (fun e => by injection e with e; have := HLH19.out; omega))
      have HO21 := Lib.hid ((OS.below HO19.out HB20.out).grownT (blk_below HH18.out HB20.out) (by decide) H21.out.1)
      have HH21 : Hid ((Instr.loadAt 4 (.pointer (some ⟨gh, 0, none⟩))).run Tryd.prog w21 = .ok (.bool false) w21) := Lib.hid (hd_ld H21.out.2).done
      have HGW : Hid (w.heap.size ≤ gh) := Lib.hid (by have := HGH.out; have := HGB.out; omega)
      have HB21 := Lib.hid (below_grown (below_step HB18.out HB20.out) H21.out.1 HGW.out)
      have HR21 := Lib.hid (OS.grownT (OS.below HR19.out HB20.out) (blk_below HH18.out HB20.out) (by decide) H21.out.1)
      go_wp2_with (first | ((with_reducible show wpList _ _ _ (Oper.mk _ (Op.load _ _) _ _ _ _ :: _) _ _); refine wpList_load_g (HH21.out) _ rfl rfl (by go_simp) ?_) | ((with_reducible show wpList _ _ _ (Oper.mk _ (Op.load _ _) _ _ _ _ :: _) _ _); refine wpList_load_g (load_cli HX21.out) _ rfl rfl (by go_simp) ?_) | ((with_reducible show wpList _ _ _ (Oper.mk _ (Op.load _ _) _ _ _ _ :: _) _ _); refine wpList_load_g (load_cli HN21.out) _ rfl rfl (by go_simp) ?_))
      refine (csame20_any k5 A5 n5 c5 k5 A19 n19 c19 w21 HO21.out.reads HR21.out.reads OK5.out.t OK5.out.t (by omega) (by omega)).mono ?_
      rw [cliB_self]
      rintro e w22 ⟨rfl, hb22⟩
      have HB22 := Lib.hid (below_step HB21.out hb22)
      clear hb22
      go_wp2_with fail
      go_ret
      exact ⟨rfl, HB22.out⟩
end Go.Proofs.YtifejiclenpfoaaDoor

/- The walk of ClientHears, as the row asks it. -/
namespace Go.Proofs.YtifejiclenpfoaaDoor
open Go.RowKit
set_option linter.unusedVariables false
set_option linter.unusedSimpArgs false
set_option maxRecDepth 4000
theorem clientHears_walk (A : Option Addr) (n c : Nat) (b : List Upd) (m : Fm) (i : Int) (w : World) (hL : Laid w) (hu : RS updK w A n c b) (oku : ∀ a ∈ b, a.ok) (h1 : n * 64 ≤ 140737488351232) (hm : FmIn w m) (hi : (Lit.int .i64 i).wf = true) : Calls Tryd.prog 7 #[.agg (tabV A n c), .agg (fmV m), .int .i64 i] w fun e w' => e = .returned (.bool true) ∧ Below w.heap.size w w' :=
  hears20_any A n c b m i w hL hu oku (by omega) hm hi
end Go.Proofs.YtifejiclenpfoaaDoor
