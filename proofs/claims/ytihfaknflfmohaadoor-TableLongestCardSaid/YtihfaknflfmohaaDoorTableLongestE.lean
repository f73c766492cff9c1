/- Layer 9 (table): the walk of TableSets. -/
import Derived.Test.YtihfaknflfmohaaDoorTableLongestD
namespace Go.Proofs.YtihfaknflfmohaaDoor
open Go.RowKit
set_option linter.unusedVariables false
set_option linter.unusedSimpArgs false
set_option maxRecDepth 4000
theorem oks_set {t : List Row} {p : Pfx} {h : Int} (ot : Oks t) (hpo : p.ok) (hf : Fits t) : Oks (setL t p h) := by
  unfold setL
  split
  · rename_i he
    have hh : tabB t = true ∧ 1 ≤ h ∧ h ≤ 255 := by
      unfold setE at he
      cases hb : tabB t with
      | false => rw [hb] at he; simp at he
      | true =>
        rw [hb, if_pos rfl] at he
        split at he
        · rename_i hx
          exact ⟨rfl, hx.2⟩
        · cases he
    intro x hx
    rcases (mem_setT hpo.l hf (tabB_to hh.1).2.2).1 hx with rfl | ⟨hx, _⟩
    · refine ⟨hpo, ?_⟩
      simp [Lit.wf, IntKind.min, IntKind.max, IntKind.bits, IntKind.signed]
      omega
    · exact ot x hx
  · intro x hx
    cases hx
theorem oks_drop {t : List Row} {p : Pfx} (ot : Oks t) : Oks (dropL t p) := by
  unfold dropL
  split
  · exact fun x hx => ot x (mem_dropT_of hx)
  · intro x hx
    cases hx
theorem there_get {t : List Row} {p : Pfx} (ht : tabB t = true) : thereB t p = decide (0 < getT t p) := by
  have h1 := getT_zero (p := p) ht
  cases hth : thereB t p with
  | false => rw [getT_no hth]; rfl
  | true =>
    have hlt := lowN_lt hth
    have h2 : getT t p = (rowAt t (lowN t p)).h := by unfold getT; rw [hth]; rfl
    have h3 := ((okB_iff _).1 ((tabB_to ht).2.1 _ (row_mem hlt))).2
    rw [eq_comm, decide_eq_true_iff]
    omega
theorem setL_len (t : List Row) (p : Pfx) (h : Int) : (setL t p h).length ≤ t.length + 1 := by
  unfold setL
  split
  · rw [len_setT]
    split <;> omega
  · simp
theorem dropL_len (t : List Row) (p : Pfx) : (dropL t p).length ≤ t.length := by
  unfold dropL
  split
  · exact len_dropT t
  · simp
set_option maxRecDepth 100000 in
set_option maxHeartbeats 8000000 in
theorem tableSets_any (A : Option Addr) (n c : Nat) (t : List Row) (p : Pfx) (h : Int) (w : World) (hL : Laid w) (ht : RT w A n c t) (ot : Oks t) (hpo : p.ok) : Calls Tryd.prog 10 #[.agg (tabV A n c), .agg (pfxV p.v p.l p.b), .int .i64 h] w fun e w' => e = .returned (.bool true) ∧ Below w.heap.size w w' := by
  have hp := hpo.l
  have hblk1 := blk_new w (.cells (tabV A n c) 28)
  have hbel1 : Below w.heap.size w (w.alloc (.cells (tabV A n c) 28)) := below_alloc (Below.refl _ _) _
  have hblk2 := blk_new (w.alloc (.cells (tabV A n c) 28)) (.cells (pfxV p.v p.l p.b) 36)
  have hbel2 : Below w.heap.size w ((w.alloc (.cells (tabV A n c) 28)).alloc (.cells (pfxV p.v p.l p.b) 36)) := below_alloc (hbel1) _
  rw [show (w.alloc (.cells (tabV A n c) 28)).heap.size = w.heap.size + 1 by simp] at hblk2
  replace hblk1 := blk_below hblk1 (below_alloc (Below.refl _ _) (.cells (pfxV p.v p.l p.b) 36))
  have HP1 := Lib.hid (tab_at hblk1)
  have HBK1 := Lib.hid hblk1
  have HP2 := Lib.hid (pfx_at hp hblk2)
  have HBK2 := Lib.hid hblk2
  have HBE := Lib.hid hbel2
  have HL := Lib.hid (hL.below HBE.out)
  obtain ⟨cs1, hcs1⟩ : ∃ cs, tabV A n c = cs := ⟨_, rfl⟩
  obtain ⟨cs2, hcs2⟩ : ∃ cs, pfxV p.v p.l p.b = cs := ⟨_, rfl⟩
  simp only [hcs1, hcs2] at HBE HL HP1 HP2 HBK1 HBK2 ⊢
  have HC1 := Lib.hid hcs1
  have HC2 := Lib.hid hcs2
  clear hL hcs1 hblk1 hbel1 hcs2 hblk2 hbel2
  have HT := Lib.hid (ht.below HBE.out)
  have OKS := Lib.hid ot
  clear ht ot
  go_enter Tryd.func10, Tryd.ntmps10
  go_wp2_with fail
  refine (wakes09_any _ HL.out).mono ?_
  rintro e w1 ⟨rfl, hb1⟩
  have HB1 := Lib.hid hb1
  have hl1 := (HP1.out.all w1 HB1.out).2
  clear hb1
  by_cases hn : 200 < n
  · have hn' : decide ((200 : Int) < n) = true := decide_eq_true (by omega)
    go_wp2_with (first | ((with_reducible show wpList _ _ _ (Oper.mk _ (Op.load _ _) _ _ _ _ :: _) _ _); refine wpList_load_g hl1 _ rfl rfl (by go_simp) ?_))
    go_ret
    exact ⟨rfl, below_step HBE.out HB1.out⟩
  · have hn' : decide ((200 : Int) < n) = false := decide_eq_false (by omega)
    have hn200 : n ≤ 200 := by omega
    clear hn
    go_upto_region 5 with (first | ((with_reducible show wpList _ _ _ (Oper.mk _ (Op.load _ _) _ _ _ _ :: _) _ _); refine wpList_load_g hl1 _ rfl rfl (by go_simp) ?_))
    clear hl1
    go_cut [7, 8] (fun s7 s8 wx => ∃ (g : Nat) (A7 : Option Addr) (n7 c7 : Nat), s7 = .pointer (some ⟨g, 0, none⟩) ∧ s8 = .int .i64 (setE t p h) ∧ Hid (wx.heap[g]? = some (.cells (tabV A7 n7 c7) 28 (0, 0)) ∧ RT wx A7 n7 c7 (setL t p h) ∧ Below w1.heap.size w1 wx))
    case first =>
      have HBB := HB1
      have HBD := Lib.hid (below_drew1 w1)
      refine wp_region_fork ((fun w0 => Below w1.heap.size w1 w0)) (OrdT.fork [0, 2, 3] 1 8 (OrdT.fork [] 4 8 (OrdT.lin [5, 6, 7, 8, 9, 10]) (OrdT.lin [4, 5, 6, 7, 9, 10])) (OrdT.lin [1, 4, 5, 6, 7, 9, 10])) [(0, 0), (1, 2), (2, 0), (3, 0), (4, 2), (5, 0), (6, 0), (7, 0), (8, 2), (9, 2), (10, 0)] (by kernel_rfl) (by kernel_rfl) ((below_drew1 _)) ?_
      simp only [wpF]
      refine wpO_loadW (t := 28) (ad := ⟨w.heap.size, 0, none⟩) rfl rfl ?hw rfl rfl ((fun w0 hS => (HP1.out.all w0 (below_step HB1.out hS)).1)) ?_
      case hw => go_simp
      refine wpO_loadW (t := 36) (ad := ⟨(w.heap.size+1), 0, none⟩) rfl rfl ?hw rfl rfl ((fun w0 hS => (HP2.out.all w0 (below_step HB1.out hS)).2.2.2.2)) ?_
      case hw => go_simp
      iterate 1 (refine wpO_step0 rfl rfl (fun K hK => ?_); go_simp; refine hK _ _ ?_; clear hK K)
      refine wpO_nil ⟨?_, ?_⟩
      · refine wpO_step2 rfl rfl (HBD.out) (fun K hK => ?_)
        go_simp
        refine (copiedT_any A n c t _ (HT.out.below (below_step HBB.out HBD.out)) (by omega)).mono ?_
        rintro e w2 ⟨Ac, cc, rfl, hO9, hb9⟩
        have HBC := Lib.hid (below_step HBD.out hb9)
        have HCP := Lib.hid hO9.reads
        have hszc := hb9.size
        try replace HZ9 := Lib.hid (blk_below HZ9.out hb9)
        clear hO9 hb9
        refine hK _ _ ⟨HBC.out, ?_⟩
        clear hK K
        refine wpO_nil (wpO_nil ⟨?_, ?_⟩)
        · refine wpO_step2 rfl rfl (HBC.out) (fun K hK => ?_)
          go_simp
          refine (tset_any Ac n cc t p h w2 (HL.out.below (below_step HBB.out HBC.out)) HCP.out hp (by omega)).mono ?_
          rintro e w3 ⟨A7, n7, c7, rfl, hO9, hb9⟩
          have HBK := Lib.hid (below_step HBC.out hb9)
          have HO9 := Lib.hid hO9.reads
          have HLT9 := Lib.hid hO9.lt
          have HBA9 := Lib.hid hO9.base_
          try replace HZ9 := Lib.hid (blk_below HZ9.out hb9)
          clear hO9 hb9
          refine hK _ _ ⟨HBK.out, ?_⟩
          clear hK K
          refine wpO_nil ?_
          iterate 3 (refine wpO_step0 rfl rfl (fun K hK => ?_); go_simp; refine hK _ _ ?_; clear hK K)
          refine wpO_step2 rfl rfl (HBK.out) (fun K hK => ?_)
          go_simp
          have hz9 := blk_new w3 (.cells (tabV none 0 0) 28)
          obtain ⟨w4, hw9⟩ : ∃ w9, World.alloc w3 (.cells (tabV none 0 0) 28) = w9 := ⟨_, rfl⟩
          have ha9 : Below (World.heap w3).size w3 w4 := hw9 ▸ below_alloc (Below.refl _ _) _
          have HBL := Lib.hid (below_step HBK.out ha9)
          rw [show World.alloc w3 (.cells #[.slice none 0 0] 28) = w4 from hw9]
          rw [hw9] at hz9
          have hzl9 := blk_lt hz9
          have HZ9 := Lib.hid hz9
          try replace HCP := Lib.hid (HCP.out.below ha9)
          try replace HO9 := Lib.hid (HO9.out.below ha9)
          clear hw9 hz9 ha9
          refine hK _ _ ⟨HBL.out, ?_⟩
          clear hK K
          refine wpO_step2 rfl rfl (HBL.out) (fun K hK => ?_)
          rw [if_pos (show Region.wanted _ _ = true from rfl)]
          refine oper_store_blk HZ9.out 28 0 (tabV A7 n7 c7) (Nat.le_refl _) (info_tab _ _ _) (tab_one _ _ _) _ _ rfl rfl rfl ?_
          intro w5 hg9 hs9 hb9
          rw [splice_tab] at hb9
          have HBM := Lib.hid (below_grown HBL.out hg9 (by have h2 := HBC.out.size; have h3 := HBK.out.size; omega))
          replace HO9 := Lib.hid (HO9.out.grown hg9 (fun ad e h => by injection h with h; first | (have := HLT9.out ad e; omega) | (have := HBA9.out ad e; omega)))
          replace HZ9 := Lib.hid hb9
          clear hg9 hs9 hb9
          refine hK _ _ ⟨HBM.out, ?_⟩
          clear hK K
          iterate 1 (refine wpO_step0 rfl rfl (fun K hK => ?_); go_simp; refine hK _ _ ?_; clear hK K)
          refine wpO_nil ?_
          go_wp2_with fail
          go_meet
          exact ⟨w3.heap.size, A7, n7, c7, rfl, rfl, HZ9.out, HO9.out, HBM.out⟩
        · refine wpO_step2 rfl rfl (HBC.out) (fun K hK => ?_)
          go_simp
          have hz9 := blk_new w2 (.cells (tabV none 0 0) 28)
          obtain ⟨w3, hw9⟩ : ∃ w9, World.alloc w2 (.cells (tabV none 0 0) 28) = w9 := ⟨_, rfl⟩
          have ha9 : Below (World.heap w2).size w2 w3 := hw9 ▸ below_alloc (Below.refl _ _) _
          have HBK := Lib.hid (below_step HBC.out ha9)
          rw [show World.alloc w2 (.cells #[.slice none 0 0] 28) = w3 from hw9]
          rw [hw9] at hz9
          have hzl9 := blk_lt hz9
          have HZ9 := Lib.hid hz9
          try replace HCP := Lib.hid (HCP.out.below ha9)
          try replace HO9 := Lib.hid (HO9.out.below ha9)
          clear hw9 hz9 ha9
          refine hK _ _ ⟨HBK.out, ?_⟩
          clear hK K
          refine wpO_nil ?_
          refine wpO_step2 rfl rfl (HBK.out) (fun K hK => ?_)
          go_simp
          refine (tset_any Ac n cc t p h w3 (HL.out.below (below_step HBB.out HBK.out)) HCP.out hp (by omega)).mono ?_
          rintro e w4 ⟨A7, n7, c7, rfl, hO9, hb9⟩
          have HBL := Lib.hid (below_step HBK.out hb9)
          have HO9 := Lib.hid hO9.reads
          have HLT9 := Lib.hid hO9.lt
          have HBA9 := Lib.hid hO9.base_
          try replace HZ9 := Lib.hid (blk_below HZ9.out hb9)
          clear hO9 hb9
          refine hK _ _ ⟨HBL.out, ?_⟩
          clear hK K
          iterate 3 (refine wpO_step0 rfl rfl (fun K hK => ?_); go_simp; refine hK _ _ ?_; clear hK K)
          refine wpO_step2 rfl rfl (HBL.out) (fun K hK => ?_)
          rw [if_pos (show Region.wanted _ _ = true from rfl)]
          refine oper_store_blk HZ9.out 28 0 (tabV A7 n7 c7) (Nat.le_refl _) (info_tab _ _ _) (tab_one _ _ _) _ _ rfl rfl rfl ?_
          intro w5 hg9 hs9 hb9
          rw [splice_tab] at hb9
          have HBM := Lib.hid (below_grown HBL.out hg9 (by have h2 := HBC.out.size; have h3 := HBK.out.size; omega))
          replace HO9 := Lib.hid (HO9.out.grown hg9 (fun ad e h => by injection h with h; first | (have := HLT9.out ad e; omega) | (have := HBA9.out ad e; omega)))
          replace HZ9 := Lib.hid hb9
          clear hg9 hs9 hb9
          refine hK _ _ ⟨HBM.out, ?_⟩
          clear hK K
          iterate 1 (refine wpO_step0 rfl rfl (fun K hK => ?_); go_simp; refine hK _ _ ?_; clear hK K)
          refine wpO_nil ?_
          go_wp2_with fail
          go_meet
          exact ⟨w2.heap.size, A7, n7, c7, rfl, rfl, HZ9.out, HO9.out, HBM.out⟩
      · refine wpO_step2 rfl rfl (HBD.out) (fun K hK => ?_)
        go_simp
        have hz9 := blk_new w1 (.cells (tabV none 0 0) 28)
        obtain ⟨w2, hw9⟩ : ∃ w9, (World.alloc w1 (.cells (tabV none 0 0) 28)).drew = w9 := ⟨_, rfl⟩
        have ha9 : Below (World.heap w1).size w1 w2 := hw9 ▸ below_step (below_alloc (Below.refl _ _) _) (below_drew1 _)
        have HBC := Lib.hid ha9
        rw [show (World.alloc w1 (.cells #[.slice none 0 0] 28)).drew = w2 from hw9]
        replace hz9 : (World.heap w2)[(World.heap w1).size]? = some (.cells (tabV none 0 0) 28 (0, 0)) := by rw [← hw9]; exact hz9
        have hzl9 := blk_lt hz9
        have HZ9 := Lib.hid hz9
        clear hw9 hz9 ha9
        refine hK _ _ ⟨HBC.out, ?_⟩
        clear hK K
        refine wpO_nil ?_
        refine wpO_step2 rfl rfl (HBC.out) (fun K hK => ?_)
        go_simp
        refine (copiedT_any A n c t _ (HT.out.below (below_step HBB.out HBC.out)) (by omega)).mono ?_
        rintro e w3 ⟨Ac, cc, rfl, hO9, hb9⟩
        have HBK := Lib.hid (below_step HBC.out hb9)
        have HCP := Lib.hid hO9.reads
        have hszc := hb9.size
        try replace HZ9 := Lib.hid (blk_below HZ9.out hb9)
        clear hO9 hb9
        refine hK _ _ ⟨HBK.out, ?_⟩
        clear hK K
        refine wpO_step2 rfl rfl (HBK.out) (fun K hK => ?_)
        go_simp
        refine (tset_any Ac n cc t p h w3 (HL.out.below (below_step HBB.out HBK.out)) HCP.out hp (by omega)).mono ?_
        rintro e w4 ⟨A7, n7, c7, rfl, hO9, hb9⟩
        have HBL := Lib.hid (below_step HBK.out hb9)
        have HO9 := Lib.hid hO9.reads
        have HLT9 := Lib.hid hO9.lt
        have HBA9 := Lib.hid hO9.base_
        try replace HZ9 := Lib.hid (blk_below HZ9.out hb9)
        clear hO9 hb9
        refine hK _ _ ⟨HBL.out, ?_⟩
        clear hK K
        iterate 3 (refine wpO_step0 rfl rfl (fun K hK => ?_); go_simp; refine hK _ _ ?_; clear hK K)
        refine wpO_step2 rfl rfl (HBL.out) (fun K hK => ?_)
        rw [if_pos (show Region.wanted _ _ = true from rfl)]
        refine oper_store_blk HZ9.out 28 0 (tabV A7 n7 c7) (Nat.le_refl _) (info_tab _ _ _) (tab_one _ _ _) _ _ rfl rfl rfl ?_
        intro w5 hg9 hs9 hb9
        rw [splice_tab] at hb9
        have HBM := Lib.hid (below_grown HBL.out hg9 (by have h2 := HBC.out.size; have h3 := HBK.out.size; omega))
        replace HO9 := Lib.hid (HO9.out.grown hg9 (fun ad e h => by injection h with h; first | (have := HLT9.out ad e; omega) | (have := HBA9.out ad e; omega)))
        replace HZ9 := Lib.hid hb9
        clear hg9 hs9 hb9
        refine hK _ _ ⟨HBM.out, ?_⟩
        clear hK K
        iterate 1 (refine wpO_step0 rfl rfl (fun K hK => ?_); go_simp; refine hK _ _ ?_; clear hK K)
        refine wpO_nil ?_
        go_wp2_with fail
        go_meet
        exact ⟨w1.heap.size, A7, n7, c7, rfl, rfl, HZ9.out, HO9.out, HBM.out⟩
    case rest =>
      obtain ⟨g1, A1, n1, c1, rfl, rfl, HC⟩ := hcut
      obtain ⟨v1, rfl⟩ : ∃ v1, v1 = wc := ⟨wc, rfl⟩
      have hn1 : n1 ≤ 201 := by
        rw [← HC.out.2.1.len]
        have := setL_len t p h
        rw [HT.out.len] at this
        omega
      have HBV := Lib.hid (below_step HB1.out HC.out.2.2)
      have hl1 := (HP1.out.all v1 HBV.out).1
      have hl2 := (HP2.out.all v1 HBV.out).2.2.2.2
      rw [HC1.out] at hl1
      rw [HC2.out] at hl2
      go_wp2_with (first | ((with_reducible show wpList _ _ _ (Oper.mk _ (Op.load _ _) _ _ _ _ :: _) _ _); refine wpList_load_g hl1 _ rfl rfl (by go_simp) ?_) | ((with_reducible show wpList _ _ _ (Oper.mk _ (Op.load _ _) _ _ _ _ :: _) _ _); refine wpList_load_g hl2 _ rfl rfl (by go_simp) ?_))
      have hpl := refset_any A n c t p h v1 (HT.out.below HBV.out) OKS.out hpo (by omega)
      rw [HC1.out, HC2.out] at hpl
      refine hpl.mono ?_
      clear hpl hl1 hl2
      rintro e v2 ⟨A3, n3, c3, rfl, hO3, hb3⟩
      have HO3 := Lib.hid hO3
      have HBV2 := Lib.hid (below_step HBV.out hb3)
      have HG1 := Lib.hid (blk_below HC.out.1 hb3)
      have HR1 := Lib.hid (HC.out.2.1.below hb3)
      have hg1 := blk_lt HG1.out
      have hn3 : n3 ≤ 201 := by
        rw [← HO3.out.len]
        have := setL_len t p h
        rw [HT.out.len] at this
        omega
      have hz3 := blk_new v2 (.cells (tabV none 0 0) 28)
      clear hO3 hb3 HC
      go_upto_region 7 with (first | ((with_reducible show wpList _ _ _ (Oper.mk _ (Op.store _ _ _) _ _ _ _ :: _) _ _); refine wpList_store_blk hz3 28 0 (tabV A3 n3 c3) (Nat.le_refl _) (info_tab _ _ _) (tab_one _ _ _) _ _ rfl rfl rfl rfl ?_; intro v3 hg9 hs9 hb9; rw [splice_tab] at hb9; have H4 := Lib.hid (And.intro hg9 hb9); clear hg9 hs9 hb9))
      have hb23 : Below v2.heap.size v2 v3 := below_grown (below_alloc (Below.refl _ _) _) H4.out.1 (Nat.le_refl _)
      have HB4 := Lib.hid (below_step HBV2.out hb23)
      have HG4 := Lib.hid (blk_below HG1.out hb23)
      have HR4 := Lib.hid (HR1.out.below hb23)
      have HO4 := Lib.hid (HO3.out.reads.below hb23)
      have HZ4 := Lib.hid H4.out.2
      clear hz3 hb23 H4 HG1 HR1 HO3 HBV
      go_cut [11, 12] (fun s7 s8 wx => ∃ (g : Nat) (A7 : Option Addr) (n7 c7 : Nat), s7 = .pointer (some ⟨g, 0, none⟩) ∧ s8 = .int .i64 (dropE t p) ∧ Hid (wx.heap[g]? = some (.cells (tabV A7 n7 c7) 28 (0, 0)) ∧ RT wx A7 n7 c7 (dropL t p) ∧ Below v3.heap.size v3 wx))
      case first =>
        have HBB := HB4
        have HBD := Lib.hid (below_drew1 v3)
        refine wp_region_fork ((fun w0 => Below v3.heap.size v3 w0)) (OrdT.fork [0, 2] 1 7 (OrdT.fork [] 3 7 (OrdT.lin [4, 5, 6, 7, 8, 9]) (OrdT.lin [3, 4, 5, 6, 8, 9])) (OrdT.lin [1, 3, 4, 5, 6, 8, 9])) [(0, 0), (1, 2), (2, 0), (3, 2), (4, 0), (5, 0), (6, 0), (7, 2), (8, 2), (9, 0)] (by kernel_rfl) (by kernel_rfl) ((below_drew1 _)) ?_
        simp only [wpF]
        refine wpO_loadW (t := 28) (ad := ⟨w.heap.size, 0, none⟩) rfl rfl ?hw rfl rfl ((fun w0 hS => (HP1.out.all w0 (below_step HB4.out hS)).1)) ?_
        case hw => go_simp
        refine wpO_loadW (t := 36) (ad := ⟨(w.heap.size+1), 0, none⟩) rfl rfl ?hw rfl rfl ((fun w0 hS => (HP2.out.all w0 (below_step HB4.out hS)).2.2.2.2)) ?_
        case hw => go_simp
        refine wpO_nil ⟨?_, ?_⟩
        · refine wpO_step2 rfl rfl (HBD.out) (fun K hK => ?_)
          go_simp
          refine (copiedT_any A n c t _ (HT.out.below (below_step HBB.out HBD.out)) (by omega)).mono ?_
          rintro e w2 ⟨Ac, cc, rfl, hO9, hb9⟩
          have HBC := Lib.hid (below_step HBD.out hb9)
          have HCP := Lib.hid hO9.reads
          have hszc := hb9.size
          try replace HZ9 := Lib.hid (blk_below HZ9.out hb9)
          clear hO9 hb9
          refine hK _ _ ⟨HBC.out, ?_⟩
          clear hK K
          refine wpO_nil (wpO_nil ⟨?_, ?_⟩)
          · refine wpO_step2 rfl rfl (HBC.out) (fun K hK => ?_)
            go_simp
            refine (tdrop_any Ac n cc t p w2 (HL.out.below (below_step HBB.out HBC.out)) HCP.out hp (by omega)).mono ?_
            rintro e w3 ⟨A7, n7, c7, rfl, hO9, hb9⟩
            have HBK := Lib.hid (below_step HBC.out hb9)
            have HO9 := Lib.hid hO9.reads
            have HLT9 := Lib.hid hO9.lt
            have HBA9 := Lib.hid hO9.base_
            try replace HZ9 := Lib.hid (blk_below HZ9.out hb9)
            clear hO9 hb9
            refine hK _ _ ⟨HBK.out, ?_⟩
            clear hK K
            refine wpO_nil ?_
            iterate 3 (refine wpO_step0 rfl rfl (fun K hK => ?_); go_simp; refine hK _ _ ?_; clear hK K)
            refine wpO_step2 rfl rfl (HBK.out) (fun K hK => ?_)
            go_simp
            have hz9 := blk_new w3 (.cells (tabV none 0 0) 28)
            obtain ⟨w4, hw9⟩ : ∃ w9, World.alloc w3 (.cells (tabV none 0 0) 28) = w9 := ⟨_, rfl⟩
            have ha9 : Below (World.heap w3).size w3 w4 := hw9 ▸ below_alloc (Below.refl _ _) _
            have HBL := Lib.hid (below_step HBK.out ha9)
            rw [show World.alloc w3 (.cells #[.slice none 0 0] 28) = w4 from hw9]
            rw [hw9] at hz9
            have hzl9 := blk_lt hz9
            have HZ9 := Lib.hid hz9
            try replace HCP := Lib.hid (HCP.out.below ha9)
            try replace HO9 := Lib.hid (HO9.out.below ha9)
            clear hw9 hz9 ha9
            refine hK _ _ ⟨HBL.out, ?_⟩
            clear hK K
            refine wpO_step2 rfl rfl (HBL.out) (fun K hK => ?_)
            rw [if_pos (show Region.wanted _ _ = true from rfl)]
            refine oper_store_blk HZ9.out 28 0 (tabV A7 n7 c7) (Nat.le_refl _) (info_tab _ _ _) (tab_one _ _ _) _ _ rfl rfl rfl ?_
            intro w5 hg9 hs9 hb9
            rw [splice_tab] at hb9
            have HBM := Lib.hid (below_grown HBL.out hg9 (by have h2 := HBC.out.size; have h3 := HBK.out.size; omega))
            replace HO9 := Lib.hid (HO9.out.grown hg9 (fun ad e h => by injection h with h; first | (have := HLT9.out ad e; omega) | (have := HBA9.out ad e; omega)))
            replace HZ9 := Lib.hid hb9
            clear hg9 hs9 hb9
            refine hK _ _ ⟨HBM.out, ?_⟩
            clear hK K
            iterate 1 (refine wpO_step0 rfl rfl (fun K hK => ?_); go_simp; refine hK _ _ ?_; clear hK K)
            refine wpO_nil ?_
            go_wp2_with fail
            go_meet
            exact ⟨w3.heap.size, A7, n7, c7, rfl, rfl, HZ9.out, HO9.out, HBM.out⟩
          · refine wpO_step2 rfl rfl (HBC.out) (fun K hK => ?_)
            go_simp
            have hz9 := blk_new w2 (.cells (tabV none 0 0) 28)
            obtain ⟨w3, hw9⟩ : ∃ w9, World.alloc w2 (.cells (tabV none 0 0) 28) = w9 := ⟨_, rfl⟩
            have ha9 : Below (World.heap w2).size w2 w3 := hw9 ▸ below_alloc (Below.refl _ _) _
            have HBK := Lib.hid (below_step HBC.out ha9)
            rw [show World.alloc w2 (.cells #[.slice none 0 0] 28) = w3 from hw9]
            rw [hw9] at hz9
            have hzl9 := blk_lt hz9
            have HZ9 := Lib.hid hz9
            try replace HCP := Lib.hid (HCP.out.below ha9)
            try replace HO9 := Lib.hid (HO9.out.below ha9)
            clear hw9 hz9 ha9
            refine hK _ _ ⟨HBK.out, ?_⟩
            clear hK K
            refine wpO_nil ?_
            refine wpO_step2 rfl rfl (HBK.out) (fun K hK => ?_)
            go_simp
            refine (tdrop_any Ac n cc t p w3 (HL.out.below (below_step HBB.out HBK.out)) HCP.out hp (by omega)).mono ?_
            rintro e w4 ⟨A7, n7, c7, rfl, hO9, hb9⟩
            have HBL := Lib.hid (below_step HBK.out hb9)
            have HO9 := Lib.hid hO9.reads
            have HLT9 := Lib.hid hO9.lt
            have HBA9 := Lib.hid hO9.base_
            try replace HZ9 := Lib.hid (blk_below HZ9.out hb9)
            clear hO9 hb9
            refine hK _ _ ⟨HBL.out, ?_⟩
            clear hK K
            iterate 3 (refine wpO_step0 rfl rfl (fun K hK => ?_); go_simp; refine hK _ _ ?_; clear hK K)
            refine wpO_step2 rfl rfl (HBL.out) (fun K hK => ?_)
            rw [if_pos (show Region.wanted _ _ = true from rfl)]
            refine oper_store_blk HZ9.out 28 0 (tabV A7 n7 c7) (Nat.le_refl _) (info_tab _ _ _) (tab_one _ _ _) _ _ rfl rfl rfl ?_
            intro w5 hg9 hs9 hb9
            rw [splice_tab] at hb9
            have HBM := Lib.hid (below_grown HBL.out hg9 (by have h2 := HBC.out.size; have h3 := HBK.out.size; omega))
            replace HO9 := Lib.hid (HO9.out.grown hg9 (fun ad e h => by injection h with h; first | (have := HLT9.out ad e; omega) | (have := HBA9.out ad e; omega)))
            replace HZ9 := Lib.hid hb9
            clear hg9 hs9 hb9
            refine hK _ _ ⟨HBM.out, ?_⟩
            clear hK K
            iterate 1 (refine wpO_step0 rfl rfl (fun K hK => ?_); go_simp; refine hK _ _ ?_; clear hK K)
            refine wpO_nil ?_
            go_wp2_with fail
            go_meet
            exact ⟨w2.heap.size, A7, n7, c7, rfl, rfl, HZ9.out, HO9.out, HBM.out⟩
        · refine wpO_step2 rfl rfl (HBD.out) (fun K hK => ?_)
          go_simp
          have hz9 := blk_new v3 (.cells (tabV none 0 0) 28)
          obtain ⟨w2, hw9⟩ : ∃ w9, (World.alloc v3 (.cells (tabV none 0 0) 28)).drew = w9 := ⟨_, rfl⟩
          have ha9 : Below (World.heap v3).size v3 w2 := hw9 ▸ below_step (below_alloc (Below.refl _ _) _) (below_drew1 _)
          have HBC := Lib.hid ha9
          rw [show (World.alloc v3 (.cells #[.slice none 0 0] 28)).drew = w2 from hw9]
          replace hz9 : (World.heap w2)[(World.heap v3).size]? = some (.cells (tabV none 0 0) 28 (0, 0)) := by rw [← hw9]; exact hz9
          have hzl9 := blk_lt hz9
          have HZ9 := Lib.hid hz9
          clear hw9 hz9 ha9
          refine hK _ _ ⟨HBC.out, ?_⟩
          clear hK K
          refine wpO_nil ?_
          refine wpO_step2 rfl rfl (HBC.out) (fun K hK => ?_)
          go_simp
          refine (copiedT_any A n c t _ (HT.out.below (below_step HBB.out HBC.out)) (by omega)).mono ?_
          rintro e w3 ⟨Ac, cc, rfl, hO9, hb9⟩
          have HBK := Lib.hid (below_step HBC.out hb9)
          have HCP := Lib.hid hO9.reads
          have hszc := hb9.size
          try replace HZ9 := Lib.hid (blk_below HZ9.out hb9)
          clear hO9 hb9
          refine hK _ _ ⟨HBK.out, ?_⟩
          clear hK K
          refine wpO_step2 rfl rfl (HBK.out) (fun K hK => ?_)
          go_simp
          refine (tdrop_any Ac n cc t p w3 (HL.out.below (below_step HBB.out HBK.out)) HCP.out hp (by omega)).mono ?_
          rintro e w4 ⟨A7, n7, c7, rfl, hO9, hb9⟩
          have HBL := Lib.hid (below_step HBK.out hb9)
          have HO9 := Lib.hid hO9.reads
          have HLT9 := Lib.hid hO9.lt
          have HBA9 := Lib.hid hO9.base_
          try replace HZ9 := Lib.hid (blk_below HZ9.out hb9)
          clear hO9 hb9
          refine hK _ _ ⟨HBL.out, ?_⟩
          clear hK K
          iterate 3 (refine wpO_step0 rfl rfl (fun K hK => ?_); go_simp; refine hK _ _ ?_; clear hK K)
          refine wpO_step2 rfl rfl (HBL.out) (fun K hK => ?_)
          rw [if_pos (show Region.wanted _ _ = true from rfl)]
          refine oper_store_blk HZ9.out 28 0 (tabV A7 n7 c7) (Nat.le_refl _) (info_tab _ _ _) (tab_one _ _ _) _ _ rfl rfl rfl ?_
          intro w5 hg9 hs9 hb9
          rw [splice_tab] at hb9
          have HBM := Lib.hid (below_grown HBL.out hg9 (by have h2 := HBC.out.size; have h3 := HBK.out.size; omega))
          replace HO9 := Lib.hid (HO9.out.grown hg9 (fun ad e h => by injection h with h; first | (have := HLT9.out ad e; omega) | (have := HBA9.out ad e; omega)))
          replace HZ9 := Lib.hid hb9
          clear hg9 hs9 hb9
          refine hK _ _ ⟨HBM.out, ?_⟩
          clear hK K
          iterate 1 (refine wpO_step0 rfl rfl (fun K hK => ?_); go_simp; refine hK _ _ ?_; clear hK K)
          refine wpO_nil ?_
          go_wp2_with fail
          go_meet
          exact ⟨v3.heap.size, A7, n7, c7, rfl, rfl, HZ9.out, HO9.out, HBM.out⟩
      case rest =>
        obtain ⟨g5, A5, n5, c5, rfl, rfl, HC⟩ := hcut
        obtain ⟨v4, rfl⟩ : ∃ v4, v4 = wc := ⟨wc, rfl⟩
        have hn5 : n5 ≤ 200 := by
          rw [← HC.out.2.1.len]
          have := dropL_len t p
          rw [HT.out.len] at this
          omega
        have HBV := Lib.hid (below_step HB4.out HC.out.2.2)
        have hl1 := (HP1.out.all v4 HBV.out).1
        have hl2 := (HP2.out.all v4 HBV.out).2.2.2.2
        rw [HC1.out] at hl1
        rw [HC2.out] at hl2
        go_wp2_with (first | ((with_reducible show wpList _ _ _ (Oper.mk _ (Op.load _ _) _ _ _ _ :: _) _ _); refine wpList_load_g hl1 _ rfl rfl (by go_simp) ?_) | ((with_reducible show wpList _ _ _ (Oper.mk _ (Op.load _ _) _ _ _ _ :: _) _ _); refine wpList_load_g hl2 _ rfl rfl (by go_simp) ?_))
        have hpl := refdrop_any A n c t p v4 (HT.out.below HBV.out) OKS.out hpo (by omega)
        rw [HC1.out, HC2.out] at hpl
        refine hpl.mono ?_
        clear hpl hl1 hl2
        rintro e v5 ⟨A6, n6, c6, rfl, hO6, hb6⟩
        have HO6 := Lib.hid hO6
        have HBV6 := Lib.hid (below_step HBV.out hb6)
        have hb46 := below_step HC.out.2.2 hb6
        have HG1 := Lib.hid (blk_below HG4.out hb46)
        have HR1 := Lib.hid (HR4.out.below hb46)
        have HG3 := Lib.hid (blk_below HZ4.out hb46)
        have HR3 := Lib.hid (HO4.out.below hb46)
        have HG5 := Lib.hid (blk_below HC.out.1 hb6)
        have HR5 := Lib.hid (HC.out.2.1.below hb6)
        have hn6 : n6 ≤ 200 := by
          rw [← HO6.out.len]
          have := dropL_len t p
          rw [HT.out.len] at this
          omega
        have hz6 := blk_new v5 (.cells (tabV none 0 0) 28)
        clear hO6 hb6 HC hb46 HG4 HR4 HZ4 HO4 HBV
        go_upto_region 9 with (first | ((with_reducible show wpList _ _ _ (Oper.mk _ (Op.store _ _ _) _ _ _ _ :: _) _ _); refine wpList_store_blk hz6 28 0 (tabV A6 n6 c6) (Nat.le_refl _) (info_tab _ _ _) (tab_one _ _ _) _ _ rfl rfl rfl rfl ?_; intro v6 hg9 hs9 hb9; rw [splice_tab] at hb9; have H7 := Lib.hid (And.intro hg9 hb9); clear hg9 hs9 hb9))
        have hb67 : Below v5.heap.size v5 v6 := below_grown (below_alloc (Below.refl _ _) _) H7.out.1 (Nat.le_refl _)
        have HB7 := Lib.hid (below_step HBV6.out hb67)
        have HR7 := Lib.hid (HR1.out.below hb67)
        have HR8 := Lib.hid (HR3.out.below hb67)
        have HR9 := Lib.hid (HR5.out.below hb67)
        have HR10 := Lib.hid (HO6.out.reads.below hb67)
        have hla := load_tab (blk_below HG1.out hb67)
        have hlb := load_tab (blk_below HG3.out hb67)
        have hlcB := blk_below HG5.out hb67
        have HLC := Lib.hid hlcB
        have HLD := Lib.hid H7.out.2
        have ho1 := oks_set (h := h) OKS.out hpo HT.out.fits
        have ho2 := oks_drop (p := p) OKS.out
        have HO1 := Lib.hid ho1
        have HO2 := Lib.hid ho2
        clear hz6 hb67 H7 HG1 HR1 HG3 HR3 HG5 HR5 HO6 hlcB ho1 ho2
        go_wp2_with (first | ((with_reducible show wpList _ _ _ (Oper.mk _ (Op.load _ _) _ _ _ _ :: _) _ _); refine wpList_load_g hla _ rfl rfl (by go_simp) ?_) | ((with_reducible show wpList _ _ _ (Oper.mk _ (Op.load _ _) _ _ _ _ :: _) _ _); refine wpList_load_g hlb _ rfl rfl (by go_simp) ?_))
        refine (refsameT_any A1 n1 c1 (setL t p h) A3 n3 c3 (setL t p h) v6 HR7.out HR8.out HO1.out HO1.out (by omega) (by omega)).mono ?_
        rw [(rowE.eqL_iff _ _).2 rfl]
        rintro e v7 ⟨rfl, hb7⟩
        have HB8 := Lib.hid (below_step HB7.out hb7)
        have hlc := load_tab (blk_below HLC.out hb7)
        have hld := load_tab (blk_below HLD.out hb7)
        have HR11 := Lib.hid (HR9.out.below hb7)
        have HR12 := Lib.hid (HR10.out.below hb7)
        clear hb7 hla hlb
        go_wp2_with (first | ((with_reducible show wpList _ _ _ (Oper.mk _ (Op.load _ _) _ _ _ _ :: _) _ _); refine wpList_load_g hlc _ rfl rfl (by go_simp) ?_) | ((with_reducible show wpList _ _ _ (Oper.mk _ (Op.load _ _) _ _ _ _ :: _) _ _); refine wpList_load_g hld _ rfl rfl (by go_simp) ?_))
        refine (refsameT_any A5 n5 c5 (dropL t p) A6 n6 c6 (dropL t p) v7 HR11.out HR12.out HO2.out HO2.out (by omega) (by omega)).mono ?_
        rw [(rowE.eqL_iff _ _).2 rfl]
        rintro e v8 ⟨rfl, hb8⟩
        have HB9 := Lib.hid (below_step HB8.out hb8)
        clear hb8 hlc hld
        go_wp2_with fail
        refine wp_region_mix (fun w0 => Below (v8).heap.size (v8) w0) [(0, 0), (2, 0), (1, 2), (3, 2), (4, 0), (5, 0), (6, 0), (7, 0), (8, 0)] (by kernel_rfl) (by kernel_rfl) (below_drew1 _) ?_
        simp only [List.map_cons, List.map_nil]
        refine wpO_loadW (t := 28) (ad := ⟨w.heap.size, 0, none⟩) rfl rfl ?hw rfl rfl ((fun w0 hS => (HP1.out.all w0 (below_step HB9.out hS)).1)) ?_
        case hw => go_simp
        refine wpO_loadW (t := 36) (ad := ⟨(w.heap.size+1), 0, none⟩) rfl rfl ?hw rfl rfl ((fun w0 hS => (HP2.out.all w0 (below_step HB9.out hS)).2.2.2.2)) ?_
        case hw => go_simp
        refine wpO_step2 rfl rfl (below_drew1 _) (fun K hK => ?_)
        go_simp
        refine (copiedT_any A n c t _ (HT.out.below (below_step HB9.out (below_drew1 _))) (by omega)).mono ?_
        rintro e v9 ⟨Ac, cc, rfl, hO9, hb9⟩
        have HB10 := Lib.hid (below_step (below_drew1 _) hb9)
        have HCP := Lib.hid hO9.reads
        clear hO9 hb9
        refine hK _ _ ⟨HB10.out, ?_⟩
        clear hK K
        refine wpO_step2 rfl rfl (HB10.out) (fun K hK => ?_)
        go_simp
        refine (tget_any Ac n cc t p v9 (HL.out.below (below_step HB9.out HB10.out)) HCP.out hp (by omega)).mono ?_
        rintro e v10 ⟨rfl, hb10⟩
        have HB11 := Lib.hid (below_step HB10.out hb10)
        clear hb10
        refine hK _ _ ⟨HB11.out, ?_⟩
        clear hK K
        iterate 5 (refine wpO_step0 rfl rfl (fun K hK => ?_); go_simp; refine hK _ _ ?_; clear hK K)
        refine wpO_nil ?_
        have HB12 := Lib.hid (below_step HB9.out HB11.out)
        have hl1 := (HP1.out.all v10 HB12.out).1
        rw [HC1.out] at hl1
        go_wp2_with (first | ((with_reducible show wpList _ _ _ (Oper.mk _ (Op.load _ _) _ _ _ _ :: _) _ _); refine wpList_load_g hl1 _ rfl rfl (by go_simp) ?_))
        have hpl := refRight_any A n c t v10 (HT.out.below HB12.out) OKS.out (by omega)
        rw [HC1.out] at hpl
        refine hpl.mono ?_
        clear hpl hl1
        rintro e v11 ⟨rfl, hb11⟩
        have HB13 := Lib.hid (below_step HB12.out hb11)
        clear hb11
        cases hR : tabB t with
        | false =>
          have hE : tgetN t p = 0 ∧ tgetB t p = false := by unfold tgetN tgetB; rw [hR]; exact ⟨rfl, rfl⟩
          rw [hE.1, hE.2]
          clear hE hR
          go_wp2
          go_ret
          exact ⟨rfl, below_step HBE.out HB13.out⟩
        | true =>
          have hE : tgetN t p = getT t p ∧ tgetB t p = decide (0 < getT t p) := by unfold tgetN tgetB; rw [hR, there_get hR]; exact ⟨rfl, by simp⟩
          have hgt : getR t p = getT t p := getR_get hp HT.out.fits (tabB_to hR).2.2
          rw [hE.1, hE.2]
          have HGT := Lib.hid hgt
          obtain ⟨G, hG⟩ : ∃ G, getT t p = G := ⟨_, rfl⟩
          rw [hG] at HGT ⊢
          have hl1 := (HP1.out.all v11 HB13.out).1
          have hl2 := (HP2.out.all v11 HB13.out).2.2.2.2
          rw [HC1.out] at hl1
          rw [HC2.out] at hl2
          clear hE hR hgt hG
          go_wp2_with (first | ((with_reducible show wpList _ _ _ (Oper.mk _ (Op.load _ _) _ _ _ _ :: _) _ _); refine wpList_load_g hl1 _ rfl rfl (by go_simp) ?_) | ((with_reducible show wpList _ _ _ (Oper.mk _ (Op.load _ _) _ _ _ _ :: _) _ _); refine wpList_load_g hl2 _ rfl rfl (by go_simp) ?_))
          have hpl := refget_any A n c t p v11 (HT.out.below HB13.out) OKS.out hpo (by omega)
          rw [HC1.out, HC2.out, HGT.out] at hpl
          refine hpl.mono ?_
          clear hpl hl1 hl2
          rintro e v12 ⟨rfl, hb12⟩
          have HB14 := Lib.hid (below_step HB13.out hb12)
          clear hb12
          go_wp2
          go_ret
          exact ⟨by simp, below_step HBE.out HB14.out⟩
end Go.Proofs.YtihfaknflfmohaaDoor

/- Layer 9 (table): the walk of TableLongest. -/
namespace Go.Proofs.YtihfaknflfmohaaDoor
open Go.RowKit
set_option linter.unusedVariables false
set_option linter.unusedSimpArgs false
set_option maxRecDepth 4000
def metB (v : Int) (l : List Int) (m : Row) (t : List Row) : Bool := t.any fun x => x.p.has v l && rowE.eqB x m
theorem metB_succ (v : Int) (l : List Int) (m : Row) {t : List Row} {i : Nat} (hi : i < t.length) : metB v l m (t.take (i + 1)) = (metB v l m (t.take i) || ((rowAt t i).p.has v l && rowE.eqB (rowAt t i) m)) := by
  unfold metB
  rw [show t.take (i + 1) = t.take i ++ [rowAt t i] from Shape.take_succ (S := rowK) hi, List.any_append]
  simp
theorem long_top_of {t : List Row} {v : Int} {l : List Int} {x : Row} (hx : x ∈ t) (hh : x.p.has v l = true) : longB t v l = true ∧ ¬ (longR t v l).p.b < x.p.b := by
  unfold longB longR
  rcases longest_spec v l t with ⟨h1, h2⟩ | ⟨i, r, h1, h2⟩
  · rw [h2 x hx] at hh; cases hh
  · rw [h1]
    obtain ⟨j, hj, rfl⟩ := List.getElem_of_mem hx
    have := (h2.top j _ (List.getElem?_eq_getElem hj) hh).1
    exact ⟨rfl, by simp only [Option.getD_some]; omega⟩
theorem metB_all {t : List Row} {v : Int} {l : List Int} : metB v l (longR t v l) t = longB t v l := by
  cases hb : longB t v l with
  | true =>
    unfold metB
    rw [List.any_eq_true]
    refine ⟨_, long_mem hb, ?_⟩
    rw [row_same]
    unfold longB at hb
    unfold longR
    rcases longest_spec v l t with ⟨h1, _⟩ | ⟨i, r, h1, h2⟩
    · rw [h1] at hb; cases hb
    · rw [h1]
      simp [h2.has]
  | false =>
    unfold metB
    rw [List.any_eq_false]
    intro x hx hh
    simp only [Bool.and_eq_true] at hh
    rw [(long_top_of hx hh.1).1] at hb
    cases hb
theorem longE_zero {t : List Row} {v : Int} {l : List Int} (h : longE t v l = 0) : tabB t = true ∧ rightA v l = true := by
  unfold longE at h
  cases hb : tabB t with
  | false => rw [hb] at h; cases h
  | true =>
    rw [hb, if_pos rfl] at h
    cases ha : rightA v l with
    | true => exact ⟨rfl, rfl⟩
    | false => rw [errA_false ha] at h; cases h
theorem longBE_no {t : List Row} {v : Int} {l : List Int} (h : longE t v l ≠ 0) : longBE t v l = false := by
  unfold longBE
  rw [if_neg h]
theorem setE_zero {t : List Row} {p : Pfx} {h : Int} (he : setE t p h = 0) : tabB t = true ∧ p.right = true ∧ 1 ≤ h ∧ h ≤ 255 ∧ (thereB t p = true ∨ t.length ≠ 40) := by
  unfold setE at he
  cases hb : tabB t with
  | false => rw [hb] at he; cases he
  | true =>
    rw [hb, if_pos rfl] at he
    split at he
    · rename_i hx
      split at he
      · cases he
      · rename_i hy
        refine ⟨rfl, hx.1, hx.2.1, hx.2.2, ?_⟩
        cases hth : thereB t p with
        | true => exact .inl rfl
        | false => exact .inr (fun hl => hy ⟨hth, hl⟩)
    · cases he
theorem set_no {t : List Row} {r : Row} {v : Int} {l : List Int} (hf : Fits t) (hr : r.fits) (ht : tabB t = true) (hh : r.p.has v l = false) : longR (setT t r.p r.h) v l = longR t v l ∧ longB (setT t r.p r.h) v l = longB t v l := by
  have h := longest_set (v := v) (l := l) (h := r.h) hr hf (tabB_to ht).2.2
  rw [hh] at h
  unfold longR longB
  rw [h]
  exact ⟨rfl, rfl⟩
theorem set_stay {t : List Row} {r : Row} {v : Int} {l : List Int} (hf : Fits t) (hr : r.fits) (ht : tabB t = true) (hh : r.p.has v l = true) (hb : longB t v l = true) (hc : r.p.b < (longR t v l).p.b) : longR (setT t r.p r.h) v l = longR t v l ∧ longB (setT t r.p r.h) v l = true := by
  have h := longest_set (v := v) (l := l) (h := r.h) hr hf (tabB_to ht).2.2
  rw [hh, if_pos rfl] at h
  unfold longR longB at *
  rw [h]
  cases hx : longest t v l with
  | none => rw [hx] at hb; cases hb
  | some m =>
    rw [hx] at hc
    simp only [Option.getD_some] at hc
    simp [hc]
theorem set_new {t : List Row} {r : Row} {v : Int} {l : List Int} (hf : Fits t) (hr : r.fits) (ht : tabB t = true) (hh : r.p.has v l = true) (hc : longB t v l = false ∨ ¬ r.p.b < (longR t v l).p.b) : longR (setT t r.p r.h) v l = r ∧ longB (setT t r.p r.h) v l = true := by
  have h := longest_set (v := v) (l := l) (h := r.h) hr hf (tabB_to ht).2.2
  rw [hh, if_pos rfl] at h
  unfold longR longB at *
  rw [h]
  cases hx : longest t v l with
  | none => exact ⟨rfl, rfl⟩
  | some m =>
    rw [hx] at hc
    simp only [Option.getD_some, Option.isSome_some] at hc
    rcases hc with hc | hc
    · cases hc
    · simp [hc]
set_option maxRecDepth 100000 in
set_option maxHeartbeats 8000000 in
theorem tableLongest_any (A : Option Addr) (n c : Nat) (t : List Row) (v : Int) (l : List Int) (r : Row) (w : World) (hL : Laid w) (ht : RT w A n c t) (ot : Oks t) (hl : B16 l) (hro : r.ok) : Calls Tryd.prog 6 #[.agg (tabV A n c), .agg (adrV v l), .agg (rowV r)] w fun e w' => e = .returned (.bool true) ∧ Below w.heap.size w w' := by
  have hr := hro.fits
  have hblk1 := blk_new w (.cells (tabV A n c) 28)
  have hbel1 : Below w.heap.size w (w.alloc (.cells (tabV A n c) 28)) := below_alloc (Below.refl _ _) _
  have hblk2 := blk_new (w.alloc (.cells (tabV A n c) 28)) (.cells (adrV v l) 31)
  have hbel2 : Below w.heap.size w ((w.alloc (.cells (tabV A n c) 28)).alloc (.cells (adrV v l) 31)) := below_alloc (hbel1) _
  rw [show (w.alloc (.cells (tabV A n c) 28)).heap.size = w.heap.size + 1 by simp] at hblk2
  replace hblk1 := blk_below hblk1 (below_alloc (Below.refl _ _) (.cells (adrV v l) 31))
  have hblk3 := blk_new ((w.alloc (.cells (tabV A n c) 28)).alloc (.cells (adrV v l) 31)) (.cells (rowV r) 38)
  have hbel3 : Below w.heap.size w (((w.alloc (.cells (tabV A n c) 28)).alloc (.cells (adrV v l) 31)).alloc (.cells (rowV r) 38)) := below_alloc (hbel2) _
  rw [show ((w.alloc (.cells (tabV A n c) 28)).alloc (.cells (adrV v l) 31)).heap.size = w.heap.size + 2 by simp] at hblk3
  replace hblk1 := blk_below hblk1 (below_alloc (Below.refl _ _) (.cells (rowV r) 38))
  replace hblk2 := blk_below hblk2 (below_alloc (Below.refl _ _) (.cells (rowV r) 38))
  have HP1 := Lib.hid (tab_at hblk1)
  have HBK1 := Lib.hid hblk1
  have HP2 := Lib.hid (adr_at hl hblk2)
  have HBK2 := Lib.hid hblk2
  have HP3 := Lib.hid (row_at hr hblk3)
  have HBK3 := Lib.hid hblk3
  have HBE := Lib.hid hbel3
  have HL := Lib.hid (hL.below HBE.out)
  obtain ⟨cs1, hcs1⟩ : ∃ cs, tabV A n c = cs := ⟨_, rfl⟩
  obtain ⟨cs2, hcs2⟩ : ∃ cs, adrV v l = cs := ⟨_, rfl⟩
  obtain ⟨cs3, hcs3⟩ : ∃ cs, rowV r = cs := ⟨_, rfl⟩
  simp only [hcs1, hcs2, hcs3] at HBE HL HP1 HP2 HP3 HBK1 HBK2 HBK3 ⊢
  have HC1 := Lib.hid hcs1
  have HC2 := Lib.hid hcs2
  have HC3 := Lib.hid hcs3
  clear hL hcs1 hblk1 hbel1 hcs2 hblk2 hbel2 hcs3 hblk3 hbel3
  have HT := Lib.hid (ht.below HBE.out)
  have OKS := Lib.hid ot
  clear ht ot
  have hRf := longRE_fits HT.out.fits v l
  have HOK := Lib.hid (longRE_ok OKS.out v l)
  go_enter Tryd.func6, Tryd.ntmps6
  go_wp2_with fail
  refine (wakes09_any _ HL.out).mono ?_
  rintro e w1 ⟨rfl, hb1⟩
  have HB1 := Lib.hid hb1
  have hl1 := (HP1.out.all w1 HB1.out).2
  have hl2 := (HP1.out.all w1 HB1.out).1
  have hl3 := (HP2.out.all w1 HB1.out).1
  rw [HC1.out] at hl2
  rw [HC2.out] at hl3
  clear hb1
  by_cases hn : 200 < n
  · have hn' : decide ((200 : Int) < n) = true := decide_eq_true (by omega)
    go_wp2_with (first | ((with_reducible show wpList _ _ _ (Oper.mk _ (Op.load _ _) _ _ _ _ :: _) _ _); refine wpList_load_g hl1 _ rfl rfl (by go_simp) ?_))
    go_ret
    exact ⟨rfl, below_step HBE.out HB1.out⟩
  · have hn' : decide ((200 : Int) < n) = false := decide_eq_false (by omega)
    have hn200 : n ≤ 200 := by omega
    clear hn
    go_wp2_with (first | ((with_reducible show wpList _ _ _ (Oper.mk _ (Op.load _ _) _ _ _ _ :: _) _ _); refine wpList_load_g hl1 _ rfl rfl (by go_simp) ?_) | ((with_reducible show wpList _ _ _ (Oper.mk _ (Op.load _ _) _ _ _ _ :: _) _ _); refine wpList_load_g hl2 _ rfl rfl (by go_simp) ?_) | ((with_reducible show wpList _ _ _ (Oper.mk _ (Op.load _ _) _ _ _ _ :: _) _ _); refine wpList_load_g hl3 _ rfl rfl (by go_simp) ?_))
    have hpl := tlongest_any A n c t v l w1 (HL.out.below HB1.out) (HT.out.below HB1.out) hl (by omega)
    rw [HC1.out, HC2.out] at hpl
    refine hpl.mono ?_
    clear hpl hl1 hl2 hl3
    rintro e w2 ⟨rfl, hb2⟩
    have HB2 := Lib.hid (below_step HB1.out hb2)
    clear hb2
    obtain ⟨TE, hTE⟩ : ∃ TE, longE t v l = TE := ⟨_, rfl⟩
    obtain ⟨TR, hTR⟩ : ∃ TR, longRE t v l = TR := ⟨_, rfl⟩
    obtain ⟨TB, hTB⟩ : ∃ TB, longBE t v l = TB := ⟨_, rfl⟩
    rw [hTR] at hRf HOK
    rw [hTE, hTR, hTB]
    have HTE := Lib.hid (And.intro hTE (And.intro hTR hTB))
    clear hTE hTR hTB
    go_upto_region 6 with (first | ((with_reducible show wpList _ _ _ (Oper.mk _ (Op.store _ _ _) _ _ _ _ :: _) _ _); refine wpList_store_blk (blk_new w2 _) 38 0 (rowV TR) (store_row_fit hRf rfl) (info_row hRf) (rowV_one _) _ _ rfl rfl rfl rfl ?_; intro w3 hg9 hs9 hb9; rw [splice_row hRf rfl] at hb9; have H3 := Lib.hid (And.intro hg9 hb9); clear hg9 hs9 hb9))
    have HB3 := Lib.hid (below_grown (below_step HB2.out (below_alloc (Below.refl _ _) (.cells (rowV rowZ) 38))) H3.out.1 HB2.out.size)
    have HG3 := Lib.hid H3.out.2
    clear H3
    by_cases hE : TE = 0
    · subst hE
      obtain ⟨hR, hra⟩ := longE_zero HTE.out.1
      have HRA := Lib.hid hra
      have hup := (tabB_to hR).2.2
      have HTR : Hid (longR t v l = TR ∧ longB t v l = TB) := Lib.hid ⟨by rw [← HTE.out.2.1]; exact (longE_ok hR hra).2.1.symm, by rw [← HTE.out.2.2]; exact (longE_ok hR hra).2.2.symm⟩
      have HR := Lib.hid hR
      have hl1 := (HP1.out.all w3 HB3.out).2
      clear hR hra hup
      go_wp2_with (first | ((with_reducible show wpList _ _ _ (Oper.mk _ (Op.load _ _) _ _ _ _ :: _) _ _); refine wpList_load_g hl1 _ rfl rfl (by go_simp) ?_))
      clear hl1
      go_loopw [10, 36] (fun y x wr => ∃ (i : Nat), x = .int .i64 i ∧ y = .bool (metB v l TR (t.take i)) ∧ Hid (i ≤ n ∧ Below w3.heap.size w3 wr)) (fun _ x _ => n - (intOf x).toNat)
      case atStart => exact ⟨0, rfl, rfl, Nat.zero_le _, Below.refl _ _⟩
      case round =>
        obtain ⟨i, rfl, rfl, HH⟩ := hrel
        have HBR := Lib.hid (below_step HB3.out HH.out.2)
        by_cases hlt : i < n
        · have hlt' : (i : Int) < n := by omega
          obtain ⟨b, o, rfl, hc⟩ := RT.at_ HT.out (by omega)
          have HC3' := Lib.hid (hc i hlt)
          have HF := Lib.hid (RT.fits_at HT.out hlt)
          have hrow := (rowLd_of HF.out (HC3'.out.below HBR.out)).row
          have hilt : i < t.length := by rw [HT.out.len]; exact hlt
          have HMS := Lib.hid (metB_succ v l TR hilt)
          have HRO := Lib.hid (OKS.out.at_ hilt)
          have HTOP := Lib.hid (fun hh => long_top_of (v := v) (l := l) (row_mem hilt) hh)
          obtain ⟨met, hmet⟩ : ∃ met, metB v l TR (t.take i) = met := ⟨_, rfl⟩
          rw [hmet] at HMS ⊢
          clear hc hilt hmet
          go_wp2_with (first | ((with_reducible show wpList _ _ _ (Oper.mk _ (Op.load _ _) _ _ _ _ :: _) _ _); refine wpList_load_g hrow _ rfl rfl (by go_simp) ?_) | ((with_reducible show wpList _ _ _ (Oper.mk _ (Op.store _ _ _) _ _ _ _ :: _) _ _); refine wpList_store_blk (blk_new wr _) 38 0 (rowV (rowAt t i)) (store_row_fit HF.out rfl) (info_row HF.out) (rowV_one _) _ _ rfl rfl rfl rfl ?_; intro v3 hg9 hs9 hb9; rw [splice_row HF.out rfl] at hb9; have K3 := Lib.hid (And.intro hg9 hb9); clear hg9 hs9 hb9) | ((with_reducible show wpList _ _ _ (Oper.mk _ (Op.load _ _) _ _ _ _ :: _) _ _); refine wpList_load_g (((row_at HF.out K3.out.2).all _ (Below.refl _ _)).pfx) _ rfl rfl (by go_simp) ?_) | (((with_reducible show wpList _ _ _ (Oper.mk _ (Op.load _ _) _ _ _ _ :: _) _ _); refine wpList_load_g ((HP2.out.all v3 (below_grown (below_step HBR.out (below_alloc (Below.refl _ _) _)) K3.out.1 (HBR.out.size))).1) _ rfl rfl (by go_simp) ?_)))
          have HK3 := Lib.hid (below_grown (below_alloc (Below.refl wr.heap.size wr) (.cells (rowV rowZ) 38)) K3.out.1 (Nat.le_refl _))
          refine (has_any (rowAt t i).p v l v3 (HL.out.below (below_step HBR.out HK3.out)) HF.out hl).mono ?_
          rintro e v4 ⟨rfl, hb4⟩
          have HK4 := Lib.hid (below_step HK3.out hb4)
          have HR4 := Lib.hid (row_at HF.out (blk_below K3.out.2 hb4))
          have HG4 := Lib.hid (row_at hRf (blk_below HG3.out (below_step HH.out.2 HK4.out)))
          clear hb4 hrow K3
          cases hh : (rowAt t i).p.has v l with
          | false =>
            have hms := HMS.out
            rw [hh, Bool.false_and, Bool.or_false] at hms
            have HMS2 := Lib.hid hms
            clear hh hms
            go_wp2_with fail
            go_roundw
            case measure => simp [intOf]; omega
            case rel => exact ⟨i + 1, by go_num, by rw [HMS2.out], by omega, below_step HH.out.2 HK4.out⟩
          | true =>
            obtain ⟨htb, htc⟩ := HTOP.out hh
            rw [HTR.out.2] at htb
            rw [HTR.out.1] at htc
            subst htb
            have hms := HMS.out
            rw [hh, Bool.true_and] at hms
            have HMS2 := Lib.hid hms
            have htc' : decide (TR.p.b < (rowAt t i).p.b) = false := decide_eq_false (by omega)
            have hlb := (HR4.out.all v4 (Below.refl _ _)).bit
            have hlc := (HG4.out.all v4 (Below.refl _ _)).bit
            have hle := (HR4.out.all v4 (Below.refl _ _)).row
            have hlf := (HG4.out.all v4 (Below.refl _ _)).row
            clear hh hms htc
            cases met with
            | true =>
              go_wp2_with (first | ((with_reducible show wpList _ _ _ (Oper.mk _ (Op.load _ _) _ _ _ _ :: _) _ _); refine wpList_load_g hlb _ rfl rfl (by go_simp) ?_) | ((with_reducible show wpList _ _ _ (Oper.mk _ (Op.load _ _) _ _ _ _ :: _) _ _); refine wpList_load_g hlc _ rfl rfl (by go_simp) ?_))
              go_roundw
              case measure => simp [intOf]; omega
              case rel => exact ⟨i + 1, by go_num, by rw [HMS2.out]; rfl, by omega, below_step HH.out.2 HK4.out⟩
            | false =>
              go_wp2_with (first | ((with_reducible show wpList _ _ _ (Oper.mk _ (Op.load _ _) _ _ _ _ :: _) _ _); refine wpList_load_g hlb _ rfl rfl (by go_simp) ?_) | ((with_reducible show wpList _ _ _ (Oper.mk _ (Op.load _ _) _ _ _ _ :: _) _ _); refine wpList_load_g hlc _ rfl rfl (by go_simp) ?_) | ((with_reducible show wpList _ _ _ (Oper.mk _ (Op.load _ _) _ _ _ _ :: _) _ _); refine wpList_load_g hle _ rfl rfl (by go_simp) ?_) | ((with_reducible show wpList _ _ _ (Oper.mk _ (Op.load _ _) _ _ _ _ :: _) _ _); refine wpList_load_g hlf _ rfl rfl (by go_simp) ?_) | ((with_reducible show wpList _ _ _ (Oper.mk _ (Op.binOp _ 38 _ _ _) _ _ _ _ :: _) _ _); refine wpList_exw rfl (ShapeEq.eql rowE rfl (rowAt t i) TR rfl rfl HRO.out HOK.out _) ?_))
              go_roundw
              case measure => simp [intOf]; omega
              case rel => exact ⟨i + 1, by go_num, by rw [HMS2.out]; rfl, by omega, below_step HH.out.2 HK4.out⟩
        · have hlt' : decide (i < n) = false := decide_eq_false hlt
          have htk : t.take i = t := List.take_of_length_le (by rw [HT.out.len]; omega)
          have hmet : metB v l TR (t.take i) = TB := by rw [htk, ← HTR.out.1, metB_all, HTR.out.2]
          rw [hmet]
          have hl2 := (HP1.out.all wr HBR.out).1
          have hl3 := (HP3.out.all wr HBR.out).pfx
          have hl4 := (HP3.out.all wr HBR.out).hop
          rw [HC1.out] at hl2
          clear hlt htk hmet
          go_wp2_with (first | ((with_reducible show wpList _ _ _ (Oper.mk _ (Op.load _ _) _ _ _ _ :: _) _ _); refine wpList_load_g hl2 _ rfl rfl (by go_simp) ?_) | ((with_reducible show wpList _ _ _ (Oper.mk _ (Op.load _ _) _ _ _ _ :: _) _ _); refine wpList_load_g hl3 _ rfl rfl (by go_simp) ?_) | ((with_reducible show wpList _ _ _ (Oper.mk _ (Op.load _ _) _ _ _ _ :: _) _ _); refine wpList_load_g hl4 _ rfl rfl (by go_simp) ?_))
          have hpl := tset_any A n c t r.p r.h wr (HL.out.below HBR.out) (HT.out.below HBR.out) hr (by omega)
          rw [HC1.out] at hpl
          refine hpl.mono ?_
          clear hpl hl2 hl3 hl4
          rintro e v2 ⟨A2, n2, c2, rfl, hO2, hb2⟩
          have HB4 := Lib.hid (below_step HBR.out hb2)
          have HG4 := Lib.hid (blk_below HG3.out (below_step HH.out.2 hb2))
          have HO4 := Lib.hid hO2
          have hz2 := blk_new v2 (.cells (tabV none 0 0) 28)
          have hg4 := blk_lt HG4.out
          clear hO2 hb2
          obtain ⟨SE, hSE⟩ : ∃ SE, setE t r.p r.h = SE := ⟨_, rfl⟩
          rw [hSE]
          have HSE := Lib.hid hSE
          clear hSE
          go_upto_region 20 with (first | ((with_reducible show wpList _ _ _ (Oper.mk _ (Op.store _ _ _) _ _ _ _ :: _) _ _); refine wpList_store_blk hz2 28 0 (tabV A2 n2 c2) (Nat.le_refl _) (info_tab _ _ _) (tab_one _ _ _) _ _ rfl rfl rfl rfl ?_; intro v3 hg9 hs9 hb9; rw [splice_tab] at hb9; have K3 := Lib.hid (And.intro hg9 hb9); clear hg9 hs9 hb9))
          have hb23 : Below v2.heap.size v2 v3 := below_grown (below_alloc (Below.refl _ _) _) K3.out.1 (Nat.le_refl _)
          have HB5 := Lib.hid (below_step HB4.out hb23)
          have HG5 := Lib.hid (blk_below HG4.out hb23)
          have HO5 := Lib.hid (HO4.out.reads.below hb23)
          have HZ5 := Lib.hid K3.out.2
          clear hz2 hb23 K3 HG4 HO4 hg4
          by_cases hse : SE = 0
          · subst hse
            obtain ⟨z1, z2, z3, z4, z5⟩ := setE_zero HSE.out
            have hu : setL t r.p r.h = setT t r.p r.h := by unfold setL; rw [HSE.out, if_pos rfl]
            have hou := oks_set (h := r.h) OKS.out hro.p HT.out.fits
            have hO5 := HO5.out
            rw [hu] at hO5 hou
            have hn2 : n2 ≤ 201 := by
              rw [← hO5.len, len_setT, HT.out.len]
              split <;> omega
            have hut : tabB (setT t r.p r.h) = true := tabB_setT hr HT.out.fits z1 z2 z3 z4 z5
            have HO6 := Lib.hid hO5
            have HSN := Lib.hid (set_no (v := v) (l := l) HT.out.fits hr z1)
            have HSS := Lib.hid (set_stay (v := v) (l := l) HT.out.fits hr z1)
            have HSW := Lib.hid (set_new (v := v) (l := l) HT.out.fits hr z1)
            rw [HTR.out.1, HTR.out.2] at HSN HSS HSW
            obtain ⟨u, hu2⟩ : ∃ u, setT t r.p r.h = u := ⟨_, rfl⟩
            rw [hu2] at HO6 hut HSN HSS HSW hou
            obtain ⟨q1, q2, q3⟩ := longE_ok (v := v) (l := l) hut HRA.out
            have HUT := Lib.hid hut
            have hNf := longR_fits HO6.out.fits v l
            have HNO := Lib.hid (longR_ok hou v l)
            obtain ⟨NR, hNR⟩ : ∃ NR, longR u v l = NR := ⟨_, rfl⟩
            obtain ⟨NB, hNB⟩ : ∃ NB, longB u v l = NB := ⟨_, rfl⟩
            rw [hNR] at HSN HSS HSW hNf HNO q2
            rw [hNB] at HSN HSS HSW q3
            have HQ := Lib.hid (And.intro q1 (And.intro q2 q3))
            have hl3 := (HP2.out.all v3 HB5.out).1
            rw [HC2.out] at hl3
            clear z1 z2 z3 z4 z5 hu hO5 hu2 q1 q2 q3 hut hNR hNB HO5 hou
            go_wp2_with (first | ((with_reducible show wpList _ _ _ (Oper.mk _ (Op.load _ _) _ _ _ _ :: _) _ _); refine wpList_load_g (load_tab HZ5.out) _ rfl rfl (by go_simp) ?_) | ((with_reducible show wpList _ _ _ (Oper.mk _ (Op.load _ _) _ _ _ _ :: _) _ _); refine wpList_load_g hl3 _ rfl rfl (by go_simp) ?_))
            have hpl := tlongest_any A2 n2 c2 u v l v3 (HL.out.below HB5.out) HO6.out hl (by omega)
            rw [HC2.out, HQ.out.1, HQ.out.2.1, HQ.out.2.2] at hpl
            refine hpl.mono ?_
            clear hpl hl3
            rintro e v4 ⟨rfl, hb4⟩
            have HB6 := Lib.hid (below_step HB5.out hb4)
            have HG6 := Lib.hid (blk_below HG5.out hb4)
            have HZ6 := Lib.hid (blk_below HZ5.out hb4)
            have HO7 := Lib.hid (HO6.out.below hb4)
            clear hb4 HG5 HZ5
            go_upto_region 23 with (first | ((with_reducible show wpList _ _ _ (Oper.mk _ (Op.store _ _ _) _ _ _ _ :: _) _ _); refine wpList_store_blk (blk_new v4 _) 38 0 (rowV NR) (store_row_fit hNf rfl) (info_row hNf) (rowV_one _) _ _ rfl rfl rfl rfl ?_; intro v5 hg9 hs9 hb9; rw [splice_row hNf rfl] at hb9; have K5 := Lib.hid (And.intro hg9 hb9); clear hg9 hs9 hb9))
            have hb45 : Below v4.heap.size v4 v5 := below_grown (below_alloc (Below.refl _ _) _) K5.out.1 (Nat.le_refl _)
            have HB7 := Lib.hid (below_step HB6.out hb45)
            have HG7 := Lib.hid (blk_below HG6.out hb45)
            have HZ7 := Lib.hid (blk_below HZ6.out hb45)
            have HO8 := Lib.hid (HO7.out.below hb45)
            have HN7 := Lib.hid K5.out.2
            clear hb45 K5 HG6 HZ6 HO7
            go_wp2_with (first | ((with_reducible show wpList _ _ _ (Oper.mk _ (Op.load _ _) _ _ _ _ :: _) _ _); refine wpList_load_g (load_tab HZ7.out) _ rfl rfl (by go_simp) ?_))
            refine (tcheck_any A2 n2 c2 u v5 (HL.out.below HB7.out) HO8.out (by omega)).mono ?_
            rw [errT_true HUT.out]
            rintro e v6 ⟨rfl, hb6⟩
            have HB8 := Lib.hid (below_step HB7.out hb6)
            have HG8 := Lib.hid (blk_below HG7.out hb6)
            have HN8 := Lib.hid (blk_below HN7.out hb6)
            have hl3 := (HP2.out.all v6 HB8.out).1
            rw [HC2.out] at hl3
            have hl4 := (HP3.out.all v6 HB8.out).pfx
            clear hb6 HG7 HN7 HO8 HZ7
            go_wp2_with (first | ((with_reducible show wpList _ _ _ (Oper.mk _ (Op.load _ _) _ _ _ _ :: _) _ _); refine wpList_load_g hl3 _ rfl rfl (by go_simp) ?_) | ((with_reducible show wpList _ _ _ (Oper.mk _ (Op.load _ _) _ _ _ _ :: _) _ _); refine wpList_load_g hl4 _ rfl rfl (by go_simp) ?_))
            have hpl := has_any r.p v l v6 (HL.out.below HB8.out) hr hl
            rw [HC2.out] at hpl
            refine hpl.mono ?_
            clear hpl hl3 hl4
            rintro e v7 ⟨rfl, hb7⟩
            have HB9 := Lib.hid (below_step HB8.out hb7)
            have hlm := ((row_at hRf (blk_below HG8.out hb7)).all v7 (Below.refl _ _)).row
            have hlmb := ((row_at hRf (blk_below HG8.out hb7)).all v7 (Below.refl _ _)).bit
            have hln := ((row_at hNf (blk_below HN8.out hb7)).all v7 (Below.refl _ _)).row
            have hlr := (HP3.out.all v7 HB9.out).row
            have hlrb := (HP3.out.all v7 HB9.out).bit
            clear hb7 HG8 HN8
            cases hh : r.p.has v l with
            | false =>
              obtain ⟨e1, e2⟩ := HSN.out hh
              subst e1 e2
              clear hh hlmb hlr hlrb
              go_wp2_with (first | ((with_reducible show wpList _ _ _ (Oper.mk _ (Op.load _ _) _ _ _ _ :: _) _ _); refine wpList_load_g hln _ rfl rfl (by go_simp) ?_) | ((with_reducible show wpList _ _ _ (Oper.mk _ (Op.load _ _) _ _ _ _ :: _) _ _); refine wpList_load_g hlm _ rfl rfl (by go_simp) ?_) | ((with_reducible show wpList _ _ _ (Oper.mk _ (Op.binOp _ 38 _ _ _) _ _ _ _ :: _) _ _); refine wpList_exw rfl (ShapeEq.eql rowE rfl NR NR rfl rfl HNO.out HNO.out _) ?_))
              go_ret
              exact ⟨by rw [row_same]; rfl, below_step HBE.out HB9.out⟩
            | true =>
              cases TB with
              | true =>
                by_cases hcb : r.p.b < TR.p.b
                · obtain ⟨e1, e2⟩ := HSS.out hh rfl hcb
                  subst e1 e2
                  have hcb' : decide (r.p.b < NR.p.b) = true := decide_eq_true hcb
                  clear hh hlr hcb
                  go_wp2_with (first | ((with_reducible show wpList _ _ _ (Oper.mk _ (Op.load _ _) _ _ _ _ :: _) _ _); refine wpList_load_g hlmb _ rfl rfl (by go_simp) ?_) | ((with_reducible show wpList _ _ _ (Oper.mk _ (Op.load _ _) _ _ _ _ :: _) _ _); refine wpList_load_g hlrb _ rfl rfl (by go_simp) ?_) | ((with_reducible show wpList _ _ _ (Oper.mk _ (Op.load _ _) _ _ _ _ :: _) _ _); refine wpList_load_g hln _ rfl rfl (by go_simp) ?_) | ((with_reducible show wpList _ _ _ (Oper.mk _ (Op.load _ _) _ _ _ _ :: _) _ _); refine wpList_load_g hlm _ rfl rfl (by go_simp) ?_) | ((with_reducible show wpList _ _ _ (Oper.mk _ (Op.binOp _ 38 _ _ _) _ _ _ _ :: _) _ _); refine wpList_exw rfl (ShapeEq.eql rowE rfl NR NR rfl rfl HNO.out HNO.out _) ?_))
                  go_ret
                  exact ⟨by rw [row_same]; rfl, below_step HBE.out HB9.out⟩
                · obtain ⟨e1, e2⟩ := HSW.out hh (.inr (by omega))
                  subst e1 e2
                  have hcb' : decide (NR.p.b < TR.p.b) = false := decide_eq_false hcb
                  clear hh hcb
                  go_wp2_with (first | ((with_reducible show wpList _ _ _ (Oper.mk _ (Op.load _ _) _ _ _ _ :: _) _ _); refine wpList_load_g hlmb _ rfl rfl (by go_simp) ?_) | ((with_reducible show wpList _ _ _ (Oper.mk _ (Op.load _ _) _ _ _ _ :: _) _ _); refine wpList_load_g hlrb _ rfl rfl (by go_simp) ?_) | ((with_reducible show wpList _ _ _ (Oper.mk _ (Op.load _ _) _ _ _ _ :: _) _ _); refine wpList_load_g hln _ rfl rfl (by go_simp) ?_) | ((with_reducible show wpList _ _ _ (Oper.mk _ (Op.load _ _) _ _ _ _ :: _) _ _); refine wpList_load_g hlr _ rfl rfl (by go_simp) ?_) | ((with_reducible show wpList _ _ _ (Oper.mk _ (Op.binOp _ 38 _ _ _) _ _ _ _ :: _) _ _); refine wpList_exw rfl (ShapeEq.eql rowE rfl NR NR rfl rfl HNO.out HNO.out _) ?_))
                  go_ret
                  exact ⟨by rw [row_same]; rfl, below_step HBE.out HB9.out⟩
              | false =>
                obtain ⟨e1, e2⟩ := HSW.out hh (.inl rfl)
                subst e1 e2
                clear hh hlmb hlrb
                go_wp2_with (first | ((with_reducible show wpList _ _ _ (Oper.mk _ (Op.load _ _) _ _ _ _ :: _) _ _); refine wpList_load_g hln _ rfl rfl (by go_simp) ?_) | ((with_reducible show wpList _ _ _ (Oper.mk _ (Op.load _ _) _ _ _ _ :: _) _ _); refine wpList_load_g hlr _ rfl rfl (by go_simp) ?_) | ((with_reducible show wpList _ _ _ (Oper.mk _ (Op.binOp _ 38 _ _ _) _ _ _ _ :: _) _ _); refine wpList_exw rfl (ShapeEq.eql rowE rfl NR NR rfl rfl HNO.out HNO.out _) ?_))
                go_ret
                exact ⟨by rw [row_same]; rfl, below_step HBE.out HB9.out⟩
          · have hse' : (SE != 0) = true := by simpa using hse
            clear hse
            go_wp2
            go_ret
            exact ⟨rfl, below_step HBE.out HB5.out⟩
    · have hE' : (TE != 0) = true := by simpa using hE
      have htb := longBE_no (t := t) (v := v) (l := l) (by rw [HTE.out.1]; exact hE)
      rw [HTE.out.2.2] at htb
      subst htb
      clear hE
      go_wp2
      go_ret
      exact ⟨rfl, below_step HBE.out HB3.out⟩
end Go.Proofs.YtihfaknflfmohaaDoor

/- The walk of TableLongest, as the row asks it. -/
namespace Go.Proofs.YtihfaknflfmohaaDoor
open Go.RowKit
set_option linter.unusedVariables false
set_option linter.unusedSimpArgs false
set_option maxRecDepth 4000
theorem tableLongest_walk (A : Option Addr) (n c : Nat) (t : List Row) (v : Int) (l : List Int) (r : Row) (w : World) (hL : Laid w) (ht : RT w A n c t) (ot : Oks t) (hy : n * 40 ≤ 140737488351232) (hl : B16 l) (hv : (Lit.int .i64 v).wf = true) (hr : r.ok) : Calls Tryd.prog 6 #[.agg (tabV A n c), .agg (adrV v l), .agg (rowV r)] w fun e w' => e = .returned (.bool true) ∧ Below w.heap.size w w' := tableLongest_any A n c t v l r w hL ht ot hl hr
end Go.Proofs.YtihfaknflfmohaaDoor
