/- Layer 11 (route): Apply. -/
import Derived.IntWalk
import Derived.Test.YtnpeedmicjeleaaDoorRouteFoldsA
import Derived.Test.YtnpeedmicjeleaaDoorRouteFoldsB
import Derived.Test.YtnpeedmicjeleaaDoorRouteFoldsC
namespace Go.Proofs.YtnpeedmicjeleaaDoor
open Go.RowKit
set_option linter.unusedVariables false
set_option linter.unusedSimpArgs false
set_option maxRecDepth 4000
theorem info_rib (A : Option Addr) (n c : Nat) : (Tryd.prog.info? 24).map (·.size) = some (tabV A n c).size := by show _ = some 1; kernel_rfl
theorem load_rib {w : World} {g : Nat} {A : Option Addr} {n c : Nat} (h : w.heap[g]? = some (.cells (tabV A n c) 24 (0, 0))) : (Instr.loadAt 24 (.pointer (some ⟨g, 0, none⟩))).run Tryd.prog w = .ok (.agg (tabV A n c)) w := ((rib_at h).all _ (Below.refl _ _)).1
theorem run_build_rib_nil (w : World) : (Instr.build 24 #[]).run Tryd.prog w = .ok (.agg (tabV none 0 0)) w := run_build w _ _ _ (by kernel_rfl)
theorem run_build_rib (w : World) (A : Option Addr) (n c : Nat) : (Instr.build 24 #[(0, .slice A n c)]).run Tryd.prog w = .ok (.agg (tabV A n c)) w := run_build w _ _ _ (by kernel_rfl)
/-- What the loop of Apply keeps: the rows of its own, and the cell that holds them. -/
structure AppS (w0 w : World) (g : Nat) (A : Option Addr) (n c : Nat) (l : List Rte) : Prop where
  own : OS rteK w w0.heap.size A n c l
  cell : w.heap[g]? = some (.cells (tabV A n c) 24 (0, 0))
  ne : ∀ ad, A = some ad → ad.block ≠ g
  bel : Below w0.heap.size w0 w
  gle : w0.heap.size ≤ g
theorem AppS.step {w0 w w1 : World} {g : Nat} {A : Option Addr} {n c : Nat} {l : List Rte} (h : AppS w0 w g A n c l) (hb : Below w.heap.size w w1) : AppS w0 w1 g A n c l := ⟨h.own.below hb, blk_below h.cell hb, h.ne, below_step h.bel hb, h.gle⟩
theorem AppS.turn {w0 w w1 w2 : World} {g : Nat} {A A' : Option Addr} {n c n' c' : Nat} {l l' : List Rte} (h : AppS w0 w g A n c l) (ho : OS rteK w1 w0.heap.size A' n' c' l') (hg : w.grownBy w1 ((Value.slice A n c).ownBlock)) (ha : A' = A ∨ ∀ ad, A' = some ad → w.heap.size ≤ ad.block) (hg2 : w1.grownBy w2 (some g)) (hc : w2.heap[g]? = some (.cells (tabV A' n' c') 24 (0, 0))) : AppS w0 w2 g A' n' c' l' := by
  have hlt := blk_lt h.cell
  have hne : ∀ ad, A' = some ad → ad.block ≠ g := fun ad e => by
    rcases ha with ha | ha
    · exact h.ne ad (ha ▸ e)
    · have := ha ad e; omega
  exact ⟨ho.grown hg2 (fun ad e k => by injection k with k; exact hne ad e k), hc, hne, below_grown (below_own h.bel hg h.own.base_) hg2 h.gle, h.gle⟩
theorem AppS.put {w0 w w1 : World} {g : Nat} {ad : Addr} {n c : Nat} {l l' : List Rte} (h : AppS w0 w g (some ad) n c l) (ho : OS rteK w1 w0.heap.size (some ad) n c l') (hg : w.grownBy w1 (some ad.block)) : AppS w0 w1 g (some ad) n c l' :=
  ⟨ho, blk_grown h.cell hg (fun e => by injection e with e; exact h.ne ad rfl e.symm), h.ne, below_grown h.bel hg (h.own.base_ ad rfl), h.gle⟩
theorem appN_no {l : List Rte} {b : List Upd} (h1 : ribB l = true) (h2 : batB b = true) (h3 : appL l b = none) : appN l b = 4 ∧ appR l b = [] := by
  have : appN l b = 4 := by unfold appN; rw [if_pos h1, if_pos h2, h3]
  exact ⟨this, by unfold appR; rw [this]; rfl⟩
theorem appN_rib {l : List Rte} {b : List Upd} (h1 : ribB l = false) : appN l b = 211 ∧ appR l b = [] := by
  have : appN l b = 211 := by unfold appN; rw [if_neg (by rw [h1]; decide)]
  exact ⟨this, by unfold appR; rw [this]; rfl⟩
theorem appN_bat {l : List Rte} {b : List Upd} (h1 : ribB l = true) (h2 : batB b = false) : appN l b = 210 ∧ appR l b = [] := by
  have : appN l b = 210 := by unfold appN; rw [if_pos h1, if_neg (by rw [h2]; decide)]
  exact ⟨this, by unfold appR; rw [this]; rfl⟩
theorem appN_full {l m : List Rte} {b : List Upd} (h1 : ribB l = true) (h2 : batB b = true) (h3 : appL l b = some m) (h4 : ¬ pfxsN m ≤ 40) : appN l b = 6 ∧ appR l b = [] := by
  have : appN l b = 6 := by unfold appN; rw [if_pos h1, if_pos h2, h3]; exact if_neg h4
  exact ⟨this, by unfold appR; rw [this]; rfl⟩
theorem appN_yes {l m : List Rte} {b : List Upd} (h1 : ribB l = true) (h2 : batB b = true) (h3 : appL l b = some m) (h4 : pfxsN m ≤ 40) : appN l b = 0 ∧ appR l b = m := by
  have : appN l b = 0 := by unfold appN; rw [if_pos h1, if_pos h2, h3]; exact if_pos h4
  exact ⟨this, by unfold appR; rw [this, h3]; rfl⟩
theorem appL_take {l m : List Rte} {b : List Upd} {k : Nat} (hk : k < b.length) (h : appL l (b.take k) = some m) : appL l (b.take (k + 1)) = appS m (updAt b k) := by
  rw [take_getD updZ hk, appL_snoc, h]
  rfl
theorem batB_len {b : List Upd} (h : batB b = true) : b.length ≤ 8 := by
  unfold batB at h
  rw [Bool.and_eq_true, Bool.and_eq_true, decide_eq_true_eq, decide_eq_true_eq] at h
  exact h.1.2
theorem ribB_ris {l : List Rte} (h : ribB l = true) : ribsB l = true ∧ pfxsN l ≤ 40 := by
  unfold ribB at h
  rwa [Bool.and_eq_true, decide_eq_true_eq] at h
set_option maxHeartbeats 8000000 in
set_option maxRecDepth 100000 in
theorem rapply_any (A : Option Addr) (n c : Nat) (l : List Rte) (A2 : Option Addr) (m c2 : Nat) (b : List Upd) (w : World) (hL : Laid w) (hr : RS rteK w A n c l) (ok : Okr l) (hn : n ≤ 10000) (hu : RS updK w A2 m c2 b) (oku : Oku b) (hm : m ≤ 10000) :
    Calls Tryd.prog 13 #[.agg (tabV A n c), .agg (tabV A2 m c2)] w fun e w' => ∃ A' n' c', e = .returned (.tuple #[.agg (tabV A' n' c'), .int .i64 (appN l b)]) ∧ OS rteK w' w.heap.size A' n' c' (appR l b) ∧ Below w.heap.size w w' := by
  have hblk1 := blk_new w (.cells (tabV A n c) 24)
  have hbel1 : Below w.heap.size w (w.alloc (.cells (tabV A n c) 24)) := below_alloc (Below.refl _ _) _
  have hblk2 := blk_new (w.alloc (.cells (tabV A n c) 24)) (.cells (tabV A2 m c2) 27)
  have hbel2 : Below w.heap.size w ((w.alloc (.cells (tabV A n c) 24)).alloc (.cells (tabV A2 m c2) 27)) := below_alloc (hbel1) _
  rw [show (w.alloc (.cells (tabV A n c) 24)).heap.size = w.heap.size + 1 by simp] at hblk2
  replace hblk1 := blk_below hblk1 (below_alloc (Below.refl _ _) (.cells (tabV A2 m c2) 27))
  have HP1 := Lib.hid (rib_at hblk1)
  have HBK1 := Lib.hid hblk1
  have HP2 := Lib.hid (bat_at hblk2)
  have HBK2 := Lib.hid hblk2
  have HBE := Lib.hid hbel2
  have HL := Lib.hid (hL.below HBE.out)
  obtain ⟨cs1, hcs1⟩ : ∃ cs, tabV A n c = cs := ⟨_, rfl⟩
  obtain ⟨cs2, hcs2⟩ : ∃ cs, tabV A2 m c2 = cs := ⟨_, rfl⟩
  simp only [hcs1, hcs2] at HBE HL HP1 HP2 HBK1 HBK2 ⊢
  have HC1 := Lib.hid hcs1
  have HC2 := Lib.hid hcs2
  clear hL hcs1 hblk1 hbel1 hcs2 hblk2 hbel2
  have HR := Lib.hid (hr.below HBE.out)
  have HU := Lib.hid (hu.below HBE.out)
  have OK := Lib.hid ok
  have OKU := Lib.hid oku
  have hs0 : ((w.alloc (.cells cs1 24)).alloc (.cells cs2 27)).heap.size = w.heap.size + 1 + 1 := by simp
  obtain ⟨W1, hW1⟩ : ∃ W1, ((w.alloc (.cells cs1 24)).alloc (.cells cs2 27)).alloc (.cells #[.slice none 0 0] 24) = W1 := ⟨_, rfl⟩
  have HZ : Hid (W1.heap[w.heap.size + 1 + 1]? = some (.cells (tabV none 0 0) 24 (0, 0))) := Lib.hid (by rw [← hW1, ← hs0]; exact blk_new _ _)
  have HB1 : Hid (Below ((w.alloc (.cells cs1 24)).alloc (.cells cs2 27)).heap.size ((w.alloc (.cells cs1 24)).alloc (.cells cs2 27)) W1) := Lib.hid (hW1 ▸ below_alloc (Below.refl _ _) _)
  have HZL : Hid (w.heap.size ≤ w.heap.size + 1 + 1) := Lib.hid (by omega)
  have HS1 : Hid (W1.heap.size = w.heap.size + 3) := Lib.hid (by rw [← hW1]; simp)
  clear hr hu ok oku hs0
  go_enter Tryd.func13, Tryd.ntmps13
  go_wp2_with (first | ((with_reducible show wpList _ _ _ (Oper.mk _ (Op.load _ _) _ _ _ _ :: _) _ _); refine wpList_load_g ((HP1.out.all _ HB1.out).1) _ rfl rfl (by go_simp) ?_))
  clear hW1
  have hck := rcheck_any A n c l W1 (HL.out.below HB1.out) (HR.out.below HB1.out) OK.out (by omega)
  refine hck.mono ?_
  clear hck
  rintro e w2 ⟨rfl, hb2⟩
  have HB2 := Lib.hid (below_step HB1.out hb2)
  have HZ2 := Lib.hid (blk_below HZ.out hb2)
  have HS2 : Hid (w.heap.size + 3 ≤ w2.heap.size) := Lib.hid (by rw [← HS1.out]; exact hb2.size)
  clear hb2 HZ HB1 HS1
  cases hrb : ribB l with
  | false =>
    rw [show ribE l = 211 by unfold ribE; rw [hrb]; rfl]
    have HE := Lib.hid (appN_rib (b := b) hrb)
    clear hrb
    go_wp2_with (first | ((with_reducible show wpList _ _ _ (Oper.mk _ (Op.build _ _) _ _ _ _ :: _) _ _); refine wpList_exw rfl (exec_build 24 #[] rfl #[] rfl ((run_build_rib_nil _))) ?_) | ((with_reducible show wpList _ _ _ (Oper.mk _ (Op.store _ _ _) _ _ _ _ :: _) _ _); refine wpList_store_blk HZ2.out 24 0 (tabV none 0 0) (Nat.le_refl _) (info_rib _ _ _) (tab_one _ _ _) _ _ rfl rfl rfl rfl ?_; intro w9 hg9 hs9 hb9; rw [splice_tab] at hb9; have H9 := Lib.hid (And.intro hg9 hb9); clear hg9 hs9 hb9))
    refine bodyPost_ret (results_c2 rfl rfl (load_rib H9.out.2)) rfl ?_
    rw [HE.out.1, HE.out.2]
    exact ⟨none, 0, 0, rfl, OS.nil _ _ _, below_grown (below_step HBE.out HB2.out) H9.out.1 HZL.out⟩
  | true =>
    rw [show ribE l = 0 by unfold ribE; rw [hrb]; rfl]
    have HRB := Lib.hid hrb
    clear hrb
    go_wp2_with (first | ((with_reducible show wpList _ _ _ (Oper.mk _ (Op.load _ _) _ _ _ _ :: _) _ _); refine wpList_load_g ((HP2.out.all _ HB2.out).1) _ rfl rfl (by go_simp) ?_))
    have hck := rcheckb_any A2 m c2 b w2 (HL.out.below HB2.out) (HU.out.below HB2.out) OKU.out (by omega)
    refine hck.mono ?_
    clear hck
    rintro e w3 ⟨rfl, hb3⟩
    have HB3 := Lib.hid (below_step HB2.out hb3)
    have HZ3 := Lib.hid (blk_below HZ2.out hb3)
    have HS3 : Hid (w.heap.size + 3 ≤ w3.heap.size) := Lib.hid (Nat.le_trans HS2.out hb3.size)
    clear hb3 HZ2 HB2 HS2
    cases hbb : batB b with
    | false =>
      rw [show batE b = 210 by unfold batE; rw [hbb]; rfl]
      have HE := Lib.hid (appN_bat HRB.out hbb)
      clear hbb
      go_wp2_with (first | ((with_reducible show wpList _ _ _ (Oper.mk _ (Op.build _ _) _ _ _ _ :: _) _ _); refine wpList_exw rfl (exec_build 24 #[] rfl #[] rfl ((run_build_rib_nil _))) ?_) | ((with_reducible show wpList _ _ _ (Oper.mk _ (Op.store _ _ _) _ _ _ _ :: _) _ _); refine wpList_store_blk HZ3.out 24 0 (tabV none 0 0) (Nat.le_refl _) (info_rib _ _ _) (tab_one _ _ _) _ _ rfl rfl rfl rfl ?_; intro w9 hg9 hs9 hb9; rw [splice_tab] at hb9; have H9 := Lib.hid (And.intro hg9 hb9); clear hg9 hs9 hb9))
      refine bodyPost_ret (results_c2 rfl rfl (load_rib H9.out.2)) rfl ?_
      rw [HE.out.1, HE.out.2]
      exact ⟨none, 0, 0, rfl, OS.nil _ _ _, below_grown (below_step HBE.out HB3.out) H9.out.1 HZL.out⟩
    | true =>
      rw [show batE b = 0 by unfold batE; rw [hbb]; rfl]
      have HBB := Lib.hid hbb
      have hm8 : m ≤ 8 := by rw [← HU.out.len]; exact batB_len hbb
      clear hbb
      go_wp2_with (first | ((with_reducible show wpList _ _ _ (Oper.mk _ (Op.load _ _) _ _ _ _ :: _) _ _); refine wpList_load_g ((HP1.out.all _ HB3.out).2) _ rfl rfl (by go_simp) ?_))
      refine (cloneQ_any A n c l w3 (HR.out.below HB3.out) (by omega)).mono ?_
      rintro e w4 ⟨A4, c4, rfl, hO4, hb4⟩
      have HB34 := Lib.hid hb4
      have HO4 := Lib.hid hO4
      have HL4 := Lib.hid hO4.lt
      have HB5f := Lib.hid (fun (W : World) (h : (w4.alloc (.cells (tabV none 0 0) 24)).grownBy W (some w4.heap.size)) => below_grown (below_alloc (Below.refl w4.heap.size w4) (.cells (tabV none 0 0) 24)) h (Nat.le_refl _))
      clear hb4 hO4
      go_wp2_with (first | ((with_reducible show wpList _ _ _ (Oper.mk _ (Op.build _ _) _ _ _ _ :: _) _ _); refine wpList_exw rfl (exec_build1 rfl rfl (run_build_rib _ A4 n c4)) ?_) | ((with_reducible show wpList _ _ _ (Oper.mk _ (Op.store _ _ _) _ _ _ _ :: _) _ _); refine wpList_store_blk (blk_new w4 (.cells (tabV none 0 0) 24)) 24 0 (tabV A4 n c4) (Nat.le_refl _) (info_rib _ _ _) (tab_one _ _ _) _ _ rfl rfl rfl rfl ?_; intro w5 hg9 hs9 hb9; rw [splice_tab] at hb9; have H5 := Lib.hid (And.intro hg9 hb9); clear hg9 hs9 hb9) | ((with_reducible show wpList _ _ _ (Oper.mk _ (Op.load _ _) _ _ _ _ :: _) _ _); refine wpList_load_g ((HP2.out.all _ (below_step HB3.out (below_step HB34.out (HB5f.out _ H5.out.1)))).2) _ rfl rfl (by go_simp) ?_))
      have HB45 := Lib.hid (HB5f.out _ H5.out.1)
      have hAS : AppS w3 w5 w4.heap.size A4 n c4 l := ⟨(HO4.out.below (below_alloc (Below.refl _ _) (.cells (tabV none 0 0) 24))).grown H5.out.1 (fun ad e k => by injection k with k; have := HL4.out ad e; omega), H5.out.2, fun ad e => (by have := HL4.out ad e; omega), below_step HB34.out HB45.out, HB34.out.size⟩
      have HAS := Lib.hid hAS
      have HRK : Hid (Rok l) := Lib.hid ⟨OK.out, ribs_ris (ribB_ris HRB.out).1⟩
      obtain ⟨g6, hg6⟩ : ∃ g, w4.heap.size = g := ⟨_, rfl⟩
      rw [hg6] at HAS ⊢
      clear HB5f H5 HO4 HL4 HB34 HB45 hAS hg6
      go_loopw [29] (fun s29 wr => ∃ (k : Nat) (Ak : Option Addr) (nk ck : Nat) (lk : List Rte), s29 = .int .i64 k ∧ Hid (k ≤ m ∧ AppS w3 wr g6 Ak nk ck lk ∧ appL l (b.take k) = some lk)) (fun x _ => m - (intOf x).toNat)
      case atStart => exact ⟨0, A4, n, c4, l, rfl, Nat.zero_le _, HAS.out, rfl⟩
      case round =>
        obtain ⟨k, Ak, nk, ck, lk, rfl, HI⟩ := hrel
        obtain ⟨wk, rfl⟩ : ∃ wk, wk = wr := ⟨wr, rfl⟩
        have HBK := Lib.hid (below_step HB3.out HI.out.2.1.bel)
        have hrok := appL_rok HRK.out (fun u hu => OKU.out u (List.mem_of_mem_take hu)) HI.out.2.2
        have HROK := Lib.hid hrok.1
        have hnk : nk ≤ 10100 := by
          have h1 := hrok.2
          rw [HI.out.2.1.own.len, List.length_take, HR.out.len] at h1
          have h2 := HI.out.1
          omega
        clear hrok
        by_cases hlt : k < m
        · have hlt' : (k : Int) < m := by omega
          obtain ⟨bb, ob, hA, hc⟩ := RS.at_ HU.out (by omega)
          have hkl : k < b.length := by rw [HU.out.len]; exact hlt
          have HXO := Lib.hid (OKU.out.at_ hkl)
          have hla := Shape.ld updK wk bb _ _ HXO.out.fits ((hc k hlt).below HBK.out)
          have hla : (Instr.loadAt 75 (.pointer (some ⟨bb, ob + k * 22, none⟩))).run Tryd.prog wk = .ok (.agg (updV (updAt b k))) wk := hla
          have HAT := Lib.hid (appL_take hkl HI.out.2.2)
          have HTN : Hid (appL l (b.take (k + 1)) = none → appL l b = none) := Lib.hid appL_none
          obtain ⟨x, hx⟩ : ∃ x, updAt b k = x := ⟨_, rfl⟩
          rw [hx] at hla HXO HAT
          have HB6f := Lib.hid (fun (W : World) (h : (wk.alloc (.cells (updV updZ) 75)).grownBy W (some wk.heap.size)) => below_grown (below_alloc (Below.refl wk.heap.size wk) (.cells (updV updZ) 75)) h (Nat.le_refl _))
          subst hA
          clear hc hx hkl
          go_upto_region 10 with (first | ((with_reducible show wpList _ _ _ (Oper.mk _ (Op.load _ _) _ _ _ _ :: _) _ _); refine wpList_load_g hla _ rfl rfl (by go_simp) ?_) | ((with_reducible show wpList _ _ _ (Oper.mk _ (Op.store _ _ _) _ _ _ _ :: _) _ _); refine wpList_store_blk (blk_new wk _) 75 0 (updV x) (store_upd_fit HXO.out.fits rfl) (info_upd HXO.out.fits) (updV_one _) _ _ rfl rfl rfl rfl ?_; intro w6 hg9 hs9 hb9; rw [splice_upd HXO.out.fits rfl] at hb9; have H6 := Lib.hid (And.intro hg9 hb9); clear hg9 hs9 hb9) | ((with_reducible show wpList _ _ _ (Oper.mk _ (Op.load _ _) _ _ _ _ :: _) _ _); refine wpList_load_g (((upd_at HXO.out.fits H6.out.2).all _ (Below.refl _ _)).pfx) _ rfl rfl (by go_simp) ?_) | ((with_reducible show wpList _ _ _ (Oper.mk _ (Op.load _ _) _ _ _ _ :: _) _ _); refine wpList_load_g (((upd_at HXO.out.fits H6.out.2).all _ (Below.refl _ _)).src) _ rfl rfl (by go_simp) ?_) | ((with_reducible show wpList _ _ _ (Oper.mk _ (Op.load _ _) _ _ _ _ :: _) _ _); refine wpList_load_g (((upd_at HXO.out.fits H6.out.2).all _ (Below.refl _ _)).prf) _ rfl rfl (by go_simp) ?_) | ((with_reducible show wpList _ _ _ (Oper.mk _ (Op.load _ _) _ _ _ _ :: _) _ _); refine wpList_load_g (((upd_at HXO.out.fits H6.out.2).all _ (Below.refl _ _)).hop) _ rfl rfl (by go_simp) ?_) | ((with_reducible show wpList _ _ _ (Oper.mk _ (Op.build _ _) _ _ _ _ :: _) _ _); refine wpList_exw rfl (exec_build4 rfl rfl rfl rfl rfl (run_build_rte _ x.p x.s x.f x.h HXO.out.fits.len)) ?_) | ((with_reducible show wpList _ _ _ (Oper.mk _ (Op.store _ _ _) _ _ _ _ :: _) _ _); refine wpList_store_blk (blk_new w6 _) 51 0 (rteV (Upd.rte x)) (store_rte_fit (show (Upd.rte x).fits from HXO.out.fits) rfl) (info_rte (show (Upd.rte x).fits from HXO.out.fits)) (rteV_one _) _ _ rfl rfl rfl rfl ?_; intro w7 hg9 hs9 hb9; rw [splice_rte (show (Upd.rte x).fits from HXO.out.fits) rfl] at hb9; have H7 := Lib.hid (And.intro hg9 hb9); clear hg9 hs9 hb9))
          dsimp only [Act.put]
          have HB6 := Lib.hid (HB6f.out _ H6.out.1)
          have HB7 := Lib.hid (below_grown (below_alloc (Below.refl w6.heap.size w6) (.cells (rteV rteZ) 51)) H7.out.1 (Nat.le_refl _))
          have HA7 := Lib.hid ((HI.out.2.1.step HB6.out).step HB7.out)
          have HU7 := Lib.hid (blk_below H6.out.2 HB7.out)
          have HX7 := Lib.hid H7.out.2
          have HBK7 := Lib.hid (below_step HB6.out HB7.out)
          have HRF : Hid (Upd.rte x).fits := Lib.hid HXO.out.fits
          obtain ⟨gu, hgu⟩ : ∃ g, wk.heap.size = g := ⟨_, rfl⟩
          obtain ⟨gx, hgx⟩ : ∃ g, w6.heap.size = g := ⟨_, rfl⟩
          rw [hgu] at HU7 ⊢
          rw [hgx] at HX7 ⊢
          obtain ⟨r, hr⟩ : ∃ r, Upd.rte x = r := ⟨_, rfl⟩
          have HRE := Lib.hid hr
          have HRO : Hid r.ok := Lib.hid (by rw [← hr]; exact HXO.out.rte)
          rw [hr] at HX7 HRF
          rw [show (⟨x.p, x.s, x.f, x.h⟩ : Rte) = r from hr]
          clear HB6f H6 H7 hla hgu hgx hr HB6 HB7
          go_wp2_with (first | ((with_reducible show wpList _ _ _ (Oper.mk _ (Op.load _ _) _ _ _ _ :: _) _ _); refine wpList_load_g (((rib_at HA7.out.cell).all _ (Below.refl _ _)).2) _ rfl rfl (by go_simp) ?_) | ((with_reducible show wpList _ _ _ (Oper.mk _ (Op.load _ _) _ _ _ _ :: _) _ _); refine wpList_load_g (((rte_at HRF.out HX7.out).all _ (Below.refl _ _)).all) _ rfl rfl (by go_simp) ?_))
          refine (bsearchQ_any Ak nk ck lk r w7 HA7.out.own.reads HROK.out.ris HRF.out (by omega)).mono ?_
          rintro e w8 ⟨rfl, hb8⟩
          have HA8 := Lib.hid (HA7.out.step hb8)
          have HU8 := Lib.hid (blk_below HU7.out hb8)
          have HX8 := Lib.hid (blk_below HX7.out hb8)
          have HBK8 := Lib.hid (below_step HBK7.out hb8)
          have HSP : Hid (appS lk x = if x.g then (if thereR lk r then some (dropK Rte.key lk r) else none) else some (setK Rte.key lk r)) := Lib.hid (by rw [← HRE.out]; rfl)
          have HDK : Hid (dropK Rte.key lk r = lk.take (lowR lk r) ++ lk.drop (lowR lk r + 1)) := Lib.hid rfl
          have HSK : Hid (setK Rte.key lk r = lk.take (lowR lk r) ++ r :: lk.drop (if thereR lk r then lowR lk r + 1 else lowR lk r)) := Lib.hid rfl
          have HJL : Hid (thereR lk r = true → lowR lk r < lk.length) := Lib.hid thereK_lt
          have HJE : Hid (lowR lk r ≤ lk.length) := Lib.hid (lowK_le lk r)
          obtain ⟨j, hj⟩ : ∃ j, lowR lk r = j := ⟨_, rfl⟩
          rw [hj] at HDK HSK HJL HJE ⊢
          have hlk : lk.length = nk := HA8.out.own.len
          have hjn : j ≤ nk := by rw [← hlk]; exact HJE.out
          clear hb8 hj HA7 HU7 HX7 HBK7 hlk
          cases hg : x.g with
          | true =>
            cases ht : thereR lk r with
            | false =>
              have HE := Lib.hid (appN_no HRB.out HBB.out (HTN.out (by rw [HAT.out, HSP.out, hg, ht]; rfl)))
              clear ht
              go_wp2_with (first | ((with_reducible show wpList _ _ _ (Oper.mk _ (Op.load _ _) _ _ _ _ :: _) _ _); refine wpList_load_g (((upd_at HXO.out.fits HU8.out).all _ (Below.refl _ _)).gon) _ rfl rfl (by go_simp) ?_) | ((with_reducible show wpList _ _ _ (Oper.mk _ (Op.build _ _) _ _ _ _ :: _) _ _); refine wpList_exw rfl (exec_build 24 #[] rfl #[] rfl ((run_build_rib_nil _))) ?_) | ((with_reducible show wpList _ _ _ (Oper.mk _ (Op.store _ _ _) _ _ _ _ :: _) _ _); refine wpList_store_blk (blk_below HZ3.out HA8.out.bel) 24 0 (tabV none 0 0) (Nat.le_refl _) (info_rib _ _ _) (tab_one _ _ _) _ _ rfl rfl rfl rfl ?_; intro w9 hg9 hs9 hb9; rw [splice_tab] at hb9; have H9 := Lib.hid (And.intro hg9 hb9); clear hg9 hs9 hb9))
              refine bodyPost_ret (results_c2 rfl rfl (load_rib H9.out.2)) rfl ?_
              rw [HE.out.1, HE.out.2]
              exact ⟨none, 0, 0, rfl, OS.nil _ _ _, below_grown (below_step HBE.out (below_step HB3.out HA8.out.bel)) H9.out.1 HZL.out⟩
            | true =>
              have hjlt : j < nk := by have h1 := HJL.out ht; rwa [HA8.out.own.len] at h1
              have HN : Hid (appL l (b.take (k + 1)) = some (lk.take j ++ lk.drop (j + 1))) := Lib.hid (by rw [HAT.out, HSP.out, hg, ht, ← HDK.out]; rfl)
              clear ht
              go_wp2_with (first | ((with_reducible show wpList _ _ _ (Oper.mk _ (Op.load _ _) _ _ _ _ :: _) _ _); refine wpList_load_g (((upd_at HXO.out.fits HU8.out).all _ (Below.refl _ _)).gon) _ rfl rfl (by go_simp) ?_) | ((with_reducible show wpList _ _ _ (Oper.mk _ (Op.load _ _) _ _ _ _ :: _) _ _); refine wpList_load_g (((rib_at HA8.out.cell).all _ (Below.refl _ _)).2) _ rfl rfl (by go_simp) ?_))
              refine (deleteQ_any w3.heap.size Ak nk ck j lk w8 HA8.out.own hjlt (by omega)).mono ?_
              rintro e w9 ⟨rfl, hO9, hg9⟩
              have HO9 := Lib.hid (And.intro hO9 hg9)
              clear hO9 hg9
              go_wp2_with (first | ((with_reducible show wpList _ _ _ (Oper.mk _ (Op.store _ _ _) _ _ _ _ :: _) _ _); refine wpList_store_cell (blk_ownN HA8.out.cell HO9.out.2 HA8.out.ne) 22 0 (.slice Ak (nk - 1) ck) (Nat.le_refl _) (by kernel_rfl) rfl rfl _ _ rfl rfl rfl rfl ?_; intro w10 hg9 hs9 hb9; have H10 := Lib.hid (And.intro hg9 (show (World.heap w10)[g6]? = some (.cells (tabV Ak (nk - 1) ck) 24 (0, 0)) from hb9)); clear hg9 hs9 hb9))
              go_roundw
              case measure => simp [intOf]; omega
              case rel => exact ⟨k + 1, Ak, nk - 1, ck, _, by go_num, by omega, HA8.out.turn HO9.out.1 HO9.out.2 (.inl rfl) H10.out.1 H10.out.2, HN.out⟩
          | false =>
            cases ht : thereR lk r with
            | true =>
              have hjlt : j < nk := by have h1 := HJL.out ht; rwa [HA8.out.own.len] at h1
              have hjlt' : (j : Int) < nk := by omega
              have HN : Hid (appL l (b.take (k + 1)) = some (lk.take j ++ [r] ++ lk.drop (j + 1))) := Lib.hid (by rw [HAT.out, HSP.out, hg, if_neg (by decide), HSK.out, ht, if_pos rfl]; simp)
              obtain ⟨b9, o9, rfl, _⟩ := RS.at_ HA8.out.own.reads (by omega)
              clear ht
              go_wp2_with (first | ((with_reducible show wpList _ _ _ (Oper.mk _ (Op.load _ _) _ _ _ _ :: _) _ _); refine wpList_load_g (((upd_at HXO.out.fits HU8.out).all _ (Below.refl _ _)).gon) _ rfl rfl (by go_simp) ?_) | ((with_reducible show wpList _ _ _ (Oper.mk _ (Op.load _ _) _ _ _ _ :: _) _ _); refine wpList_load_g (((rib_at HA8.out.cell).all _ (Below.refl _ _)).2) _ rfl rfl (by go_simp) ?_) | ((with_reducible show wpList _ _ _ (Oper.mk _ (Op.load _ _) _ _ _ _ :: _) _ _); refine wpList_load_g (((rte_at HRF.out HX8.out).all _ (Below.refl _ _)).all) _ rfl rfl (by go_simp) ?_) | ((with_reducible show wpList _ _ _ (Oper.mk _ (Op.store _ _ _) _ _ _ _ :: _) _ _); refine wpList_store_elem (S := rteK) HA8.out.own j hjlt r HRF.out rfl _ _ rfl rfl rfl rfl ?_; intro w9 hg9 hs9 hO9; have H9 := Lib.hid (And.intro hg9 hO9); clear hg9 hs9 hO9))
              go_roundw
              case measure => simp [intOf]; omega
              case rel => exact ⟨k + 1, _, nk, ck, _, by go_num, by omega, HA8.out.put H9.out.2 H9.out.1, HN.out⟩
            | false =>
              have HN : Hid (appL l (b.take (k + 1)) = some (lk.take j ++ r :: lk.drop j)) := Lib.hid (by rw [HAT.out, HSP.out, hg, if_neg (by decide), HSK.out, ht, if_neg (by decide)])
              have HLT := Lib.hid HA8.out.own.lt
              have HBA := Lib.hid (below_alloc (Below.refl w8.heap.size w8) (.cells (rteK.enc r).toArray rteK.t))
              clear ht
              go_wp2_with (first | ((with_reducible show wpList _ _ _ (Oper.mk _ (Op.load _ _) _ _ _ _ :: _) _ _); refine wpList_load_g (((upd_at HXO.out.fits HU8.out).all _ (Below.refl _ _)).gon) _ rfl rfl (by go_simp) ?_) | ((with_reducible show wpList _ _ _ (Oper.mk _ (Op.load _ _) _ _ _ _ :: _) _ _); refine wpList_load_g (((rib_at HA8.out.cell).all _ (Below.refl _ _)).2) _ rfl rfl (by go_simp) ?_) | ((with_reducible show wpList _ _ _ (Oper.mk _ (Op.load _ _) _ _ _ _ :: _) _ _); refine wpList_load_g (((rte_at HRF.out HX8.out).all _ (Below.refl _ _)).all) _ rfl rfl (by go_simp) ?_) | ((with_reducible show wpList _ _ _ (Oper.mk _ (Op.buildSlice _ _ _) _ _ _ _ :: _) _ _); refine wpList_exw rfl (exec_lit1 rteK (x := .tmp 52) rfl r rfl HRF.out (by show 21 ≤ _; omega) _) ?_))
              refine (insertQ_any w3.heap.size Ak nk ck j w8.heap.size lk r _ (HA8.out.own.below HBA.out) hjn (by omega) (Nat.le_trans HA8.out.bel.size HBA.out.size) (blk_new w8 _) HRF.out (fun ad e => by have := HLT.out ad e; omega)).mono ?_
              rintro e w9 ⟨A9, c9, rfl, hO9, hg9, hA9⟩
              have HO9 := Lib.hid (And.intro hO9 (And.intro hg9 hA9))
              clear hO9 hg9 hA9
              go_wp2_with (first | ((with_reducible show wpList _ _ _ (Oper.mk _ (Op.store _ _ _) _ _ _ _ :: _) _ _); refine wpList_store_cell (blk_ownN (blk_below HA8.out.cell HBA.out) HO9.out.2.1 HA8.out.ne) 22 0 (.slice A9 (nk + 1) c9) (Nat.le_refl _) (by kernel_rfl) rfl rfl _ _ rfl rfl rfl rfl ?_; intro w10 hg9 hs9 hb9; have H10 := Lib.hid (And.intro hg9 (show (World.heap w10)[g6]? = some (.cells (tabV A9 (nk + 1) c9) 24 (0, 0)) from hb9)); clear hg9 hs9 hb9))
              go_roundw
              case measure => simp [intOf]; omega
              case rel => exact ⟨k + 1, A9, nk + 1, c9, _, by go_num, by omega, (HA8.out.step HBA.out).turn HO9.out.1 HO9.out.2.1 HO9.out.2.2 H10.out.1 H10.out.2, HN.out⟩
        · have hlt' : decide (k < m) = false := decide_eq_false hlt
          have HAL : Hid (appL l b = some lk) := Lib.hid (by
            have h1 := HI.out.2.2
            have h2 : k = b.length := by rw [HU.out.len]; have := HI.out.1; omega
            rwa [h2, List.take_length] at h1)
          have HAK := Lib.hid HI.out.2.1
          clear hlt
          go_wp2_with (first | ((with_reducible show wpList _ _ _ (Oper.mk _ (Op.load _ _) _ _ _ _ :: _) _ _); refine wpList_load_g (((rib_at HAK.out.cell).all _ (Below.refl _ _)).2) _ rfl rfl (by go_simp) ?_))
          refine (rprefixes_any Ak nk ck lk wk HAK.out.own.reads HROK.out.ok (by omega)).mono ?_
          rintro e w8 ⟨rfl, hb8⟩
          have HA8 := Lib.hid (HAK.out.step hb8)
          obtain ⟨q, hq⟩ : ∃ q, pfxsN lk = q := ⟨_, rfl⟩
          have HQ := Lib.hid hq
          rw [hq]
          clear hb8 hq
          by_cases h40 : 40 < q
          · have h40b : decide ((40 : Int) < q) = true := decide_eq_true (by omega)
            have HE := Lib.hid (appN_full HRB.out HBB.out HAL.out (by rw [HQ.out]; omega))
            clear h40
            go_wp2_with (first | ((with_reducible show wpList _ _ _ (Oper.mk _ (Op.build _ _) _ _ _ _ :: _) _ _); refine wpList_exw rfl (exec_build 24 #[] rfl #[] rfl ((run_build_rib_nil _))) ?_) | ((with_reducible show wpList _ _ _ (Oper.mk _ (Op.store _ _ _) _ _ _ _ :: _) _ _); refine wpList_store_blk (blk_below HZ3.out HA8.out.bel) 24 0 (tabV none 0 0) (Nat.le_refl _) (info_rib _ _ _) (tab_one _ _ _) _ _ rfl rfl rfl rfl ?_; intro w9 hg9 hs9 hb9; rw [splice_tab] at hb9; have H9 := Lib.hid (And.intro hg9 hb9); clear hg9 hs9 hb9))
            refine bodyPost_ret (results_c2 rfl rfl (load_rib H9.out.2)) rfl ?_
            rw [HE.out.1, HE.out.2]
            exact ⟨none, 0, 0, rfl, OS.nil _ _ _, below_grown (below_step HBE.out (below_step HB3.out HA8.out.bel)) H9.out.1 HZL.out⟩
          · have h40b : decide ((40 : Int) < q) = false := decide_eq_false (by omega)
            have HE := Lib.hid (appN_yes HRB.out HBB.out HAL.out (by rw [HQ.out]; omega))
            clear h40
            go_wp2_with (first | ((with_reducible show wpList _ _ _ (Oper.mk _ (Op.load _ _) _ _ _ _ :: _) _ _); refine wpList_load_g (load_rib HA8.out.cell) _ rfl rfl (by go_simp) ?_) | ((with_reducible show wpList _ _ _ (Oper.mk _ (Op.store _ _ _) _ _ _ _ :: _) _ _); refine wpList_store_blk (blk_below HZ3.out HA8.out.bel) 24 0 (tabV Ak nk ck) (Nat.le_refl _) (info_rib _ _ _) (tab_one _ _ _) _ _ rfl rfl rfl rfl ?_; intro w9 hg9 hs9 hb9; rw [splice_tab] at hb9; have H9 := Lib.hid (And.intro hg9 hb9); clear hg9 hs9 hb9))
            refine bodyPost_ret (results_c2 rfl rfl (load_rib H9.out.2)) rfl ?_
            rw [HE.out.1, HE.out.2]
            refine ⟨Ak, nk, ck, rfl, (HA8.out.own.grown H9.out.1 (fun ad e h => ?_)).lower (by have := HS3.out; omega), below_grown (below_step HBE.out (below_step HB3.out HA8.out.bel)) H9.out.1 HZL.out⟩
            have h1 := HA8.out.own.base_ ad e
            have h2 := HS3.out
            injection h with h
            omega
end Go.Proofs.YtnpeedmicjeleaaDoor

/- Layer 11 (route): the document's Apply. -/
namespace Go.Proofs.YtnpeedmicjeleaaDoor
open Go.RowKit
set_option linter.unusedVariables false
set_option linter.unusedSimpArgs false
set_option maxRecDepth 4000
theorem putK_same {α : Type} {K : α → List Int} {p a : α} {t : List α} (put : Bool) (h : K a = K p) : putK K p put (a :: t) = putK K p put t := by rw [putK, if_pos h]
theorem putK_new {α : Type} {K : α → List Int} {p a : α} {t : List α} (h : K a ≠ K p) (h2 : cK K p a < 0) : putK K p false (a :: t) = p :: a :: putK K p true t := by rw [putK, if_neg h, if_pos (by simp [h2])]
theorem putK_old {α : Type} {K : α → List Int} {p a : α} {t : List α} {put : Bool} (h : K a ≠ K p) (h2 : put = true ∨ ¬ cK K p a < 0) : putK K p put (a :: t) = a :: putK K p put t := by
  rw [putK, if_neg h, if_neg]
  rcases h2 with h2 | h2
  · rw [h2]; simp
  · simp [h2]
theorem any_same {l : List Rte} {r : Rte} (hl : ∀ a ∈ l, a.fits) (hr : r.fits) : l.any (fun a => sameK a r) = true ↔ ∃ a ∈ l, a.key = r.key := by
  rw [List.any_eq_true]
  constructor
  · rintro ⟨a, ha, h⟩
    exact ⟨a, ha, (sameK_iff a r (hl a ha) hr).1 h⟩
  · rintro ⟨a, ha, h⟩
    exact ⟨a, ha, (sameK_iff a r (hl a ha) hr).2 h⟩
theorem any_succ {α : Type} (l : List α) (p : α → Bool) (z : α) {i : Nat} (hi : i < l.length) : (l.take (i + 1)).any p = ((l.take i).any p || p (l.getD i z)) := by
  rw [take_getD z hi, List.any_append]
  simp
set_option maxHeartbeats 8000000 in
set_option maxRecDepth 100000 in
theorem refapply_any (A : Option Addr) (n c : Nat) (l : List Rte) (A2 : Option Addr) (m c2 : Nat) (b : List Upd) (w : World) (hr : RS rteK w A n c l) (ok : Okr l) (hn : n ≤ 10000) (hu : RS updK w A2 m c2 b) (oku : Oku b) (hm : m ≤ 10000) :
    Calls Tryd.prog 14 #[.agg (tabV A n c), .agg (tabV A2 m c2)] w fun e w' => ∃ A' n' c', e = .returned (.tuple #[.agg (tabV A' n' c'), .int .i64 (appN l b)]) ∧ RS rteK w' A' n' c' (appR l b) ∧ Below w.heap.size w w' ∧ (∀ ad, A' = some ad → w.heap.size ≤ ad.block) := by
  have hblk1 := blk_new w (.cells (tabV A n c) 24)
  have hbel1 : Below w.heap.size w (w.alloc (.cells (tabV A n c) 24)) := below_alloc (Below.refl _ _) _
  have hblk2 := blk_new (w.alloc (.cells (tabV A n c) 24)) (.cells (tabV A2 m c2) 27)
  have hbel2 : Below w.heap.size w ((w.alloc (.cells (tabV A n c) 24)).alloc (.cells (tabV A2 m c2) 27)) := below_alloc (hbel1) _
  rw [show (w.alloc (.cells (tabV A n c) 24)).heap.size = w.heap.size + 1 by simp] at hblk2
  replace hblk1 := blk_below hblk1 (below_alloc (Below.refl _ _) (.cells (tabV A2 m c2) 27))
  have HP1 := Lib.hid (rib_at hblk1)
  have HBK1 := Lib.hid hblk1
  have HP2 := Lib.hid (bat_at hblk2)
  have HBK2 := Lib.hid hblk2
  have HBE := Lib.hid hbel2
  obtain ⟨cs1, hcs1⟩ : ∃ cs, tabV A n c = cs := ⟨_, rfl⟩
  obtain ⟨cs2, hcs2⟩ : ∃ cs, tabV A2 m c2 = cs := ⟨_, rfl⟩
  simp only [hcs1, hcs2] at HBE HP1 HP2 HBK1 HBK2 ⊢
  have HC1 := Lib.hid hcs1
  have HC2 := Lib.hid hcs2
  clear hcs1 hblk1 hbel1 hcs2 hblk2 hbel2
  have HR := Lib.hid (hr.below HBE.out)
  have HU := Lib.hid (hu.below HBE.out)
  have OK := Lib.hid ok
  have OKU := Lib.hid oku
  have hs0 : ((w.alloc (.cells cs1 24)).alloc (.cells cs2 27)).heap.size = w.heap.size + 1 + 1 := by simp
  obtain ⟨W1, hW1⟩ : ∃ W1, ((w.alloc (.cells cs1 24)).alloc (.cells cs2 27)).alloc (.cells #[.slice none 0 0] 24) = W1 := ⟨_, rfl⟩
  have HZ : Hid (W1.heap[w.heap.size + 1 + 1]? = some (.cells (tabV none 0 0) 24 (0, 0))) := Lib.hid (by rw [← hW1, ← hs0]; exact blk_new _ _)
  have HB1 : Hid (Below ((w.alloc (.cells cs1 24)).alloc (.cells cs2 27)).heap.size ((w.alloc (.cells cs1 24)).alloc (.cells cs2 27)) W1) := Lib.hid (hW1 ▸ below_alloc (Below.refl _ _) _)
  have HZL : Hid (w.heap.size ≤ w.heap.size + 1 + 1) := Lib.hid (by omega)
  have HS1 : Hid (W1.heap.size = w.heap.size + 3) := Lib.hid (by rw [← hW1]; simp)
  clear hr hu ok oku hs0
  go_enter Tryd.func14, Tryd.ntmps14
  go_wp2_with (first | ((with_reducible show wpList _ _ _ (Oper.mk _ (Op.load _ _) _ _ _ _ :: _) _ _); refine wpList_load_g ((HP1.out.all _ HB1.out).1) _ rfl rfl (by go_simp) ?_))
  clear hW1
  refine (refrib_any A n c l W1 (HR.out.below HB1.out) OK.out (by omega)).mono ?_
  rintro e w2 ⟨rfl, hb2⟩
  have HB2 := Lib.hid (below_step HB1.out hb2)
  have HZ2 := Lib.hid (blk_below HZ.out hb2)
  have HS2 : Hid (w.heap.size + 3 ≤ w2.heap.size) := Lib.hid (by rw [← HS1.out]; exact hb2.size)
  clear hb2 HZ HB1 HS1
  cases hrb : ribB l with
  | false =>
    have HE := Lib.hid (appN_rib (b := b) hrb)
    clear hrb
    go_wp2_with (first | ((with_reducible show wpList _ _ _ (Oper.mk _ (Op.build _ _) _ _ _ _ :: _) _ _); refine wpList_exw rfl (exec_build 24 #[] rfl #[] rfl ((run_build_rib_nil _))) ?_) | ((with_reducible show wpList _ _ _ (Oper.mk _ (Op.store _ _ _) _ _ _ _ :: _) _ _); refine wpList_store_blk HZ2.out 24 0 (tabV none 0 0) (Nat.le_refl _) (info_rib _ _ _) (tab_one _ _ _) _ _ rfl rfl rfl rfl ?_; intro w9 hg9 hs9 hb9; rw [splice_tab] at hb9; have H9 := Lib.hid (And.intro hg9 hb9); clear hg9 hs9 hb9))
    refine bodyPost_ret (results_c2 rfl rfl (load_rib H9.out.2)) rfl ?_
    rw [HE.out.1, HE.out.2]
    exact ⟨none, 0, 0, rfl, RS.nil _ _ _ _, below_grown (below_step HBE.out HB2.out) H9.out.1 HZL.out, fun ad e => by cases e⟩
  | true =>
    have HRB := Lib.hid hrb
    clear hrb
    go_wp2_with (first | ((with_reducible show wpList _ _ _ (Oper.mk _ (Op.load _ _) _ _ _ _ :: _) _ _); refine wpList_load_g ((HP2.out.all _ HB2.out).1) _ rfl rfl (by go_simp) ?_))
    refine (refbatch_any A2 m c2 b w2 (HU.out.below HB2.out) OKU.out (by omega)).mono ?_
    rintro e w3 ⟨rfl, hb3⟩
    have HB3 := Lib.hid (below_step HB2.out hb3)
    have HZ3 := Lib.hid (blk_below HZ2.out hb3)
    have HS3 : Hid (w.heap.size + 3 ≤ w3.heap.size) := Lib.hid (Nat.le_trans HS2.out hb3.size)
    clear hb3 HZ2 HB2 HS2
    cases hbb : batB b with
    | false =>
      have HE := Lib.hid (appN_bat HRB.out hbb)
      clear hbb
      go_wp2_with (first | ((with_reducible show wpList _ _ _ (Oper.mk _ (Op.build _ _) _ _ _ _ :: _) _ _); refine wpList_exw rfl (exec_build 24 #[] rfl #[] rfl ((run_build_rib_nil _))) ?_) | ((with_reducible show wpList _ _ _ (Oper.mk _ (Op.store _ _ _) _ _ _ _ :: _) _ _); refine wpList_store_blk HZ3.out 24 0 (tabV none 0 0) (Nat.le_refl _) (info_rib _ _ _) (tab_one _ _ _) _ _ rfl rfl rfl rfl ?_; intro w9 hg9 hs9 hb9; rw [splice_tab] at hb9; have H9 := Lib.hid (And.intro hg9 hb9); clear hg9 hs9 hb9))
      refine bodyPost_ret (results_c2 rfl rfl (load_rib H9.out.2)) rfl ?_
      rw [HE.out.1, HE.out.2]
      exact ⟨none, 0, 0, rfl, RS.nil _ _ _ _, below_grown (below_step HBE.out HB3.out) H9.out.1 HZL.out, fun ad e => by cases e⟩
    | true =>
      have HBB := Lib.hid hbb
      have hm8 : m ≤ 8 := by rw [← HU.out.len]; exact batB_len hbb
      have HRK : Hid (Rok l) := Lib.hid ⟨OK.out, ribs_ris (ribB_ris HRB.out).1⟩
      clear hbb
      go_wp2_with (first | ((with_reducible show wpList _ _ _ (Oper.mk _ (Op.load _ _) _ _ _ _ :: _) _ _); refine wpList_load_g ((HP1.out.all _ HB3.out).2) _ rfl rfl (by go_simp) ?_))
      go_loopw [6, 7] (fun s6 s7 wr => ∃ (k : Nat) (Ak : Option Addr) (nk ck : Nat) (lk : List Rte), s7 = .int .i64 k ∧ s6 = .slice Ak nk ck ∧ Hid (k ≤ m ∧ RS rteK wr Ak nk ck lk ∧ appL l (b.take k) = some lk ∧ Below w3.heap.size w3 wr ∧ (0 < k → ∀ ad, Ak = some ad → w3.heap.size ≤ ad.block))) (fun _ y _ => m - (intOf y).toNat)
      case atStart => exact ⟨0, A, n, c, l, rfl, rfl, Nat.zero_le _, HR.out.below HB3.out, rfl, Below.refl _ _, fun h => by omega⟩
      case round =>
        obtain ⟨k, Ak, nk, ck, lk, rfl, rfl, HI⟩ := hrel
        obtain ⟨wk, rfl⟩ : ∃ wk, wk = wr := ⟨wr, rfl⟩
        have HBK := Lib.hid (below_step HB3.out HI.out.2.2.2.1)
        have hrok := appL_rok HRK.out (fun u hu => OKU.out u (List.mem_of_mem_take hu)) HI.out.2.2.1
        have HROK := Lib.hid hrok.1
        have hnk : nk ≤ 10100 := by
          have h1 := hrok.2
          rw [HI.out.2.1.len, List.length_take, HR.out.len] at h1
          have h2 := HI.out.1
          omega
        clear hrok
        by_cases hlt : k < m
        · have hlt' : (k : Int) < m := by omega
          obtain ⟨bb, ob, hA, hc⟩ := RS.at_ HU.out (by omega)
          have hkl : k < b.length := by rw [HU.out.len]; exact hlt
          have HXO := Lib.hid (OKU.out.at_ hkl)
          have hla := Shape.ld updK wk bb _ _ HXO.out.fits ((hc k hlt).below HBK.out)
          have hla : (Instr.loadAt 75 (.pointer (some ⟨bb, ob + k * 22, none⟩))).run Tryd.prog wk = .ok (.agg (updV (updAt b k))) wk := hla
          have HAT := Lib.hid (appL_take hkl HI.out.2.2.1)
          have HTN : Hid (appL l (b.take (k + 1)) = none → appL l b = none) := Lib.hid appL_none
          have HPS := Lib.hid (put_step (u := updAt b k) HROK.out)
          obtain ⟨x, hx⟩ : ∃ x, updAt b k = x := ⟨_, rfl⟩
          rw [hx] at hla HXO HAT HPS
          have HB6f := Lib.hid (fun (W : World) (h : (wk.alloc (.cells (updV updZ) 75)).grownBy W (some wk.heap.size)) => below_grown (below_alloc (Below.refl wk.heap.size wk) (.cells (updV updZ) 75)) h (Nat.le_refl _))
          subst hA
          clear hc hx hkl
          go_upto_region 11 with (first | ((with_reducible show wpList _ _ _ (Oper.mk _ (Op.load _ _) _ _ _ _ :: _) _ _); refine wpList_load_g ((HP2.out.all _ HBK.out).2) _ rfl rfl (by go_simp) ?_) | ((with_reducible show wpList _ _ _ (Oper.mk _ (Op.load _ _) _ _ _ _ :: _) _ _); refine wpList_load_g hla _ rfl rfl (by go_simp) ?_) | ((with_reducible show wpList _ _ _ (Oper.mk _ (Op.store _ _ _) _ _ _ _ :: _) _ _); refine wpList_store_blk (blk_new wk _) 75 0 (updV x) (store_upd_fit HXO.out.fits rfl) (info_upd HXO.out.fits) (updV_one _) _ _ rfl rfl rfl rfl ?_; intro w6 hg9 hs9 hb9; rw [splice_upd HXO.out.fits rfl] at hb9; have H6 := Lib.hid (And.intro hg9 hb9); clear hg9 hs9 hb9) | ((with_reducible show wpList _ _ _ (Oper.mk _ (Op.load _ _) _ _ _ _ :: _) _ _); refine wpList_load_g (((upd_at HXO.out.fits H6.out.2).all _ (Below.refl _ _)).pfx) _ rfl rfl (by go_simp) ?_) | ((with_reducible show wpList _ _ _ (Oper.mk _ (Op.load _ _) _ _ _ _ :: _) _ _); refine wpList_load_g (((upd_at HXO.out.fits H6.out.2).all _ (Below.refl _ _)).src) _ rfl rfl (by go_simp) ?_) | ((with_reducible show wpList _ _ _ (Oper.mk _ (Op.load _ _) _ _ _ _ :: _) _ _); refine wpList_load_g (((upd_at HXO.out.fits H6.out.2).all _ (Below.refl _ _)).prf) _ rfl rfl (by go_simp) ?_) | ((with_reducible show wpList _ _ _ (Oper.mk _ (Op.load _ _) _ _ _ _ :: _) _ _); refine wpList_load_g (((upd_at HXO.out.fits H6.out.2).all _ (Below.refl _ _)).hop) _ rfl rfl (by go_simp) ?_) | ((with_reducible show wpList _ _ _ (Oper.mk _ (Op.build _ _) _ _ _ _ :: _) _ _); refine wpList_exw rfl (exec_build4 rfl rfl rfl rfl rfl (run_build_rte _ x.p x.s x.f x.h HXO.out.fits.len)) ?_) | ((with_reducible show wpList _ _ _ (Oper.mk _ (Op.store _ _ _) _ _ _ _ :: _) _ _); refine wpList_store_blk (blk_new w6 _) 51 0 (rteV (Upd.rte x)) (store_rte_fit (show (Upd.rte x).fits from HXO.out.fits) rfl) (info_rte (show (Upd.rte x).fits from HXO.out.fits)) (rteV_one _) _ _ rfl rfl rfl rfl ?_; intro w7 hg9 hs9 hb9; rw [splice_rte (show (Upd.rte x).fits from HXO.out.fits) rfl] at hb9; have H7 := Lib.hid (And.intro hg9 hb9); clear hg9 hs9 hb9))
          dsimp only [Act.put]
          have HB6 := Lib.hid (HB6f.out _ H6.out.1)
          have HB7 := Lib.hid (below_grown (below_alloc (Below.refl w6.heap.size w6) (.cells (rteV rteZ) 51)) H7.out.1 (Nat.le_refl _))
          have HBK7 := Lib.hid (below_step HB6.out HB7.out)
          have HL7 := Lib.hid (HI.out.2.1.below HBK7.out)
          have HU7 := Lib.hid (blk_below H6.out.2 HB7.out)
          have HX7 := Lib.hid H7.out.2
          have HB37 := Lib.hid (below_step HI.out.2.2.2.1 HBK7.out)
          have HS7 : Hid (w.heap.size + 3 ≤ w7.heap.size) := Lib.hid (Nat.le_trans HS3.out HB37.out.size)
          have HBW7 := Lib.hid (below_step HB3.out HB37.out)
          have HRF : Hid (Upd.rte x).fits := Lib.hid HXO.out.fits
          obtain ⟨gu, hgu⟩ : ∃ g, wk.heap.size = g := ⟨_, rfl⟩
          obtain ⟨gx, hgx⟩ : ∃ g, w6.heap.size = g := ⟨_, rfl⟩
          rw [hgu] at HU7 ⊢
          rw [hgx] at HX7 ⊢
          obtain ⟨r, hr⟩ : ∃ r, Upd.rte x = r := ⟨_, rfl⟩
          have HRO : Hid r.ok := Lib.hid (by rw [← hr]; exact HXO.out.rte)
          rw [hr] at HX7 HRF HPS
          rw [show (⟨x.p, x.s, x.f, x.h⟩ : Rte) = r from hr]
          obtain ⟨G, hG⟩ : ∃ G, x.g = G := ⟨_, rfl⟩
          rw [hG] at HPS
          have HX7f := Lib.hid (fun (W : World) (h : Below w7.heap.size w7 W) => show (Instr.loadAt 51 (.pointer (some ⟨gx, 0, none⟩))).run Tryd.prog W = .ok (.agg (rteV r)) W from ((rte_at HRF.out HX7.out).all W h).all)
          have HGON := Lib.hid (fun (W : World) (h : Below w7.heap.size w7 W) => show (Instr.loadAt 4 (.pointer (some ⟨gu, 0 + 19, none⟩))).run Tryd.prog W = .ok (.bool G) W from hG ▸ ((upd_at HXO.out.fits HU7.out).all W h).gon)
          clear HB6f H6 H7 hla hgu hgx hr HB6 HB7 HBK7 hG
          go_wp2_with (first | ((with_reducible show wpList _ _ _ (Oper.mk _ (Op.load _ _) _ _ _ _ :: _) _ _); refine wpList_load_g (HGON.out _ (Below.refl _ _)) _ rfl rfl (by go_simp) ?_))
          go_loopw [10, 11, 12, 13] (fun s10 s11 s12 s13 wr => ∃ (q : Nat) (Ao : Option Addr) (no co : Nat) (outs : List Rte) (P H : Bool), s13 = .int .i64 q ∧ s10 = .slice Ao no co ∧ s11 = .bool P ∧ s12 = .bool H ∧ Hid (q ≤ nk ∧ no ≤ q + 1 ∧ (P = false → no ≤ q) ∧ outs ++ putK Rte.key r P (lk.drop q) = putK Rte.key r G lk ∧ H = (lk.take q).any (fun a => sameK a r) ∧ OS rteK wr w7.heap.size Ao no co outs ∧ Below w7.heap.size w7 wr)) (fun _ _ _ y _ => nk - (intOf y).toNat)
          case atStart => exact ⟨0, none, 0, 0, [], G, false, rfl, rfl, rfl, rfl, Nat.zero_le _, by omega, fun _ => Nat.le_refl _, rfl, by simp, OS.nil _ _ _, Below.refl _ _⟩
          case round =>
            obtain ⟨q, Ao, no, co, outs, P, H, rfl, rfl, rfl, rfl, HQ⟩ := hrel
            obtain ⟨wq, rfl⟩ : ∃ wq, wq = wr := ⟨wr, rfl⟩
            have hno : no ≤ 20000 := by have h1 := HQ.out.1; have h2 := HQ.out.2.1; omega
            have HBQ := Lib.hid HQ.out.2.2.2.2.2.2
            have HOQ := Lib.hid HQ.out.2.2.2.2.2.1
            by_cases hqn : q < nk
            · have hqn' : (q : Int) < nk := by omega
              obtain ⟨b2, o2, hA2, hc2⟩ := RS.at_ HL7.out (by omega)
              have hql : q < lk.length := by rw [HL7.out.len]; exact hqn
              have HYO := Lib.hid (HROK.out.ok.at_ hql)
              have HCY : Hid (CellsAt w7 b2 (o2 + q * 21) (rteC (rteAt lk q))) := Lib.hid (hc2 q hqn)
              have HDR : Hid (lk.drop q = rteAt lk q :: lk.drop (q + 1)) := Lib.hid (drop_getD rteZ hql)
              have HAN : Hid ((lk.take (q + 1)).any (fun a => sameK a r) = ((lk.take q).any (fun a => sameK a r) || sameK (rteAt lk q) r)) := Lib.hid (any_succ lk (fun a => sameK a r) rteZ hql)
              obtain ⟨a, ha⟩ : ∃ a, rteAt lk q = a := ⟨_, rfl⟩
              rw [ha] at HYO HCY HDR HAN
              subst hA2
              clear hc2 hql ha
              have HLA := Lib.hid (fun (W : World) (h : Below w7.heap.size w7 W) => show (Instr.loadAt 51 (.pointer (some ⟨b2, o2 + q * 21, none⟩))).run Tryd.prog W = .ok (.agg (rteV a)) W from (rteLd_of HYO.out.fits (HCY.out.below h)).all)
              have HXG := Lib.hid (fun (W : World) (h : Below w7.heap.size w7 W) => (rte_at HRF.out HX7.out).all W h)
              have HRG := Lib.hid HQ.out.2.2.2.1
              have HHG := Lib.hid HQ.out.2.2.2.2.1
              go_upto_region 16 with fail
              cases he : a.p.eqB r.p with
              | false =>
                have hsk : sameK a r = false := by unfold sameK; rw [he]; rfl
                have HEX := Lib.hid (pfx_eq_hex HYO.out.p HRO.out.p he)
                have HSK := Lib.hid hsk
                clear he hsk
                refine wp_region_mix (fun w0 => Below (wq).heap.size (wq) w0) [(0, 0), (1, 0), (2, 0), (3, 0), (4, 0), (5, 0), (6, 0), (7, 0), (8, 0), (9, 0), (10, 0), (11, 0), (12, 0), (13, 0), (14, 0), (15, 0), (16, 0), (17, 0)] (by kernel_rfl) (by kernel_rfl) (below_drew1 _) ?_
                simp only [List.map_cons, List.map_nil]
                iterate 4 (refine wpO_step0 rfl rfl (fun K hK => ?_); go_simp; refine hK _ _ ?_; clear hK K)
                refine wpO_loadW (t := 49) (ad := ⟨b2, (o2+q*21), none⟩) rfl rfl ?hw rfl rfl ((fun w0 hS => (rteLd_of HYO.out.fits (HCY.out.below (below_step HBQ.out hS))).pfx)) ?_
                case hw => go_simp
                iterate 1 (refine wpO_step0 rfl rfl (fun K hK => ?_); go_simp; refine hK _ _ ?_; clear hK K)
                refine wpO_loadW (t := 49) (ad := ⟨gx, 0, none⟩) rfl rfl ?hw rfl rfl ((fun w0 hS => (HXG.out w0 (below_step HBQ.out hS)).pfx)) ?_
                case hw => go_simp
                refine wpO_step0 rfl rfl (fun K hK => ?_)
                rw [if_pos (show Region.wanted _ _ = true from rfl)]
                refine ⟨_, fun w0 => HEX.out _ _ _ _ _ rfl rfl rfl w0, hK _ _ ?_⟩
                clear hK K
                repeat first | (refine wpO_step0 rfl rfl (fun K hK => ?_); go_simp; refine hK _ _ ?_; clear hK K) | (refine wpO_step2 rfl rfl (below_drew1 _) (fun K hK => ?_); go_simp; refine hK _ _ ⟨below_drew1 _, ?_⟩; clear hK K)
                refine wpO_nil ?_
                go_upto_region 18 with fail
                have HKN : Hid (a.key ≠ r.key) := Lib.hid (fun e => by have h1 := (sameK_iff a r HYO.out.fits HRF.out).2 e; rw [HSK.out] at h1; cases h1)
                have HHN : Hid (H = (lk.take (q + 1)).any (fun a => sameK a r)) := Lib.hid (by rw [HAN.out, HSK.out, Bool.or_false]; exact HHG.out)
                have hbd := below_drew1 wq
                obtain ⟨wd, hwd⟩ : ∃ wd, wq.drew = wd := ⟨_, rfl⟩
                rw [hwd] at hbd ⊢
                have HOD := Lib.hid (HOQ.out.below hbd)
                have HBD := Lib.hid (below_step HBQ.out hbd)
                clear hbd hwd
                cases P with
                | true =>
                  have HRN : Hid ((outs ++ [a]) ++ putK Rte.key r true (lk.drop (q + 1)) = putK Rte.key r G lk) := Lib.hid (by rw [← HRG.out, HDR.out, putK_old HKN.out (.inl rfl)]; simp)
                  refine wp_region_mix (fun w0 => Below (wd).heap.size (wd) w0) [(0, 0), (1, 0), (2, 0), (3, 0), (4, 0), (5, 0), (6, 0), (7, 0), (8, 2), (9, 0)] (by kernel_rfl) (by kernel_rfl) (below_drew1 _) ?_
                  simp only [List.map_cons, List.map_nil]
                  repeat first | (refine wpO_step0 rfl rfl (fun K hK => ?_); go_simp; refine hK _ _ ?_; clear hK K) | (refine wpO_step2 rfl rfl (below_drew1 _) (fun K hK => ?_); go_simp; refine hK _ _ ⟨below_drew1 _, ?_⟩; clear hK K)
                  refine wpO_nil ?_
                  have HB2 := Lib.hid (below_step HBD.out (below_drew1 wd))
                  go_wp2_with (first | ((with_reducible show wpList _ _ _ (Oper.mk _ (Op.load _ _) _ _ _ _ :: _) _ _); refine wpList_load_g (HLA.out _ HB2.out) _ rfl rfl (by go_simp) ?_) | ((with_reducible show wpList _ _ _ (Oper.mk _ (Op.buildSlice _ _ _) _ _ _ _ :: _) _ _); refine wpList_exw rfl (exec_lit1 rteK (x := .tmp 89) rfl a rfl HYO.out.fits (by show 21 ≤ _; omega) _) ?_) | (at_builtin; refine wpList_append_shp rteK rfl (.tmp 85) (.tmp 90) rfl rfl rfl (OS.below (HOD.out.below (below_drew1 wd)) (below_alloc (Below.refl _ _) _)) (OS.one rteK wd.drew 0 a (Nat.zero_le _) HYO.out.fits).reads (by have := HB2.out.size; simp; simp at this; omega) (by omega) ?_; intro A9 c9 w9 h1 h2 h3; have H9 := Lib.hid (And.intro h1 (And.intro h2 h3)); clear h1 h2 h3))
                  go_roundw
                  case measure => simp [intOf]; omega
                  case rel => exact ⟨q + 1, A9, no + 1, c9, _, true, H, by go_num, rfl, rfl, rfl, by omega, by have := HQ.out.2.1; omega, (fun h => by cases h), HRN.out, HHN.out, H9.out.1, below_own (below_step HB2.out (below_alloc (Below.refl _ _) _)) H9.out.2.1 HOD.out.base_⟩
                | false =>
                  refine wp_region_mix (fun w0 => Below (wd).heap.size (wd) w0) [(0, 0), (1, 0), (2, 0), (3, 0), (4, 0), (5, 0), (6, 0), (7, 0), (8, 2), (9, 0)] (by kernel_rfl) (by kernel_rfl) (below_drew1 _) ?_
                  simp only [List.map_cons, List.map_nil]
                  iterate 3 (refine wpO_step0 rfl rfl (fun K hK => ?_); go_simp; refine hK _ _ ?_; clear hK K)
                  refine wpO_loadW (t := 51) (ad := ⟨gx, 0, none⟩) rfl rfl ?hw rfl rfl ((fun w0 hS => (HXG.out w0 (below_step HBD.out hS)).all)) ?_
                  case hw => go_simp
                  iterate 3 (refine wpO_step0 rfl rfl (fun K hK => ?_); go_simp; refine hK _ _ ?_; clear hK K)
                  refine wpO_loadW (t := 51) (ad := ⟨b2, (o2+q*21), none⟩) rfl rfl ?hw rfl rfl ((fun w0 hS => HLA.out w0 (below_step HBD.out hS))) ?_
                  case hw => go_simp
                  refine wpO_step2 rfl rfl (below_drew1 _) (fun K hK => ?_)
                  go_simp
                  refine (refahead_any r a _ HRF.out HYO.out.fits).mono ?_
                  rintro e w8 ⟨rfl, hb8⟩
                  rw [ahead_iff r a HRF.out HYO.out.fits]
                  have HDW := Lib.hid (below_step (below_drew1 wd) hb8)
                  clear hb8
                  refine hK _ _ ⟨HDW.out, ?_⟩
                  clear hK K
                  have HB2 := Lib.hid (below_step HBD.out HDW.out)
                  have HO8 := Lib.hid (HOD.out.below HDW.out)
                  have hnoq := HQ.out.2.2.1 rfl
                  cases hN : decide (cR r a < 0) with
                  | true =>
                    have HRN : Hid (((outs ++ [r]) ++ [a]) ++ putK Rte.key r true (lk.drop (q + 1)) = putK Rte.key r G lk) := Lib.hid (by rw [← HRG.out, HDR.out, putK_new HKN.out (of_decide_eq_true hN)]; simp)
                    clear hN
                    iterate 1 (refine wpO_step0 rfl rfl (fun K hK => ?_); go_simp; refine hK _ _ ?_; clear hK K)
                    refine wpO_nil ?_
                    go_upto_region 21 with (first | ((with_reducible show wpList _ _ _ (Oper.mk _ (Op.load _ _) _ _ _ _ :: _) _ _); refine wpList_load_g ((HXG.out _ HB2.out).all) _ rfl rfl (by go_simp) ?_) | ((with_reducible show wpList _ _ _ (Oper.mk _ (Op.buildSlice _ _ _) _ _ _ _ :: _) _ _); refine wpList_exw rfl (exec_lit1 rteK (x := .tmp 82) rfl r rfl HRF.out (by show 21 ≤ _; omega) _) ?_) | (at_builtin; refine wpList_append_shp rteK rfl (.tmp 81) (.tmp 83) rfl rfl rfl (OS.below HO8.out (below_alloc (Below.refl _ _) _)) (OS.one rteK w8 0 r (Nat.zero_le _) HRF.out).reads (by have := HB2.out.size; simp; omega) (by omega) ?_; intro A9 c9 w9 h1 h2 h3; have H9 := Lib.hid (And.intro h1 (And.intro h2 h3)); clear h1 h2 h3))
                    have HB9 := Lib.hid (below_own (below_step HB2.out (below_alloc (Below.refl w8.heap.size w8) (.cells (rteK.enc r).toArray rteK.t))) H9.out.2.1 HO8.out.base_)
                    have HO9 := Lib.hid H9.out.1
                    clear H9
                    go_wp2_with (first | ((with_reducible show wpList _ _ _ (Oper.mk _ (Op.load _ _) _ _ _ _ :: _) _ _); refine wpList_load_g (HLA.out _ HB9.out) _ rfl rfl (by go_simp) ?_) | ((with_reducible show wpList _ _ _ (Oper.mk _ (Op.buildSlice _ _ _) _ _ _ _ :: _) _ _); refine wpList_exw rfl (exec_lit1 rteK (x := .tmp 89) rfl a rfl HYO.out.fits (by show 21 ≤ _; omega) _) ?_) | (at_builtin; refine wpList_append_shp rteK rfl (.tmp 85) (.tmp 90) rfl rfl rfl (OS.below HO9.out (below_alloc (Below.refl _ _) _)) (OS.one rteK w9 0 a (Nat.zero_le _) HYO.out.fits).reads (by have := HB9.out.size; simp; omega) (by omega) ?_; intro A10 c10 w10 h1 h2 h3; have H10 := Lib.hid (And.intro h1 (And.intro h2 h3)); clear h1 h2 h3))
                    go_roundw
                    case measure => simp [intOf]; omega
                    case rel => exact ⟨q + 1, A10, no + 1 + 1, c10, _, true, H, by go_num, rfl, rfl, rfl, by omega, by omega, (fun h => by cases h), HRN.out, HHN.out, H10.out.1, below_own (below_step HB9.out (below_alloc (Below.refl _ _) _)) H10.out.2.1 HO9.out.base_⟩
                  | false =>
                    have HRN : Hid ((outs ++ [a]) ++ putK Rte.key r false (lk.drop (q + 1)) = putK Rte.key r G lk) := Lib.hid (by rw [← HRG.out, HDR.out, putK_old HKN.out (.inr (of_decide_eq_false hN))]; simp)
                    clear hN
                    iterate 1 (refine wpO_step0 rfl rfl (fun K hK => ?_); go_simp; refine hK _ _ ?_; clear hK K)
                    refine wpO_nil ?_
                    go_wp2_with (first | ((with_reducible show wpList _ _ _ (Oper.mk _ (Op.load _ _) _ _ _ _ :: _) _ _); refine wpList_load_g (HLA.out _ HB2.out) _ rfl rfl (by go_simp) ?_) | ((with_reducible show wpList _ _ _ (Oper.mk _ (Op.buildSlice _ _ _) _ _ _ _ :: _) _ _); refine wpList_exw rfl (exec_lit1 rteK (x := .tmp 89) rfl a rfl HYO.out.fits (by show 21 ≤ _; omega) _) ?_) | (at_builtin; refine wpList_append_shp rteK rfl (.tmp 85) (.tmp 90) rfl rfl rfl (OS.below HO8.out (below_alloc (Below.refl _ _) _)) (OS.one rteK w8 0 a (Nat.zero_le _) HYO.out.fits).reads (by have := HB2.out.size; simp; omega) (by omega) ?_; intro A9 c9 w9 h1 h2 h3; have H9 := Lib.hid (And.intro h1 (And.intro h2 h3)); clear h1 h2 h3))
                    go_roundw
                    case measure => simp [intOf]; omega
                    case rel => exact ⟨q + 1, A9, no + 1, c9, _, false, H, by go_num, rfl, rfl, rfl, by omega, by omega, (fun _ => by omega), HRN.out, HHN.out, H9.out.1, below_own (below_step HB2.out (below_alloc (Below.refl _ _) _)) H9.out.2.1 HO8.out.base_⟩
              | true =>
                have HEX := Lib.hid (pfx_eq_hex HYO.out.p HRO.out.p he)
                have HSD : Hid (sameK a r = decide (a.s = r.s)) := Lib.hid (by unfold sameK; rw [he]; rfl)
                clear he
                refine wp_region_mix (fun w0 => Below (wq).heap.size (wq) w0) [(0, 0), (1, 0), (2, 0), (3, 0), (4, 0), (5, 0), (6, 0), (7, 0), (8, 0), (9, 0), (10, 0), (11, 0), (12, 0), (13, 0), (14, 0), (15, 0), (16, 0), (17, 0)] (by kernel_rfl) (by kernel_rfl) (below_drew1 _) ?_
                simp only [List.map_cons, List.map_nil]
                iterate 4 (refine wpO_step0 rfl rfl (fun K hK => ?_); go_simp; refine hK _ _ ?_; clear hK K)
                refine wpO_loadW (t := 49) (ad := ⟨b2, (o2+q*21), none⟩) rfl rfl ?hw rfl rfl ((fun w0 hS => (rteLd_of HYO.out.fits (HCY.out.below (below_step HBQ.out hS))).pfx)) ?_
                case hw => go_simp
                iterate 1 (refine wpO_step0 rfl rfl (fun K hK => ?_); go_simp; refine hK _ _ ?_; clear hK K)
                refine wpO_loadW (t := 49) (ad := ⟨gx, 0, none⟩) rfl rfl ?hw rfl rfl ((fun w0 hS => (HXG.out w0 (below_step HBQ.out hS)).pfx)) ?_
                case hw => go_simp
                refine wpO_step0 rfl rfl (fun K hK => ?_)
                rw [if_pos (show Region.wanted _ _ = true from rfl)]
                refine ⟨_, fun w0 => HEX.out _ _ _ _ _ rfl rfl rfl w0, hK _ _ ?_⟩
                clear hK K
                iterate 5 (refine wpO_step0 rfl rfl (fun K hK => ?_); go_simp; refine hK _ _ ?_; clear hK K)
                refine wpO_loadW (t := 3) (ad := ⟨b2, (o2+q*21+18), none⟩) rfl rfl ?hw rfl rfl ((fun w0 hS => (rteLd_of HYO.out.fits (HCY.out.below (below_step HBQ.out hS))).src)) ?_
                case hw => go_simp
                iterate 1 (refine wpO_step0 rfl rfl (fun K hK => ?_); go_simp; refine hK _ _ ?_; clear hK K)
                refine wpO_loadW (t := 3) (ad := ⟨gx, 18, none⟩) rfl rfl ?hw rfl rfl ((fun w0 hS => (HXG.out w0 (below_step HBQ.out hS)).src)) ?_
                case hw => go_simp
                iterate 2 (refine wpO_step0 rfl rfl (fun K hK => ?_); go_simp; refine hK _ _ ?_; clear hK K)
                refine wpO_nil ?_
                by_cases hss : a.s = r.s
                · have hsb : (a.s == r.s) = true := by simpa using hss
                  have hsk : sameK a r = true := by rw [HSD.out, decide_eq_true hss]
                  have HHN : Hid (true = (lk.take (q + 1)).any (fun a => sameK a r)) := Lib.hid (by rw [HAN.out, hsk, Bool.or_true])
                  have HRN : Hid (outs ++ putK Rte.key r P (lk.drop (q + 1)) = putK Rte.key r G lk) := Lib.hid (by rw [← HRG.out, HDR.out, putK_same P ((sameK_iff a r HYO.out.fits HRF.out).1 hsk)])
                  clear hss hsk
                  go_wp2_with fail
                  go_roundw
                  case measure => simp [intOf]; omega
                  case rel => exact ⟨q + 1, Ao, no, co, outs, P, true, by go_num, rfl, rfl, rfl, by omega, by have := HQ.out.2.1; omega, (fun h => by have := HQ.out.2.2.1 h; omega), HRN.out, HHN.out, HOQ.out.below (below_drew1 _), below_step HBQ.out (below_drew1 _)⟩
                · have hsb : (a.s == r.s) = false := by simpa using hss
                  have HSK : Hid (sameK a r = false) := Lib.hid (by rw [HSD.out, decide_eq_false hss])
                  clear hss
                  go_upto_region 18 with fail
                  have HKN : Hid (a.key ≠ r.key) := Lib.hid (fun e => by have h1 := (sameK_iff a r HYO.out.fits HRF.out).2 e; rw [HSK.out] at h1; cases h1)
                  have HHN : Hid (H = (lk.take (q + 1)).any (fun a => sameK a r)) := Lib.hid (by rw [HAN.out, HSK.out, Bool.or_false]; exact HHG.out)
                  have hbd := below_drew1 wq
                  obtain ⟨wd, hwd⟩ : ∃ wd, wq.drew = wd := ⟨_, rfl⟩
                  rw [hwd] at hbd ⊢
                  have HOD := Lib.hid (HOQ.out.below hbd)
                  have HBD := Lib.hid (below_step HBQ.out hbd)
                  clear hbd hwd
                  cases P with
                  | true =>
                    have HRN : Hid ((outs ++ [a]) ++ putK Rte.key r true (lk.drop (q + 1)) = putK Rte.key r G lk) := Lib.hid (by rw [← HRG.out, HDR.out, putK_old HKN.out (.inl rfl)]; simp)
                    refine wp_region_mix (fun w0 => Below (wd).heap.size (wd) w0) [(0, 0), (1, 0), (2, 0), (3, 0), (4, 0), (5, 0), (6, 0), (7, 0), (8, 2), (9, 0)] (by kernel_rfl) (by kernel_rfl) (below_drew1 _) ?_
                    simp only [List.map_cons, List.map_nil]
                    repeat first | (refine wpO_step0 rfl rfl (fun K hK => ?_); go_simp; refine hK _ _ ?_; clear hK K) | (refine wpO_step2 rfl rfl (below_drew1 _) (fun K hK => ?_); go_simp; refine hK _ _ ⟨below_drew1 _, ?_⟩; clear hK K)
                    refine wpO_nil ?_
                    have HB2 := Lib.hid (below_step HBD.out (below_drew1 wd))
                    go_wp2_with (first | ((with_reducible show wpList _ _ _ (Oper.mk _ (Op.load _ _) _ _ _ _ :: _) _ _); refine wpList_load_g (HLA.out _ HB2.out) _ rfl rfl (by go_simp) ?_) | ((with_reducible show wpList _ _ _ (Oper.mk _ (Op.buildSlice _ _ _) _ _ _ _ :: _) _ _); refine wpList_exw rfl (exec_lit1 rteK (x := .tmp 89) rfl a rfl HYO.out.fits (by show 21 ≤ _; omega) _) ?_) | (at_builtin; refine wpList_append_shp rteK rfl (.tmp 85) (.tmp 90) rfl rfl rfl (OS.below (HOD.out.below (below_drew1 wd)) (below_alloc (Below.refl _ _) _)) (OS.one rteK wd.drew 0 a (Nat.zero_le _) HYO.out.fits).reads (by have := HB2.out.size; simp; simp at this; omega) (by omega) ?_; intro A9 c9 w9 h1 h2 h3; have H9 := Lib.hid (And.intro h1 (And.intro h2 h3)); clear h1 h2 h3))
                    go_roundw
                    case measure => simp [intOf]; omega
                    case rel => exact ⟨q + 1, A9, no + 1, c9, _, true, H, by go_num, rfl, rfl, rfl, by omega, by have := HQ.out.2.1; omega, (fun h => by cases h), HRN.out, HHN.out, H9.out.1, below_own (below_step HB2.out (below_alloc (Below.refl _ _) _)) H9.out.2.1 HOD.out.base_⟩
                  | false =>
                    refine wp_region_mix (fun w0 => Below (wd).heap.size (wd) w0) [(0, 0), (1, 0), (2, 0), (3, 0), (4, 0), (5, 0), (6, 0), (7, 0), (8, 2), (9, 0)] (by kernel_rfl) (by kernel_rfl) (below_drew1 _) ?_
                    simp only [List.map_cons, List.map_nil]
                    iterate 3 (refine wpO_step0 rfl rfl (fun K hK => ?_); go_simp; refine hK _ _ ?_; clear hK K)
                    refine wpO_loadW (t := 51) (ad := ⟨gx, 0, none⟩) rfl rfl ?hw rfl rfl ((fun w0 hS => (HXG.out w0 (below_step HBD.out hS)).all)) ?_
                    case hw => go_simp
                    iterate 3 (refine wpO_step0 rfl rfl (fun K hK => ?_); go_simp; refine hK _ _ ?_; clear hK K)
                    refine wpO_loadW (t := 51) (ad := ⟨b2, (o2+q*21), none⟩) rfl rfl ?hw rfl rfl ((fun w0 hS => HLA.out w0 (below_step HBD.out hS))) ?_
                    case hw => go_simp
                    refine wpO_step2 rfl rfl (below_drew1 _) (fun K hK => ?_)
                    go_simp
                    refine (refahead_any r a _ HRF.out HYO.out.fits).mono ?_
                    rintro e w8 ⟨rfl, hb8⟩
                    rw [ahead_iff r a HRF.out HYO.out.fits]
                    have HDW := Lib.hid (below_step (below_drew1 wd) hb8)
                    clear hb8
                    refine hK _ _ ⟨HDW.out, ?_⟩
                    clear hK K
                    have HB2 := Lib.hid (below_step HBD.out HDW.out)
                    have HO8 := Lib.hid (HOD.out.below HDW.out)
                    have hnoq := HQ.out.2.2.1 rfl
                    cases hN : decide (cR r a < 0) with
                    | true =>
                      have HRN : Hid (((outs ++ [r]) ++ [a]) ++ putK Rte.key r true (lk.drop (q + 1)) = putK Rte.key r G lk) := Lib.hid (by rw [← HRG.out, HDR.out, putK_new HKN.out (of_decide_eq_true hN)]; simp)
                      clear hN
                      iterate 1 (refine wpO_step0 rfl rfl (fun K hK => ?_); go_simp; refine hK _ _ ?_; clear hK K)
                      refine wpO_nil ?_
                      go_upto_region 21 with (first | ((with_reducible show wpList _ _ _ (Oper.mk _ (Op.load _ _) _ _ _ _ :: _) _ _); refine wpList_load_g ((HXG.out _ HB2.out).all) _ rfl rfl (by go_simp) ?_) | ((with_reducible show wpList _ _ _ (Oper.mk _ (Op.buildSlice _ _ _) _ _ _ _ :: _) _ _); refine wpList_exw rfl (exec_lit1 rteK (x := .tmp 82) rfl r rfl HRF.out (by show 21 ≤ _; omega) _) ?_) | (at_builtin; refine wpList_append_shp rteK rfl (.tmp 81) (.tmp 83) rfl rfl rfl (OS.below HO8.out (below_alloc (Below.refl _ _) _)) (OS.one rteK w8 0 r (Nat.zero_le _) HRF.out).reads (by have := HB2.out.size; simp; omega) (by omega) ?_; intro A9 c9 w9 h1 h2 h3; have H9 := Lib.hid (And.intro h1 (And.intro h2 h3)); clear h1 h2 h3))
                      have HB9 := Lib.hid (below_own (below_step HB2.out (below_alloc (Below.refl w8.heap.size w8) (.cells (rteK.enc r).toArray rteK.t))) H9.out.2.1 HO8.out.base_)
                      have HO9 := Lib.hid H9.out.1
                      clear H9
                      go_wp2_with (first | ((with_reducible show wpList _ _ _ (Oper.mk _ (Op.load _ _) _ _ _ _ :: _) _ _); refine wpList_load_g (HLA.out _ HB9.out) _ rfl rfl (by go_simp) ?_) | ((with_reducible show wpList _ _ _ (Oper.mk _ (Op.buildSlice _ _ _) _ _ _ _ :: _) _ _); refine wpList_exw rfl (exec_lit1 rteK (x := .tmp 89) rfl a rfl HYO.out.fits (by show 21 ≤ _; omega) _) ?_) | (at_builtin; refine wpList_append_shp rteK rfl (.tmp 85) (.tmp 90) rfl rfl rfl (OS.below HO9.out (below_alloc (Below.refl _ _) _)) (OS.one rteK w9 0 a (Nat.zero_le _) HYO.out.fits).reads (by have := HB9.out.size; simp; omega) (by omega) ?_; intro A10 c10 w10 h1 h2 h3; have H10 := Lib.hid (And.intro h1 (And.intro h2 h3)); clear h1 h2 h3))
                      go_roundw
                      case measure => simp [intOf]; omega
                      case rel => exact ⟨q + 1, A10, no + 1 + 1, c10, _, true, H, by go_num, rfl, rfl, rfl, by omega, by omega, (fun h => by cases h), HRN.out, HHN.out, H10.out.1, below_own (below_step HB9.out (below_alloc (Below.refl _ _) _)) H10.out.2.1 HO9.out.base_⟩
                    | false =>
                      have HRN : Hid ((outs ++ [a]) ++ putK Rte.key r false (lk.drop (q + 1)) = putK Rte.key r G lk) := Lib.hid (by rw [← HRG.out, HDR.out, putK_old HKN.out (.inr (of_decide_eq_false hN))]; simp)
                      clear hN
                      iterate 1 (refine wpO_step0 rfl rfl (fun K hK => ?_); go_simp; refine hK _ _ ?_; clear hK K)
                      refine wpO_nil ?_
                      go_wp2_with (first | ((with_reducible show wpList _ _ _ (Oper.mk _ (Op.load _ _) _ _ _ _ :: _) _ _); refine wpList_load_g (HLA.out _ HB2.out) _ rfl rfl (by go_simp) ?_) | ((with_reducible show wpList _ _ _ (Oper.mk _ (Op.buildSlice _ _ _) _ _ _ _ :: _) _ _); refine wpList_exw rfl (exec_lit1 rteK (x := .tmp 89) rfl a rfl HYO.out.fits (by show 21 ≤ _; omega) _) ?_) | (at_builtin; refine wpList_append_shp rteK rfl (.tmp 85) (.tmp 90) rfl rfl rfl (OS.below HO8.out (below_alloc (Below.refl _ _) _)) (OS.one rteK w8 0 a (Nat.zero_le _) HYO.out.fits).reads (by have := HB2.out.size; simp; omega) (by omega) ?_; intro A9 c9 w9 h1 h2 h3; have H9 := Lib.hid (And.intro h1 (And.intro h2 h3)); clear h1 h2 h3))
                      go_roundw
                      case measure => simp [intOf]; omega
                      case rel => exact ⟨q + 1, A9, no + 1, c9, _, false, H, by go_num, rfl, rfl, rfl, by omega, by omega, (fun _ => by omega), HRN.out, HHN.out, H9.out.1, below_own (below_step HB2.out (below_alloc (Below.refl _ _) _)) H9.out.2.1 HO8.out.base_⟩
            · have hqn' : decide (q < nk) = false := decide_eq_false hqn
              have hqe : q = lk.length := by rw [HL7.out.len]; have := HQ.out.1; omega
              have hdr : lk.drop q = [] := by rw [hqe, List.drop_length]
              have htk : lk.take q = lk := by rw [hqe, List.take_length]
              have hrg := HQ.out.2.2.2.1
              rw [hdr] at hrg
              have hhh := HQ.out.2.2.2.2.1
              rw [htk] at hhh
              have HSH : Hid (H = true ↔ ∃ a ∈ lk, a.key = r.key) := Lib.hid (by rw [hhh]; exact any_same HROK.out.ok.fits HRF.out)
              have HRG := Lib.hid hrg
              have HL37 := Lib.hid (fun (W : World) (h : Below w7.heap.size w7 W) => below_step HB37.out h)
              clear hdr htk hrg hhh hqe hqn
              cases P with
              | true =>
                have HOUT : Hid (outs = putK Rte.key r G lk) := Lib.hid (by rw [← HRG.out]; simp [putK])
                have HOE := Lib.hid (HOQ.out.below (Below.refl _ _))
                have HBE7 := Lib.hid HBQ.out
                have HNEO : Hid (∀ ad, Ao = some ad → w3.heap.size ≤ ad.block) := Lib.hid (fun ad e => by have h1 := HOE.out.base_ ad e; have h2 := HB37.out.size; omega)
                cases G with
                | false =>
                  have HN : Hid (appL l (b.take (k + 1)) = some (outs)) := Lib.hid (by rw [HAT.out, ← HPS.out, if_neg (by decide), ← HOUT.out])
                  clear HSH
                  go_wp2_with (first | ((with_reducible show wpList _ _ _ (Oper.mk _ (Op.load _ _) _ _ _ _ :: _) _ _); refine wpList_load_g (HGON.out _ HBE7.out) _ rfl rfl (by go_simp) ?_))
                  go_roundw
                  case measure => simp [intOf]; omega
                  case rel => exact ⟨k + 1, Ao, no, co, outs, by go_num, rfl, by omega, HOE.out.reads, HN.out, HL37.out _ HBE7.out, fun _ => HNEO.out⟩
                | true =>
                  cases H with
                  | true =>
                    have HN : Hid (appL l (b.take (k + 1)) = some (outs)) := Lib.hid (by rw [HAT.out, ← HPS.out, if_pos rfl, if_pos (HSH.out.1 rfl), ← HOUT.out])
                    clear HSH
                    go_wp2_with (first | ((with_reducible show wpList _ _ _ (Oper.mk _ (Op.load _ _) _ _ _ _ :: _) _ _); refine wpList_load_g (HGON.out _ HBE7.out) _ rfl rfl (by go_simp) ?_))
                    go_roundw
                    case measure => simp [intOf]; omega
                    case rel => exact ⟨k + 1, Ao, no, co, outs, by go_num, rfl, by omega, HOE.out.reads, HN.out, HL37.out _ HBE7.out, fun _ => HNEO.out⟩
                  | false =>
                    have HE := Lib.hid (appN_no HRB.out HBB.out (HTN.out (by rw [HAT.out, ← HPS.out, if_pos rfl, if_neg (fun h => by have := HSH.out.2 h; cases this)])))
                    clear HSH
                    go_wp2_with (first | ((with_reducible show wpList _ _ _ (Oper.mk _ (Op.load _ _) _ _ _ _ :: _) _ _); refine wpList_load_g (HGON.out _ HBE7.out) _ rfl rfl (by go_simp) ?_) | ((with_reducible show wpList _ _ _ (Oper.mk _ (Op.build _ _) _ _ _ _ :: _) _ _); refine wpList_exw rfl (exec_build 24 #[] rfl #[] rfl ((run_build_rib_nil _))) ?_) | ((with_reducible show wpList _ _ _ (Oper.mk _ (Op.store _ _ _) _ _ _ _ :: _) _ _); refine wpList_store_blk (blk_below HZ3.out (HL37.out _ HBE7.out)) 24 0 (tabV none 0 0) (Nat.le_refl _) (info_rib _ _ _) (tab_one _ _ _) _ _ rfl rfl rfl rfl ?_; intro w19 hg9 hs9 hb9; rw [splice_tab] at hb9; have H19 := Lib.hid (And.intro hg9 hb9); clear hg9 hs9 hb9))
                    refine bodyPost_ret (results_c2 rfl rfl (load_rib H19.out.2)) rfl ?_
                    rw [HE.out.1, HE.out.2]
                    exact ⟨none, 0, 0, rfl, RS.nil _ _ _ _, below_grown (below_step HBE.out (below_step HB3.out (HL37.out _ HBE7.out))) H19.out.1 HZL.out, fun ad e => by cases e⟩
              | false =>
                have HOUT : Hid (outs ++ [r] = putK Rte.key r G lk) := Lib.hid (by rw [← HRG.out]; simp [putK])
                go_upto_region 24 with (first | ((with_reducible show wpList _ _ _ (Oper.mk _ (Op.load _ _) _ _ _ _ :: _) _ _); refine wpList_load_g ((HX7f.out _ HBQ.out)) _ rfl rfl (by go_simp) ?_) | ((with_reducible show wpList _ _ _ (Oper.mk _ (Op.buildSlice _ _ _) _ _ _ _ :: _) _ _); refine wpList_exw rfl (exec_lit1 rteK (x := .tmp 95) rfl r rfl HRF.out (by show 21 ≤ _; omega) _) ?_) | (at_builtin; refine wpList_append_shp rteK rfl (.tmp 94) (.tmp 96) rfl rfl rfl (OS.below HOQ.out (below_alloc (Below.refl _ _) _)) (OS.one rteK wq 0 r (Nat.zero_le _) HRF.out).reads (by have := HBQ.out.size; simp; omega) (by omega) ?_; intro A9 c9 w9 h1 h2 h3; have H9 := Lib.hid (And.intro h1 (And.intro h2 h3)); clear h1 h2 h3))
                have HOE := Lib.hid H9.out.1
                have HBE7 := Lib.hid (below_own (below_step HBQ.out (below_alloc (Below.refl wq.heap.size wq) (.cells (rteK.enc r).toArray rteK.t))) H9.out.2.1 HOQ.out.base_)
                clear H9
                have HNEO : Hid (∀ ad, A9 = some ad → w3.heap.size ≤ ad.block) := Lib.hid (fun ad e => by have h1 := HOE.out.base_ ad e; have h2 := HB37.out.size; omega)
                cases G with
                | false =>
                  have HN : Hid (appL l (b.take (k + 1)) = some ((outs ++ [r]))) := Lib.hid (by rw [HAT.out, ← HPS.out, if_neg (by decide), ← HOUT.out])
                  clear HSH
                  go_wp2_with (first | ((with_reducible show wpList _ _ _ (Oper.mk _ (Op.load _ _) _ _ _ _ :: _) _ _); refine wpList_load_g (HGON.out _ HBE7.out) _ rfl rfl (by go_simp) ?_))
                  go_roundw
                  case measure => simp [intOf]; omega
                  case rel => exact ⟨k + 1, A9, (no + 1), c9, (outs ++ [r]), by go_num, rfl, by omega, HOE.out.reads, HN.out, HL37.out _ HBE7.out, fun _ => HNEO.out⟩
                | true =>
                  cases H with
                  | true =>
                    have HN : Hid (appL l (b.take (k + 1)) = some ((outs ++ [r]))) := Lib.hid (by rw [HAT.out, ← HPS.out, if_pos rfl, if_pos (HSH.out.1 rfl), ← HOUT.out])
                    clear HSH
                    go_wp2_with (first | ((with_reducible show wpList _ _ _ (Oper.mk _ (Op.load _ _) _ _ _ _ :: _) _ _); refine wpList_load_g (HGON.out _ HBE7.out) _ rfl rfl (by go_simp) ?_))
                    go_roundw
                    case measure => simp [intOf]; omega
                    case rel => exact ⟨k + 1, A9, (no + 1), c9, (outs ++ [r]), by go_num, rfl, by omega, HOE.out.reads, HN.out, HL37.out _ HBE7.out, fun _ => HNEO.out⟩
                  | false =>
                    have HE := Lib.hid (appN_no HRB.out HBB.out (HTN.out (by rw [HAT.out, ← HPS.out, if_pos rfl, if_neg (fun h => by have := HSH.out.2 h; cases this)])))
                    clear HSH
                    go_wp2_with (first | ((with_reducible show wpList _ _ _ (Oper.mk _ (Op.load _ _) _ _ _ _ :: _) _ _); refine wpList_load_g (HGON.out _ HBE7.out) _ rfl rfl (by go_simp) ?_) | ((with_reducible show wpList _ _ _ (Oper.mk _ (Op.build _ _) _ _ _ _ :: _) _ _); refine wpList_exw rfl (exec_build 24 #[] rfl #[] rfl ((run_build_rib_nil _))) ?_) | ((with_reducible show wpList _ _ _ (Oper.mk _ (Op.store _ _ _) _ _ _ _ :: _) _ _); refine wpList_store_blk (blk_below HZ3.out (HL37.out _ HBE7.out)) 24 0 (tabV none 0 0) (Nat.le_refl _) (info_rib _ _ _) (tab_one _ _ _) _ _ rfl rfl rfl rfl ?_; intro w19 hg9 hs9 hb9; rw [splice_tab] at hb9; have H19 := Lib.hid (And.intro hg9 hb9); clear hg9 hs9 hb9))
                    refine bodyPost_ret (results_c2 rfl rfl (load_rib H19.out.2)) rfl ?_
                    rw [HE.out.1, HE.out.2]
                    exact ⟨none, 0, 0, rfl, RS.nil _ _ _ _, below_grown (below_step HBE.out (below_step HB3.out (HL37.out _ HBE7.out))) H19.out.1 HZL.out, fun ad e => by cases e⟩
        · have hlt' : decide (k < m) = false := decide_eq_false hlt
          have HAL : Hid (appL l b = some lk) := Lib.hid (by
            have h1 := HI.out.2.2.1
            have h2 : k = b.length := by rw [HU.out.len]; have := HI.out.1; omega
            rwa [h2, List.take_length] at h1)
          have HLK := Lib.hid HI.out.2.1
          have HB3K := Lib.hid HI.out.2.2.2.1
          have hm1 : 0 < m := by have h1 := HBB.out; unfold batB at h1; rw [Bool.and_eq_true, Bool.and_eq_true, decide_eq_true_eq, HU.out.len] at h1; omega
          have HNE := Lib.hid (HI.out.2.2.2.2 (by have := HI.out.1; omega))
          clear hlt
          go_wp2_with (first | ((with_reducible show wpList _ _ _ (Oper.mk _ (Op.load _ _) _ _ _ _ :: _) _ _); refine wpList_load_g ((HP2.out.all _ HBK.out).2) _ rfl rfl (by go_simp) ?_))
          refine (refprefixes_any Ak nk ck lk wk HLK.out HROK.out.ok (by omega)).mono ?_
          rintro e w8 ⟨rfl, hb8⟩
          rw [pfxs_eq HROK.out.ok.fits HROK.out.ris]
          have HB38 := Lib.hid (below_step HB3K.out hb8)
          have HL8 := Lib.hid (HLK.out.below hb8)
          obtain ⟨q, hq⟩ : ∃ q, pfxsN lk = q := ⟨_, rfl⟩
          have HQ := Lib.hid hq
          rw [hq]
          clear hb8 hq
          by_cases h40 : 40 < q
          · have h40b : decide ((40 : Int) < q) = true := decide_eq_true (by omega)
            have HE := Lib.hid (appN_full HRB.out HBB.out HAL.out (by rw [HQ.out]; omega))
            clear h40
            go_wp2_with (first | ((with_reducible show wpList _ _ _ (Oper.mk _ (Op.build _ _) _ _ _ _ :: _) _ _); refine wpList_exw rfl (exec_build 24 #[] rfl #[] rfl ((run_build_rib_nil _))) ?_) | ((with_reducible show wpList _ _ _ (Oper.mk _ (Op.store _ _ _) _ _ _ _ :: _) _ _); refine wpList_store_blk (blk_below HZ3.out HB38.out) 24 0 (tabV none 0 0) (Nat.le_refl _) (info_rib _ _ _) (tab_one _ _ _) _ _ rfl rfl rfl rfl ?_; intro w9 hg9 hs9 hb9; rw [splice_tab] at hb9; have H9 := Lib.hid (And.intro hg9 hb9); clear hg9 hs9 hb9))
            refine bodyPost_ret (results_c2 rfl rfl (load_rib H9.out.2)) rfl ?_
            rw [HE.out.1, HE.out.2]
            exact ⟨none, 0, 0, rfl, RS.nil _ _ _ _, below_grown (below_step HBE.out (below_step HB3.out HB38.out)) H9.out.1 HZL.out, fun ad e => by cases e⟩
          · have h40b : decide ((40 : Int) < q) = false := decide_eq_false (by omega)
            have HE := Lib.hid (appN_yes HRB.out HBB.out HAL.out (by rw [HQ.out]; omega))
            clear h40
            go_wp2_with (first | ((with_reducible show wpList _ _ _ (Oper.mk _ (Op.build _ _) _ _ _ _ :: _) _ _); refine wpList_exw rfl (exec_build1 rfl rfl (run_build_rib _ Ak nk ck)) ?_) | ((with_reducible show wpList _ _ _ (Oper.mk _ (Op.store _ _ _) _ _ _ _ :: _) _ _); refine wpList_store_blk (blk_below HZ3.out HB38.out) 24 0 (tabV Ak nk ck) (Nat.le_refl _) (info_rib _ _ _) (tab_one _ _ _) _ _ rfl rfl rfl rfl ?_; intro w9 hg9 hs9 hb9; rw [splice_tab] at hb9; have H9 := Lib.hid (And.intro hg9 hb9); clear hg9 hs9 hb9))
            refine bodyPost_ret (results_c2 rfl rfl (load_rib H9.out.2)) rfl ?_
            rw [HE.out.1, HE.out.2]
            exact ⟨Ak, nk, ck, rfl, HL8.out.grownZ H9.out.1 (fun _ ad e => by have h1 := HNE.out ad e; have h2 := HS3.out; omega), below_grown (below_step HBE.out (below_step HB3.out HB38.out)) H9.out.1 HZL.out, fun ad e => by have h1 := HNE.out ad e; have h2 := HS3.out; omega⟩
end Go.Proofs.YtnpeedmicjeleaaDoor

/- Layer 11 (route): slices of batches; what comes of batches one behind the other. -/
namespace Go.Proofs.YtnpeedmicjeleaaDoor
open Go.RowKit
set_option linter.unusedVariables false
set_option linter.unusedSimpArgs false
set_option maxRecDepth 4000
structure Bt where
  A : Option Addr
  n : Nat
  c : Nat
  t : List Upd
theorem zero_bat : (Tryd.prog.info? 27).map (fun i => (i.zero, i.size, i.bytes)) = some (some (.agg (tabV none 0 0)), 1, 24) := by kernel_rfl
def btK : Shape Bt where
  t := 27
  ts := 55
  sz := 1
  bytes := 24
  z := ⟨none, 0, 0, []⟩
  ok := fun _ => True
  enc := fun x => [.slice x.A x.n x.c]
  val := fun x => .agg (tabV x.A x.n x.c)
  len := fun _ _ => rfl
  one := fun x u hu => by rw [List.mem_singleton] at hu; subst hu; rfl
  okz := trivial
  pos := by omega
  bpos := by omega
  blt := by omega
  und := Tryd.underlying55
  info := zero_bat
  venc := fun _ => rfl
  ld := fun w b o x _ h => load_cells (cs := tabV x.A x.n x.c) h Tryd.underlying27 rfl (by kernel_rfl)
def foldN : List Rte → List Bt → Int
  | _, [] => 0
  | r, b :: l => if appN r b.t = 0 then foldN (appR r b.t) l else appN r b.t
def foldR : List Rte → List Bt → List Rte
  | r, [] => r
  | r, b :: l => if appN r b.t = 0 then foldR (appR r b.t) l else []
theorem fold_app : ∀ (l m : List Bt) (r : List Rte), foldN r (l ++ m) = (if foldN r l = 0 then foldN (foldR r l) m else foldN r l) ∧ foldR r (l ++ m) = (if foldN r l = 0 then foldR (foldR r l) m else [])
  | [], m, r => by simp [foldN, foldR]
  | b :: l, m, r => by
    simp only [List.cons_append, foldN, foldR]
    by_cases h0 : appN r b.t = 0
    · simp only [if_pos h0]
      exact fold_app l m _
    · simp only [if_neg h0]
      exact ⟨trivial, trivial⟩
theorem fold_one (r : List Rte) (b : Bt) : foldN r [b] = appN r b.t ∧ foldR r [b] = if appN r b.t = 0 then appR r b.t else [] := by
  unfold foldN foldR
  by_cases h0 : appN r b.t = 0
  · rw [if_pos h0, if_pos h0, if_pos h0]
    exact ⟨h0.symm, rfl⟩
  · rw [if_neg h0, if_neg h0, if_neg h0]
    exact ⟨rfl, rfl⟩
theorem appR_len {r : List Rte} {b : List Upd} (ho : Okr r) (hu : Oku b) : (appR r b).length ≤ r.length + 8 := by
  unfold appR
  split
  · rename_i h
    unfold appN at h
    split at h
    · rename_i h1
      split at h
      · rename_i h2
        split at h
        · rename_i k hk
          have h3 := (appL_rok ⟨ho, (ribs_ris (ribB_ris h1).1)⟩ hu hk).2
          have h4 := batB_len h2
          rw [hk]
          show k.length ≤ _
          omega
        · cases h
      · cases h
    · cases h
  · simp
theorem appR_okr {l : List Rte} {b : List Upd} (ho : Okr l) (hu : Oku b) : Okr (appR l b) := by
  unfold appR
  split
  · rename_i h
    unfold appN at h
    split at h
    · rename_i h1
      split at h
      · split at h
        · rename_i m hm
          rw [hm]
          exact (appL_rok ⟨ho, ribs_ris (ribB_ris h1).1⟩ hu hm).1.ok
        · cases h
      · cases h
    · cases h
  · exact fun r hr => by cases hr
theorem fold_ok : ∀ {l : List Bt} {r : List Rte}, Okr r → (∀ b ∈ l, Oku b.t) → Okr (foldR r l) ∧ (foldR r l).length ≤ r.length + 8 * l.length
  | [], r, h, _ => ⟨h, by simp [foldR]⟩
  | b :: l, r, h, hb => by
    unfold foldR
    split
    · have h1 := appR_okr h (hb b (by simp))
      have h2 := appR_len h (hb b (by simp))
      obtain ⟨h3, h4⟩ := fold_ok (l := l) h1 (fun c hc => hb c (by simp [hc]))
      exact ⟨h3, by simp; omega⟩
    · exact ⟨fun r hr => (by cases hr), by simp⟩
/-- Behind the first k, and one more. -/
theorem fold_step {l : List Bt} {k : Nat} (hk : k < l.length) (z : Bt) (h : foldN [] (l.take k) = 0) : (appN (foldR [] (l.take k)) (l.getD k z).t = 0 → foldN [] (l.take (k + 1)) = 0 ∧ foldR [] (l.take (k + 1)) = appR (foldR [] (l.take k)) (l.getD k z).t) ∧ (appN (foldR [] (l.take k)) (l.getD k z).t ≠ 0 → foldN [] l = appN (foldR [] (l.take k)) (l.getD k z).t ∧ foldR [] l = []) := by
  have h1 := fold_app (l.take k) [l.getD k z] []
  rw [if_pos h, if_pos h, (fold_one _ _).1, (fold_one _ _).2, ← take_getD z hk] at h1
  refine ⟨fun h0 => ?_, fun h0 => ?_⟩
  · rw [if_pos h0] at h1
    exact ⟨h1.1.trans h0, h1.2⟩
  · rw [if_neg h0] at h1
    have h2 := fold_app (l.take (k + 1)) (l.drop (k + 1)) []
    rw [List.take_append_drop, if_neg (by rw [h1.1]; exact h0), if_neg (by rw [h1.1]; exact h0), h1.1] at h2
    exact h2
end Go.Proofs.YtnpeedmicjeleaaDoor

/- Arguments that are slices of batches, opened. -/
namespace Go.Proofs.YtnpeedmicjeleaaDoor
open Go.ChangeShapes Go.WideShapes Go.ChangeAt Go.RowKit
set_option linter.unusedVariables false
set_option linter.unusedSimpArgs false
set_option maxRecDepth 4000
theorem open_bts {H : Type} {enc : TypeId × Value → H} {W : World} {base b0 : Nat} {spare : Nat → Bool} {held : Bool} {v : Value} {d : DataW H} {p : List MemPlace} (hv : Value.okWide Tryd.prog W .any b0 55 v)
    (h : DataW.Trod enc Tryd.prog W base spare held 55 v d p) (hl : Light Tryd.prog 55 d) : ∃ A n c l, v = .slice A n c ∧ RS btK W A n c l ∧ (∀ b ∈ l, RS updK W b.A b.n b.c b.t ∧ Oku b.t) ∧ n * 24 ≤ 140737488351232 := by
  obtain ⟨a, len, cap, rfl⟩ := okWide_slice Tryd.underlying55 hv
  obtain ⟨fuel, hf⟩ := h
  obtain ⟨A, n, c, t, e1, e2, e3, e4⟩ := open_shp btK (fun b => RS updK W b.A b.n b.c b.t ∧ Oku b.t) (by show Tryd.prog.cellsOf 27 = 1; kernel_rfl) (by show 0 < Tryd.prog.bytesOf 27; exact of_decide_eq_true (by kernel_rfl)) (fun fuel cs y hy hly => by
    obtain ⟨A, n, c, t, f1, f2, f3, f4⟩ := open_bat_cells hy hly
    exact ⟨⟨A, n, c, t⟩, f1, trivial, f2, f3⟩) hf hl
  have hb : Tryd.prog.bytesOf btK.t = 24 := by show Tryd.prog.bytesOf 27 = 24; kernel_rfl
  rw [hb] at e4
  have e1 : [Value.slice a len cap] = [.slice A n c] := e1
  injection e1 with e1
  exact ⟨A, n, c, t, e1, e2, e3, e4⟩
end Go.Proofs.YtnpeedmicjeleaaDoor

/- Plain laws of layer 11 (route): the best of each prefix. -/
namespace Go.Proofs.YtnpeedmicjeleaaDoor
set_option linter.unusedVariables false
set_option linter.unusedSimpArgs false
set_option maxRecDepth 4000
set_option maxRecDepth 4000
theorem betB_iff (a b : Rte) : betB a b = true ↔ b.f < a.f ∨ (a.f = b.f ∧ a.s < b.s) := by
  unfold betB orI orI orI cmpN
  rw [decide_eq_true_eq]
  rcases Int.lt_trichotomy a.f b.f with h | h | h
  · rw [if_pos h]; simp; omega
  · rw [if_neg (show ¬ a.f < b.f by omega), if_neg (show ¬ b.f < a.f by omega)]
    rcases Int.lt_trichotomy b.s a.s with k | k | k
    · rw [if_pos k]; simp; omega
    · rw [if_neg (show ¬ b.s < a.s by omega), if_neg (show ¬ a.s < b.s by omega)]; simp; omega
    · rw [if_neg (show ¬ b.s < a.s by omega), if_pos k]; simp; omega
  · rw [if_neg (show ¬ a.f < b.f by omega), if_pos h]; simp; omega
def unb (l : List Rte) (x : Rte) : Bool := !l.any (fun y => beats y x)
theorem unb_iff {l : List Rte} {x : Rte} : unb l x = true ↔ ∀ y ∈ l, y.p = x.p → betB y x = false := by
  unfold unb
  rw [Bool.not_eq_true', List.any_eq_false]
  constructor
  · intro h y hy he
    have := h y hy
    unfold beats at this
    rw [(Pfx.eqB_iff _ _).2 he, Bool.true_and] at this
    simpa using this
  · intro h y hy hb
    unfold beats at hb
    rw [Bool.and_eq_true, Pfx.eqB_iff] at hb
    rw [h y hy hb.1] at hb
    cases hb.2
def Rte.row (x : Rte) : Row := ⟨x.p, x.h⟩
/-- The table of the best, of the first k. -/
def bk (l : List Rte) (k : Nat) : List Row := ((l.take k).filter (unb l)).map Rte.row
def bestT (l : List Rte) : List Row := (l.filter (unb l)).map Rte.row
theorem bk_all (l : List Rte) : bk l l.length = bestT l := by unfold bk bestT; rw [List.take_length]
theorem bk_succ (l : List Rte) {k : Nat} (hk : k < l.length) : bk l (k + 1) = bk l k ++ if unb l (rteAt l k) then [(rteAt l k).row] else [] := by
  unfold bk
  have e : l.take (k + 1) = l.take k ++ [rteAt l k] := take_getD rteZ hk
  rw [e, List.filter_append, List.map_append]
  generalize rteAt l k = a
  congr 1
  cases h : unb l a <;> simp [h]
theorem best_lt0 {l : List Rte} (ho : ∀ r ∈ l, r.fits) {a b : Rte} (ha : a ∈ l) (hb : b ∈ l) (h : cR a b < 0) (hi : unb l a = true) (hu : unb l b = true) : a.p.cmp b.p < 0 := by
  have fi := ho _ ha
  have fj := ho _ hb
  have hle := cmp_of_cR fi fj h
  by_cases h0 : a.p.cmp b.p = 0
  · exfalso
    have hp := (a.p.cmp_zero _ fi fj).1 h0
    rw [cR_eq _ _ fi fj, if_neg (by omega)] at h
    have hs : a.s < b.s := by
      unfold cmpN at h
      split at h
      · assumption
      · split at h <;> omega
    have h1 := unb_iff.1 hi _ hb hp.symm
    have h2 := unb_iff.1 hu _ ha hp
    rw [Bool.eq_false_iff, ne_eq, betB_iff] at h1 h2
    omega
  · omega
theorem best_lt {l : List Rte} (ho : ∀ r ∈ l, r.fits) (hr : risK Rte.key l = true) {i j : Nat} (hij : i < j) (hj : j < l.length) (hi : unb l (rteAt l i) = true) (hu : unb l (rteAt l j) = true) : (rteAt l i).p.cmp (rteAt l j).p < 0 :=
  best_lt0 ho (getD_mem (by omega)) (getD_mem hj) (risK_lt hr hij hj) hi hu
theorem rising_pw : ∀ {t : List Row}, t.Pairwise (fun a b => a.p.cmp b.p < 0) → rising t = true
  | [], _ => rfl
  | a :: t, h => by
    rw [List.pairwise_cons] at h
    exact rising_of_head h.1 (rising_pw h.2)
theorem getElem_rteAt {l : List Rte} {i : Nat} (h : i < l.length) : l[i] = rteAt l i := by
  have := getD_get (z := rteZ) h
  rw [List.getElem?_eq_getElem h] at this
  exact Option.some.inj this
theorem best_pw {l : List Rte} (ho : ∀ r ∈ l, r.fits) (hr : risK Rte.key l = true) (k : Nat) : (bk l k).Pairwise (fun a b => a.p.cmp b.p < 0) := by
  unfold bk
  rw [List.pairwise_map]
  have h0 : l.Pairwise (fun a b => unb l a = true → unb l b = true → a.p.cmp b.p < 0) := by
    rw [List.pairwise_iff_getElem]
    intro i j hi hj hij
    rw [getElem_rteAt hi, getElem_rteAt hj]
    exact fun a b => best_lt ho hr hij hj a b
  have h1 := (h0.sublist (List.take_sublist k l)).filter (unb l)
  refine h1.imp_of_mem fun {a b} ha hb h => ?_
  exact h (List.mem_filter.1 ha).2 (List.mem_filter.1 hb).2
theorem bk_lt {l : List Rte} (ho : ∀ r ∈ l, r.fits) (hr : risK Rte.key l = true) {k : Nat} (hk : k < l.length) (hu : unb l (rteAt l k) = true) : ∀ r ∈ bk l k, r.p.cmp (rteAt l k).p < 0 := by
  intro r hm
  have h := best_pw ho hr (k + 1)
  rw [bk_succ l hk, if_pos hu, List.pairwise_append] at h
  exact h.2.2 r hm (rteAt l k).row (List.mem_singleton.2 rfl)
theorem setT_snoc {p : Pfx} {h : Int} : ∀ {t : List Row}, (∀ r ∈ t, r.p.cmp p < 0) → setT t p h = t ++ [⟨p, h⟩] ∧ thereB t p = false
  | [], _ => ⟨rfl, rfl⟩
  | a :: t, hh => by
    have ih := setT_snoc (h := h) (t := t) (fun r hr => hh r (by simp [hr]))
    rw [setT_cons, if_pos (hh a (by simp)), ih.1, thereB_cons, if_pos (hh a (by simp))]
    exact ⟨rfl, ih.2⟩
theorem new_of (l : List Rte) : ∀ i, i < l.length → ∃ j, j < l.length ∧ newP l j = true ∧ (rteAt l j).p = (rteAt l i).p
  | 0, h => ⟨0, h, by simp [newP], rfl⟩
  | i + 1, h => by
    cases hn : newP l (i + 1) with
    | true => exact ⟨i + 1, h, hn, rfl⟩
    | false =>
      obtain ⟨j, h1, h2, h3⟩ := new_of l i (by omega)
      refine ⟨j, h1, h2, h3.trans ?_⟩
      unfold newP at hn
      rw [Bool.or_eq_false_iff] at hn
      have := hn.2
      rw [show i + 1 - 1 = i from rfl, Bool.not_eq_false'] at this
      exact (Pfx.eqB_iff _ _).1 this
theorem len_sub {α : Type} : ∀ {s t : List α}, s.Nodup → (∀ a ∈ s, a ∈ t) → s.length ≤ t.length
  | [], t, _, _ => by simp
  | a :: s, t, hn, hs => by
    rw [List.nodup_cons] at hn
    obtain ⟨u, v, rfl⟩ := List.append_of_mem (hs a (by simp))
    have := len_sub (s := s) (t := u ++ v) hn.2 (fun b hb => by
      have h1 := hs b (by simp [hb])
      rw [List.mem_append, List.mem_cons] at h1
      rw [List.mem_append]
      rcases h1 with h1 | h1 | h1
      · exact .inl h1
      · exact absurd (h1 ▸ hb) hn.1
      · exact .inr h1)
    simp at this ⊢
    omega
theorem best_len {l : List Rte} (ho : ∀ r ∈ l, r.fits) (hr : risK Rte.key l = true) : (bestT l).length ≤ pfxsN l := by
  have h1 : ((bestT l).map (·.p)).Nodup := by
    rw [← bk_all, List.Nodup, List.pairwise_map]
    refine (best_pw ho hr l.length).imp fun {a b} h e => ?_
    rw [e] at h
    exact cmp_irrefl _ h
  have h2 := len_sub (t := ((List.range l.length).filter (newP l)).map fun j => (rteAt l j).p) h1 (fun p hp => by
    obtain ⟨r, hr2, rfl⟩ := List.mem_map.1 hp
    unfold bestT at hr2
    obtain ⟨x, hx, rfl⟩ := List.mem_map.1 hr2
    obtain ⟨i, hi, he⟩ := mem_getD (z := rteZ) (List.mem_filter.1 hx).1
    obtain ⟨j, h3, h4, h5⟩ := new_of l i hi
    rw [List.mem_map]
    refine ⟨j, List.mem_filter.2 ⟨List.mem_range.2 h3, h4⟩, ?_⟩
    rw [h5, show rteAt l i = x from he]
    rfl)
  rw [List.length_map, List.length_map] at h2
  exact h2
theorem bk_len (l : List Rte) (k : Nat) : (bk l k).length ≤ (bestT l).length := by
  unfold bk bestT
  rw [List.length_map, List.length_map]
  exact ((List.take_sublist k l).filter _).length_le
theorem fit_row {x : Rte} (h : x.fit = true) : x.row.okB = true := by
  unfold Rte.fit fitB at h
  simp only [Bool.and_eq_true, decide_eq_true_eq] at h
  rw [okB_iff]
  exact ⟨h.1.1.1.1.1.1, h.1.2, h.2⟩
theorem bk_mem {l : List Rte} {k : Nat} {r : Row} (h : r ∈ bk l k) : ∃ x ∈ l, x.row = r := by
  unfold bk at h
  obtain ⟨x, hx, rfl⟩ := List.mem_map.1 h
  exact ⟨x, List.mem_of_mem_take (List.mem_filter.1 hx).1, rfl⟩
theorem rib_fit {l : List Rte} (h : ribB l = true) {x : Rte} (hx : x ∈ l) : x.fit = true := by
  unfold ribB ribsB at h
  simp only [Bool.and_eq_true, List.all_eq_true] at h
  exact h.1.1.2 x hx
theorem rib_to {l : List Rte} (h : ribB l = true) : l.length ≤ 160 ∧ risK Rte.key l = true ∧ pfxsN l ≤ 40 := by
  unfold ribB ribsB at h
  simp only [Bool.and_eq_true, decide_eq_true_eq] at h
  exact ⟨h.1.1.1, h.1.2, h.2⟩
theorem tabB_bk {l : List Rte} (ho : ∀ r ∈ l, r.fits) (h : ribB l = true) (k : Nat) : tabB (bk l k) = true := by
  obtain ⟨_, h2, h3⟩ := rib_to h
  refine tabB_of (Nat.le_trans (bk_len l k) (Nat.le_trans (best_len ho h2) h3)) (fun r hr => ?_) (rising_pw (best_pw ho h2 k))
  obtain ⟨x, hx, rfl⟩ := bk_mem hr
  exact fit_row (rib_fit h hx)
/-- One candidate that is not beaten goes behind. -/
theorem set_bk {l : List Rte} (ho : ∀ r ∈ l, r.fits) (h : ribB l = true) {k : Nat} (hk : k < l.length) (hu : unb l (rteAt l k) = true) : setE (bk l k) (rteAt l k).p (rteAt l k).h = 0 ∧ setL (bk l k) (rteAt l k).p (rteAt l k).h = bk l (k + 1) := by
  obtain ⟨_, h2, h3⟩ := rib_to h
  have hs := setT_snoc (h := (rteAt l k).h) (bk_lt ho h2 hk hu)
  have hx : (rteAt l k).p.right = true ∧ 1 ≤ (rteAt l k).h ∧ (rteAt l k).h ≤ 255 := (okB_iff _).1 (fit_row (rib_fit h (getD_mem (z := rteZ) hk)))
  have hlen : (bk l k).length ≤ 39 := by
    have h4 := Nat.le_trans (bk_len l (k + 1)) (Nat.le_trans (best_len ho h2) h3)
    rw [bk_succ l hk, if_pos hu, List.length_append] at h4
    simp at h4
    omega
  have he : setE (bk l k) (rteAt l k).p (rteAt l k).h = 0 := by
    unfold setE
    rw [if_pos (tabB_bk ho h k), if_pos hx, if_neg (by omega)]
  refine ⟨he, ?_⟩
  unfold setL
  rw [if_pos he, hs.1, bk_succ l hk, if_pos hu]
  rfl
def bestR (l : List Rte) : List Row := if ribB l then bestT l else []
end Go.Proofs.YtnpeedmicjeleaaDoor

/- A region that draws its order, where two operations that act may stand in either order: both orders are walked. -/
namespace Go.Proofs.YtnpeedmicjeleaaDoor
open Go.RowKit
set_option linter.unusedVariables false
set_option linter.unusedSimpArgs false
set_option maxRecDepth 4000

section
variable {P : Program} {S : World → Prop} {ops : Array Oper} {md : Region.Mode} {cl : Nat → Nat}
theorem notOut (X : Act → World → Prop) : ¬ LetsOut (onlyNormal X) := fun ⟨_, _, h⟩ => h
theorem wpOp_normal {X Y K : Act → World → Prop} {i : Nat} {a : Act} {w : World} (h : wpOp P ops (onlyNormal X) i K a w) : wpOp P ops (onlyNormal Y) i K a w := by
  unfold wpOp at *
  cases hi : ops[i]? with
  | none => rw [hi] at h; exact h
  | some o =>
    rw [hi] at h
    simp only at h ⊢
    split
    · rename_i hw
      rw [if_pos hw] at h
      rcases h with h | ⟨_, h⟩
      · refine .inl ?_
        unfold Oper.wp at *
        generalize (execOp a.eval o).run P w = r at *
        cases r with
        | ok n w' =>
          cases n <;> simp only [Oper.upon] at h ⊢
          case value u => exact h
          case skip => exact h
          case defer d => exact h
          case enter f args =>
            refine Calls.mono h fun e w'' he => ?_
            cases e with
            | returned u => exact he
            | panicked c => exact he.elim
            | outgrown => exact (notOut _ he).elim
          case row row args => exact h
        | halt x w' =>
          cases x <;> simp only [Oper.upon] at h ⊢
          case panic u => exact h.elim
      · exact (notOut _ h).elim
    · rename_i hw
      rw [if_neg hw] at h
      exact h
theorem mOp_normal {X Y K K' : Act → World → Prop} {i : Nat} {a : Act} {w : World} (hk : ∀ a w, K a w → K' a w) (h : mOp P S ops (onlyNormal X) cl i K a w) : mOp P S ops (onlyNormal Y) cl i K' a w := by
  refine mOp_mono hk ?_
  unfold mOp at *
  cases hi : ops[i]? with
  | none => rw [hi] at h; exact h
  | some o =>
    rw [hi] at h
    simp only at h ⊢
    split at h
    · exact h
    · exact h
    · exact wpOp_normal h
    · exact h
    · exact wpOp_normal h

inductive OrdT where
  | lin (l : List Nat)
  | fork (l : List Nat) (i j : Nat) (r s : OrdT)
def OrdT.len : OrdT → Nat
  | .lin l => l.length
  | .fork l _ _ r _ => l.length + (r.len + 1)
def wpF (P : Program) (S : World → Prop) (ops : Array Oper) (cl : Nat → Nat) (K : Act → World → Prop) : OrdT → Act → World → Prop
  | .lin l, a, w => wpO P S ops (onlyNormal K) cl l a w
  | .fork l i j r s, a, w => wpO P S ops (onlyNormal fun a w => wpO P S ops (onlyNormal (wpF P S ops cl K r)) cl [i] a w ∧ wpO P S ops (onlyNormal (wpF P S ops cl K s)) cl [j] a w) cl l a w
def afterL (l : List Nat) (listed : Array Bool) : Array Bool := l.foldl (fun b i => b.setIfInBounds i true) listed
def ordP (md : Region.Mode) (ops : Array Oper) (cl : Nat → Nat) : List Nat → Array Bool → Bool
  | [], _ => true
  | i :: l, listed => (match cl i with
    | 0 => (Region.ready md ops listed).contains i && Region.free md ops listed i
    | 1 => (Region.ready md ops listed).contains i && Region.free md ops listed i && (List.range ops.size).all fun j => listed.getD j true || cl j == 0 || cl j == 1 || reach md ops i ops.size j
    | 4 => (Region.ready md ops listed).contains i && Region.free md ops listed i
    | _ => Region.ready md ops listed == [i]) && ordP md ops cl l (listed.setIfInBounds i true)
def ordF (md : Region.Mode) (ops : Array Oper) (cl : Nat → Nat) : OrdT → Array Bool → Bool
  | .lin l, listed => ordB md ops cl l listed
  | .fork l i j r s, listed => ordP md ops cl l listed && (Region.ready md ops (afterL l listed) == [i, j]) && decide (r.len = s.len) && ordF md ops cl r ((afterL l listed).setIfInBounds i true) && ordF md ops cl s ((afterL l listed).setIfInBounds j true)

theorem wpM_prefix (hf : Fin md ops cl) (hs : Region.noSelect ops = true) {X K : Act → World → Prop} {n : Nat} : ∀ (l : List Nat) (listed : Array Bool) (a : Act) (w : World), Closed md ops listed → ordP md ops cl l listed = true →
    wpO P S ops (onlyNormal X) cl l a w → (∀ a w, Closed md ops (afterL l listed) → X a w → wpM P S md ops (onlyNormal K) cl n (afterL l listed) a w) → wpM P S md ops (onlyNormal K) cl (n + l.length) listed a w
  | [], listed, a, w, hcl, _, h, hX => hX a w hcl h
  | i :: l, listed, a, w, hcl, hB, h, hX => by
    simp only [ordP, Bool.and_eq_true] at hB
    obtain ⟨hB1, hB2⟩ := hB
    simp only [wpO] at h
    have h0 := h
    have hX' : ∀ a w, Closed md ops (afterL l (listed.setIfInBounds i true)) → X a w → wpM P S md ops (onlyNormal K) cl n (afterL l (listed.setIfInBounds i true)) a w := fun a w hc hx => hX a w hc hx
    show wpM P S md ops (onlyNormal K) cl (n + l.length + 1) listed a w
    unfold mOp at h
    split at hB1
    · rename_i hc
      simp only [Bool.and_eq_true, List.contains_iff_mem] at hB1
      obtain ⟨_, oi, hoi, _⟩ := mem_ready.1 hB1.1
      rw [hoi] at h
      simp only [hc] at h
      obtain ⟨v, hy, hk⟩ := h
      exact wpM_first0 hf hoi hc (Region.noSelect_spec hs) (fun c a w h => h) (n + l.length) listed a w hcl (Region.free_spec hoi hB1.2) hB1.1 hy (wpM_prefix hf hs l _ _ w (hcl.set hB1.1) hB2 hk hX')
    · rename_i hc
      simp only [Bool.and_eq_true, List.contains_iff_mem, List.all_eq_true, List.mem_range, Bool.or_eq_true, beq_iff_eq] at hB1
      obtain ⟨_, oi, hoi, _⟩ := mem_ready.1 hB1.1.1
      rw [hoi] at h
      simp only [hc] at h
      obtain ⟨v, hy, hk⟩ := h
      refine wpM_first1 (N := ops.size) hoi hc (Region.noSelect_spec hs) (n + l.length) listed a hcl (fun j oj hj hun => ?_) (Region.free_spec hoi hB1.1.2) hB1.1.1 hy (wpM_prefix hf hs l _ _ w (hcl.set hB1.1.1) hB2 hk hX')
      have := hB1.2 j (Array.getElem?_eq_some_iff.1 hj).1
      rw [hun] at this
      simpa [or_assoc] using this
    · rename_i hc
      simp only [Bool.and_eq_true, List.contains_iff_mem] at hB1
      obtain ⟨_, oi, hoi, _⟩ := mem_ready.1 hB1.1
      rw [hoi] at h
      simp only [hc] at h
      obtain ⟨v, hy, hk⟩ := h
      exact wpM_first4 hoi hc (Region.noSelect_spec hs) (fun c a w h => h) (n + l.length) listed a w hcl (Region.free_spec hoi hB1.2) hB1.1 hy (wpM_prefix hf hs l _ _ w (hcl.set hB1.1) hB2 hk hX')
    · simp only [beq_iff_eq] at hB1
      have hr : i ∈ Region.ready md ops listed := by rw [hB1]; exact List.mem_singleton.2 rfl
      exact wpM_only hB1 (mOp_normal (fun a' w' h' => wpM_prefix hf hs l _ a' w' (hcl.set hr) hB2 h' hX') h0)
theorem wpM_of_wpF (hf : Fin md ops cl) (hs : Region.noSelect ops = true) {K : Act → World → Prop} : ∀ (t : OrdT) (listed : Array Bool) (a : Act) (w : World), Closed md ops listed → ordF md ops cl t listed = true → wpF P S ops cl K t a w →
    wpM P S md ops (onlyNormal K) cl t.len listed a w
  | .lin l, listed, a, w, hcl, hB, h => wpM_of_wpO hf hs (fun c dst v a w h => h) l listed a w hcl hB h
  | .fork l i j r s, listed, a, w, hcl, hB, h => by
    simp only [ordF, Bool.and_eq_true, decide_eq_true_eq, beq_iff_eq] at hB
    obtain ⟨⟨⟨⟨h1, h2⟩, h3⟩, h4⟩, h5⟩ := hB
    show wpM P S md ops (onlyNormal K) cl (l.length + (r.len + 1)) listed a w
    rw [Nat.add_comm]
    refine wpM_prefix hf hs l listed a w hcl h1 h (fun a w hc hx => ?_)
    refine ⟨fun h => (by rw [h2] at h; cases h), fun k hk => ?_⟩
    have hri : i ∈ Region.ready md ops (afterL l listed) := by rw [h2]; simp
    have hrj : j ∈ Region.ready md ops (afterL l listed) := by rw [h2]; simp
    rw [h2] at hk
    rcases List.mem_cons.1 hk with rfl | hk
    · exact mOp_normal (fun a' w' h' => wpM_of_wpF hf hs r _ a' w' (hc.set hri) h4 h') hx.1
    · rw [List.mem_singleton] at hk
      subst hk
      exact mOp_normal (fun a' w' h' => by rw [h3]; exact wpM_of_wpF hf hs s _ a' w' (hc.set hrj) h5 h') hx.2
end
theorem wp_region_fork {P : Program} (S : World → Prop) {ops : Array Oper} {id : Nat} {Q : Exit → Act → World → Prop} {a : Act} {w : World} (t : OrdT) (l : List (Nat × Nat)) (hm : P.follows .mixedOrders = true)
    (hB : (finB .any ops l && Region.noSelect ops && decide (t.len = ops.size) && ordF .any ops (clOf l) t (Array.replicate ops.size false)) = true)
    (hS : S w.drew) (h : wpF P S ops (clOf l) (Q .normal) t a w.drew) : (Code.region id ops true).wp P Q a w := by
  simp only [Bool.and_eq_true, decide_eq_true_eq] at hB
  refine wp_mono (Q := onlyNormal (Q .normal)) (wp_region_any hm (wpAny_of_wpM (S := S) (cl := clOf l) (fin_of hB.1.1.1) _ _ _ _ (Closed.start _) hS ?_)) (fun e a w hq => ?_)
  · have := wpM_of_wpF (P := P) (S := S) (md := .any) (cl := clOf l) (fin_of hB.1.1.1) hB.1.1.2 t (Array.replicate ops.size false) a w.drew (Closed.start _) hB.2 h
    rw [hB.1.2] at this
    exact this
  · cases e <;> first | exact hq | exact hq.elim
end Go.Proofs.YtnpeedmicjeleaaDoor

/- Layer 11 (route): Best. -/
namespace Go.Proofs.YtnpeedmicjeleaaDoor
open Go.RowKit
set_option linter.unusedVariables false
set_option linter.unusedSimpArgs false
set_option maxRecDepth 4000
/-- What the loop of Best keeps: a table of its own, and the cell that holds it. -/
structure TabS (w0 w : World) (g : Nat) (A : Option Addr) (n c : Nat) (t : List Row) : Prop where
  own : OS rowK w w0.heap.size A n c t
  cell : w.heap[g]? = some (.cells (tabV A n c) 39 (0, 0))
  bel : Below w0.heap.size w0 w
  gle : w0.heap.size ≤ g
theorem TabS.step {w0 w w1 : World} {g : Nat} {A : Option Addr} {n c : Nat} {t : List Row} (h : TabS w0 w g A n c t) (hb : Below w.heap.size w w1) : TabS w0 w1 g A n c t := ⟨h.own.below hb, blk_below h.cell hb, below_step h.bel hb, h.gle⟩
set_option maxHeartbeats 8000000 in
set_option maxRecDepth 100000 in
theorem rbest_any (A : Option Addr) (n c : Nat) (l : List Rte) (w : World) (hL : Laid w) (hr : RS rteK w A n c l) (ok : Okr l) (hn : n ≤ 10000) :
    Calls Tryd.prog 17 #[.agg (tabV A n c)] w fun e w' => ∃ A' n' c', e = .returned (.tuple #[.agg (tabV A' n' c'), .int .i64 (ribE l)]) ∧ OS rowK w' w.heap.size A' n' c' (bestR l) ∧ Below w.heap.size w w' := by
  have hblk1 := blk_new w (.cells (tabV A n c) 24)
  have hbel1 : Below w.heap.size w (w.alloc (.cells (tabV A n c) 24)) := below_alloc (Below.refl _ _) _
  have HP1 := Lib.hid (rib_at hblk1)
  have HBK1 := Lib.hid hblk1
  have HBE := Lib.hid hbel1
  have HL := Lib.hid (hL.below HBE.out)
  obtain ⟨cs1, hcs1⟩ : ∃ cs, tabV A n c = cs := ⟨_, rfl⟩
  simp only [hcs1] at HBE HL HP1 HBK1 ⊢
  have HC1 := Lib.hid hcs1
  clear hL hcs1 hblk1 hbel1
  have HR := Lib.hid (hr.below HBE.out)
  have OK := Lib.hid ok
  have hs0 : (w.alloc (.cells cs1 24)).heap.size = w.heap.size + 1 := by simp
  obtain ⟨W1, hW1⟩ : ∃ W1, (w.alloc (.cells cs1 24)).alloc (.cells #[.slice none 0 0] 39) = W1 := ⟨_, rfl⟩
  have HZ : Hid (W1.heap[w.heap.size + 1]? = some (.cells (tabV none 0 0) 39 (0, 0))) := Lib.hid (by rw [← hW1, ← hs0]; exact blk_new _ _)
  have HB1 : Hid (Below (w.alloc (.cells cs1 24)).heap.size (w.alloc (.cells cs1 24)) W1) := Lib.hid (hW1 ▸ below_alloc (Below.refl _ _) _)
  have HZL : Hid (w.heap.size ≤ w.heap.size + 1) := Lib.hid (by omega)
  have HS1 : Hid (W1.heap.size = w.heap.size + 2) := Lib.hid (by rw [← hW1]; simp)
  clear hr ok hs0
  go_enter Tryd.func17, Tryd.ntmps17
  go_wp2_with (first | ((with_reducible show wpList _ _ _ (Oper.mk _ (Op.load _ _) _ _ _ _ :: _) _ _); refine wpList_load_g ((HP1.out.all _ HB1.out).1) _ rfl rfl (by go_simp) ?_))
  clear hW1
  refine (rcheck_any A n c l W1 (HL.out.below HB1.out) (HR.out.below HB1.out) OK.out (by omega)).mono ?_
  rintro e w2 ⟨rfl, hb2⟩
  have HB2 := Lib.hid (below_step HB1.out hb2)
  have HZ2 := Lib.hid (blk_below HZ.out hb2)
  have HS2 : Hid (w.heap.size + 2 ≤ w2.heap.size) := Lib.hid (by rw [← HS1.out]; exact hb2.size)
  clear hb2 HZ HB1 HS1
  cases hrb : ribB l with
  | false =>
    have HE : Hid (ribE l = 211 ∧ bestR l = []) := Lib.hid ⟨by unfold ribE; rw [hrb]; rfl, by unfold bestR; rw [hrb]; rfl⟩
    rw [HE.out.1]
    clear hrb
    go_wp2_with (first | ((with_reducible show wpList _ _ _ (Oper.mk _ (Op.build _ _) _ _ _ _ :: _) _ _); refine wpList_exw rfl (exec_build 39 #[] rfl #[] rfl ((run_build_tab_nil _))) ?_) | ((with_reducible show wpList _ _ _ (Oper.mk _ (Op.store _ _ _) _ _ _ _ :: _) _ _); refine wpList_store_blk HZ2.out 39 0 (tabV none 0 0) (Nat.le_refl _) (info_tab _ _ _) (tab_one _ _ _) _ _ rfl rfl rfl rfl ?_; intro w9 hg9 hs9 hb9; rw [splice_tab] at hb9; have H9 := Lib.hid (And.intro hg9 hb9); clear hg9 hs9 hb9))
    refine bodyPost_ret (results_c2 rfl rfl (load_tab H9.out.2)) rfl ?_
    rw [HE.out.1, HE.out.2]
    exact ⟨none, 0, 0, rfl, OS.nil _ _ _, below_grown (below_step HBE.out HB2.out) H9.out.1 HZL.out⟩
  | true =>
    have HE : Hid (ribE l = 0 ∧ bestR l = bestT l) := Lib.hid ⟨by unfold ribE; rw [hrb]; rfl, by unfold bestR; rw [hrb]; rfl⟩
    rw [HE.out.1]
    have HRB := Lib.hid hrb
    clear hrb
    have hTS : TabS w2 (w2.alloc (.cells (tabV none 0 0) 39)) w2.heap.size none 0 0 (bk l 0) := ⟨OS.nil _ _ _, blk_new _ _, below_alloc (Below.refl _ _) _, Nat.le_refl _⟩
    have HTS := Lib.hid hTS
    clear hTS
    go_wp2_with (first | ((with_reducible show wpList _ _ _ (Oper.mk _ (Op.load _ _) _ _ _ _ :: _) _ _); refine wpList_load_g ((HP1.out.all _ (below_step HB2.out (below_alloc (Below.refl _ _) _))).2) _ rfl rfl (by go_simp) ?_))
    obtain ⟨g5, hg5⟩ : ∃ g, w2.heap.size = g := ⟨_, rfl⟩
    obtain ⟨w3, hw3⟩ : ∃ W, w2.alloc (.cells (tabV none 0 0) 39) = W := ⟨_, rfl⟩
    rw [hg5, hw3] at HTS
    rw [hg5]
    refine (show ∀ {P : World → Prop}, P w3 → P (w2.alloc (.cells #[.slice none 0 0] 39)) from fun {P} h => hw3 ▸ h) ?_
    clear hg5 hw3
    go_loopw [20] (fun s20 wr => ∃ (k : Nat) (Ak : Option Addr) (nk ck : Nat), s20 = .int .i64 k ∧ Hid (k ≤ n ∧ TabS w2 wr g5 Ak nk ck (bk l k))) (fun x _ => n - (intOf x).toNat)
    case atStart => exact ⟨0, none, 0, 0, rfl, Nat.zero_le _, HTS.out⟩
    case round =>
      obtain ⟨k, Ak, nk, ck, rfl, HI⟩ := hrel
      obtain ⟨wk, rfl⟩ : ∃ wk, wk = wr := ⟨wr, rfl⟩
      have HBK := Lib.hid (below_step HB2.out HI.out.2.bel)
      have hnk : nk ≤ 40 := by
        have h1 := HI.out.2.own.len
        have h2 := rib_to HRB.out
        have h3 := bk_len l k
        have h4 := best_len OK.out.fits h2.2.1
        omega
      by_cases hlt : k < n
      · have hlt' : (k : Int) < n := by omega
        obtain ⟨b, o, hA, hc⟩ := RS.at_ HR.out (by omega)
        have hil : k < l.length := by rw [HR.out.len]; exact hlt
        have HXO := Lib.hid (OK.out.at_ hil)
        have HCX : Hid (CellsAt wk b (o + k * 21) (rteC (rteAt l k))) := Lib.hid ((hc k hlt).below HBK.out)
        have HSB := Lib.hid (fun hu => set_bk OK.out.fits HRB.out hil hu)
        have HBS := Lib.hid (bk_succ l hil)
        obtain ⟨x, hx⟩ : ∃ x, rteAt l k = x := ⟨_, rfl⟩
        rw [hx] at HXO HCX HSB HBS
        have hla := (rteLd_of HXO.out.fits HCX.out).all
        have HB6f := Lib.hid (fun (W : World) (h : (wk.alloc (.cells (rteV rteZ) 51)).grownBy W (some wk.heap.size)) => below_grown (below_alloc (Below.refl wk.heap.size wk) (.cells (rteV rteZ) 51)) h (Nat.le_refl _))
        subst hA
        clear hc hx hil
        go_wp2_with (first | ((with_reducible show wpList _ _ _ (Oper.mk _ (Op.load _ _) _ _ _ _ :: _) _ _); refine wpList_load_g hla _ rfl rfl (by go_simp) ?_) | ((with_reducible show wpList _ _ _ (Oper.mk _ (Op.store _ _ _) _ _ _ _ :: _) _ _); refine wpList_store_blk (blk_new wk _) 51 0 (rteV x) (store_rte_fit HXO.out.fits rfl) (info_rte HXO.out.fits) (rteV_one _) _ _ rfl rfl rfl rfl ?_; intro w6 hg9 hs9 hb9; rw [splice_rte HXO.out.fits rfl] at hb9; have H6 := Lib.hid (And.intro hg9 hb9); clear hg9 hs9 hb9) | ((with_reducible show wpList _ _ _ (Oper.mk _ (Op.load _ _) _ _ _ _ :: _) _ _); refine wpList_load_g ((HP1.out.all _ (below_step HBK.out (HB6f.out _ H6.out.1))).2) _ rfl rfl (by go_simp) ?_))
        have HBR := Lib.hid (HB6f.out _ H6.out.1)
        have HB6 := Lib.hid (below_step HBK.out HBR.out)
        have HG6 := Lib.hid H6.out.2
        obtain ⟨gx, hgx⟩ : ∃ g, wk.heap.size = g := ⟨_, rfl⟩
        rw [hgx] at HG6 ⊢
        clear HB6f H6 hla hgx
        refine (containsQ_any (some ⟨b, o, none⟩) n c l w6 gx (HR.out.below HB6.out) (by omega) (fun y => beats y x) (fun i hi w1 hb => best1_any (rteK.at_ l i) x gx w1 (OK.out.at_ (by rw [HR.out.len]; exact hi)) HXO.out (rte_at HXO.out.fits (blk_below HG6.out hb)))).mono ?_
        rintro e w7 ⟨rfl, hb7⟩
        have HU : Hid (unb l x = !l.any (fun y => beats y x)) := Lib.hid rfl
        obtain ⟨T, hT⟩ : ∃ T, l.any (fun y => beats y x) = T := ⟨_, rfl⟩
        rw [hT] at HU ⊢
        have HS7 := Lib.hid ((HI.out.2.step HBR.out).step hb7)
        have HB7 := Lib.hid (below_step HB6.out hb7)
        have HBR7 := Lib.hid (below_step HBR.out hb7)
        have HX7 := Lib.hid (rte_at HXO.out.fits (blk_below HG6.out hb7))
        clear hb7 hT HG6 HBR HB6
        cases T with
        | true =>
          have HN : Hid (bk l (k + 1) = bk l k) := Lib.hid (by rw [HBS.out, if_neg (by rw [HU.out]; decide), List.append_nil])
          go_wp2_with fail
          go_roundw
          case measure => simp [intOf]; omega
          case rel => exact ⟨k + 1, Ak, nk, ck, by go_num, by omega, by rw [HN.out]; exact HS7.out⟩
        | false =>
          have HZS := Lib.hid (HSB.out HU.out)
          clear HU HSB
          go_upto_region 10 with fail
          go_cut [9, 10] (fun s9 s10 wx => ∃ (g : Nat) (A9 : Option Addr) (n9 c9 : Nat), s9 = .pointer (some ⟨g, 0, none⟩) ∧ s10 = .int .i64 0 ∧ Hid (wx.heap[g]? = some (.cells (tabV A9 n9 c9) 39 (0, 0)) ∧ OS rowK wx w7.heap.size A9 n9 c9 (bk l (k + 1)) ∧ (∀ ad, A9 = some ad → ad.block ≠ g) ∧ Below w7.heap.size w7 wx))
          case first =>
            have HBD := Lib.hid (below_drew1 w7)
            refine wp_region_fork ((fun w0 => Below w7.heap.size w7 w0)) (OrdT.fork [0, 1, 2, 3, 4, 5, 6, 7, 8] 9 13 (OrdT.lin [10, 11, 12, 13, 14, 15]) (OrdT.lin [9, 10, 11, 12, 14, 15])) [(0, 0), (1, 0), (2, 0), (3, 0), (4, 0), (5, 0), (6, 0), (7, 0), (8, 0), (9, 2), (10, 0), (11, 0), (12, 0), (13, 2), (14, 2), (15, 0)] (by kernel_rfl) (by kernel_rfl) ((below_drew1 _)) ?_
            simp only [wpF]
            refine wpO_loadW (t := 39) (ad := ⟨g5, 0, none⟩) rfl rfl ?hw rfl rfl ((fun w0 hS => load_tab (blk_below HS7.out.cell hS))) ?_
            case hw => go_simp
            iterate 1 (refine wpO_step0 rfl rfl (fun K hK => ?_); go_simp; refine hK _ _ ?_; clear hK K)
            refine wpO_loadW (t := 49) (ad := ⟨gx, 0, none⟩) rfl rfl ?hw rfl rfl ((fun w0 hS => (HX7.out.all w0 hS).pfx)) ?_
            case hw => go_simp
            iterate 1 (refine wpO_step0 rfl rfl (fun K hK => ?_); go_simp; refine hK _ _ ?_; clear hK K)
            refine wpO_loadW (t := 22) (ad := ⟨w.heap.size, 0, none⟩) rfl rfl ?hw rfl rfl ((fun w0 hS => (HP1.out.all w0 (below_step HB7.out hS)).2)) ?_
            case hw => go_simp
            iterate 3 (refine wpO_step0 rfl rfl (fun K hK => ?_); go_simp; refine hK _ _ ?_; clear hK K)
            refine wpO_loadW (t := 3) (ad := ⟨b, (o+k*21+20), none⟩) rfl rfl ?hw rfl rfl ((fun w0 hS => (rteLd_of HXO.out.fits (HCX.out.below (below_step HBR7.out hS))).hop)) ?_
            case hw => go_simp
            refine wpO_nil ⟨?_, ?_⟩
            · refine wpO_step2 rfl rfl (HBD.out) (fun K hK => ?_)
              go_simp
              refine (tset_any Ak nk ck (bk l k) x.p x.h w7.drew (HL.out.below (below_step HB7.out HBD.out)) (HS7.out.own.reads.below HBD.out) HXO.out.fits (by omega)).mono ?_
              rw [HZS.out.1, HZS.out.2]
              rintro e w2 ⟨A9, n9, c9, rfl, hO9, hb9⟩
              have HBC := Lib.hid (below_step HBD.out hb9)
              have HLT9 := Lib.hid hO9.lt
              have HBA9 := Lib.hid hO9.base_
              have HO9 := Lib.hid (hO9.lower HBD.out.size)
              try replace HZ9 := Lib.hid (blk_below HZ9.out hb9)
              clear hO9 hb9
              refine hK _ _ ⟨HBC.out, ?_⟩
              clear hK K
              refine wpO_nil ?_
              iterate 3 (refine wpO_step0 rfl rfl (fun K hK => ?_); go_simp; refine hK _ _ ?_; clear hK K)
              refine wpO_step2 rfl rfl (HBC.out) (fun K hK => ?_)
              go_simp
              have hz9 := blk_new w2 (.cells (tabV none 0 0) 39)
              obtain ⟨w3, hw9⟩ : ∃ w9, World.alloc w2 (.cells (tabV none 0 0) 39) = w9 := ⟨_, rfl⟩
              have ha9 : Below (World.heap w2).size w2 w3 := hw9 ▸ below_alloc (Below.refl _ _) _
              have HBK := Lib.hid (below_step HBC.out ha9)
              refine kw_cast hw9 ?_
              rw [hw9] at hz9
              have hzl9 := blk_lt hz9
              have HZ9 := Lib.hid hz9
              try replace HCP := Lib.hid (HCP.out.below ha9)
              try replace HO9 := Lib.hid (HO9.out.below ha9)
              try replace HLV := Lib.hid (HLV.out.below ha9)
              clear hw9 hz9 ha9
              refine hK _ _ ⟨HBK.out, ?_⟩
              clear hK K
              refine wpO_step2 rfl rfl (HBK.out) (fun K hK => ?_)
              rw [if_pos (show Region.wanted _ _ = true from rfl)]
              refine oper_store_blk HZ9.out 39 0 (tabV A9 n9 c9) (Nat.le_refl _) (info_tab _ _ _) (tab_one _ _ _) _ _ rfl rfl rfl ?_
              intro w4 hg9 hs9 hb9
              rw [splice_tab] at hb9
              have HBL := Lib.hid (below_grown HBK.out hg9 (by have h2 := HBC.out.size; omega))
              have HNE9 : Hid (∀ ad, A9 = some ad → ad.block ≠ w2.heap.size) := Lib.hid (fun ad e => by first | (have := HLT9.out ad e; omega) | (have := HBA9.out ad e; have h3 := blk_lt HZ9.out; omega))
              replace HO9 := Lib.hid (HO9.out.grown hg9 (fun ad e h => by injection h with h; exact HNE9.out ad e h))
              replace HZ9 := Lib.hid hb9
              clear hg9 hs9 hb9
              refine hK _ _ ⟨HBL.out, ?_⟩
              clear hK K
              iterate 1 (refine wpO_step0 rfl rfl (fun K hK => ?_); go_simp; refine hK _ _ ?_; clear hK K)
              refine wpO_nil ?_
              go_wp2_with fail
              go_meet
              exact ⟨w2.heap.size, A9, n9, c9, rfl, rfl, HZ9.out, HO9.out, HNE9.out, HBL.out⟩
            · refine wpO_step2 rfl rfl (HBD.out) (fun K hK => ?_)
              go_simp
              have hz9 := blk_new w7 (.cells (tabV none 0 0) 39)
              obtain ⟨w2, hw9⟩ : ∃ w9, (World.alloc w7 (.cells (tabV none 0 0) 39)).drew = w9 := ⟨_, rfl⟩
              have ha9 : Below (World.heap w7).size w7 w2 := hw9 ▸ below_step (below_alloc (Below.refl _ _) _) (below_drew1 _)
              have HBC := Lib.hid ha9
              refine kw_cast hw9 ?_
              replace hz9 : (World.heap w2)[(World.heap w7).size]? = some (.cells (tabV none 0 0) 39 (0, 0)) := by rw [← hw9]; exact hz9
              have hzl9 := blk_lt hz9
              have HZ9 := Lib.hid hz9
              clear hw9 hz9 ha9
              refine hK _ _ ⟨HBC.out, ?_⟩
              clear hK K
              refine wpO_nil ?_
              refine wpO_step2 rfl rfl (HBC.out) (fun K hK => ?_)
              go_simp
              refine (tset_any Ak nk ck (bk l k) x.p x.h w2 (HL.out.below (below_step HB7.out HBC.out)) (HS7.out.own.reads.below HBC.out) HXO.out.fits (by omega)).mono ?_
              rw [HZS.out.1, HZS.out.2]
              rintro e w3 ⟨A9, n9, c9, rfl, hO9, hb9⟩
              have HBK := Lib.hid (below_step HBC.out hb9)
              have HLT9 := Lib.hid hO9.lt
              have HBA9 := Lib.hid hO9.base_
              have HO9 := Lib.hid (hO9.lower HBC.out.size)
              try replace HZ9 := Lib.hid (blk_below HZ9.out hb9)
              clear hO9 hb9
              refine hK _ _ ⟨HBK.out, ?_⟩
              clear hK K
              iterate 3 (refine wpO_step0 rfl rfl (fun K hK => ?_); go_simp; refine hK _ _ ?_; clear hK K)
              refine wpO_step2 rfl rfl (HBK.out) (fun K hK => ?_)
              rw [if_pos (show Region.wanted _ _ = true from rfl)]
              refine oper_store_blk HZ9.out 39 0 (tabV A9 n9 c9) (Nat.le_refl _) (info_tab _ _ _) (tab_one _ _ _) _ _ rfl rfl rfl ?_
              intro w4 hg9 hs9 hb9
              rw [splice_tab] at hb9
              have HBL := Lib.hid (below_grown HBK.out hg9 (by have h2 := HBC.out.size; omega))
              have HNE9 : Hid (∀ ad, A9 = some ad → ad.block ≠ w7.heap.size) := Lib.hid (fun ad e => by first | (have := HLT9.out ad e; omega) | (have := HBA9.out ad e; have h3 := blk_lt HZ9.out; omega))
              replace HO9 := Lib.hid (HO9.out.grown hg9 (fun ad e h => by injection h with h; exact HNE9.out ad e h))
              replace HZ9 := Lib.hid hb9
              clear hg9 hs9 hb9
              refine hK _ _ ⟨HBL.out, ?_⟩
              clear hK K
              iterate 1 (refine wpO_step0 rfl rfl (fun K hK => ?_); go_simp; refine hK _ _ ?_; clear hK K)
              refine wpO_nil ?_
              go_wp2_with fail
              go_meet
              exact ⟨w7.heap.size, A9, n9, c9, rfl, rfl, HZ9.out, HO9.out, HNE9.out, HBL.out⟩
          case rest =>
            obtain ⟨g9, A9, n9, c9, rfl, rfl, HC⟩ := hcut
            obtain ⟨w9, rfl⟩ : ∃ w9, w9 = wc := ⟨wc, rfl⟩
            have HB79 := Lib.hid HC.out.2.2.2
            have HC5 := Lib.hid (blk_below HS7.out.cell HC.out.2.2.2)
            have HO9 := Lib.hid HC.out.2.1
            have HG9 := Lib.hid HC.out.1
            have HG5 := Lib.hid (blk_lt HS7.out.cell)
            have HSB9 := Lib.hid (below_step HS7.out.bel HC.out.2.2.2)
            have HGL := Lib.hid HS7.out.gle
            have HSZ := Lib.hid HS7.out.bel.size
            clear HC HZS
            go_wp2_with (first | ((with_reducible show wpList _ _ _ (Oper.mk _ (Op.load _ _) _ _ _ _ :: _) _ _); refine wpList_load_g (load_tab HG9.out) _ rfl rfl (by go_simp) ?_) | ((with_reducible show wpList _ _ _ (Oper.mk _ (Op.store _ _ _) _ _ _ _ :: _) _ _); refine wpList_store_blk HC5.out 39 0 (tabV A9 n9 c9) (Nat.le_refl _) (info_tab _ _ _) (tab_one _ _ _) _ _ rfl rfl rfl rfl ?_; intro w10 hg9 hs9 hb9; rw [splice_tab] at hb9; have H10 := Lib.hid (And.intro hg9 hb9); clear hg9 hs9 hb9))
            go_roundw
            case measure => simp [intOf]; omega
            case rel => exact ⟨k + 1, A9, n9, c9, by go_num, by omega, ⟨(HO9.out.grown H10.out.1 (fun ad e h => by have h1 := HO9.out.base_ ad e; have h2 := HG5.out; injection h with h; omega)).lower HSZ.out, H10.out.2, below_grown HSB9.out H10.out.1 HGL.out, HGL.out⟩⟩
      · have hlt' : decide (k < n) = false := decide_eq_false hlt
        have hkl : k = l.length := by rw [HR.out.len]; have := HI.out.1; omega
        have HN : Hid (bk l k = bestT l) := Lib.hid (by rw [hkl, bk_all])
        clear hlt hkl
        go_wp2_with (first | ((with_reducible show wpList _ _ _ (Oper.mk _ (Op.load _ _) _ _ _ _ :: _) _ _); refine wpList_load_g (load_tab HI.out.2.cell) _ rfl rfl (by go_simp) ?_) | ((with_reducible show wpList _ _ _ (Oper.mk _ (Op.store _ _ _) _ _ _ _ :: _) _ _); refine wpList_store_blk (blk_below HZ2.out HI.out.2.bel) 39 0 (tabV Ak nk ck) (Nat.le_refl _) (info_tab _ _ _) (tab_one _ _ _) _ _ rfl rfl rfl rfl ?_; intro w9 hg9 hs9 hb9; rw [splice_tab] at hb9; have H9 := Lib.hid (And.intro hg9 hb9); clear hg9 hs9 hb9))
        refine bodyPost_ret (results_c2 rfl rfl (load_tab H9.out.2)) rfl ?_
        rw [HE.out.1, HE.out.2, ← HN.out]
        refine ⟨Ak, nk, ck, rfl, (HI.out.2.own.grown H9.out.1 (fun ad e h => ?_)).lower (by have := HS2.out; omega), below_grown (below_step HBE.out HBK.out) H9.out.1 HZL.out⟩
        have h1 := HI.out.2.own.base_ ad e
        have h2 := HS2.out
        injection h with h
        omega
end Go.Proofs.YtnpeedmicjeleaaDoor

/- Layer 5 (prefix): Bit; the document's Bit. -/
namespace Go.Proofs.YtnpeedmicjeleaaDoor
open Go.RowKit
set_option linter.unusedVariables false
set_option linter.unusedSimpArgs false
set_option maxRecDepth 4000

end Go.Proofs.YtnpeedmicjeleaaDoor

/- Layer 5 (prefix): Nibble; the document's Nibble. -/
namespace Go.Proofs.YtnpeedmicjeleaaDoor
open Go.RowKit
set_option linter.unusedVariables false
set_option linter.unusedSimpArgs false
set_option maxRecDepth 4000

end Go.Proofs.YtnpeedmicjeleaaDoor

/- Layer 5 (prefix): a whole prefix out of a block. -/
namespace Go.Proofs.YtnpeedmicjeleaaDoor
open Go.RowKit
set_option linter.unusedVariables false
set_option linter.unusedSimpArgs false
set_option maxRecDepth 4000

end Go.Proofs.YtnpeedmicjeleaaDoor

/- Layer 5 (prefix): Has. -/
namespace Go.Proofs.YtnpeedmicjeleaaDoor
open Go.RowKit
set_option linter.unusedVariables false
set_option linter.unusedSimpArgs false
set_option maxRecDepth 4000

end Go.Proofs.YtnpeedmicjeleaaDoor

/- Layer 5 (prefix): Holds. -/
namespace Go.Proofs.YtnpeedmicjeleaaDoor
open Go.RowKit
set_option linter.unusedVariables false
set_option linter.unusedSimpArgs false
set_option maxRecDepth 4000

end Go.Proofs.YtnpeedmicjeleaaDoor

/- Layer 5 (prefix): EncodeAddr, Encode; the document's bytes. -/
namespace Go.Proofs.YtnpeedmicjeleaaDoor
open Go.RowKit
set_option linter.unusedVariables false
set_option linter.unusedSimpArgs false
set_option maxRecDepth 4000

theorem OB.two (W : World) (x y : Int) (hx : 0 ≤ x ∧ x < 256) (hy : 0 ≤ y ∧ y < 256) (base : Nat) (hb : base ≤ W.heap.size) : OB (W.alloc (.cells #[.int .u8 x, .int .u8 y] 5)) base (some ⟨W.heap.size, 0, none⟩) 2 2 [x, y] :=
  OB.new W base [x, y] hb (by simp) (fun z hz => by simp at hz; omega)
theorem OB.one (W : World) (x : Int) (hx : 0 ≤ x ∧ x < 256) (base : Nat) (hb : base ≤ W.heap.size) : OB (W.alloc (.cells #[.int .u8 x] 5)) base (some ⟨W.heap.size, 0, none⟩) 1 1 [x] :=
  OB.new W base [x] hb (by simp) (fun z hz => by simp at hz; omega)

end Go.Proofs.YtnpeedmicjeleaaDoor

/- Layer 5 (prefix): the reader's version and some. -/
namespace Go.Proofs.YtnpeedmicjeleaaDoor
open Go.RowKit
set_option linter.unusedVariables false
set_option linter.unusedSimpArgs false
set_option maxRecDepth 4000

theorem Laid.grown {w w1 : World} (h : Laid w) {g : Nat} (hg : w.grownBy w1 (some g)) (h0 : g ≠ 0) : Laid w1 :=
  ⟨fun i hi => hg.cell (h.at_ i hi) (fun e => by injection e with e; exact h0 e.symm)⟩
/-- The reader of the package: a box that holds the pointer. -/
abbrev rdV (g : Nat) : Array Value := #[.pointer (some ⟨g, 0, none⟩)]

def SomeRest (lo g : Nat) (xs : List Int) (bits : Nat) (wrong : Int) (w : World) : Prop := ∃ rest e1, Rdr w lo g rest e1 ∧ (someE xs bits wrong = 0 → rest = xs.drop (fullB bits) ∧ e1 = 0)
end Go.Proofs.YtnpeedmicjeleaaDoor

/- Layer 5 (prefix): DecodeAddr. -/
namespace Go.Proofs.YtnpeedmicjeleaaDoor
open Go.RowKit
set_option linter.unusedVariables false
set_option linter.unusedSimpArgs false
set_option maxRecDepth 4000

/-- What holds while the bytes are read: the reader's box, the result's cell. -/
structure DecS (w : World) (rb zb g : Nat) (z : Obj) (w0 : World) : Prop where
  below : Below w.heap.size w w0
  box : w0.heap[rb]? = some (.cells (rdV g) 157 (0, 0))
  zero : w0.heap[zb]? = some z
theorem DecS.step {w w0 w1 : World} {rb zb g : Nat} {z : Obj} (h : DecS w rb zb g z w0) (hb : Below w0.heap.size w0 w1) : DecS w rb zb g z w1 := ⟨below_step h.below hb, blk_below h.box hb, blk_below h.zero hb⟩
theorem SomeRest.below {lo g : Nat} {xs : List Int} {bits : Nat} {wrong : Int} {w w1 : World} (h : SomeRest lo g xs bits wrong w) (hb : Below w.heap.size w w1) : SomeRest lo g xs bits wrong w1 := by
  obtain ⟨r, e, h1, h2⟩ := h
  exact ⟨r, e, h1.below hb, h2⟩
theorem SomeRest.grown {lo g c : Nat} {xs : List Int} {bits : Nat} {wrong : Int} {w w1 : World} (h : SomeRest lo g xs bits wrong w) (hg : w.grownBy w1 (some c)) (hc : g < c) : SomeRest lo g xs bits wrong w1 := by
  obtain ⟨r, e, h1, h2⟩ := h
  exact ⟨r, e, h1.grown hg (fun b hb => by injection hb with hb; omega), h2⟩
/-- What the reading has left: the bytes in a block of their own, the reader behind them. -/
structure DecR (w : World) (rb zb g gb lo : Nat) (z : Obj) (sl : List Int) (ys : List Int) (bits : Nat) (wrong : Int) (w0 : World) : Prop where
  s : DecS w rb zb g z w0
  arr : w0.heap[gb]? = some (.cells (arrV sl) 45 (0, 0))
  rest : SomeRest lo g ys bits wrong w0
theorem DecR.drew {w w0 : World} {rb zb g gb lo : Nat} {z : Obj} {sl ys : List Int} {bits : Nat} {wrong : Int} (h : DecR w rb zb g gb lo z sl ys bits wrong w0) : DecR w rb zb g gb lo z sl ys bits wrong w0.drew :=
  ⟨h.s.step (below_drew1 _), h.arr, h.rest.below (below_drew1 _)⟩
structure DecT (w : World) (rb g gb : Nat) (sl : List Int) (w0 : World) : Prop where
  below : Below w.heap.size w w0
  box : w0.heap[rb]? = some (.cells (rdV g) 157 (0, 0))
  arr : w0.heap[gb]? = some (.cells (arrV sl) 45 (0, 0))
theorem DecR.t {w w0 : World} {rb zb g gb lo : Nat} {z : Obj} {sl ys : List Int} {bits : Nat} {wrong : Int} (h : DecR w rb zb g gb lo z sl ys bits wrong w0) : DecT w rb g gb sl w0 := ⟨h.s.below, h.s.box, h.arr⟩
end Go.Proofs.YtnpeedmicjeleaaDoor

/- Layer 5 (prefix): Decode. -/
namespace Go.Proofs.YtnpeedmicjeleaaDoor
open Go.RowKit
set_option linter.unusedVariables false
set_option linter.unusedSimpArgs false
set_option maxRecDepth 4000

end Go.Proofs.YtnpeedmicjeleaaDoor

/- Layer 5: wakes. -/
namespace Go.Proofs.YtnpeedmicjeleaaDoor
open Go.RowKit
set_option linter.unusedVariables false
set_option linter.unusedSimpArgs false
set_option maxRecDepth 4000

def ten8 : List Int := [10, 0, 0, 0, 0, 0, 0, 0, 0, 0, 0, 0, 0, 0, 0, 0]
theorem ten8_B : B16 ten8 := ⟨rfl, fun x hx => by simp [ten8] at hx; omega⟩
/-- A whole prefix stored into a cell just made. -/
structure WakS (w : World) (g h : Nat) (w0 : World) : Prop where
  below : Below w.heap.size w w0
  p : w0.heap[g]? = some (.cells (pfxV 4 ten8 8) 49 (0, 0))
  q : w0.heap[h]? = some (.cells (pfxV 4 ten8 8) 49 (0, 0))
theorem WakS.step {w w0 w1 : World} {g h : Nat} (s : WakS w g h w0) (hb : Below w0.heap.size w0 w1) : WakS w g h w1 := ⟨below_step s.below hb, blk_below s.p hb, blk_below s.q hb⟩
end Go.Proofs.YtnpeedmicjeleaaDoor

/- Layer 11 (route): the law's eight, over, own, wakes. -/
namespace Go.Proofs.YtnpeedmicjeleaaDoor
open Go.RowKit
set_option linter.unusedVariables false
set_option linter.unusedSimpArgs false
set_option maxRecDepth 4000
theorem eight11_any (w : World) : Calls Tryd.prog 40 #[] w fun e w' => e = .returned (.agg (pfxV 4 ten8 8)) ∧ Below w.heap.size w w' := by
  have hz := blk_new w (.cells (pfxV 0 zero16 0) 49)
  go_enter Tryd.func40, Tryd.ntmps40
  go_wp2_with (refine wpList_store_blk hz 49 0 (pfxV 4 ten8 8) (store_pfx_fit rfl rfl) (info_pfx rfl) (pfx_one _ _ _) _ _ rfl rfl rfl rfl ?_; intro w9 hg9 hs9 hb9; rw [splice_pfx _ _ _ ten8 rfl rfl] at hb9; have H9 := Lib.hid (And.intro hg9 hb9); clear hg9 hs9 hb9)
  have hld := ((pfx_at ten8_B H9.out.2).all _ (Below.refl _ _)).2.2.2.2
  refine bodyPost_ret (results_c1 rfl rfl hld) rfl ⟨rfl, below_grown (below_alloc (Below.refl _ _) _) H9.out.1 (Nat.le_refl _)⟩
theorem built_upd (p : Pfx) (s f h : Int) (hl : p.l.length = 16) : Tryd.prog.built 75 [(0, .agg (pfxV p.v p.l p.b)), (1, .int .i64 s), (3, .int .i64 f), (4, .int .i64 h)] = some (updV ⟨p, s, false, f, h⟩) := by
  obtain ⟨a, b, c, d, e, f, g, h1, i, j, k, m, n, o, q, r, hh⟩ := len16 hl
  obtain ⟨v, l, x⟩ := p
  simp only at hh
  subst hh
  kernel_rfl
theorem run_build_upd (w : World) (p : Pfx) (s f h : Int) (hl : p.l.length = 16) : (Instr.build 75 #[(0, .agg (pfxV p.v p.l p.b)), (1, .int .i64 s), (3, .int .i64 f), (4, .int .i64 h)]).run Tryd.prog w = .ok (.agg (updV ⟨p, s, false, f, h⟩)) w := run_build w _ _ _ (built_upd p s f h hl)
theorem built_updg (p : Pfx) (s : Int) (g : Bool) (hl : p.l.length = 16) : Tryd.prog.built 75 [(0, .agg (pfxV p.v p.l p.b)), (1, .int .i64 s), (2, .bool g)] = some (updV ⟨p, s, g, 0, 0⟩) := by
  obtain ⟨a, b, c, d, e, f, g, h1, i, j, k, m, n, o, q, r, hh⟩ := len16 hl
  obtain ⟨v, l, x⟩ := p
  simp only at hh
  subst hh
  kernel_rfl
theorem run_build_updg (w : World) (p : Pfx) (s : Int) (g : Bool) (hl : p.l.length = 16) : (Instr.build 75 #[(0, .agg (pfxV p.v p.l p.b)), (1, .int .i64 s), (2, .bool g)]).run Tryd.prog w = .ok (.agg (updV ⟨p, s, g, 0, 0⟩)) w := run_build w _ _ _ (built_updg p s g hl)
theorem run_build_bat (w : World) (A : Option Addr) (n c : Nat) : (Instr.build 27 #[(0, .slice A n c)]).run Tryd.prog w = .ok (.agg (tabV A n c)) w := run_build w _ _ _ (by kernel_rfl)
def wkP : Pfx := ⟨4, ten8, 8⟩
def wkU1 : Upd := ⟨wkP, 2, false, 5, 7⟩
def wkU2 : Upd := ⟨wkP, 1, false, 5, 9⟩
def wkU3 : Upd := ⟨wkP, 1, true, 0, 0⟩
def wkB1 : List Upd := [wkU1, wkU2]
def wkB2 : List Upd := [wkU3]
def wkR1 : List Rte := appR [] wkB1
def wkR2 : List Rte := appR wkR1 wkB2
theorem wkr1 : appN [] wkB1 = 0 ∧ wkR1.length = 2 ∧ ribE wkR1 = 0 ∧ (bestR wkR1).length = 1 ∧ (rowAt (bestR wkR1) 0).h = 9 := by decide +kernel
theorem wkr2 : appN wkR1 wkB2 = 0 ∧ wkR2.length = 1 ∧ ribE wkR2 = 0 ∧ (bestR wkR2).length = 1 ∧ (rowAt (bestR wkR2) 0).h = 7 := by decide +kernel
theorem wkB1_ok : Oku wkB1 := by
  intro u hu
  simp only [wkB1, List.mem_cons, List.not_mem_nil, or_false] at hu
  rcases hu with rfl | rfl <;> exact ⟨⟨ten8_B, by decide, by decide⟩, by decide, by decide, by decide⟩
theorem wkB2_ok : Oku wkB2 := by
  intro u hu
  simp only [wkB2, List.mem_cons, List.not_mem_nil, or_false] at hu
  subst hu
  exact ⟨⟨ten8_B, by decide, by decide⟩, by decide, by decide, by decide⟩
theorem appR_ok {l : List Rte} {b : List Upd} (ho : Okr l) (hu : Oku b) : Okr (appR l b) := by
  unfold appR
  split
  · rename_i h
    unfold appN at h
    split at h
    · rename_i h1
      split at h
      · split at h
        · rename_i m hm
          rw [hm]
          exact (appL_rok ⟨ho, (rib_to h1).2.1⟩ hu hm).1.ok
        · cases h
      · cases h
    · cases h
  · exact fun r hr => by cases hr
theorem wkR1_ok : Okr wkR1 := appR_ok (fun r hr => by cases hr) wkB1_ok
theorem wkR2_ok : Okr wkR2 := appR_ok wkR1_ok wkB2_ok
set_option maxHeartbeats 4000000 in
set_option maxRecDepth 100000 in
theorem wakes11_any (w : World) (hL : Laid w) : Calls Tryd.prog 10 #[] w fun e w' => e = .returned (.bool true) ∧ Below w.heap.size w w' := by
  have HL := Lib.hid hL
  clear hL
  go_enter Tryd.func10, Tryd.ntmps10
  go_wp2_with (first | ((with_reducible show wpList _ _ _ (Oper.mk _ (Op.build _ _) _ _ _ _ :: _) _ _); refine wpList_exw rfl (exec_build 24 #[] rfl #[] rfl ((run_build_rib_nil _))) ?_))
  refine (eight11_any w).mono ?_
  rintro e w1 ⟨rfl, hb1⟩
  have HB1 := Lib.hid hb1
  clear hb1
  go_wp2_with (first | ((with_reducible show wpList _ _ _ (Oper.mk _ (Op.build 75 _) _ _ _ _ :: _) _ _); refine wpList_exw rfl (exec_build4 rfl rfl rfl rfl rfl (run_build_upd _ wkP 2 5 7 rfl)) ?_))
  refine (eight11_any w1).mono ?_
  rintro e w2 ⟨rfl, hb2⟩
  have HB2 := Lib.hid (below_step HB1.out hb2)
  clear hb2 HB1
  obtain ⟨u1, hu1⟩ : ∃ u : Upd, u = wkU1 := ⟨_, rfl⟩
  obtain ⟨u2, hu2⟩ : ∃ u : Upd, u = wkU2 := ⟨_, rfl⟩
  have HU1 := Lib.hid hu1
  have HU2 := Lib.hid hu2
  have hf1 : u1.fits := by rw [hu1]; exact ten8_B
  have hf2 : u2.fits := by rw [hu2]; exact ten8_B
  clear hu1 hu2
  go_wp2_with (first | ((with_reducible show wpList _ _ _ (Oper.mk _ (Op.build 75 _) _ _ _ _ :: _) _ _); refine wpList_exw rfl (exec_build4 rfl rfl rfl rfl rfl (run_build_upd _ wkP 1 5 9 rfl)) ?_) | ((with_reducible show wpList _ _ _ (Oper.mk _ (Op.buildSlice _ _ _) _ _ _ _ :: _) _ _); refine wpList_exw rfl (exec_lit2 updK (x := .tmp 12) (y := .tmp 14) rfl u1 u2 (by rw [HU1.out]; rfl) (by rw [HU2.out]; rfl) hf1 hf2 (by show 22 ≤ _; omega) _) ?_) | ((with_reducible show wpList _ _ _ (Oper.mk _ (Op.build 27 _) _ _ _ _ :: _) _ _); refine wpList_exw rfl (exec_build1 rfl rfl (run_build_bat _ (some ⟨w2.heap.size, 0, none⟩) 2 2)) ?_))
  obtain ⟨W2, hW2⟩ : ∃ W, w2.alloc (.cells (updK.cells [u1, u2]).toArray updK.t) = W := ⟨_, rfl⟩
  have HV2 : Hid (RS updK W2 (some ⟨w2.heap.size, 0, none⟩) 2 2 wkB1) := Lib.hid (by unfold wkB1; rw [← HU1.out, ← HU2.out]; exact hW2 ▸ (OS.two updK w2 0 u1 u2 (Nat.zero_le _) hf1 hf2).reads)
  have HBW : Hid (Below w.heap.size w W2) := Lib.hid (hW2 ▸ below_alloc HB2.out _)
  rw [hW2]
  clear hW2
  have hcall := rapply_any none 0 0 [] (some ⟨w2.heap.size, 0, none⟩) 2 2 wkB1 W2 (HL.out.below HBW.out) (RS.nil _ _ _ _) (fun r hr => by cases hr) (by omega) HV2.out wkB1_ok (by omega)
  refine hcall.mono ?_
  clear hcall
  rw [wkr1.1]
  rintro e w3 ⟨A3, n3, c3, rfl, hO3, hb3⟩
  obtain rfl : 2 = n3 := by rw [← wkr1.2.1]; exact hO3.len
  have HO3 : Hid (RS rteK w3 A3 2 c3 wkR1) := Lib.hid hO3.reads
  have HB3 := Lib.hid (below_step HBW.out hb3)
  clear hO3 hb3 HB2
  go_wp2_with (first | ((with_reducible show wpList _ _ _ (Oper.mk _ (Op.store _ _ _) _ _ _ _ :: _) _ _); refine wpList_store_blk (blk_new w3 (.cells (tabV none 0 0) 24)) 24 0 (tabV A3 2 c3) (Nat.le_refl _) (info_rib _ _ _) (tab_one _ _ _) _ _ rfl rfl rfl rfl ?_; intro w4 hg9 hs9 hb9; rw [splice_tab] at hb9; have H4 := Lib.hid (And.intro hg9 hb9); clear hg9 hs9 hb9) | ((with_reducible show wpList _ _ _ (Oper.mk _ (Op.load _ _) _ _ _ _ :: _) _ _); refine wpList_load_g (load_rib H4.out.2) _ rfl rfl (by go_simp) ?_))
  have HB34 := Lib.hid (below_grown (below_alloc (Below.refl w3.heap.size w3) (.cells (tabV none 0 0) 24)) H4.out.1 (Nat.le_refl _))
  have HB4 := Lib.hid (below_step HB3.out HB34.out)
  have HO4 := Lib.hid (HO3.out.below HB34.out)
  have HG4 := Lib.hid H4.out.2
  obtain ⟨g1, hg1⟩ : ∃ g, w3.heap.size = g := ⟨_, rfl⟩
  rw [hg1] at HG4 ⊢
  clear H4 HB3 HB34 HO3 hg1
  refine (rbest_any A3 2 c3 wkR1 w4 (HL.out.below HB4.out) HO4.out wkR1_ok (by omega)).mono ?_
  rw [wkr1.2.2.1]
  rintro e w5 ⟨A5, n5, c5, rfl, hO5, hb5⟩
  obtain rfl : 1 = n5 := by rw [← wkr1.2.2.2.1]; exact hO5.len
  have HO5 : Hid (RT w5 A5 1 c5 (bestR wkR1)) := Lib.hid hO5.reads
  have HB5 := Lib.hid (below_step HB4.out hb5)
  have HG5 := Lib.hid (blk_below HG4.out hb5)
  have HR5 := Lib.hid (HO4.out.below hb5)
  clear hO5 hb5 HG4 HO4
  go_upto_region 3 with (first | ((with_reducible show wpList _ _ _ (Oper.mk _ (Op.store _ _ _) _ _ _ _ :: _) _ _); refine wpList_store_blk (blk_new w5 (.cells (tabV none 0 0) 39)) 39 0 (tabV A5 1 c5) (Nat.le_refl _) (info_tab _ _ _) (tab_one _ _ _) _ _ rfl rfl rfl rfl ?_; intro w6 hg9 hs9 hb9; rw [splice_tab] at hb9; have H6 := Lib.hid (And.intro hg9 hb9); clear hg9 hs9 hb9))
  have HB56 := Lib.hid (below_grown (below_alloc (Below.refl w5.heap.size w5) (.cells (tabV none 0 0) 39)) H6.out.1 (Nat.le_refl _))
  have HB6 := Lib.hid (below_step HB5.out HB56.out)
  have HG6 := Lib.hid (blk_below HG5.out HB56.out)
  have HR6 := Lib.hid (HR5.out.below HB56.out)
  have HT6 := Lib.hid (HO5.out.below HB56.out)
  have HQ6 := Lib.hid H6.out.2
  obtain ⟨g3, hg3⟩ : ∃ g, w5.heap.size = g := ⟨_, rfl⟩
  rw [hg3] at HQ6 ⊢
  clear H6 HB56 HG5 HR5 HO5 hg3
  try dsimp only [Act.put]
  try go_simp
  go_cut [5, 6] (fun s5 s6 wx => ∃ (g : Nat) (A7 : Option Addr) (c7 : Nat), s5 = .pointer (some ⟨g, 0, none⟩) ∧ s6 = .int .i64 0 ∧ Hid (wx.heap[g]? = some (.cells (tabV A7 1 c7) 24 (0, 0)) ∧ RS rteK wx A7 1 c7 wkR2 ∧ Below w6.heap.size w6 wx))
  case first =>
    have HBD := Lib.hid (below_drew1 w6)
    refine wp_region_fork ((fun w0 => Below w6.heap.size w6 w0)) (OrdT.fork [0] 1 9 (OrdT.fork [2] 3 9 (OrdT.fork [4] 5 9 (OrdT.lin [6, 7, 8, 9, 10, 11]) (OrdT.lin [5, 6, 7, 8, 10, 11])) (OrdT.lin [3, 4, 5, 6, 7, 8, 10, 11])) (OrdT.lin [1, 2, 3, 4, 5, 6, 7, 8, 10, 11])) [(0, 0), (1, 2), (2, 0), (3, 2), (4, 0), (5, 2), (6, 0), (7, 0), (8, 0), (9, 2), (10, 2), (11, 0)] (by kernel_rfl) (by kernel_rfl) ((below_drew1 _)) ?_
    simp only [wpF]
    refine wpO_loadW (t := 24) (ad := ⟨g1, 0, none⟩) rfl rfl ?hw rfl rfl ((fun w0 hS => load_rib (blk_below HG6.out hS))) ?_
    case hw => go_simp
    refine wpO_nil ⟨?_, ?_⟩
    · refine wpO_step2 rfl rfl (HBD.out) (fun K hK => ?_)
      go_simp
      refine (eight11_any _).mono ?_
      rintro e w21 ⟨rfl, hb9⟩
      have hsz1 := hb9.size
      have HBC := Lib.hid (below_step HBD.out hb9)
      try replace HZ9 := Lib.hid (blk_below HZ9.out hb9)
      clear hb9
      refine hK _ _ ⟨HBC.out, ?_⟩
      clear hK K
      refine wpO_nil ?_
      refine wpO_step0 rfl rfl (fun K hK => ?_)
      rw [if_pos (show Region.wanted _ _ = true from rfl)]
      refine ⟨_, fun w0 => exec_build3 rfl rfl rfl rfl (run_build_updg w0 wkP 1 true rfl), hK _ _ ?_⟩
      clear hK K
      refine wpO_nil ⟨?_, ?_⟩
      · refine wpO_step2 rfl rfl (HBC.out) (fun K hK => ?_)
        rw [if_pos (show Region.wanted _ _ = true from rfl)]
        refine oper_exec (exec_lit1 updK (x := .tmp 28) rfl wkU3 rfl ten8_B (by show 22 ≤ _; omega) _) ?_
        obtain ⟨w22, hw9⟩ : ∃ w9, World.alloc w21 (.cells (updK.enc wkU3).toArray updK.t) = w9 := ⟨_, rfl⟩
        have HLV : Hid (RS updK w22 (some ⟨(World.heap w21).size, 0, none⟩) 1 1 wkB2) := Lib.hid (hw9 ▸ (OS.one updK w21 0 wkU3 (Nat.zero_le _) ten8_B).reads)
        have ha9 : Below (World.heap w21).size w21 w22 := hw9 ▸ below_alloc (Below.refl _ _) _
        have HBK := Lib.hid (below_step HBC.out ha9)
        have hsz2 := ha9.size
        refine kw_cast hw9 ?_
        try replace HZ9 := Lib.hid (blk_below HZ9.out ha9)
        clear hw9 ha9
        refine hK _ _ ⟨HBK.out, ?_⟩
        clear hK K
        obtain ⟨gl, hgl⟩ : ∃ g, (World.heap w21).size = g := ⟨_, rfl⟩
        rw [hgl] at HLV ⊢
        clear hgl
        refine wpO_nil ?_
        refine wpO_step0 rfl rfl (fun K hK => ?_)
        rw [if_pos (show Region.wanted _ _ = true from rfl)]
        refine ⟨_, fun w0 => exec_build1 rfl rfl (run_build_bat w0 (some ⟨gl, 0, none⟩) 1 1), hK _ _ ?_⟩
        clear hK K
        refine wpO_nil ⟨?_, ?_⟩
        · refine wpO_step2 rfl rfl (HBK.out) (fun K hK => ?_)
          go_simp
          refine (rapply_any A3 2 c3 wkR1 (some ⟨gl, 0, none⟩) 1 1 wkB2 w22 (HL.out.below (below_step HB6.out HBK.out)) (HR6.out.below HBK.out) wkR1_ok (by omega) HLV.out wkB2_ok (by omega)).mono ?_
          rw [wkr2.1]
          rintro e w23 ⟨A9, n9, c9, rfl, hO9, hb9⟩
          obtain rfl : 1 = n9 := by rw [← wkr2.2.1]; exact hO9.len
          have HBL := Lib.hid (below_step HBK.out hb9)
          have HLT9 := Lib.hid hO9.lt
          have HBA9 := Lib.hid hO9.base_
          have HO9 : Hid (RS rteK w23 A9 1 c9 wkR2) := Lib.hid hO9.reads
          try replace HZ9 := Lib.hid (blk_below HZ9.out hb9)
          have hszc := hb9.size
          clear hO9 hb9
          refine hK _ _ ⟨HBL.out, ?_⟩
          clear hK K
          refine wpO_nil ?_
          iterate 3 (refine wpO_step0 rfl rfl (fun K hK => ?_); go_simp; refine hK _ _ ?_; clear hK K)
          refine wpO_step2 rfl rfl (HBL.out) (fun K hK => ?_)
          go_simp
          have hz9 := blk_new w23 (.cells (tabV none 0 0) 24)
          obtain ⟨w24, hw9⟩ : ∃ w9, World.alloc w23 (.cells (tabV none 0 0) 24) = w9 := ⟨_, rfl⟩
          have ha9 : Below (World.heap w23).size w23 w24 := hw9 ▸ below_alloc (Below.refl _ _) _
          have HBM := Lib.hid (below_step HBL.out ha9)
          refine kw_cast hw9 ?_
          rw [hw9] at hz9
          have hzl9 := blk_lt hz9
          have HZ9 := Lib.hid hz9
          try replace HCP := Lib.hid (HCP.out.below ha9)
          try replace HO9 := Lib.hid (HO9.out.below ha9)
          try replace HLV := Lib.hid (HLV.out.below ha9)
          clear hw9 hz9 ha9
          refine hK _ _ ⟨HBM.out, ?_⟩
          clear hK K
          refine wpO_step2 rfl rfl (HBM.out) (fun K hK => ?_)
          rw [if_pos (show Region.wanted _ _ = true from rfl)]
          refine oper_store_blk HZ9.out 24 0 (tabV A9 1 c9) (Nat.le_refl _) (info_rib _ _ _) (tab_one _ _ _) _ _ rfl rfl rfl ?_
          intro w25 hg9 hs9 hb9
          rw [splice_tab] at hb9
          have HBN := Lib.hid (below_grown HBM.out hg9 (by have h1 := HBC.out.size; have h2 := HBK.out.size; have h3 := HBL.out.size; omega))
          have HNE9 : Hid (∀ ad, A9 = some ad → ad.block ≠ w23.heap.size) := Lib.hid (fun ad e => by have h1 := HLT9.out ad e; have h2 := HBA9.out ad e; first | omega)
          replace HO9 := Lib.hid (HO9.out.grown hg9 (fun ad e h => by injection h with h; exact HNE9.out ad e h))
          replace HZ9 := Lib.hid hb9
          clear hg9 hs9 hb9
          refine hK _ _ ⟨HBN.out, ?_⟩
          clear hK K
          iterate 1 (refine wpO_step0 rfl rfl (fun K hK => ?_); go_simp; refine hK _ _ ?_; clear hK K)
          refine wpO_nil ?_
          go_wp2_with fail
          go_meet
          exact ⟨w23.heap.size, A9, c9, rfl, rfl, HZ9.out, HO9.out, HBN.out⟩
        · refine wpO_step2 rfl rfl (HBK.out) (fun K hK => ?_)
          go_simp
          have hz9 := blk_new w22 (.cells (tabV none 0 0) 24)
          obtain ⟨w23, hw9⟩ : ∃ w9, World.alloc w22 (.cells (tabV none 0 0) 24) = w9 := ⟨_, rfl⟩
          have ha9 : Below (World.heap w22).size w22 w23 := hw9 ▸ below_alloc (Below.refl _ _) _
          have HBL := Lib.hid (below_step HBK.out ha9)
          refine kw_cast hw9 ?_
          rw [hw9] at hz9
          have hzl9 := blk_lt hz9
          have HZ9 := Lib.hid hz9
          try replace HCP := Lib.hid (HCP.out.below ha9)
          try replace HO9 := Lib.hid (HO9.out.below ha9)
          try replace HLV := Lib.hid (HLV.out.below ha9)
          clear hw9 hz9 ha9
          refine hK _ _ ⟨HBL.out, ?_⟩
          clear hK K
          refine wpO_nil ?_
          refine wpO_step2 rfl rfl (HBL.out) (fun K hK => ?_)
          go_simp
          refine (rapply_any A3 2 c3 wkR1 (some ⟨gl, 0, none⟩) 1 1 wkB2 w23 (HL.out.below (below_step HB6.out HBL.out)) (HR6.out.below HBL.out) wkR1_ok (by omega) HLV.out wkB2_ok (by omega)).mono ?_
          rw [wkr2.1]
          rintro e w24 ⟨A9, n9, c9, rfl, hO9, hb9⟩
          obtain rfl : 1 = n9 := by rw [← wkr2.2.1]; exact hO9.len
          have HBM := Lib.hid (below_step HBL.out hb9)
          have HLT9 := Lib.hid hO9.lt
          have HBA9 := Lib.hid hO9.base_
          have HO9 : Hid (RS rteK w24 A9 1 c9 wkR2) := Lib.hid hO9.reads
          try replace HZ9 := Lib.hid (blk_below HZ9.out hb9)
          have hszc := hb9.size
          clear hO9 hb9
          refine hK _ _ ⟨HBM.out, ?_⟩
          clear hK K
          iterate 3 (refine wpO_step0 rfl rfl (fun K hK => ?_); go_simp; refine hK _ _ ?_; clear hK K)
          refine wpO_step2 rfl rfl (HBM.out) (fun K hK => ?_)
          rw [if_pos (show Region.wanted _ _ = true from rfl)]
          refine oper_store_blk HZ9.out 24 0 (tabV A9 1 c9) (Nat.le_refl _) (info_rib _ _ _) (tab_one _ _ _) _ _ rfl rfl rfl ?_
          intro w25 hg9 hs9 hb9
          rw [splice_tab] at hb9
          have HBN := Lib.hid (below_grown HBM.out hg9 (by have h1 := HBC.out.size; have h2 := HBK.out.size; have h3 := HBL.out.size; omega))
          have HNE9 : Hid (∀ ad, A9 = some ad → ad.block ≠ w22.heap.size) := Lib.hid (fun ad e => by have h1 := HLT9.out ad e; have h2 := HBA9.out ad e; first | omega)
          replace HO9 := Lib.hid (HO9.out.grown hg9 (fun ad e h => by injection h with h; exact HNE9.out ad e h))
          replace HZ9 := Lib.hid hb9
          clear hg9 hs9 hb9
          refine hK _ _ ⟨HBN.out, ?_⟩
          clear hK K
          iterate 1 (refine wpO_step0 rfl rfl (fun K hK => ?_); go_simp; refine hK _ _ ?_; clear hK K)
          refine wpO_nil ?_
          go_wp2_with fail
          go_meet
          exact ⟨w22.heap.size, A9, c9, rfl, rfl, HZ9.out, HO9.out, HBN.out⟩
      · refine wpO_step2 rfl rfl (HBC.out) (fun K hK => ?_)
        go_simp
        have hz9 := blk_new w21 (.cells (tabV none 0 0) 24)
        obtain ⟨w22, hw9⟩ : ∃ w9, World.alloc w21 (.cells (tabV none 0 0) 24) = w9 := ⟨_, rfl⟩
        have ha9 : Below (World.heap w21).size w21 w22 := hw9 ▸ below_alloc (Below.refl _ _) _
        have HBK := Lib.hid (below_step HBC.out ha9)
        refine kw_cast hw9 ?_
        rw [hw9] at hz9
        have hzl9 := blk_lt hz9
        have HZ9 := Lib.hid hz9
        try replace HCP := Lib.hid (HCP.out.below ha9)
        try replace HO9 := Lib.hid (HO9.out.below ha9)
        try replace HLV := Lib.hid (HLV.out.below ha9)
        clear hw9 hz9 ha9
        refine hK _ _ ⟨HBK.out, ?_⟩
        clear hK K
        refine wpO_nil ?_
        refine wpO_step2 rfl rfl (HBK.out) (fun K hK => ?_)
        rw [if_pos (show Region.wanted _ _ = true from rfl)]
        refine oper_exec (exec_lit1 updK (x := .tmp 28) rfl wkU3 rfl ten8_B (by show 22 ≤ _; omega) _) ?_
        obtain ⟨w23, hw9⟩ : ∃ w9, World.alloc w22 (.cells (updK.enc wkU3).toArray updK.t) = w9 := ⟨_, rfl⟩
        have HLV : Hid (RS updK w23 (some ⟨(World.heap w22).size, 0, none⟩) 1 1 wkB2) := Lib.hid (hw9 ▸ (OS.one updK w22 0 wkU3 (Nat.zero_le _) ten8_B).reads)
        have ha9 : Below (World.heap w22).size w22 w23 := hw9 ▸ below_alloc (Below.refl _ _) _
        have HBL := Lib.hid (below_step HBK.out ha9)
        have hsz2 := ha9.size
        refine kw_cast hw9 ?_
        try replace HZ9 := Lib.hid (blk_below HZ9.out ha9)
        clear hw9 ha9
        refine hK _ _ ⟨HBL.out, ?_⟩
        clear hK K
        obtain ⟨gl, hgl⟩ : ∃ g, (World.heap w22).size = g := ⟨_, rfl⟩
        rw [hgl] at HLV ⊢
        clear hgl
        refine wpO_step0 rfl rfl (fun K hK => ?_)
        rw [if_pos (show Region.wanted _ _ = true from rfl)]
        refine ⟨_, fun w0 => exec_build1 rfl rfl (run_build_bat w0 (some ⟨gl, 0, none⟩) 1 1), hK _ _ ?_⟩
        clear hK K
        refine wpO_step2 rfl rfl (HBL.out) (fun K hK => ?_)
        go_simp
        refine (rapply_any A3 2 c3 wkR1 (some ⟨gl, 0, none⟩) 1 1 wkB2 w23 (HL.out.below (below_step HB6.out HBL.out)) (HR6.out.below HBL.out) wkR1_ok (by omega) HLV.out wkB2_ok (by omega)).mono ?_
        rw [wkr2.1]
        rintro e w24 ⟨A9, n9, c9, rfl, hO9, hb9⟩
        obtain rfl : 1 = n9 := by rw [← wkr2.2.1]; exact hO9.len
        have HBM := Lib.hid (below_step HBL.out hb9)
        have HLT9 := Lib.hid hO9.lt
        have HBA9 := Lib.hid hO9.base_
        have HO9 : Hid (RS rteK w24 A9 1 c9 wkR2) := Lib.hid hO9.reads
        try replace HZ9 := Lib.hid (blk_below HZ9.out hb9)
        have hszc := hb9.size
        clear hO9 hb9
        refine hK _ _ ⟨HBM.out, ?_⟩
        clear hK K
        iterate 3 (refine wpO_step0 rfl rfl (fun K hK => ?_); go_simp; refine hK _ _ ?_; clear hK K)
        refine wpO_step2 rfl rfl (HBM.out) (fun K hK => ?_)
        rw [if_pos (show Region.wanted _ _ = true from rfl)]
        refine oper_store_blk HZ9.out 24 0 (tabV A9 1 c9) (Nat.le_refl _) (info_rib _ _ _) (tab_one _ _ _) _ _ rfl rfl rfl ?_
        intro w25 hg9 hs9 hb9
        rw [splice_tab] at hb9
        have HBN := Lib.hid (below_grown HBM.out hg9 (by have h1 := HBC.out.size; have h2 := HBK.out.size; have h3 := HBL.out.size; omega))
        have HNE9 : Hid (∀ ad, A9 = some ad → ad.block ≠ w21.heap.size) := Lib.hid (fun ad e => by have h1 := HLT9.out ad e; have h2 := HBA9.out ad e; first | omega)
        replace HO9 := Lib.hid (HO9.out.grown hg9 (fun ad e h => by injection h with h; exact HNE9.out ad e h))
        replace HZ9 := Lib.hid hb9
        clear hg9 hs9 hb9
        refine hK _ _ ⟨HBN.out, ?_⟩
        clear hK K
        iterate 1 (refine wpO_step0 rfl rfl (fun K hK => ?_); go_simp; refine hK _ _ ?_; clear hK K)
        refine wpO_nil ?_
        go_wp2_with fail
        go_meet
        exact ⟨w21.heap.size, A9, c9, rfl, rfl, HZ9.out, HO9.out, HBN.out⟩
    · refine wpO_step2 rfl rfl (HBD.out) (fun K hK => ?_)
      go_simp
      have hz9 := blk_new w6 (.cells (tabV none 0 0) 24)
      obtain ⟨w21, hw9⟩ : ∃ w9, (World.alloc w6 (.cells (tabV none 0 0) 24)).drew = w9 := ⟨_, rfl⟩
      have ha9 : Below (World.heap w6).size w6 w21 := hw9 ▸ below_step (below_alloc (Below.refl _ _) _) (below_drew1 _)
      have HBC := Lib.hid ha9
      refine kw_cast hw9 ?_
      replace hz9 : (World.heap w21)[(World.heap w6).size]? = some (.cells (tabV none 0 0) 24 (0, 0)) := by rw [← hw9]; exact hz9
      have hzl9 := blk_lt hz9
      have HZ9 := Lib.hid hz9
      clear hw9 hz9 ha9
      refine hK _ _ ⟨HBC.out, ?_⟩
      clear hK K
      refine wpO_nil ?_
      refine wpO_step2 rfl rfl (HBC.out) (fun K hK => ?_)
      go_simp
      refine (eight11_any _).mono ?_
      rintro e w22 ⟨rfl, hb9⟩
      have hsz1 := hb9.size
      have HBK := Lib.hid (below_step HBC.out hb9)
      try replace HZ9 := Lib.hid (blk_below HZ9.out hb9)
      clear hb9
      refine hK _ _ ⟨HBK.out, ?_⟩
      clear hK K
      refine wpO_step0 rfl rfl (fun K hK => ?_)
      rw [if_pos (show Region.wanted _ _ = true from rfl)]
      refine ⟨_, fun w0 => exec_build3 rfl rfl rfl rfl (run_build_updg w0 wkP 1 true rfl), hK _ _ ?_⟩
      clear hK K
      refine wpO_step2 rfl rfl (HBK.out) (fun K hK => ?_)
      rw [if_pos (show Region.wanted _ _ = true from rfl)]
      refine oper_exec (exec_lit1 updK (x := .tmp 28) rfl wkU3 rfl ten8_B (by show 22 ≤ _; omega) _) ?_
      obtain ⟨w23, hw9⟩ : ∃ w9, World.alloc w22 (.cells (updK.enc wkU3).toArray updK.t) = w9 := ⟨_, rfl⟩
      have HLV : Hid (RS updK w23 (some ⟨(World.heap w22).size, 0, none⟩) 1 1 wkB2) := Lib.hid (hw9 ▸ (OS.one updK w22 0 wkU3 (Nat.zero_le _) ten8_B).reads)
      have ha9 : Below (World.heap w22).size w22 w23 := hw9 ▸ below_alloc (Below.refl _ _) _
      have HBL := Lib.hid (below_step HBK.out ha9)
      have hsz2 := ha9.size
      refine kw_cast hw9 ?_
      try replace HZ9 := Lib.hid (blk_below HZ9.out ha9)
      clear hw9 ha9
      refine hK _ _ ⟨HBL.out, ?_⟩
      clear hK K
      obtain ⟨gl, hgl⟩ : ∃ g, (World.heap w22).size = g := ⟨_, rfl⟩
      rw [hgl] at HLV ⊢
      clear hgl
      refine wpO_step0 rfl rfl (fun K hK => ?_)
      rw [if_pos (show Region.wanted _ _ = true from rfl)]
      refine ⟨_, fun w0 => exec_build1 rfl rfl (run_build_bat w0 (some ⟨gl, 0, none⟩) 1 1), hK _ _ ?_⟩
      clear hK K
      refine wpO_step2 rfl rfl (HBL.out) (fun K hK => ?_)
      go_simp
      refine (rapply_any A3 2 c3 wkR1 (some ⟨gl, 0, none⟩) 1 1 wkB2 w23 (HL.out.below (below_step HB6.out HBL.out)) (HR6.out.below HBL.out) wkR1_ok (by omega) HLV.out wkB2_ok (by omega)).mono ?_
      rw [wkr2.1]
      rintro e w24 ⟨A9, n9, c9, rfl, hO9, hb9⟩
      obtain rfl : 1 = n9 := by rw [← wkr2.2.1]; exact hO9.len
      have HBM := Lib.hid (below_step HBL.out hb9)
      have HLT9 := Lib.hid hO9.lt
      have HBA9 := Lib.hid hO9.base_
      have HO9 : Hid (RS rteK w24 A9 1 c9 wkR2) := Lib.hid hO9.reads
      try replace HZ9 := Lib.hid (blk_below HZ9.out hb9)
      have hszc := hb9.size
      clear hO9 hb9
      refine hK _ _ ⟨HBM.out, ?_⟩
      clear hK K
      iterate 3 (refine wpO_step0 rfl rfl (fun K hK => ?_); go_simp; refine hK _ _ ?_; clear hK K)
      refine wpO_step2 rfl rfl (HBM.out) (fun K hK => ?_)
      rw [if_pos (show Region.wanted _ _ = true from rfl)]
      refine oper_store_blk HZ9.out 24 0 (tabV A9 1 c9) (Nat.le_refl _) (info_rib _ _ _) (tab_one _ _ _) _ _ rfl rfl rfl ?_
      intro w25 hg9 hs9 hb9
      rw [splice_tab] at hb9
      have HBN := Lib.hid (below_grown HBM.out hg9 (by have h1 := HBC.out.size; have h2 := HBK.out.size; have h3 := HBL.out.size; omega))
      have HNE9 : Hid (∀ ad, A9 = some ad → ad.block ≠ w6.heap.size) := Lib.hid (fun ad e => by have h1 := HLT9.out ad e; have h2 := HBA9.out ad e; first | omega)
      replace HO9 := Lib.hid (HO9.out.grown hg9 (fun ad e h => by injection h with h; exact HNE9.out ad e h))
      replace HZ9 := Lib.hid hb9
      clear hg9 hs9 hb9
      refine hK _ _ ⟨HBN.out, ?_⟩
      clear hK K
      iterate 1 (refine wpO_step0 rfl rfl (fun K hK => ?_); go_simp; refine hK _ _ ?_; clear hK K)
      refine wpO_nil ?_
      go_wp2_with fail
      go_meet
      exact ⟨w6.heap.size, A9, c9, rfl, rfl, HZ9.out, HO9.out, HBN.out⟩
  case rest =>
    obtain ⟨g5, A7, c7, rfl, rfl, HC⟩ := hcut
    obtain ⟨w7, rfl⟩ : ∃ w7, w7 = wc := ⟨wc, rfl⟩
    have HB67 := Lib.hid HC.out.2.2
    have HB7 := Lib.hid (below_step HB6.out HC.out.2.2)
    have HG7 := Lib.hid HC.out.1
    have HR7 := Lib.hid HC.out.2.1
    have HT7 := Lib.hid (HT6.out.below HB67.out)
    have HQ7 := Lib.hid (blk_below HQ6.out HB67.out)
    clear HC
    go_wp2_with (first | ((with_reducible show wpList _ _ _ (Oper.mk _ (Op.load _ _) _ _ _ _ :: _) _ _); refine wpList_load_g (load_rib HG7.out) _ rfl rfl (by go_simp) ?_))
    refine (rbest_any A7 1 c7 wkR2 w7 (HL.out.below HB7.out) HR7.out wkR2_ok (by omega)).mono ?_
    rw [wkr2.2.2.1]
    rintro e w8 ⟨A8, n8, c8, rfl, hO8, hb8⟩
    obtain rfl : 1 = n8 := by rw [← wkr2.2.2.2.1]; exact hO8.len
    have HO8 : Hid (RT w8 A8 1 c8 (bestR wkR2)) := Lib.hid hO8.reads
    have HB8 := Lib.hid (below_step HB7.out hb8)
    have HT8 := Lib.hid (HT7.out.below hb8)
    have HQ8 := Lib.hid (blk_below HQ7.out hb8)
    clear hO8 hb8
    go_upto_region 5 with (first | ((with_reducible show wpList _ _ _ (Oper.mk _ (Op.store _ _ _) _ _ _ _ :: _) _ _); refine wpList_store_blk (blk_new w8 (.cells (tabV none 0 0) 39)) 39 0 (tabV A8 1 c8) (Nat.le_refl _) (info_tab _ _ _) (tab_one _ _ _) _ _ rfl rfl rfl rfl ?_; intro w9 hg9 hs9 hb9; rw [splice_tab] at hb9; have H9 := Lib.hid (And.intro hg9 hb9); clear hg9 hs9 hb9))
    have HB89 := Lib.hid (below_grown (below_alloc (Below.refl w8.heap.size w8) (.cells (tabV none 0 0) 39)) H9.out.1 (Nat.le_refl _))
    have HT9 := Lib.hid (HT8.out.below HB89.out)
    have HQ9 := Lib.hid (blk_below HQ8.out HB89.out)
    have HO9 := Lib.hid (HO8.out.below HB89.out)
    obtain ⟨b1, o1, rfl, hc1⟩ := RT.at_ HT9.out (by omega)
    obtain ⟨b2, o2, rfl, hc2⟩ := RT.at_ HO9.out (by omega)
    have hl1 := (rowLd_of (RT.fits_at HT9.out (i := 0) (by omega)) (hc1 0 (by omega))).hop
    have hl2 := (rowLd_of (RT.fits_at HO9.out (i := 0) (by omega)) (hc2 0 (by omega))).hop
    rw [wkr1.2.2.2.2] at hl1
    rw [wkr2.2.2.2.2] at hl2
    clear hc1 hc2
    have hq3 := ((tab_at HQ9.out).all _ (Below.refl _ _)).2
    have hq7 := ((tab_at H9.out.2).all _ (Below.refl _ _)).2
    go_wp2_with (first | ((with_reducible show wpList _ _ _ (Oper.mk _ (Op.load _ _) _ _ _ _ :: _) _ _); refine wpList_load_g hq3 _ rfl rfl (by go_simp) ?_) | ((with_reducible show wpList _ _ _ (Oper.mk _ (Op.load _ _) _ _ _ _ :: _) _ _); refine wpList_load_g hq7 _ rfl rfl (by go_simp) ?_) | ((with_reducible show wpList _ _ _ (Oper.mk _ (Op.load _ _) _ _ _ _ :: _) _ _); refine wpList_load_g hl1 _ rfl rfl (by go_simp) ?_) | ((with_reducible show wpList _ _ _ (Oper.mk _ (Op.load _ _) _ _ _ _ :: _) _ _); refine wpList_load_g hl2 _ rfl rfl (by go_simp) ?_))
    go_ret
    exact ⟨rfl, below_step HB8.out HB89.out⟩
end Go.Proofs.YtnpeedmicjeleaaDoor

/- Layer 11 (route): the law's own. -/
namespace Go.Proofs.YtnpeedmicjeleaaDoor
open Go.RowKit
set_option linter.unusedVariables false
set_option linter.unusedSimpArgs false
set_option maxRecDepth 4000
theorem info_bat (A : Option Addr) (n c : Nat) : (Tryd.prog.info? 27).map (·.size) = some (tabV A n c).size := by show _ = some 1; kernel_rfl
theorem load_bat {w : World} {g : Nat} {A : Option Addr} {n c : Nat} (h : w.heap[g]? = some (.cells (tabV A n c) 27 (0, 0))) : (Instr.loadAt 27 (.pointer (some ⟨g, 0, none⟩))).run Tryd.prog w = .ok (.agg (tabV A n c)) w := ((bat_at h).all _ (Below.refl _ _)).1
end Go.Proofs.YtnpeedmicjeleaaDoor

/- Layer 11 (route): Fold; the document's Fold. -/
namespace Go.Proofs.YtnpeedmicjeleaaDoor
open Go.RowKit
set_option linter.unusedVariables false
set_option linter.unusedSimpArgs false
set_option maxRecDepth 4000
def Bts (w : World) (bs : List Bt) : Prop := ∀ b ∈ bs, RS updK w b.A b.n b.c b.t ∧ Oku b.t ∧ b.n ≤ 100
theorem Bts.below {w w1 : World} {bs : List Bt} (h : Bts w bs) (hb : Below w.heap.size w w1) : Bts w1 bs := fun b hm => ⟨(h b hm).1.below hb, (h b hm).2⟩
/-- What the loop of Fold keeps. -/
structure FoldS (w0 w : World) (g : Nat) (A : Option Addr) (n c : Nat) (l : List Rte) : Prop where
  rows : RS rteK w A n c l
  cell : w.heap[g]? = some (.cells (tabV A n c) 24 (0, 0))
  fresh : ∀ ad, A = some ad → w0.heap.size ≤ ad.block ∧ ad.block ≠ g
  bel : Below w0.heap.size w0 w
  gle : w0.heap.size ≤ g
theorem FoldS.step {w0 w w1 : World} {g : Nat} {A : Option Addr} {n c : Nat} {l : List Rte} (h : FoldS w0 w g A n c l) (hb : Below w.heap.size w w1) : FoldS w0 w1 g A n c l := ⟨h.rows.below hb, blk_below h.cell hb, h.fresh, below_step h.bel hb, h.gle⟩
set_option maxHeartbeats 4000000 in
set_option maxRecDepth 100000 in
theorem rfold_any (A : Option Addr) (n c : Nat) (bs : List Bt) (w : World) (hL : Laid w) (hr : RS btK w A n c bs) (hb : Bts w bs) (hn : n ≤ 30) :
    Calls Tryd.prog 21 #[.slice A n c] w fun e w' => ∃ A' n' c', e = .returned (.tuple #[.agg (tabV A' n' c'), .int .i64 (foldN [] bs)]) ∧ RS rteK w' A' n' c' (foldR [] bs) ∧ Below w.heap.size w w' := by
  have HR := Lib.hid hr
  have HBT := Lib.hid hb
  have HL := Lib.hid hL
  have HOF := Lib.hid (fun (k : Nat) => fold_ok (l := bs.take k) (r := []) (fun r hr => by cases hr) (fun b hm => (hb b (List.mem_of_mem_take hm)).2.1))
  obtain ⟨W1, hW1⟩ : ∃ W1, w.alloc (.cells #[.slice none 0 0] 24) = W1 := ⟨_, rfl⟩
  have HZ : Hid (W1.heap[w.heap.size]? = some (.cells (tabV none 0 0) 24 (0, 0))) := Lib.hid (by rw [← hW1]; exact blk_new _ _)
  have HB1 : Hid (Below w.heap.size w W1) := Lib.hid (hW1 ▸ below_alloc (Below.refl _ _) _)
  obtain ⟨W2, hW2⟩ : ∃ W2, W1.alloc (.cells #[.slice none 0 0] 24) = W2 := ⟨_, rfl⟩
  have HF2 : Hid (FoldS W1 W2 W1.heap.size none 0 0 (foldR [] (bs.take 0))) := Lib.hid ⟨RS.nil _ _ _ _, hW2 ▸ blk_new _ _, fun ad e => (by cases e), hW2 ▸ below_alloc (Below.refl _ _) _, Nat.le_refl _⟩
  have HS1 : Hid (w.heap.size + 1 = W1.heap.size) := Lib.hid (by rw [← hW1]; simp)
  clear hr hb hL
  go_enter Tryd.func21, Tryd.ntmps21
  go_wp2_with fail
  clear hW1 hW2
  obtain ⟨g4, hg4⟩ : ∃ g, W1.heap.size = g := ⟨_, rfl⟩
  rw [hg4] at HF2 ⊢
  clear hg4
  go_loopw [11] (fun s11 wr => ∃ (k : Nat) (Ak : Option Addr) (nk ck : Nat), s11 = .int .i64 k ∧ Hid (k ≤ n ∧ FoldS W1 wr g4 Ak nk ck (foldR [] (bs.take k)) ∧ foldN [] (bs.take k) = 0)) (fun x _ => n - (intOf x).toNat)
  case atStart => exact ⟨0, none, 0, 0, rfl, Nat.zero_le _, HF2.out, rfl⟩
  case round =>
    obtain ⟨k, Ak, nk, ck, rfl, HI⟩ := hrel
    obtain ⟨wk, rfl⟩ : ∃ wk, wk = wr := ⟨wr, rfl⟩
    have HBK := Lib.hid (below_step HB1.out HI.out.2.1.bel)
    have hnk : nk ≤ 240 := by
      have h1 := (HOF.out k).2
      rw [HI.out.2.1.rows.len, List.length_take] at h1
      have h2 := HI.out.1
      simp at h1
      omega
    by_cases hlt : k < n
    · have hlt' : (k : Int) < n := by omega
      obtain ⟨b, o, rfl, hc⟩ := RS.at_ HR.out (by omega)
      have hkl : k < bs.length := by rw [HR.out.len]; exact hlt
      have HX := Lib.hid ((HBT.out.below HBK.out) _ (getD_mem (z := btK.z) hkl))
      have hla := Shape.ld btK wk b _ _ (RS.fits_at HR.out hlt) ((hc k hlt).below HBK.out)
      have hla : (Instr.loadAt 27 (.pointer (some ⟨b, o + k * 1, none⟩))).run Tryd.prog wk = .ok (.agg (tabV (bs.getD k btK.z).A (bs.getD k btK.z).n (bs.getD k btK.z).c)) wk := hla
      have HST := Lib.hid (fold_step hkl btK.z HI.out.2.2)
      obtain ⟨x, hx⟩ : ∃ x, bs.getD k btK.z = x := ⟨_, rfl⟩
      rw [hx] at hla HX HST
      rw [Nat.mul_one] at hla
      have HB6f := Lib.hid (fun (W : World) (h : (wk.alloc (.cells (tabV none 0 0) 27)).grownBy W (some wk.heap.size)) => below_grown (below_alloc (Below.refl wk.heap.size wk) (.cells (tabV none 0 0) 27)) h (Nat.le_refl _))
      clear hc hx hkl
      go_wp2_with (first | ((with_reducible show wpList _ _ _ (Oper.mk _ (Op.load _ _) _ _ _ _ :: _) _ _); refine wpList_load_g hla _ rfl rfl (by go_simp) ?_) | ((with_reducible show wpList _ _ _ (Oper.mk _ (Op.store _ _ _) _ _ _ _ :: _) _ _); refine wpList_store_blk (blk_new wk (.cells (tabV none 0 0) 27)) 27 0 (tabV x.A x.n x.c) (Nat.le_refl _) (info_bat _ _ _) (tab_one _ _ _) _ _ rfl rfl rfl rfl ?_; intro w6 hg9 hs9 hb9; rw [splice_tab] at hb9; have H6 := Lib.hid (And.intro hg9 hb9); clear hg9 hs9 hb9) | ((with_reducible show wpList _ _ _ (Oper.mk _ (Op.load _ _) _ _ _ _ :: _) _ _); refine wpList_load_g (load_rib (HI.out.2.1.step (HB6f.out _ H6.out.1)).cell) _ rfl rfl (by go_simp) ?_) | ((with_reducible show wpList _ _ _ (Oper.mk _ (Op.load _ _) _ _ _ _ :: _) _ _); refine wpList_load_g (load_bat H6.out.2) _ rfl rfl (by go_simp) ?_))
      have HB6 := Lib.hid (HB6f.out _ H6.out.1)
      have HF6 := Lib.hid (HI.out.2.1.step HB6.out)
      have HX6 := Lib.hid (HX.out.1.below HB6.out)
      have HBW6 := Lib.hid (below_step HBK.out HB6.out)
      clear HB6f H6 hla
      have hxn := HX.out.2.2
      refine (rapply_any Ak nk ck (foldR [] (bs.take k)) x.A x.n x.c x.t w6 (HL.out.below HBW6.out) HF6.out.rows (HOF.out k).1 (by omega) HX6.out HX.out.2.1 (by omega)).mono ?_
      rintro e w7 ⟨A7, n7, c7, rfl, hO7, hb7⟩
      have HO7 := Lib.hid hO7
      have HF7 := Lib.hid (HF6.out.step hb7)
      have HBW7 := Lib.hid (below_step HBW6.out hb7)
      have HL7 := Lib.hid hO7.lt
      have HBA := Lib.hid (fun ad e => Nat.lt_of_lt_of_le (blk_lt HF6.out.cell) (hO7.base_ ad e))
      have HBB := Lib.hid (fun ad e => Nat.le_trans HF6.out.bel.size (hO7.base_ ad e))
      obtain ⟨N, hN⟩ : ∃ N, appN (foldR [] (bs.take k)) x.t = N := ⟨_, rfl⟩
      rw [hN] at HST ⊢
      clear hO7 hb7 HF6 HX6 HBW6 hN
      have HB8f := Lib.hid (fun (W : World) (h : (w7.alloc (.cells (tabV none 0 0) 24)).grownBy W (some w7.heap.size)) => below_grown (below_alloc (Below.refl w7.heap.size w7) (.cells (tabV none 0 0) 24)) h (Nat.le_refl _))
      by_cases hN0 : N = 0
      · subst hN0
        have HNX := Lib.hid (HST.out.1 rfl)
        clear HST
        go_wp2_with (first | ((with_reducible show wpList _ _ _ (Oper.mk _ (Op.store _ _ _) _ _ _ _ :: _) _ _); refine wpList_store_blk (blk_new w7 (.cells (tabV none 0 0) 24)) 24 0 (tabV A7 n7 c7) (Nat.le_refl _) (info_rib _ _ _) (tab_one _ _ _) _ _ rfl rfl rfl rfl ?_; intro w8 hg9 hs9 hb9; rw [splice_tab] at hb9; have H8 := Lib.hid (And.intro hg9 hb9); clear hg9 hs9 hb9) | ((with_reducible show wpList _ _ _ (Oper.mk _ (Op.load _ _) _ _ _ _ :: _) _ _); refine wpList_load_g (load_rib H8.out.2) _ rfl rfl (by go_simp) ?_) | ((with_reducible show wpList _ _ _ (Oper.mk _ (Op.store _ _ _) _ _ _ _ :: _) _ _); refine wpList_store_blk (HF7.out.step (HB8f.out _ H8.out.1)).cell 24 0 (tabV A7 n7 c7) (Nat.le_refl _) (info_rib _ _ _) (tab_one _ _ _) _ _ rfl rfl rfl rfl ?_; intro w9 hg9 hs9 hb9; rw [splice_tab] at hb9; have H9 := Lib.hid (And.intro hg9 hb9); clear hg9 hs9 hb9))
        go_roundw
        case measure => simp [intOf]; omega
        case rel =>
          refine ⟨k + 1, A7, n7, c7, by go_num, by omega, ?_, HNX.out.1⟩
          rw [HNX.out.2]
          have h1 := HO7.out.reads.below (HB8f.out _ H8.out.1)
          refine ⟨h1.grown H9.out.1 (fun ad e h => ?_), H9.out.2, fun ad e => ⟨HBB.out ad e, ?_⟩, below_grown (below_step HF7.out.bel (HB8f.out _ H8.out.1)) H9.out.1 HF7.out.gle, HF7.out.gle⟩
          · have h2 := HBA.out ad e
            injection h with h
            omega
          · have h2 := HBA.out ad e
            omega
      · have hNb : (N != 0) = true := by simpa using hN0
        have HNX := Lib.hid (HST.out.2 hN0)
        clear HST hN0
        go_wp2_with (first | ((with_reducible show wpList _ _ _ (Oper.mk _ (Op.store _ _ _) _ _ _ _ :: _) _ _); refine wpList_store_blk (blk_new w7 (.cells (tabV none 0 0) 24)) 24 0 (tabV A7 n7 c7) (Nat.le_refl _) (info_rib _ _ _) (tab_one _ _ _) _ _ rfl rfl rfl rfl ?_; intro w8 hg9 hs9 hb9; rw [splice_tab] at hb9; have H8 := Lib.hid (And.intro hg9 hb9); clear hg9 hs9 hb9) | ((with_reducible show wpList _ _ _ (Oper.mk _ (Op.build _ _) _ _ _ _ :: _) _ _); refine wpList_exw rfl (exec_build 24 #[] rfl #[] rfl ((run_build_rib_nil _))) ?_) | ((with_reducible show wpList _ _ _ (Oper.mk _ (Op.store _ _ _) _ _ _ _ :: _) _ _); refine wpList_store_blk (blk_below HZ.out (below_step HF7.out.bel (HB8f.out _ H8.out.1))) 24 0 (tabV none 0 0) (Nat.le_refl _) (info_rib _ _ _) (tab_one _ _ _) _ _ rfl rfl rfl rfl ?_; intro w9 hg9 hs9 hb9; rw [splice_tab] at hb9; have H9 := Lib.hid (And.intro hg9 hb9); clear hg9 hs9 hb9))
        refine bodyPost_ret (results_c2 rfl rfl (load_rib H9.out.2)) rfl ?_
        rw [HNX.out.1, HNX.out.2]
        exact ⟨none, 0, 0, rfl, RS.nil _ _ _ _, below_grown (below_step HBW7.out (HB8f.out _ H8.out.1)) H9.out.1 (Nat.le_refl _)⟩
    · have hlt' : decide (k < n) = false := decide_eq_false hlt
      have hkn : k = bs.length := by rw [HR.out.len]; have := HI.out.1; omega
      have HT : Hid (bs.take k = bs) := Lib.hid (by rw [hkn, List.take_length])
      clear hlt hkn
      go_wp2_with (first | ((with_reducible show wpList _ _ _ (Oper.mk _ (Op.load _ _) _ _ _ _ :: _) _ _); refine wpList_load_g (load_rib HI.out.2.1.cell) _ rfl rfl (by go_simp) ?_) | ((with_reducible show wpList _ _ _ (Oper.mk _ (Op.store _ _ _) _ _ _ _ :: _) _ _); refine wpList_store_blk (blk_below HZ.out HI.out.2.1.bel) 24 0 (tabV Ak nk ck) (Nat.le_refl _) (info_rib _ _ _) (tab_one _ _ _) _ _ rfl rfl rfl rfl ?_; intro w9 hg9 hs9 hb9; rw [splice_tab] at hb9; have H9 := Lib.hid (And.intro hg9 hb9); clear hg9 hs9 hb9))
      refine bodyPost_ret (results_c2 rfl rfl (load_rib H9.out.2)) rfl ?_
      have h1 := HI.out.2.2
      have h2 := HI.out.2.1.rows
      rw [HT.out] at h1 h2
      rw [h1]
      refine ⟨Ak, nk, ck, rfl, h2.grown H9.out.1 (fun ad e h => ?_), below_grown HBK.out H9.out.1 (Nat.le_refl _)⟩
      have h3 := (HI.out.2.1.fresh ad e).1
      have h4 := HS1.out
      injection h with h
      omega
set_option maxHeartbeats 4000000 in
set_option maxRecDepth 100000 in
theorem reffold_any (A : Option Addr) (n c : Nat) (bs : List Bt) (w : World) (hr : RS btK w A n c bs) (hb : Bts w bs) (hn : n ≤ 30) :
    Calls Tryd.prog 22 #[.slice A n c] w fun e w' => ∃ A' n' c', e = .returned (.tuple #[.agg (tabV A' n' c'), .int .i64 (foldN [] bs)]) ∧ RS rteK w' A' n' c' (foldR [] bs) ∧ Below w.heap.size w w' := by
  have HR := Lib.hid hr
  have HBT := Lib.hid hb
  have HOF := Lib.hid (fun (k : Nat) => fold_ok (l := bs.take k) (r := []) (fun r hr => by cases hr) (fun b hm => (hb b (List.mem_of_mem_take hm)).2.1))
  obtain ⟨W1, hW1⟩ : ∃ W1, w.alloc (.cells #[.slice none 0 0] 24) = W1 := ⟨_, rfl⟩
  have HZ : Hid (W1.heap[w.heap.size]? = some (.cells (tabV none 0 0) 24 (0, 0))) := Lib.hid (by rw [← hW1]; exact blk_new _ _)
  have HB1 : Hid (Below w.heap.size w W1) := Lib.hid (hW1 ▸ below_alloc (Below.refl _ _) _)
  obtain ⟨W2, hW2⟩ : ∃ W2, W1.alloc (.cells #[.slice none 0 0] 24) = W2 := ⟨_, rfl⟩
  have HF2 : Hid (FoldS W1 W2 W1.heap.size none 0 0 (foldR [] (bs.take 0))) := Lib.hid ⟨RS.nil _ _ _ _, hW2 ▸ blk_new _ _, fun ad e => (by cases e), hW2 ▸ below_alloc (Below.refl _ _) _, Nat.le_refl _⟩
  have HS1 : Hid (w.heap.size + 1 = W1.heap.size) := Lib.hid (by rw [← hW1]; simp)
  clear hr hb
  go_enter Tryd.func22, Tryd.ntmps22
  go_wp2_with fail
  clear hW1 hW2
  obtain ⟨g4, hg4⟩ : ∃ g, W1.heap.size = g := ⟨_, rfl⟩
  rw [hg4] at HF2 ⊢
  clear hg4
  go_loopw [5] (fun s5 wr => ∃ (k : Nat) (Ak : Option Addr) (nk ck : Nat), s5 = .int .i64 k ∧ Hid (k ≤ n ∧ FoldS W1 wr g4 Ak nk ck (foldR [] (bs.take k)) ∧ foldN [] (bs.take k) = 0)) (fun x _ => n - (intOf x).toNat)
  case atStart => exact ⟨0, none, 0, 0, rfl, Nat.zero_le _, HF2.out, rfl⟩
  case round =>
    obtain ⟨k, Ak, nk, ck, rfl, HI⟩ := hrel
    obtain ⟨wk, rfl⟩ : ∃ wk, wk = wr := ⟨wr, rfl⟩
    have HBK := Lib.hid (below_step HB1.out HI.out.2.1.bel)
    have hnk : nk ≤ 240 := by
      have h1 := (HOF.out k).2
      rw [HI.out.2.1.rows.len, List.length_take] at h1
      have h2 := HI.out.1
      simp at h1
      omega
    by_cases hlt : k < n
    · have hlt' : (k : Int) < n := by omega
      obtain ⟨b, o, rfl, hc⟩ := RS.at_ HR.out (by omega)
      have hkl : k < bs.length := by rw [HR.out.len]; exact hlt
      have HX := Lib.hid ((HBT.out.below HBK.out) _ (getD_mem (z := btK.z) hkl))
      have HCX : Hid (CellsAt wk b (o + k * 1) (btK.enc (bs.getD k btK.z))) := Lib.hid ((hc k hlt).below HBK.out)
      have HST := Lib.hid (fold_step hkl btK.z HI.out.2.2)
      obtain ⟨x, hx⟩ : ∃ x, bs.getD k btK.z = x := ⟨_, rfl⟩
      rw [hx] at HCX HX HST
      clear hc hx hkl
      go_upto_region 5 with fail
      obtain ⟨N, hN⟩ : ∃ N, appN (foldR [] (bs.take k)) x.t = N := ⟨_, rfl⟩
      have HN := Lib.hid hN
      rw [hN] at HST
      clear hN
      have HBG := Lib.hid (blk_lt HI.out.2.1.cell)
      go_cut [6, 7] (fun s6 s7 wx => ∃ (g : Nat) (A9 : Option Addr) (n9 c9 : Nat), s6 = .pointer (some ⟨g, 0, none⟩) ∧ s7 = .int .i64 N ∧ Hid (wx.heap[g]? = some (.cells (tabV A9 n9 c9) 24 (0, 0)) ∧ RS rteK wx A9 n9 c9 (appR (foldR [] (bs.take k)) x.t) ∧ (∀ ad, A9 = some ad → wk.heap.size ≤ ad.block) ∧ wk.heap.size ≤ g ∧ Below wk.heap.size wk wx))
      case first =>
        have HBD := Lib.hid (below_drew1 wk)
        have hxn := HX.out.2.2
        refine wp_region_fork ((fun w0 => Below wk.heap.size wk w0)) (OrdT.fork [0, 1, 2, 3, 4] 5 9 (OrdT.lin [6, 7, 8, 9, 10, 11]) (OrdT.lin [5, 6, 7, 8, 10, 11])) [(0, 0), (1, 0), (2, 0), (3, 0), (4, 0), (5, 2), (6, 0), (7, 0), (8, 0), (9, 2), (10, 2), (11, 0)] (by kernel_rfl) (by kernel_rfl) ((below_drew1 _)) ?_
        simp only [wpF]
        refine wpO_loadW (t := 24) (ad := ⟨g4, 0, none⟩) rfl rfl ?hw rfl rfl ((fun w0 hS => load_rib (blk_below HI.out.2.1.cell hS))) ?_
        case hw => go_simp
        iterate 3 (refine wpO_step0 rfl rfl (fun K hK => ?_); go_simp; refine hK _ _ ?_; clear hK K)
        refine wpO_loadW (t := 27) (ad := ⟨b, (o+k), none⟩) rfl rfl ?hw rfl rfl ((fun w0 hS => Shape.ld btK w0 b (o + k) x trivial (by have h := HCX.out.below hS; rwa [Nat.mul_one] at h))) ?_
        case hw => go_simp
        refine wpO_nil ⟨?_, ?_⟩
        · refine wpO_step2 rfl rfl (HBD.out) (fun K hK => ?_)
          go_simp
          refine (refapply_any Ak nk ck (foldR [] (bs.take k)) x.A x.n x.c x.t wk.drew (HI.out.2.1.rows.below HBD.out) (HOF.out k).1 (by omega) (HX.out.1.below HBD.out) HX.out.2.1 (by omega)).mono ?_
          rw [HN.out]
          rintro e w2 ⟨A9, n9, c9, rfl, hO9, hb9, hf9⟩
          have HBC := Lib.hid (below_step HBD.out hb9)
          have HLT9 := Lib.hid (fun (h : 0 < n9) => RS.blkLt hO9 h)
          have HBA9 := Lib.hid hf9
          have HFR := Lib.hid (fun ad e => Nat.le_trans HBD.out.size (hf9 ad e))
          have HO9 := Lib.hid hO9
          try replace HZ9 := Lib.hid (blk_below HZ9.out hb9)
          clear hO9 hb9 hf9
          refine hK _ _ ⟨HBC.out, ?_⟩
          clear hK K
          refine wpO_nil ?_
          iterate 3 (refine wpO_step0 rfl rfl (fun K hK => ?_); go_simp; refine hK _ _ ?_; clear hK K)
          refine wpO_step2 rfl rfl (HBC.out) (fun K hK => ?_)
          go_simp
          have hz9 := blk_new w2 (.cells (tabV none 0 0) 24)
          obtain ⟨w3, hw9⟩ : ∃ w9, World.alloc w2 (.cells (tabV none 0 0) 24) = w9 := ⟨_, rfl⟩
          have ha9 : Below (World.heap w2).size w2 w3 := hw9 ▸ below_alloc (Below.refl _ _) _
          have HBK := Lib.hid (below_step HBC.out ha9)
          refine kw_cast hw9 ?_
          rw [hw9] at hz9
          have hzl9 := blk_lt hz9
          have HZ9 := Lib.hid hz9
          try replace HCP := Lib.hid (HCP.out.below ha9)
          try replace HO9 := Lib.hid (HO9.out.below ha9)
          try replace HLV := Lib.hid (HLV.out.below ha9)
          clear hw9 hz9 ha9
          refine hK _ _ ⟨HBK.out, ?_⟩
          clear hK K
          refine wpO_step2 rfl rfl (HBK.out) (fun K hK => ?_)
          rw [if_pos (show Region.wanted _ _ = true from rfl)]
          refine oper_store_blk HZ9.out 24 0 (tabV A9 n9 c9) (Nat.le_refl _) (info_rib _ _ _) (tab_one _ _ _) _ _ rfl rfl rfl ?_
          intro w4 hg9 hs9 hb9
          rw [splice_tab] at hb9
          have HBL := Lib.hid (below_grown HBK.out hg9 (by have h2 := HBC.out.size; omega))
          replace HO9 := Lib.hid (HO9.out.grownZ hg9 (fun h ad e => by have h1 := HLT9.out h ad e; have h2 := HBA9.out ad e; omega))
          replace HZ9 := Lib.hid hb9
          clear hg9 hs9 hb9
          refine hK _ _ ⟨HBL.out, ?_⟩
          clear hK K
          iterate 1 (refine wpO_step0 rfl rfl (fun K hK => ?_); go_simp; refine hK _ _ ?_; clear hK K)
          refine wpO_nil ?_
          go_wp2_with fail
          go_meet
          exact ⟨w2.heap.size, A9, n9, c9, rfl, rfl, HZ9.out, HO9.out, HFR.out, (by have h2 := HBC.out.size; omega), HBL.out⟩
        · refine wpO_step2 rfl rfl (HBD.out) (fun K hK => ?_)
          go_simp
          have hz9 := blk_new wk (.cells (tabV none 0 0) 24)
          obtain ⟨w2, hw9⟩ : ∃ w9, (World.alloc wk (.cells (tabV none 0 0) 24)).drew = w9 := ⟨_, rfl⟩
          have ha9 : Below (World.heap wk).size wk w2 := hw9 ▸ below_step (below_alloc (Below.refl _ _) _) (below_drew1 _)
          have HBC := Lib.hid ha9
          refine kw_cast hw9 ?_
          replace hz9 : (World.heap w2)[(World.heap wk).size]? = some (.cells (tabV none 0 0) 24 (0, 0)) := by rw [← hw9]; exact hz9
          have hzl9 := blk_lt hz9
          have HZ9 := Lib.hid hz9
          clear hw9 hz9 ha9
          refine hK _ _ ⟨HBC.out, ?_⟩
          clear hK K
          refine wpO_nil ?_
          refine wpO_step2 rfl rfl (HBC.out) (fun K hK => ?_)
          go_simp
          refine (refapply_any Ak nk ck (foldR [] (bs.take k)) x.A x.n x.c x.t w2 (HI.out.2.1.rows.below HBC.out) (HOF.out k).1 (by omega) (HX.out.1.below HBC.out) HX.out.2.1 (by omega)).mono ?_
          rw [HN.out]
          rintro e w3 ⟨A9, n9, c9, rfl, hO9, hb9, hf9⟩
          have HBK := Lib.hid (below_step HBC.out hb9)
          have HLT9 := Lib.hid (fun (h : 0 < n9) => RS.blkLt hO9 h)
          have HBA9 := Lib.hid hf9
          have HFR := Lib.hid (fun ad e => Nat.le_trans HBC.out.size (hf9 ad e))
          have HO9 := Lib.hid hO9
          try replace HZ9 := Lib.hid (blk_below HZ9.out hb9)
          clear hO9 hb9 hf9
          refine hK _ _ ⟨HBK.out, ?_⟩
          clear hK K
          iterate 3 (refine wpO_step0 rfl rfl (fun K hK => ?_); go_simp; refine hK _ _ ?_; clear hK K)
          refine wpO_step2 rfl rfl (HBK.out) (fun K hK => ?_)
          rw [if_pos (show Region.wanted _ _ = true from rfl)]
          refine oper_store_blk HZ9.out 24 0 (tabV A9 n9 c9) (Nat.le_refl _) (info_rib _ _ _) (tab_one _ _ _) _ _ rfl rfl rfl ?_
          intro w4 hg9 hs9 hb9
          rw [splice_tab] at hb9
          have HBL := Lib.hid (below_grown HBK.out hg9 (by have h2 := HBC.out.size; omega))
          replace HO9 := Lib.hid (HO9.out.grownZ hg9 (fun h ad e => by have h1 := HLT9.out h ad e; have h2 := HBA9.out ad e; omega))
          replace HZ9 := Lib.hid hb9
          clear hg9 hs9 hb9
          refine hK _ _ ⟨HBL.out, ?_⟩
          clear hK K
          iterate 1 (refine wpO_step0 rfl rfl (fun K hK => ?_); go_simp; refine hK _ _ ?_; clear hK K)
          refine wpO_nil ?_
          go_wp2_with fail
          go_meet
          exact ⟨wk.heap.size, A9, n9, c9, rfl, rfl, HZ9.out, HO9.out, HFR.out, (by have h2 := HBC.out.size; omega), HBL.out⟩
      case rest =>
        obtain ⟨g9, A9, n9, c9, rfl, rfl, HC⟩ := hcut
        obtain ⟨w9, rfl⟩ : ∃ w9, w9 = wc := ⟨wc, rfl⟩
        have HF9 := Lib.hid (HI.out.2.1.step HC.out.2.2.2.2)
        have HG9 := Lib.hid HC.out.1
        have HO9 := Lib.hid HC.out.2.1
        have HFR := Lib.hid HC.out.2.2.1
        clear HC
        by_cases hN0 : N = 0
        · subst hN0
          have HNX := Lib.hid (HST.out.1 rfl)
          clear HST
          go_wp2_with (first | ((with_reducible show wpList _ _ _ (Oper.mk _ (Op.load _ _) _ _ _ _ :: _) _ _); refine wpList_load_g (load_rib HG9.out) _ rfl rfl (by go_simp) ?_) | ((with_reducible show wpList _ _ _ (Oper.mk _ (Op.store _ _ _) _ _ _ _ :: _) _ _); refine wpList_store_blk HF9.out.cell 24 0 (tabV A9 n9 c9) (Nat.le_refl _) (info_rib _ _ _) (tab_one _ _ _) _ _ rfl rfl rfl rfl ?_; intro w10 hg9 hs9 hb9; rw [splice_tab] at hb9; have H10 := Lib.hid (And.intro hg9 hb9); clear hg9 hs9 hb9))
          go_roundw
          case measure => simp [intOf]; omega
          case rel =>
            refine ⟨k + 1, A9, n9, c9, by go_num, by omega, ?_, HNX.out.1⟩
            rw [HNX.out.2]
            refine ⟨HO9.out.grown H10.out.1 (fun ad e h => ?_), H10.out.2, fun ad e => ⟨Nat.le_trans HI.out.2.1.bel.size (HFR.out ad e), ?_⟩, below_grown HF9.out.bel H10.out.1 HF9.out.gle, HF9.out.gle⟩
            · have h2 := HFR.out ad e
              have h3 := HBG.out
              injection h with h
              omega
            · have h2 := HFR.out ad e
              have h3 := HBG.out
              omega
        · have hNb : (N != 0) = true := by simpa using hN0
          have HNX := Lib.hid (HST.out.2 hN0)
          clear HST hN0
          go_wp2_with (first | ((with_reducible show wpList _ _ _ (Oper.mk _ (Op.build _ _) _ _ _ _ :: _) _ _); refine wpList_exw rfl (exec_build 24 #[] rfl #[] rfl ((run_build_rib_nil _))) ?_) | ((with_reducible show wpList _ _ _ (Oper.mk _ (Op.store _ _ _) _ _ _ _ :: _) _ _); refine wpList_store_blk (blk_below HZ.out HF9.out.bel) 24 0 (tabV none 0 0) (Nat.le_refl _) (info_rib _ _ _) (tab_one _ _ _) _ _ rfl rfl rfl rfl ?_; intro w10 hg9 hs9 hb9; rw [splice_tab] at hb9; have H10 := Lib.hid (And.intro hg9 hb9); clear hg9 hs9 hb9))
          refine bodyPost_ret (results_c2 rfl rfl (load_rib H10.out.2)) rfl ?_
          rw [HNX.out.1, HNX.out.2]
          exact ⟨none, 0, 0, rfl, RS.nil _ _ _ _, below_grown (below_step HB1.out HF9.out.bel) H10.out.1 (Nat.le_refl _)⟩
    · have hlt' : decide (k < n) = false := decide_eq_false hlt
      have hkn : k = bs.length := by rw [HR.out.len]; have := HI.out.1; omega
      have HT : Hid (bs.take k = bs) := Lib.hid (by rw [hkn, List.take_length])
      clear hlt hkn
      go_wp2_with (first | ((with_reducible show wpList _ _ _ (Oper.mk _ (Op.load _ _) _ _ _ _ :: _) _ _); refine wpList_load_g (load_rib HI.out.2.1.cell) _ rfl rfl (by go_simp) ?_) | ((with_reducible show wpList _ _ _ (Oper.mk _ (Op.store _ _ _) _ _ _ _ :: _) _ _); refine wpList_store_blk (blk_below HZ.out HI.out.2.1.bel) 24 0 (tabV Ak nk ck) (Nat.le_refl _) (info_rib _ _ _) (tab_one _ _ _) _ _ rfl rfl rfl rfl ?_; intro w9 hg9 hs9 hb9; rw [splice_tab] at hb9; have H9 := Lib.hid (And.intro hg9 hb9); clear hg9 hs9 hb9))
      refine bodyPost_ret (results_c2 rfl rfl (load_rib H9.out.2)) rfl ?_
      have h1 := HI.out.2.2
      have h2 := HI.out.2.1.rows
      rw [HT.out] at h1 h2
      rw [h1]
      refine ⟨Ak, nk, ck, rfl, h2.grown H9.out.1 (fun ad e h => ?_), below_grown HBK.out H9.out.1 (Nat.le_refl _)⟩
      have h3 := (HI.out.2.1.fresh ad e).1
      have h4 := HS1.out
      injection h with h
      omega
end Go.Proofs.YtnpeedmicjeleaaDoor

/- Layer 11 (route): the law RouteApplies. -/
namespace Go.Proofs.YtnpeedmicjeleaaDoor
open Go.RowKit
set_option linter.unusedVariables false
set_option linter.unusedSimpArgs false
set_option maxRecDepth 4000
theorem eqL_self {α : Type} {S : Shape α} (E : ShapeEq S) (l : List α) : E.eqL l l = true := (ShapeEq.eqL_iff E l l).2 rfl
end Go.Proofs.YtnpeedmicjeleaaDoor
