/- Layer 11 (route): the document's Apply. -/
import Derived.Test.YtnpeedmicjeleaaDoorRouteAppliesD
namespace Go.Proofs.YtnpeedmicjeleaaDoor
open Go.RowKit
set_option linter.unusedVariables false
set_option linter.unusedSimpArgs false
set_option maxRecDepth 4000
theorem putK_same {α : Type} {K : α → List Int} {p a : α} {t : List α} (put : Bool) (h : K a = K p) : putK K p put (a :: t) = putK K p put t := by rw [putK, if_pos h]
theorem putK_new {α : Type} {K : α → List Int} {p a : α} {t : List α} (h : K a ≠ K p) (h2 : cK K p a < 0) : putK K p false (a :: t) = p :: a :: putK K p true t := by rw [putK, if_neg h, if_pos (by simp [h2])]
theorem putK_old {α : Type} {K : α → List Int} {p a : α} {t : List α} {put : Bool} (h : K a ≠ K p) (h2 : put = true ∨ ¬ cK K p a < 0) : putK K p put (a :: t) = a :: putK K p put t := by
  rw [putK, if_neg h, if_neg]
  rcases h2 with h2 | h2
  · rw [h2]; simp
  · simp [h2]
theorem any_same {l : List Rte} {r : Rte} (hl : ∀ a ∈ l, a.fits) (hr : r.fits) : l.any (fun a => sameK a r) = true ↔ ∃ a ∈ l, a.key = r.key := by
  rw [List.any_eq_true]
  constructor
  · rintro ⟨a, ha, h⟩
    exact ⟨a, ha, (sameK_iff a r (hl a ha) hr).1 h⟩
  · rintro ⟨a, ha, h⟩
    exact ⟨a, ha, (sameK_iff a r (hl a ha) hr).2 h⟩
theorem any_succ {α : Type} (l : List α) (p : α → Bool) (z : α) {i : Nat} (hi : i < l.length) : (l.take (i + 1)).any p = ((l.take i).any p || p (l.getD i z)) := by
  rw [take_getD z hi, List.any_append]
  simp
set_option maxHeartbeats 8000000 in
set_option maxRecDepth 100000 in
theorem refapply_any (A : Option Addr) (n c : Nat) (l : List Rte) (A2 : Option Addr) (m c2 : Nat) (b : List Upd) (w : World) (hr : RS rteK w A n c l) (ok : Okr l) (hn : n ≤ 10000) (hu : RS updK w A2 m c2 b) (oku : Oku b) (hm : m ≤ 10000) :
    Calls Tryd.prog 14 #[.agg (tabV A n c), .agg (tabV A2 m c2)] w fun e w' => ∃ A' n' c', e = .returned (.tuple #[.agg (tabV A' n' c'), .int .i64 (appN l b)]) ∧ RS rteK w' A' n' c' (appR l b) ∧ Below w.heap.size w w' := by
  have hblk1 := blk_new w (.cells (tabV A n c) 24)
  have hbel1 : Below w.heap.size w (w.alloc (.cells (tabV A n c) 24)) := below_alloc (Below.refl _ _) _
  have hblk2 := blk_new (w.alloc (.cells (tabV A n c) 24)) (.cells (tabV A2 m c2) 27)
  have hbel2 : Below w.heap.size w ((w.alloc (.cells (tabV A n c) 24)).alloc (.cells (tabV A2 m c2) 27)) := below_alloc (hbel1) _
  rw [show (w.alloc (.cells (tabV A n c) 24)).heap.size = w.heap.size + 1 by simp] at hblk2
  replace hblk1 := blk_below hblk1 (below_alloc (Below.refl _ _) (.cells (tabV A2 m c2) 27))
  have HP1 := Lib.hid (rib_at hblk1)
  have HBK1 := Lib.hid hblk1
  have HP2 := Lib.hid (bat_at hblk2)
  have HBK2 := Lib.hid hblk2
  have HBE := Lib.hid hbel2
  obtain ⟨cs1, hcs1⟩ : ∃ cs, tabV A n c = cs := ⟨_, rfl⟩
  obtain ⟨cs2, hcs2⟩ : ∃ cs, tabV A2 m c2 = cs := ⟨_, rfl⟩
  simp only [hcs1, hcs2] at HBE HP1 HP2 HBK1 HBK2 ⊢
  have HC1 := Lib.hid hcs1
  have HC2 := Lib.hid hcs2
  clear hcs1 hblk1 hbel1 hcs2 hblk2 hbel2
  have HR := Lib.hid (hr.below HBE.out)
  have HAL0 : Hid (0 < n → ∀ ad, A = some ad → ad.block ≠ w.heap.size + 1 + 1) := Lib.hid (fun hn ad e => by have := RS.blkLt hr hn ad e; omega)
  have HU := Lib.hid (hu.below HBE.out)
  have OK := Lib.hid ok
  have OKU := Lib.hid oku
  have hs0 : ((w.alloc (.cells cs1 24)).alloc (.cells cs2 27)).heap.size = w.heap.size + 1 + 1 := by simp
  obtain ⟨W1, hW1⟩ : ∃ W1, ((w.alloc (.cells cs1 24)).alloc (.cells cs2 27)).alloc (.cells #[.slice none 0 0] 24) = W1 := ⟨_, rfl⟩
  have HZ : Hid (W1.heap[w.heap.size + 1 + 1]? = some (.cells (tabV none 0 0) 24 (0, 0))) := Lib.hid (by rw [← hW1, ← hs0]; exact blk_new _ _)
  have HB1 : Hid (Below ((w.alloc (.cells cs1 24)).alloc (.cells cs2 27)).heap.size ((w.alloc (.cells cs1 24)).alloc (.cells cs2 27)) W1) := Lib.hid (hW1 ▸ below_alloc (Below.refl _ _) _)
  have HZL : Hid (w.heap.size ≤ w.heap.size + 1 + 1) := Lib.hid (by omega)
  have HS1 : Hid (W1.heap.size = w.heap.size + 3) := Lib.hid (by rw [← hW1]; simp)
  clear hr hu ok oku hs0
  go_enter Tryd.func14, Tryd.ntmps14
  go_wp2_with (first | ((with_reducible show wpList _ _ _ (Oper.mk _ (Op.load _ _) _ _ _ _ :: _) _ _); refine wpList_load_g ((HP1.out.all _ HB1.out).1) _ rfl rfl (by go_simp) ?_))
  clear hW1
  refine (refrib_any A n c l W1 (HR.out.below HB1.out) OK.out (by omega)).mono ?_
  rintro e w2 ⟨rfl, hb2⟩
  have HB2 := Lib.hid (below_step HB1.out hb2)
  have HZ2 := Lib.hid (blk_below HZ.out hb2)
  have HS2 : Hid (w.heap.size + 3 ≤ w2.heap.size) := Lib.hid (by rw [← HS1.out]; exact hb2.size)
  clear hb2 HZ HB1 HS1
  cases hrb : ribB l with
  | false =>
    have HE := Lib.hid (appN_rib (b := b) hrb)
    clear hrb
    go_wp2_with (first | ((with_reducible show wpList _ _ _ (Oper.mk _ (Op.build _ _) _ _ _ _ :: _) _ _); refine wpList_exw rfl (exec_build 24 #[] rfl #[] rfl ((run_build_rib_nil _))) ?_) | ((with_reducible show wpList _ _ _ (Oper.mk _ (Op.store _ _ _) _ _ _ _ :: _) _ _); refine wpList_store_blk HZ2.out 24 0 (tabV none 0 0) (Nat.le_refl _) (info_rib _ _ _) (tab_one _ _ _) _ _ rfl rfl rfl rfl ?_; intro w9 hg9 hs9 hb9; rw [splice_tab] at hb9; have H9 := Lib.hid (And.intro hg9 hb9); clear hg9 hs9 hb9))
    refine bodyPost_ret (results_c2 rfl rfl (load_rib H9.out.2)) rfl ?_
    rw [HE.out.1, HE.out.2]
    exact ⟨none, 0, 0, rfl, RS.nil _ _ _ _, below_grown (below_step HBE.out HB2.out) H9.out.1 HZL.out⟩
  | true =>
    have HRB := Lib.hid hrb
    clear hrb
    go_wp2_with (first | ((with_reducible show wpList _ _ _ (Oper.mk _ (Op.load _ _) _ _ _ _ :: _) _ _); refine wpList_load_g ((HP2.out.all _ HB2.out).1) _ rfl rfl (by go_simp) ?_))
    refine (refbatch_any A2 m c2 b w2 (HU.out.below HB2.out) OKU.out (by omega)).mono ?_
    rintro e w3 ⟨rfl, hb3⟩
    have HB3 := Lib.hid (below_step HB2.out hb3)
    have HZ3 := Lib.hid (blk_below HZ2.out hb3)
    have HS3 : Hid (w.heap.size + 3 ≤ w3.heap.size) := Lib.hid (Nat.le_trans HS2.out hb3.size)
    clear hb3 HZ2 HB2 HS2
    cases hbb : batB b with
    | false =>
      have HE := Lib.hid (appN_bat HRB.out hbb)
      clear hbb
      go_wp2_with (first | ((with_reducible show wpList _ _ _ (Oper.mk _ (Op.build _ _) _ _ _ _ :: _) _ _); refine wpList_exw rfl (exec_build 24 #[] rfl #[] rfl ((run_build_rib_nil _))) ?_) | ((with_reducible show wpList _ _ _ (Oper.mk _ (Op.store _ _ _) _ _ _ _ :: _) _ _); refine wpList_store_blk HZ3.out 24 0 (tabV none 0 0) (Nat.le_refl _) (info_rib _ _ _) (tab_one _ _ _) _ _ rfl rfl rfl rfl ?_; intro w9 hg9 hs9 hb9; rw [splice_tab] at hb9; have H9 := Lib.hid (And.intro hg9 hb9); clear hg9 hs9 hb9))
      refine bodyPost_ret (results_c2 rfl rfl (load_rib H9.out.2)) rfl ?_
      rw [HE.out.1, HE.out.2]
      exact ⟨none, 0, 0, rfl, RS.nil _ _ _ _, below_grown (below_step HBE.out HB3.out) H9.out.1 HZL.out⟩
    | true =>
      have HBB := Lib.hid hbb
      have hm8 : m ≤ 8 := by rw [← HU.out.len]; exact batB_len hbb
      have HRK : Hid (Rok l) := Lib.hid ⟨OK.out, ribs_ris (ribB_ris HRB.out).1⟩
      clear hbb
      go_wp2_with (first | ((with_reducible show wpList _ _ _ (Oper.mk _ (Op.load _ _) _ _ _ _ :: _) _ _); refine wpList_load_g ((HP1.out.all _ HB3.out).2) _ rfl rfl (by go_simp) ?_))
      go_loopw [6, 7] (fun s6 s7 wr => ∃ (k : Nat) (Ak : Option Addr) (nk ck : Nat) (lk : List Rte), s7 = .int .i64 k ∧ s6 = .slice Ak nk ck ∧ Hid (k ≤ m ∧ RS rteK wr Ak nk ck lk ∧ appL l (b.take k) = some lk ∧ Below w3.heap.size w3 wr ∧ (0 < nk → ∀ ad, Ak = some ad → ad.block ≠ w.heap.size + 1 + 1))) (fun _ y _ => m - (intOf y).toNat)
      case atStart => exact ⟨0, A, n, c, l, rfl, rfl, Nat.zero_le _, HR.out.below HB3.out, rfl, Below.refl _ _, HAL0.out⟩
      case round =>
        obtain ⟨k, Ak, nk, ck, lk, rfl, rfl, HI⟩ := hrel
        obtain ⟨wk, rfl⟩ : ∃ wk, wk = wr := ⟨wr, rfl⟩
        have HBK := Lib.hid (below_step HB3.out HI.out.2.2.2.1)
        have hrok := appL_rok HRK.out (fun u hu => OKU.out u (List.mem_of_mem_take hu)) HI.out.2.2.1
        have HROK := Lib.hid hrok.1
        have hnk : nk ≤ 10100 := by
          have h1 := hrok.2
          rw [HI.out.2.1.len, List.length_take, HR.out.len] at h1
          have h2 := HI.out.1
          omega
        clear hrok
        by_cases hlt : k < m
        · have hlt' : (k : Int) < m := by omega
          obtain ⟨bb, ob, hA, hc⟩ := RS.at_ HU.out (by omega)
          have hkl : k < b.length := by rw [HU.out.len]; exact hlt
          have HXO := Lib.hid (OKU.out.at_ hkl)
          have hla := Shape.ld updK wk bb _ _ HXO.out.fits ((hc k hlt).below HBK.out)
          have hla : (Instr.loadAt 75 (.pointer (some ⟨bb, ob + k * 22, none⟩))).run Tryd.prog wk = .ok (.agg (updV (updAt b k))) wk := hla
          have HAT := Lib.hid (appL_take hkl HI.out.2.2.1)
          have HTN : Hid (appL l (b.take (k + 1)) = none → appL l b = none) := Lib.hid appL_none
          have HPS := Lib.hid (put_step (u := updAt b k) HROK.out)
          obtain ⟨x, hx⟩ : ∃ x, updAt b k = x := ⟨_, rfl⟩
          rw [hx] at hla HXO HAT HPS
          have HB6f := Lib.hid (fun (W : World) (h : (wk.alloc (.cells (updV updZ) 75)).grownBy W (some wk.heap.size)) => below_grown (below_alloc (Below.refl wk.heap.size wk) (.cells (updV updZ) 75)) h (Nat.le_refl _))
          subst hA
          clear hc hx hkl
          go_upto_region 11 with (first | ((with_reducible show wpList _ _ _ (Oper.mk _ (Op.load _ _) _ _ _ _ :: _) _ _); refine wpList_load_g ((HP2.out.all _ HBK.out).2) _ rfl rfl (by go_simp) ?_) | ((with_reducible show wpList _ _ _ (Oper.mk _ (Op.load _ _) _ _ _ _ :: _) _ _); refine wpList_load_g hla _ rfl rfl (by go_simp) ?_) | ((with_reducible show wpList _ _ _ (Oper.mk _ (Op.store _ _ _) _ _ _ _ :: _) _ _); refine wpList_store_blk (blk_new wk _) 75 0 (updV x) (store_upd_fit HXO.out.fits rfl) (info_upd HXO.out.fits) (updV_one _) _ _ rfl rfl rfl rfl ?_; intro w6 hg9 hs9 hb9; rw [splice_upd HXO.out.fits rfl] at hb9; have H6 := Lib.hid (And.intro hg9 hb9); clear hg9 hs9 hb9) | ((with_reducible show wpList _ _ _ (Oper.mk _ (Op.load _ _) _ _ _ _ :: _) _ _); refine wpList_load_g (((upd_at HXO.out.fits H6.out.2).all _ (Below.refl _ _)).pfx) _ rfl rfl (by go_simp) ?_) | ((with_reducible show wpList _ _ _ (Oper.mk _ (Op.load _ _) _ _ _ _ :: _) _ _); refine wpList_load_g (((upd_at HXO.out.fits H6.out.2).all _ (Below.refl _ _)).src) _ rfl rfl (by go_simp) ?_) | ((with_reducible show wpList _ _ _ (Oper.mk _ (Op.load _ _) _ _ _ _ :: _) _ _); refine wpList_load_g (((upd_at HXO.out.fits H6.out.2).all _ (Below.refl _ _)).prf) _ rfl rfl (by go_simp) ?_) | ((with_reducible show wpList _ _ _ (Oper.mk _ (Op.load _ _) _ _ _ _ :: _) _ _); refine wpList_load_g (((upd_at HXO.out.fits H6.out.2).all _ (Below.refl _ _)).hop) _ rfl rfl (by go_simp) ?_) | ((with_reducible show wpList _ _ _ (Oper.mk _ (Op.build _ _) _ _ _ _ :: _) _ _); refine wpList_exw rfl (exec_build4 rfl rfl rfl rfl rfl (run_build_rte _ x.p x.s x.f x.h HXO.out.fits.len)) ?_) | ((with_reducible show wpList _ _ _ (Oper.mk _ (Op.store _ _ _) _ _ _ _ :: _) _ _); refine wpList_store_blk (blk_new w6 _) 51 0 (rteV (Upd.rte x)) (store_rte_fit (show (Upd.rte x).fits from HXO.out.fits) rfl) (info_rte (show (Upd.rte x).fits from HXO.out.fits)) (rteV_one _) _ _ rfl rfl rfl rfl ?_; intro w7 hg9 hs9 hb9; rw [splice_rte (show (Upd.rte x).fits from HXO.out.fits) rfl] at hb9; have H7 := Lib.hid (And.intro hg9 hb9); clear hg9 hs9 hb9))
          dsimp only [Act.put]
          have HB6 := Lib.hid (HB6f.out _ H6.out.1)
          have HB7 := Lib.hid (below_grown (below_alloc (Below.refl w6.heap.size w6) (.cells (rteV rteZ) 51)) H7.out.1 (Nat.le_refl _))
          have HBK7 := Lib.hid (below_step HB6.out HB7.out)
          have HL7 := Lib.hid (HI.out.2.1.below HBK7.out)
          have HU7 := Lib.hid (blk_below H6.out.2 HB7.out)
          have HX7 := Lib.hid H7.out.2
          have HB37 := Lib.hid (below_step HI.out.2.2.2.1 HBK7.out)
          have HS7 : Hid (w.heap.size + 3 ≤ w7.heap.size) := Lib.hid (Nat.le_trans HS3.out HB37.out.size)
          have HBW7 := Lib.hid (below_step HB3.out HB37.out)
          have HRF : Hid (Upd.rte x).fits := Lib.hid HXO.out.fits
          obtain ⟨gu, hgu⟩ : ∃ g, wk.heap.size = g := ⟨_, rfl⟩
          obtain ⟨gx, hgx⟩ : ∃ g, w6.heap.size = g := ⟨_, rfl⟩
          rw [hgu] at HU7 ⊢
          rw [hgx] at HX7 ⊢
          obtain ⟨r, hr⟩ : ∃ r, Upd.rte x = r := ⟨_, rfl⟩
          have HRO : Hid r.ok := Lib.hid (by rw [← hr]; exact HXO.out.rte)
          rw [hr] at HX7 HRF HPS
          rw [show (⟨x.p, x.s, x.f, x.h⟩ : Rte) = r from hr]
          obtain ⟨G, hG⟩ : ∃ G, x.g = G := ⟨_, rfl⟩
          rw [hG] at HPS
          have HX7f := Lib.hid (fun (W : World) (h : Below w7.heap.size w7 W) => show (Instr.loadAt 51 (.pointer (some ⟨gx, 0, none⟩))).run Tryd.prog W = .ok (.agg (rteV r)) W from ((rte_at HRF.out HX7.out).all W h).all)
          have HGON := Lib.hid (fun (W : World) (h : Below w7.heap.size w7 W) => show (Instr.loadAt 4 (.pointer (some ⟨gu, 0 + 19, none⟩))).run Tryd.prog W = .ok (.bool G) W from hG ▸ ((upd_at HXO.out.fits HU7.out).all W h).gon)
          clear HB6f H6 H7 hla hgu hgx hr HB6 HB7 HBK7 hG
          go_wp2_with (first | ((with_reducible show wpList _ _ _ (Oper.mk _ (Op.load _ _) _ _ _ _ :: _) _ _); refine wpList_load_g (HGON.out _ (Below.refl _ _)) _ rfl rfl (by go_simp) ?_))
          go_loopw [10, 11, 12, 13] (fun s10 s11 s12 s13 wr => ∃ (q : Nat) (Ao : Option Addr) (no co : Nat) (outs : List Rte) (P H : Bool), s13 = .int .i64 q ∧ s10 = .slice Ao no co ∧ s11 = .bool P ∧ s12 = .bool H ∧ Hid (q ≤ nk ∧ no ≤ q + 1 ∧ (P = false → no ≤ q) ∧ outs ++ putK Rte.key r P (lk.drop q) = putK Rte.key r G lk ∧ H = (lk.take q).any (fun a => sameK a r) ∧ OS rteK wr w7.heap.size Ao no co outs ∧ Below w7.heap.size w7 wr)) (fun _ _ _ y _ => nk - (intOf y).toNat)
          case atStart => exact ⟨0, none, 0, 0, [], G, false, rfl, rfl, rfl, rfl, Nat.zero_le _, by omega, fun _ => Nat.le_refl _, rfl, by simp, OS.nil _ _ _, Below.refl _ _⟩
          case round =>
            obtain ⟨q, Ao, no, co, outs, P, H, rfl, rfl, rfl, rfl, HQ⟩ := hrel
            obtain ⟨wq, rfl⟩ : ∃ wq, wq = wr := ⟨wr, rfl⟩
            have hno : no ≤ 20000 := by have h1 := HQ.out.1; have h2 := HQ.out.2.1; omega
            have HBQ := Lib.hid HQ.out.2.2.2.2.2.2
            have HOQ := Lib.hid HQ.out.2.2.2.2.2.1
            by_cases hqn : q < nk
            · have hqn' : (q : Int) < nk := by omega
              obtain ⟨b2, o2, hA2, hc2⟩ := RS.at_ HL7.out (by omega)
              have hql : q < lk.length := by rw [HL7.out.len]; exact hqn
              have HYO := Lib.hid (HROK.out.ok.at_ hql)
              have HCY : Hid (CellsAt w7 b2 (o2 + q * 21) (rteC (rteAt lk q))) := Lib.hid (hc2 q hqn)
              have HDR : Hid (lk.drop q = rteAt lk q :: lk.drop (q + 1)) := Lib.hid (drop_getD rteZ hql)
              have HAN : Hid ((lk.take (q + 1)).any (fun a => sameK a r) = ((lk.take q).any (fun a => sameK a r) || sameK (rteAt lk q) r)) := Lib.hid (any_succ lk (fun a => sameK a r) rteZ hql)
              obtain ⟨a, ha⟩ : ∃ a, rteAt lk q = a := ⟨_, rfl⟩
              rw [ha] at HYO HCY HDR HAN
              subst hA2
              clear hc2 hql ha
              have HLA := Lib.hid (fun (W : World) (h : Below w7.heap.size w7 W) => show (Instr.loadAt 51 (.pointer (some ⟨b2, o2 + q * 21, none⟩))).run Tryd.prog W = .ok (.agg (rteV a)) W from (rteLd_of HYO.out.fits (HCY.out.below h)).all)
              have HXG := Lib.hid (fun (W : World) (h : Below w7.heap.size w7 W) => (rte_at HRF.out HX7.out).all W h)
              have HRG := Lib.hid HQ.out.2.2.2.1
              have HHG := Lib.hid HQ.out.2.2.2.2.1
              go_upto_region 16 with fail
              cases he : a.p.eqB r.p with
              | false =>
                have hsk : sameK a r = false := by unfold sameK; rw [he]; rfl
                have HEX := Lib.hid (pfx_eq_hex HYO.out.p HRO.out.p he)
                have HSK := Lib.hid hsk
                clear he hsk
                refine wp_region_mix (fun w0 => Below (wq).heap.size (wq) w0) [(0, 0), (1, 0), (2, 0), (3, 0), (4, 0), (5, 0), (6, 0), (7, 0), (8, 0), (9, 0), (10, 0), (11, 0), (12, 0), (13, 0), (14, 0), (15, 0), (16, 0), (17, 0)] (by kernel_rfl) (by kernel_rfl) (below_drew1 _) ?_
                simp only [List.map_cons, List.map_nil]
                iterate 4 (refine wpO_step0 rfl rfl (fun K hK => ?_); go_simp; refine hK _ _ ?_; clear hK K)
                refine wpO_loadW (t := 49) (ad := ⟨b2, (o2+q*21), none⟩) rfl rfl ?hw rfl rfl ((fun w0 hS => (rteLd_of HYO.out.fits (HCY.out.below (below_step HBQ.out hS))).pfx)) ?_
                case hw => go_simp
                iterate 1 (refine wpO_step0 rfl rfl (fun K hK => ?_); go_simp; refine hK _ _ ?_; clear hK K)
                refine wpO_loadW (t := 49) (ad := ⟨gx, 0, none⟩) rfl rfl ?hw rfl rfl ((fun w0 hS => (HXG.out w0 (below_step HBQ.out hS)).pfx)) ?_
                case hw => go_simp
                refine wpO_step0 rfl rfl (fun K hK => ?_)
                rw [if_pos (show Region.wanted _ _ = true from rfl)]
                refine ⟨_, fun w0 => HEX.out _ _ _ _ _ rfl rfl rfl w0, hK _ _ ?_⟩
                clear hK K
                repeat first | (refine wpO_step0 rfl rfl (fun K hK => ?_); go_simp; refine hK _ _ ?_; clear hK K) | (refine wpO_step2 rfl rfl (below_drew1 _) (fun K hK => ?_); go_simp; refine hK _ _ ⟨below_drew1 _, ?_⟩; clear hK K)
                refine wpO_nil ?_
                go_upto_region 18 with fail
                have HKN : Hid (a.key ≠ r.key) := Lib.hid (fun e => by have h1 := (sameK_iff a r HYO.out.fits HRF.out).2 e; rw [HSK.out] at h1; cases h1)
                have HHN : Hid (H = (lk.take (q + 1)).any (fun a => sameK a r)) := Lib.hid (by rw [HAN.out, HSK.out, Bool.or_false]; exact HHG.out)
                have hbd := below_drew1 wq
                obtain ⟨wd, hwd⟩ : ∃ wd, wq.drew = wd := ⟨_, rfl⟩
                rw [hwd] at hbd ⊢
                have HOD := Lib.hid (HOQ.out.below hbd)
                have HBD := Lib.hid (below_step HBQ.out hbd)
                clear hbd hwd
                cases P with
                | true =>
                  have HRN : Hid ((outs ++ [a]) ++ putK Rte.key r true (lk.drop (q + 1)) = putK Rte.key r G lk) := Lib.hid (by rw [← HRG.out, HDR.out, putK_old HKN.out (.inl rfl)]; simp)
                  refine wp_region_mix (fun w0 => Below (wd).heap.size (wd) w0) [(0, 0), (1, 0), (2, 0), (3, 0), (4, 0), (5, 0), (6, 0), (7, 0), (8, 2), (9, 0)] (by kernel_rfl) (by kernel_rfl) (below_drew1 _) ?_
                  simp only [List.map_cons, List.map_nil]
                  repeat first | (refine wpO_step0 rfl rfl (fun K hK => ?_); go_simp; refine hK _ _ ?_; clear hK K) | (refine wpO_step2 rfl rfl (below_drew1 _) (fun K hK => ?_); go_simp; refine hK _ _ ⟨below_drew1 _, ?_⟩; clear hK K)
                  refine wpO_nil ?_
                  have HB2 := Lib.hid (below_step HBD.out (below_drew1 wd))
                  go_wp2_with (first | ((with_reducible show wpList _ _ _ (Oper.mk _ (Op.load _ _) _ _ _ _ :: _) _ _); refine wpList_load_g (HLA.out _ HB2.out) _ rfl rfl (by go_simp) ?_) | ((with_reducible show wpList _ _ _ (Oper.mk _ (Op.buildSlice _ _ _) _ _ _ _ :: _) _ _); refine wpList_exw rfl (exec_lit1 rteK (x := .tmp 89) rfl a rfl HYO.out.fits (by show 21 ≤ _; omega) _) ?_) | (at_builtin; refine wpList_append_shp rteK rfl (.tmp 85) (.tmp 90) rfl rfl rfl (OS.below (HOD.out.below (below_drew1 wd)) (below_alloc (Below.refl _ _) _)) (OS.one rteK wd.drew 0 a (Nat.zero_le _) HYO.out.fits).reads (by have := HB2.out.size; simp; simp at this; omega) (by omega) ?_; intro A9 c9 w9 h1 h2 h3; have H9 := Lib.hid (And.intro h1 (And.intro h2 h3)); clear h1 h2 h3))
                  go_roundw
                  case measure => simp [intOf]; omega
                  case rel => exact ⟨q + 1, A9, no + 1, c9, _, true, H, by go_num, rfl, rfl, rfl, by omega, by have := HQ.out.2.1; omega, (fun h => by cases h), HRN.out, HHN.out, H9.out.1, below_own (below_step HB2.out (below_alloc (Below.refl _ _) _)) H9.out.2.1 HOD.out.base_⟩
                | false =>
                  refine wp_region_mix (fun w0 => Below (wd).heap.size (wd) w0) [(0, 0), (1, 0), (2, 0), (3, 0), (4, 0), (5, 0), (6, 0), (7, 0), (8, 2), (9, 0)] (by kernel_rfl) (by kernel_rfl) (below_drew1 _) ?_
                  simp only [List.map_cons, List.map_nil]
                  iterate 3 (refine wpO_step0 rfl rfl (fun K hK => ?_); go_simp; refine hK _ _ ?_; clear hK K)
                  refine wpO_loadW (t := 51) (ad := ⟨gx, 0, none⟩) rfl rfl ?hw rfl rfl ((fun w0 hS => (HXG.out w0 (below_step HBD.out hS)).all)) ?_
                  case hw => go_simp
                  iterate 3 (refine wpO_step0 rfl rfl (fun K hK => ?_); go_simp; refine hK _ _ ?_; clear hK K)
                  refine wpO_loadW (t := 51) (ad := ⟨b2, (o2+q*21), none⟩) rfl rfl ?hw rfl rfl ((fun w0 hS => HLA.out w0 (below_step HBD.out hS))) ?_
                  case hw => go_simp
                  refine wpO_step2 rfl rfl (below_drew1 _) (fun K hK => ?_)
                  go_simp
                  refine (refahead_any r a _ HRF.out HYO.out.fits).mono ?_
                  rintro e w8 ⟨rfl, hb8⟩
                  rw [ahead_iff r a HRF.out HYO.out.fits]
                  have HDW := Lib.hid (below_step (below_drew1 wd) hb8)
                  clear hb8
                  refine hK _ _ ⟨HDW.out, ?_⟩
                  clear hK K
                  have HB2 := Lib.hid (below_step HBD.out HDW.out)
                  have HO8 := Lib.hid (HOD.out.below HDW.out)
                  have hnoq := HQ.out.2.2.1 rfl
                  cases hN : decide (cR r a < 0) with
                  | true =>
                    have HRN : Hid (((outs ++ [r]) ++ [a]) ++ putK Rte.key r true (lk.drop (q + 1)) = putK Rte.key r G lk) := Lib.hid (by rw [← HRG.out, HDR.out, putK_new HKN.out (of_decide_eq_true hN)]; simp)
                    clear hN
                    iterate 1 (refine wpO_step0 rfl rfl (fun K hK => ?_); go_simp; refine hK _ _ ?_; clear hK K)
                    refine wpO_nil ?_
                    go_upto_region 21 with (first | ((with_reducible show wpList _ _ _ (Oper.mk _ (Op.load _ _) _ _ _ _ :: _) _ _); refine wpList_load_g ((HXG.out _ HB2.out).all) _ rfl rfl (by go_simp) ?_) | ((with_reducible show wpList _ _ _ (Oper.mk _ (Op.buildSlice _ _ _) _ _ _ _ :: _) _ _); refine wpList_exw rfl (exec_lit1 rteK (x := .tmp 82) rfl r rfl HRF.out (by show 21 ≤ _; omega) _) ?_) | (at_builtin; refine wpList_append_shp rteK rfl (.tmp 81) (.tmp 83) rfl rfl rfl (OS.below HO8.out (below_alloc (Below.refl _ _) _)) (OS.one rteK w8 0 r (Nat.zero_le _) HRF.out).reads (by have := HB2.out.size; simp; omega) (by omega) ?_; intro A9 c9 w9 h1 h2 h3; have H9 := Lib.hid (And.intro h1 (And.intro h2 h3)); clear h1 h2 h3))
                    have HB9 := Lib.hid (below_own (below_step HB2.out (below_alloc (Below.refl w8.heap.size w8) (.cells (rteK.enc r).toArray rteK.t))) H9.out.2.1 HO8.out.base_)
                    have HO9 := Lib.hid H9.out.1
                    clear H9
                    go_wp2_with (first | ((with_reducible show wpList _ _ _ (Oper.mk _ (Op.load _ _) _ _ _ _ :: _) _ _); refine wpList_load_g (HLA.out _ HB9.out) _ rfl rfl (by go_simp) ?_) | ((with_reducible show wpList _ _ _ (Oper.mk _ (Op.buildSlice _ _ _) _ _ _ _ :: _) _ _); refine wpList_exw rfl (exec_lit1 rteK (x := .tmp 89) rfl a rfl HYO.out.fits (by show 21 ≤ _; omega) _) ?_) | (at_builtin; refine wpList_append_shp rteK rfl (.tmp 85) (.tmp 90) rfl rfl rfl (OS.below HO9.out (below_alloc (Below.refl _ _) _)) (OS.one rteK w9 0 a (Nat.zero_le _) HYO.out.fits).reads (by have := HB9.out.size; simp; omega) (by omega) ?_; intro A10 c10 w10 h1 h2 h3; have H10 := Lib.hid (And.intro h1 (And.intro h2 h3)); clear h1 h2 h3))
                    go_roundw
                    case measure => simp [intOf]; omega
                    case rel => exact ⟨q + 1, A10, no + 1 + 1, c10, _, true, H, by go_num, rfl, rfl, rfl, by omega, by omega, (fun h => by cases h), HRN.out, HHN.out, H10.out.1, below_own (below_step HB9.out (below_alloc (Below.refl _ _) _)) H10.out.2.1 HO9.out.base_⟩
                  | false =>
                    have HRN : Hid ((outs ++ [a]) ++ putK Rte.key r false (lk.drop (q + 1)) = putK Rte.key r G lk) := Lib.hid (by rw [← HRG.out, HDR.out, putK_old HKN.out (.inr (of_decide_eq_false hN))]; simp)
                    clear hN
                    iterate 1 (refine wpO_step0 rfl rfl (fun K hK => ?_); go_simp; refine hK _ _ ?_; clear hK K)
                    refine wpO_nil ?_
                    go_wp2_with (first | ((with_reducible show wpList _ _ _ (Oper.mk _ (Op.load _ _) _ _ _ _ :: _) _ _); refine wpList_load_g (HLA.out _ HB2.out) _ rfl rfl (by go_simp) ?_) | ((with_reducible show wpList _ _ _ (Oper.mk _ (Op.buildSlice _ _ _) _ _ _ _ :: _) _ _); refine wpList_exw rfl (exec_lit1 rteK (x := .tmp 89) rfl a rfl HYO.out.fits (by show 21 ≤ _; omega) _) ?_) | (at_builtin; refine wpList_append_shp rteK rfl (.tmp 85) (.tmp 90) rfl rfl rfl (OS.below HO8.out (below_alloc (Below.refl _ _) _)) (OS.one rteK w8 0 a (Nat.zero_le _) HYO.out.fits).reads (by have := HB2.out.size; simp; omega) (by omega) ?_; intro A9 c9 w9 h1 h2 h3; have H9 := Lib.hid (And.intro h1 (And.intro h2 h3)); clear h1 h2 h3))
                    go_roundw
                    case measure => simp [intOf]; omega
                    case rel => exact ⟨q + 1, A9, no + 1, c9, _, false, H, by go_num, rfl, rfl, rfl, by omega, by omega, (fun _ => by omega), HRN.out, HHN.out, H9.out.1, below_own (below_step HB2.out (below_alloc (Below.refl _ _) _)) H9.out.2.1 HO8.out.base_⟩
              | true =>
                have HEX := Lib.hid (pfx_eq_hex HYO.out.p HRO.out.p he)
                have HSD : Hid (sameK a r = decide (a.s = r.s)) := Lib.hid (by unfold sameK; rw [he]; rfl)
                clear he
                refine wp_region_mix (fun w0 => Below (wq).heap.size (wq) w0) [(0, 0), (1, 0), (2, 0), (3, 0), (4, 0), (5, 0), (6, 0), (7, 0), (8, 0), (9, 0), (10, 0), (11, 0), (12, 0), (13, 0), (14, 0), (15, 0), (16, 0), (17, 0)] (by kernel_rfl) (by kernel_rfl) (below_drew1 _) ?_
                simp only [List.map_cons, List.map_nil]
                iterate 4 (refine wpO_step0 rfl rfl (fun K hK => ?_); go_simp; refine hK _ _ ?_; clear hK K)
                refine wpO_loadW (t := 49) (ad := ⟨b2, (o2+q*21), none⟩) rfl rfl ?hw rfl rfl ((fun w0 hS => (rteLd_of HYO.out.fits (HCY.out.below (below_step HBQ.out hS))).pfx)) ?_
                case hw => go_simp
                iterate 1 (refine wpO_step0 rfl rfl (fun K hK => ?_); go_simp; refine hK _ _ ?_; clear hK K)
                refine wpO_loadW (t := 49) (ad := ⟨gx, 0, none⟩) rfl rfl ?hw rfl rfl ((fun w0 hS => (HXG.out w0 (below_step HBQ.out hS)).pfx)) ?_
                case hw => go_simp
                refine wpO_step0 rfl rfl (fun K hK => ?_)
                rw [if_pos (show Region.wanted _ _ = true from rfl)]
                refine ⟨_, fun w0 => HEX.out _ _ _ _ _ rfl rfl rfl w0, hK _ _ ?_⟩
                clear hK K
                iterate 5 (refine wpO_step0 rfl rfl (fun K hK => ?_); go_simp; refine hK _ _ ?_; clear hK K)
                refine wpO_loadW (t := 3) (ad := ⟨b2, (o2+q*21+18), none⟩) rfl rfl ?hw rfl rfl ((fun w0 hS => (rteLd_of HYO.out.fits (HCY.out.below (below_step HBQ.out hS))).src)) ?_
                case hw => go_simp
                iterate 1 (refine wpO_step0 rfl rfl (fun K hK => ?_); go_simp; refine hK _ _ ?_; clear hK K)
                refine wpO_loadW (t := 3) (ad := ⟨gx, 18, none⟩) rfl rfl ?hw rfl rfl ((fun w0 hS => (HXG.out w0 (below_step HBQ.out hS)).src)) ?_
                case hw => go_simp
                iterate 2 (refine wpO_step0 rfl rfl (fun K hK => ?_); go_simp; refine hK _ _ ?_; clear hK K)
                refine wpO_nil ?_
                by_cases hss : a.s = r.s
                · have hsb : (a.s == r.s) = true := by simpa using hss
                  have hsk : sameK a r = true := by rw [HSD.out, decide_eq_true hss]
                  have HHN : Hid (true = (lk.take (q + 1)).any (fun a => sameK a r)) := Lib.hid (by rw [HAN.out, hsk, Bool.or_true])
                  have HRN : Hid (outs ++ putK Rte.key r P (lk.drop (q + 1)) = putK Rte.key r G lk) := Lib.hid (by rw [← HRG.out, HDR.out, putK_same P ((sameK_iff a r HYO.out.fits HRF.out).1 hsk)])
                  clear hss hsk
                  go_wp2_with fail
                  go_roundw
                  case measure => simp [intOf]; omega
                  case rel => exact ⟨q + 1, Ao, no, co, outs, P, true, by go_num, rfl, rfl, rfl, by omega, by have := HQ.out.2.1; omega, (fun h => by have := HQ.out.2.2.1 h; omega), HRN.out, HHN.out, HOQ.out.below (below_drew1 _), below_step HBQ.out (below_drew1 _)⟩
                · have hsb : (a.s == r.s) = false := by simpa using hss
                  have HSK : Hid (sameK a r = false) := Lib.hid (by rw [HSD.out, decide_eq_false hss])
                  clear hss
                  go_upto_region 18 with fail
                  have HKN : Hid (a.key ≠ r.key) := Lib.hid (fun e => by have h1 := (sameK_iff a r HYO.out.fits HRF.out).2 e; rw [HSK.out] at h1; cases h1)
                  have HHN : Hid (H = (lk.take (q + 1)).any (fun a => sameK a r)) := Lib.hid (by rw [HAN.out, HSK.out, Bool.or_false]; exact HHG.out)
                  have hbd := below_drew1 wq
                  obtain ⟨wd, hwd⟩ : ∃ wd, wq.drew = wd := ⟨_, rfl⟩
                  rw [hwd] at hbd ⊢
                  have HOD := Lib.hid (HOQ.out.below hbd)
                  have HBD := Lib.hid (below_step HBQ.out hbd)
                  clear hbd hwd
                  cases P with
                  | true =>
                    have HRN : Hid ((outs ++ [a]) ++ putK Rte.key r true (lk.drop (q + 1)) = putK Rte.key r G lk) := Lib.hid (by rw [← HRG.out, HDR.out, putK_old HKN.out (.inl rfl)]; simp)
                    refine wp_region_mix (fun w0 => Below (wd).heap.size (wd) w0) [(0, 0), (1, 0), (2, 0), (3, 0), (4, 0), (5, 0), (6, 0), (7, 0), (8, 2), (9, 0)] (by kernel_rfl) (by kernel_rfl) (below_drew1 _) ?_
                    simp only [List.map_cons, List.map_nil]
                    repeat first | (refine wpO_step0 rfl rfl (fun K hK => ?_); go_simp; refine hK _ _ ?_; clear hK K) | (refine wpO_step2 rfl rfl (below_drew1 _) (fun K hK => ?_); go_simp; refine hK _ _ ⟨below_drew1 _, ?_⟩; clear hK K)
                    refine wpO_nil ?_
                    have HB2 := Lib.hid (below_step HBD.out (below_drew1 wd))
                    go_wp2_with (first | ((with_reducible show wpList _ _ _ (Oper.mk _ (Op.load _ _) _ _ _ _ :: _) _ _); refine wpList_load_g (HLA.out _ HB2.out) _ rfl rfl (by go_simp) ?_) | ((with_reducible show wpList _ _ _ (Oper.mk _ (Op.buildSlice _ _ _) _ _ _ _ :: _) _ _); refine wpList_exw rfl (exec_lit1 rteK (x := .tmp 89) rfl a rfl HYO.out.fits (by show 21 ≤ _; omega) _) ?_) | (at_builtin; refine wpList_append_shp rteK rfl (.tmp 85) (.tmp 90) rfl rfl rfl (OS.below (HOD.out.below (below_drew1 wd)) (below_alloc (Below.refl _ _) _)) (OS.one rteK wd.drew 0 a (Nat.zero_le _) HYO.out.fits).reads (by have := HB2.out.size; simp; simp at this; omega) (by omega) ?_; intro A9 c9 w9 h1 h2 h3; have H9 := Lib.hid (And.intro h1 (And.intro h2 h3)); clear h1 h2 h3))
                    go_roundw
                    case measure => simp [intOf]; omega
                    case rel => exact ⟨q + 1, A9, no + 1, c9, _, true, H, by go_num, rfl, rfl, rfl, by omega, by have := HQ.out.2.1; omega, (fun h => by cases h), HRN.out, HHN.out, H9.out.1, below_own (below_step HB2.out (below_alloc (Below.refl _ _) _)) H9.out.2.1 HOD.out.base_⟩
                  | false =>
                    refine wp_region_mix (fun w0 => Below (wd).heap.size (wd) w0) [(0, 0), (1, 0), (2, 0), (3, 0), (4, 0), (5, 0), (6, 0), (7, 0), (8, 2), (9, 0)] (by kernel_rfl) (by kernel_rfl) (below_drew1 _) ?_
                    simp only [List.map_cons, List.map_nil]
                    iterate 3 (refine wpO_step0 rfl rfl (fun K hK => ?_); go_simp; refine hK _ _ ?_; clear hK K)
                    refine wpO_loadW (t := 51) (ad := ⟨gx, 0, none⟩) rfl rfl ?hw rfl rfl ((fun w0 hS => (HXG.out w0 (below_step HBD.out hS)).all)) ?_
                    case hw => go_simp
                    iterate 3 (refine wpO_step0 rfl rfl (fun K hK => ?_); go_simp; refine hK _ _ ?_; clear hK K)
                    refine wpO_loadW (t := 51) (ad := ⟨b2, (o2+q*21), none⟩) rfl rfl ?hw rfl rfl ((fun w0 hS => HLA.out w0 (below_step HBD.out hS))) ?_
                    case hw => go_simp
                    refine wpO_step2 rfl rfl (below_drew1 _) (fun K hK => ?_)
                    go_simp
                    refine (refahead_any r a _ HRF.out HYO.out.fits).mono ?_
                    rintro e w8 ⟨rfl, hb8⟩
                    rw [ahead_iff r a HRF.out HYO.out.fits]
                    have HDW := Lib.hid (below_step (below_drew1 wd) hb8)
                    clear hb8
                    refine hK _ _ ⟨HDW.out, ?_⟩
                    clear hK K
                    have HB2 := Lib.hid (below_step HBD.out HDW.out)
                    have HO8 := Lib.hid (HOD.out.below HDW.out)
                    have hnoq := HQ.out.2.2.1 rfl
                    cases hN : decide (cR r a < 0) with
                    | true =>
                      have HRN : Hid (((outs ++ [r]) ++ [a]) ++ putK Rte.key r true (lk.drop (q + 1)) = putK Rte.key r G lk) := Lib.hid (by rw [← HRG.out, HDR.out, putK_new HKN.out (of_decide_eq_true hN)]; simp)
                      clear hN
                      iterate 1 (refine wpO_step0 rfl rfl (fun K hK => ?_); go_simp; refine hK _ _ ?_; clear hK K)
                      refine wpO_nil ?_
                      go_upto_region 21 with (first | ((with_reducible show wpList _ _ _ (Oper.mk _ (Op.load _ _) _ _ _ _ :: _) _ _); refine wpList_load_g ((HXG.out _ HB2.out).all) _ rfl rfl (by go_simp) ?_) | ((with_reducible show wpList _ _ _ (Oper.mk _ (Op.buildSlice _ _ _) _ _ _ _ :: _) _ _); refine wpList_exw rfl (exec_lit1 rteK (x := .tmp 82) rfl r rfl HRF.out (by show 21 ≤ _; omega) _) ?_) | (at_builtin; refine wpList_append_shp rteK rfl (.tmp 81) (.tmp 83) rfl rfl rfl (OS.below HO8.out (below_alloc (Below.refl _ _) _)) (OS.one rteK w8 0 r (Nat.zero_le _) HRF.out).reads (by have := HB2.out.size; simp; omega) (by omega) ?_; intro A9 c9 w9 h1 h2 h3; have H9 := Lib.hid (And.intro h1 (And.intro h2 h3)); clear h1 h2 h3))
                      have HB9 := Lib.hid (below_own (below_step HB2.out (below_alloc (Below.refl w8.heap.size w8) (.cells (rteK.enc r).toArray rteK.t))) H9.out.2.1 HO8.out.base_)
                      have HO9 := Lib.hid H9.out.1
                      clear H9
                      go_wp2_with (first | ((with_reducible show wpList _ _ _ (Oper.mk _ (Op.load _ _) _ _ _ _ :: _) _ _); refine wpList_load_g (HLA.out _ HB9.out) _ rfl rfl (by go_simp) ?_) | ((with_reducible show wpList _ _ _ (Oper.mk _ (Op.buildSlice _ _ _) _ _ _ _ :: _) _ _); refine wpList_exw rfl (exec_lit1 rteK (x := .tmp 89) rfl a rfl HYO.out.fits (by show 21 ≤ _; omega) _) ?_) | (at_builtin; refine wpList_append_shp rteK rfl (.tmp 85) (.tmp 90) rfl rfl rfl (OS.below HO9.out (below_alloc (Below.refl _ _) _)) (OS.one rteK w9 0 a (Nat.zero_le _) HYO.out.fits).reads (by have := HB9.out.size; simp; omega) (by omega) ?_; intro A10 c10 w10 h1 h2 h3; have H10 := Lib.hid (And.intro h1 (And.intro h2 h3)); clear h1 h2 h3))
                      go_roundw
                      case measure => simp [intOf]; omega
                      case rel => exact ⟨q + 1, A10, no + 1 + 1, c10, _, true, H, by go_num, rfl, rfl, rfl, by omega, by omega, (fun h => by cases h), HRN.out, HHN.out, H10.out.1, below_own (below_step HB9.out (below_alloc (Below.refl _ _) _)) H10.out.2.1 HO9.out.base_⟩
                    | false =>
                      have HRN : Hid ((outs ++ [a]) ++ putK Rte.key r false (lk.drop (q + 1)) = putK Rte.key r G lk) := Lib.hid (by rw [← HRG.out, HDR.out, putK_old HKN.out (.inr (of_decide_eq_false hN))]; simp)
                      clear hN
                      iterate 1 (refine wpO_step0 rfl rfl (fun K hK => ?_); go_simp; refine hK _ _ ?_; clear hK K)
                      refine wpO_nil ?_
                      go_wp2_with (first | ((with_reducible show wpList _ _ _ (Oper.mk _ (Op.load _ _) _ _ _ _ :: _) _ _); refine wpList_load_g (HLA.out _ HB2.out) _ rfl rfl (by go_simp) ?_) | ((with_reducible show wpList _ _ _ (Oper.mk _ (Op.buildSlice _ _ _) _ _ _ _ :: _) _ _); refine wpList_exw rfl (exec_lit1 rteK (x := .tmp 89) rfl a rfl HYO.out.fits (by show 21 ≤ _; omega) _) ?_) | (at_builtin; refine wpList_append_shp rteK rfl (.tmp 85) (.tmp 90) rfl rfl rfl (OS.below HO8.out (below_alloc (Below.refl _ _) _)) (OS.one rteK w8 0 a (Nat.zero_le _) HYO.out.fits).reads (by have := HB2.out.size; simp; omega) (by omega) ?_; intro A9 c9 w9 h1 h2 h3; have H9 := Lib.hid (And.intro h1 (And.intro h2 h3)); clear h1 h2 h3))
                      go_roundw
                      case measure => simp [intOf]; omega
                      case rel => exact ⟨q + 1, A9, no + 1, c9, _, false, H, by go_num, rfl, rfl, rfl, by omega, by omega, (fun _ => by omega), HRN.out, HHN.out, H9.out.1, below_own (below_step HB2.out (below_alloc (Below.refl _ _) _)) H9.out.2.1 HO8.out.base_⟩
            · have hqn' : decide (q < nk) = false := decide_eq_false hqn
              have hqe : q = lk.length := by rw [HL7.out.len]; have := HQ.out.1; omega
              have hdr : lk.drop q = [] := by rw [hqe, List.drop_length]
              have htk : lk.take q = lk := by rw [hqe, List.take_length]
              have hrg := HQ.out.2.2.2.1
              rw [hdr] at hrg
              have hhh := HQ.out.2.2.2.2.1
              rw [htk] at hhh
              have HSH : Hid (H = true ↔ ∃ a ∈ lk, a.key = r.key) := Lib.hid (by rw [hhh]; exact any_same HROK.out.ok.fits HRF.out)
              have HRG := Lib.hid hrg
              have HL37 := Lib.hid (fun (W : World) (h : Below w7.heap.size w7 W) => below_step HB37.out h)
              clear hdr htk hrg hhh hqe hqn
              cases P with
              | true =>
                have HOUT : Hid (outs = putK Rte.key r G lk) := Lib.hid (by rw [← HRG.out]; simp [putK])
                have HOE := Lib.hid (HOQ.out.below (Below.refl _ _))
                have HBE7 := Lib.hid HBQ.out
                have HNEO : Hid (∀ ad, Ao = some ad → ad.block ≠ w.heap.size + 1 + 1) := Lib.hid (fun ad e => by have h1 := HOE.out.base_ ad e; have h2 := HS7.out; omega)
                cases G with
                | false =>
                  have HN : Hid (appL l (b.take (k + 1)) = some (outs)) := Lib.hid (by rw [HAT.out, ← HPS.out, if_neg (by decide), ← HOUT.out])
                  clear HSH
                  go_wp2_with (first | ((with_reducible show wpList _ _ _ (Oper.mk _ (Op.load _ _) _ _ _ _ :: _) _ _); refine wpList_load_g (HGON.out _ HBE7.out) _ rfl rfl (by go_simp) ?_))
                  go_roundw
                  case measure => simp [intOf]; omega
                  case rel => exact ⟨k + 1, Ao, no, co, outs, by go_num, rfl, by omega, HOE.out.reads, HN.out, HL37.out _ HBE7.out, fun _ => HNEO.out⟩
                | true =>
                  cases H with
                  | true =>
                    have HN : Hid (appL l (b.take (k + 1)) = some (outs)) := Lib.hid (by rw [HAT.out, ← HPS.out, if_pos rfl, if_pos (HSH.out.1 rfl), ← HOUT.out])
                    clear HSH
                    go_wp2_with (first | ((with_reducible show wpList _ _ _ (Oper.mk _ (Op.load _ _) _ _ _ _ :: _) _ _); refine wpList_load_g (HGON.out _ HBE7.out) _ rfl rfl (by go_simp) ?_))
                    go_roundw
                    case measure => simp [intOf]; omega
                    case rel => exact ⟨k + 1, Ao, no, co, outs, by go_num, rfl, by omega, HOE.out.reads, HN.out, HL37.out _ HBE7.out, fun _ => HNEO.out⟩
                  | false =>
                    have HE := Lib.hid (appN_no HRB.out HBB.out (HTN.out (by rw [HAT.out, ← HPS.out, if_pos rfl, if_neg (fun h => by have := HSH.out.2 h; cases this)])))
                    clear HSH
                    go_wp2_with (first | ((with_reducible show wpList _ _ _ (Oper.mk _ (Op.load _ _) _ _ _ _ :: _) _ _); refine wpList_load_g (HGON.out _ HBE7.out) _ rfl rfl (by go_simp) ?_) | ((with_reducible show wpList _ _ _ (Oper.mk _ (Op.build _ _) _ _ _ _ :: _) _ _); refine wpList_exw rfl (exec_build 24 #[] rfl #[] rfl ((run_build_rib_nil _))) ?_) | ((with_reducible show wpList _ _ _ (Oper.mk _ (Op.store _ _ _) _ _ _ _ :: _) _ _); refine wpList_store_blk (blk_below HZ3.out (HL37.out _ HBE7.out)) 24 0 (tabV none 0 0) (Nat.le_refl _) (info_rib _ _ _) (tab_one _ _ _) _ _ rfl rfl rfl rfl ?_; intro w19 hg9 hs9 hb9; rw [splice_tab] at hb9; have H19 := Lib.hid (And.intro hg9 hb9); clear hg9 hs9 hb9))
                    refine bodyPost_ret (results_c2 rfl rfl (load_rib H19.out.2)) rfl ?_
                    rw [HE.out.1, HE.out.2]
                    exact ⟨none, 0, 0, rfl, RS.nil _ _ _ _, below_grown (below_step HBE.out (below_step HB3.out (HL37.out _ HBE7.out))) H19.out.1 HZL.out⟩
              | false =>
                have HOUT : Hid (outs ++ [r] = putK Rte.key r G lk) := Lib.hid (by rw [← HRG.out]; simp [putK])
                go_upto_region 24 with (first | ((with_reducible show wpList _ _ _ (Oper.mk _ (Op.load _ _) _ _ _ _ :: _) _ _); refine wpList_load_g ((HX7f.out _ HBQ.out)) _ rfl rfl (by go_simp) ?_) | ((with_reducible show wpList _ _ _ (Oper.mk _ (Op.buildSlice _ _ _) _ _ _ _ :: _) _ _); refine wpList_exw rfl (exec_lit1 rteK (x := .tmp 95) rfl r rfl HRF.out (by show 21 ≤ _; omega) _) ?_) | (at_builtin; refine wpList_append_shp rteK rfl (.tmp 94) (.tmp 96) rfl rfl rfl (OS.below HOQ.out (below_alloc (Below.refl _ _) _)) (OS.one rteK wq 0 r (Nat.zero_le _) HRF.out).reads (by have := HBQ.out.size; simp; omega) (by omega) ?_; intro A9 c9 w9 h1 h2 h3; have H9 := Lib.hid (And.intro h1 (And.intro h2 h3)); clear h1 h2 h3))
                have HOE := Lib.hid H9.out.1
                have HBE7 := Lib.hid (below_own (below_step HBQ.out (below_alloc (Below.refl wq.heap.size wq) (.cells (rteK.enc r).toArray rteK.t))) H9.out.2.1 HOQ.out.base_)
                clear H9
                have HNEO : Hid (∀ ad, A9 = some ad → ad.block ≠ w.heap.size + 1 + 1) := Lib.hid (fun ad e => by have h1 := HOE.out.base_ ad e; have h2 := HS7.out; omega)
                cases G with
                | false =>
                  have HN : Hid (appL l (b.take (k + 1)) = some ((outs ++ [r]))) := Lib.hid (by rw [HAT.out, ← HPS.out, if_neg (by decide), ← HOUT.out])
                  clear HSH
                  go_wp2_with (first | ((with_reducible show wpList _ _ _ (Oper.mk _ (Op.load _ _) _ _ _ _ :: _) _ _); refine wpList_load_g (HGON.out _ HBE7.out) _ rfl rfl (by go_simp) ?_))
                  go_roundw
                  case measure => simp [intOf]; omega
                  case rel => exact ⟨k + 1, A9, (no + 1), c9, (outs ++ [r]), by go_num, rfl, by omega, HOE.out.reads, HN.out, HL37.out _ HBE7.out, fun _ => HNEO.out⟩
                | true =>
                  cases H with
                  | true =>
                    have HN : Hid (appL l (b.take (k + 1)) = some ((outs ++ [r]))) := Lib.hid (by rw [HAT.out, ← HPS.out, if_pos rfl, if_pos (HSH.out.1 rfl), ← HOUT.out])
                    clear HSH
                    go_wp2_with (first | ((with_reducible show wpList _ _ _ (Oper.mk _ (Op.load _ _) _ _ _ _ :: _) _ _); refine wpList_load_g (HGON.out _ HBE7.out) _ rfl rfl (by go_simp) ?_))
                    go_roundw
                    case measure => simp [intOf]; omega
                    case rel => exact ⟨k + 1, A9, (no + 1), c9, (outs ++ [r]), by go_num, rfl, by omega, HOE.out.reads, HN.out, HL37.out _ HBE7.out, fun _ => HNEO.out⟩
                  | false =>
                    have HE := Lib.hid (appN_no HRB.out HBB.out (HTN.out (by rw [HAT.out, ← HPS.out, if_pos rfl, if_neg (fun h => by have := HSH.out.2 h; cases this)])))
                    clear HSH
                    go_wp2_with (first | ((with_reducible show wpList _ _ _ (Oper.mk _ (Op.load _ _) _ _ _ _ :: _) _ _); refine wpList_load_g (HGON.out _ HBE7.out) _ rfl rfl (by go_simp) ?_) | ((with_reducible show wpList _ _ _ (Oper.mk _ (Op.build _ _) _ _ _ _ :: _) _ _); refine wpList_exw rfl (exec_build 24 #[] rfl #[] rfl ((run_build_rib_nil _))) ?_) | ((with_reducible show wpList _ _ _ (Oper.mk _ (Op.store _ _ _) _ _ _ _ :: _) _ _); refine wpList_store_blk (blk_below HZ3.out (HL37.out _ HBE7.out)) 24 0 (tabV none 0 0) (Nat.le_refl _) (info_rib _ _ _) (tab_one _ _ _) _ _ rfl rfl rfl rfl ?_; intro w19 hg9 hs9 hb9; rw [splice_tab] at hb9; have H19 := Lib.hid (And.intro hg9 hb9); clear hg9 hs9 hb9))
                    refine bodyPost_ret (results_c2 rfl rfl (load_rib H19.out.2)) rfl ?_
                    rw [HE.out.1, HE.out.2]
                    exact ⟨none, 0, 0, rfl, RS.nil _ _ _ _, below_grown (below_step HBE.out (below_step HB3.out (HL37.out _ HBE7.out))) H19.out.1 HZL.out⟩
        · have hlt' : decide (k < m) = false := decide_eq_false hlt
          have HAL : Hid (appL l b = some lk) := Lib.hid (by
            have h1 := HI.out.2.2.1
            have h2 : k = b.length := by rw [HU.out.len]; have := HI.out.1; omega
            rwa [h2, List.take_length] at h1)
          have HLK := Lib.hid HI.out.2.1
          have HB3K := Lib.hid HI.out.2.2.2.1
          have HNE := Lib.hid HI.out.2.2.2.2
          clear hlt
          go_wp2_with (first | ((with_reducible show wpList _ _ _ (Oper.mk _ (Op.load _ _) _ _ _ _ :: _) _ _); refine wpList_load_g ((HP2.out.all _ HBK.out).2) _ rfl rfl (by go_simp) ?_))
          refine (refprefixes_any Ak nk ck lk wk HLK.out HROK.out.ok (by omega)).mono ?_
          rintro e w8 ⟨rfl, hb8⟩
          rw [pfxs_eq HROK.out.ok.fits HROK.out.ris]
          have HB38 := Lib.hid (below_step HB3K.out hb8)
          have HL8 := Lib.hid (HLK.out.below hb8)
          obtain ⟨q, hq⟩ : ∃ q, pfxsN lk = q := ⟨_, rfl⟩
          have HQ := Lib.hid hq
          rw [hq]
          clear hb8 hq
          by_cases h40 : 40 < q
          · have h40b : decide ((40 : Int) < q) = true := decide_eq_true (by omega)
            have HE := Lib.hid (appN_full HRB.out HBB.out HAL.out (by rw [HQ.out]; omega))
            clear h40
            go_wp2_with (first | ((with_reducible show wpList _ _ _ (Oper.mk _ (Op.build _ _) _ _ _ _ :: _) _ _); refine wpList_exw rfl (exec_build 24 #[] rfl #[] rfl ((run_build_rib_nil _))) ?_) | ((with_reducible show wpList _ _ _ (Oper.mk _ (Op.store _ _ _) _ _ _ _ :: _) _ _); refine wpList_store_blk (blk_below HZ3.out HB38.out) 24 0 (tabV none 0 0) (Nat.le_refl _) (info_rib _ _ _) (tab_one _ _ _) _ _ rfl rfl rfl rfl ?_; intro w9 hg9 hs9 hb9; rw [splice_tab] at hb9; have H9 := Lib.hid (And.intro hg9 hb9); clear hg9 hs9 hb9))
            refine bodyPost_ret (results_c2 rfl rfl (load_rib H9.out.2)) rfl ?_
            rw [HE.out.1, HE.out.2]
            exact ⟨none, 0, 0, rfl, RS.nil _ _ _ _, below_grown (below_step HBE.out (below_step HB3.out HB38.out)) H9.out.1 HZL.out⟩
          · have h40b : decide ((40 : Int) < q) = false := decide_eq_false (by omega)
            have HE := Lib.hid (appN_yes HRB.out HBB.out HAL.out (by rw [HQ.out]; omega))
            clear h40
            go_wp2_with (first | ((with_reducible show wpList _ _ _ (Oper.mk _ (Op.build _ _) _ _ _ _ :: _) _ _); refine wpList_exw rfl (exec_build1 rfl rfl (run_build_rib _ Ak nk ck)) ?_) | ((with_reducible show wpList _ _ _ (Oper.mk _ (Op.store _ _ _) _ _ _ _ :: _) _ _); refine wpList_store_blk (blk_below HZ3.out HB38.out) 24 0 (tabV Ak nk ck) (Nat.le_refl _) (info_rib _ _ _) (tab_one _ _ _) _ _ rfl rfl rfl rfl ?_; intro w9 hg9 hs9 hb9; rw [splice_tab] at hb9; have H9 := Lib.hid (And.intro hg9 hb9); clear hg9 hs9 hb9))
            refine bodyPost_ret (results_c2 rfl rfl (load_rib H9.out.2)) rfl ?_
            rw [HE.out.1, HE.out.2]
            exact ⟨Ak, nk, ck, rfl, HL8.out.grownZ H9.out.1 HNE.out, below_grown (below_step HBE.out (below_step HB3.out HB38.out)) H9.out.1 HZL.out⟩
end Go.Proofs.YtnpeedmicjeleaaDoor

/- Layer 11 (route): the law RouteApplies. -/
namespace Go.Proofs.YtnpeedmicjeleaaDoor
open Go.RowKit
set_option linter.unusedVariables false
set_option linter.unusedSimpArgs false
set_option maxRecDepth 4000
theorem eqL_self {α : Type} {S : Shape α} (E : ShapeEq S) (l : List α) : E.eqL l l = true := (ShapeEq.eqL_iff E l l).2 rfl
set_option maxHeartbeats 4000000 in
set_option maxRecDepth 100000 in
theorem applies11_any (A : Option Addr) (n c : Nat) (l : List Rte) (A2 : Option Addr) (m c2 : Nat) (b : List Upd) (w : World) (hL : Laid w) (hr : RS rteK w A n c l) (ok : Okr l) (hu : RS updK w A2 m c2 b) (oku : Oku b) :
    Calls Tryd.prog 3 #[.agg (tabV A n c), .agg (tabV A2 m c2)] w fun e w' => e = .returned (.bool true) ∧ Below w.heap.size w w' := by
  have hblk1 := blk_new w (.cells (tabV A n c) 24)
  have hbel1 : Below w.heap.size w (w.alloc (.cells (tabV A n c) 24)) := below_alloc (Below.refl _ _) _
  have hblk2 := blk_new (w.alloc (.cells (tabV A n c) 24)) (.cells (tabV A2 m c2) 27)
  have hbel2 : Below w.heap.size w ((w.alloc (.cells (tabV A n c) 24)).alloc (.cells (tabV A2 m c2) 27)) := below_alloc (hbel1) _
  rw [show (w.alloc (.cells (tabV A n c) 24)).heap.size = w.heap.size + 1 by simp] at hblk2
  replace hblk1 := blk_below hblk1 (below_alloc (Below.refl _ _) (.cells (tabV A2 m c2) 27))
  have HP1 := Lib.hid (rib_at hblk1)
  have HBK1 := Lib.hid hblk1
  have HP2 := Lib.hid (bat_at hblk2)
  have HBK2 := Lib.hid hblk2
  have HBE := Lib.hid hbel2
  have HL := Lib.hid (hL.below HBE.out)
  obtain ⟨cs1, hcs1⟩ : ∃ cs, tabV A n c = cs := ⟨_, rfl⟩
  obtain ⟨cs2, hcs2⟩ : ∃ cs, tabV A2 m c2 = cs := ⟨_, rfl⟩
  simp only [hcs1, hcs2] at HBE HL HP1 HP2 HBK1 HBK2 ⊢
  have HC1 := Lib.hid hcs1
  have HC2 := Lib.hid hcs2
  clear hL hcs1 hblk1 hbel1 hcs2 hblk2 hbel2
  have HR := Lib.hid (hr.below HBE.out)
  have HU := Lib.hid (hu.below HBE.out)
  have OK := Lib.hid ok
  have OKU := Lib.hid oku
  clear hr hu ok oku
  go_enter Tryd.func3, Tryd.ntmps3
  go_wp2_with fail
  refine (wakes11_any _ HL.out).mono ?_
  rintro e w1 ⟨rfl, hb1⟩
  have HB1 := Lib.hid hb1
  clear hb1
  go_wp2_with (first | ((with_reducible show wpList _ _ _ (Oper.mk _ (Op.load _ _) _ _ _ _ :: _) _ _); refine wpList_load_g ((HP1.out.all _ HB1.out).1) _ rfl rfl (by go_simp) ?_) | ((with_reducible show wpList _ _ _ (Oper.mk _ (Op.load _ _) _ _ _ _ :: _) _ _); refine wpList_load_g ((HP2.out.all _ HB1.out).1) _ rfl rfl (by go_simp) ?_))
  refine (over11_any A n c A2 m c2 w1).mono ?_
  rintro e w2 ⟨rfl, hb2⟩
  have HB2 := Lib.hid (below_step HB1.out hb2)
  clear hb2 HB1
  by_cases hov : (decide (300 < n) || decide (100 < m)) = true
  · rw [hov]
    go_wp2
    go_ret
    exact ⟨rfl, below_step HBE.out HB2.out⟩
  · have hof : (decide (300 < n) || decide (100 < m)) = false := by simpa using hov
    rw [hof]
    have hnm : n ≤ 300 ∧ m ≤ 100 := by simp at hof; omega
    have HNM := Lib.hid hnm
    clear hov hof
    go_wp2_with (first | ((with_reducible show wpList _ _ _ (Oper.mk _ (Op.load _ _) _ _ _ _ :: _) _ _); refine wpList_load_g ((HP1.out.all _ HB2.out).1) _ rfl rfl (by go_simp) ?_) | ((with_reducible show wpList _ _ _ (Oper.mk _ (Op.load _ _) _ _ _ _ :: _) _ _); refine wpList_load_g ((HP2.out.all _ HB2.out).1) _ rfl rfl (by go_simp) ?_))
    refine (own11_any A n c l A2 m c2 b w2 (HR.out.below HB2.out) (by omega) (HU.out.below HB2.out) (by omega)).mono ?_
    rintro e w3 ⟨A3, c3, A4, c4, rfl, hO3, hO4, hb3⟩
    have HO3 := Lib.hid (And.intro hO3 hO4)
    have HB3 := Lib.hid (below_step HB2.out hb3)
    clear hO3 hO4 hb3 HB2
    have hbz := blk_new (w3.alloc (.cells (tabV none 0 0) 24)) (.cells (tabV none 0 0) 27)
    rw [show (w3.alloc (.cells (tabV none 0 0) 24)).heap.size = w3.heap.size + 1 by simp] at hbz
    have hbc := blk_below (blk_new w3 (.cells (tabV none 0 0) 24)) (below_alloc (Below.refl _ _) (.cells (tabV none 0 0) 27))
    have HB5f := Lib.hid (fun (W U : World) (h : ((w3.alloc (.cells (tabV none 0 0) 24)).alloc (.cells (tabV none 0 0) 27)).grownBy W (some w3.heap.size)) (h2 : W.grownBy U (some (w3.heap.size + 1))) => below_grown (below_grown (below_alloc (below_alloc (Below.refl w3.heap.size w3) (.cells (tabV none 0 0) 24)) (.cells (tabV none 0 0) 27)) h (Nat.le_refl _)) h2 (Nat.le_succ _))
    go_wp2_with (first | ((with_reducible show wpList _ _ _ (Oper.mk _ (Op.store _ _ _) _ _ _ _ :: _) _ _); refine wpList_store_blk hbc 24 0 (tabV A3 n c3) (Nat.le_refl _) (info_rib _ _ _) (tab_one _ _ _) _ _ rfl rfl rfl rfl ?_; intro w4 hg9 hs9 hb9; rw [splice_tab] at hb9; have H4 := Lib.hid (And.intro hg9 hb9); clear hg9 hs9 hb9) | ((with_reducible show wpList _ _ _ (Oper.mk _ (Op.store _ _ _) _ _ _ _ :: _) _ _); refine wpList_store_blk (blk_grown hbz H4.out.1 (fun e => by injection e with e; omega)) 27 0 (tabV A4 m c4) (Nat.le_refl _) (info_bat _ _ _) (tab_one _ _ _) _ _ rfl rfl rfl rfl ?_; intro w5 hg9 hs9 hb9; rw [splice_tab] at hb9; have H5 := Lib.hid (And.intro hg9 hb9); clear hg9 hs9 hb9) | ((with_reducible show wpList _ _ _ (Oper.mk _ (Op.load _ _) _ _ _ _ :: _) _ _); refine wpList_load_g (load_rib (blk_grown H4.out.2 H5.out.1 (fun e => by injection e with e; omega))) _ rfl rfl (by go_simp) ?_) | ((with_reducible show wpList _ _ _ (Oper.mk _ (Op.load _ _) _ _ _ _ :: _) _ _); refine wpList_load_g (load_bat H5.out.2) _ rfl rfl (by go_simp) ?_))
    have HB35 := Lib.hid (HB5f.out _ _ H4.out.1 H5.out.1)
    have HB5 := Lib.hid (below_step HB3.out HB35.out)
    have HX5 := Lib.hid (blk_grown H4.out.2 H5.out.1 (fun e => by injection e with e; omega))
    have HY5 := Lib.hid H5.out.2
    have HO5 := Lib.hid (And.intro (HO3.out.1.below HB35.out) (HO3.out.2.below HB35.out))
    obtain ⟨g5, hg5⟩ : ∃ g, w3.heap.size = g := ⟨_, rfl⟩
    have hg6 : w3.heap.size + 1 = g5 + 1 := by omega
    rw [hg5] at HX5 HY5 ⊢
    clear hbz hbc HB5f H4 H5 HB35 HO3 HB3 hg5 hg6
    refine (rapply_any A3 n c3 l A4 m c4 b w5 (HL.out.below HB5.out) HO5.out.1 OK.out (by omega) HO5.out.2 OKU.out (by omega)).mono ?_
    rintro e w6 ⟨A6, n6, c6, rfl, hO6, hb6⟩
    have HO6 := Lib.hid hO6.reads
    have HB6 := Lib.hid (below_step HB5.out hb6)
    have HX6 := Lib.hid (blk_below HX5.out hb6)
    have HY6 := Lib.hid (blk_below HY5.out hb6)
    have HQ6 := Lib.hid (And.intro (HO5.out.1.below hb6) (HO5.out.2.below hb6))
    obtain ⟨N, hN⟩ : ∃ N, appN l b = N := ⟨_, rfl⟩
    have HN := Lib.hid hN
    rw [hN]
    clear hO6 hb6 HX5 HY5 HO5 HB5 hN
    have HB7f := Lib.hid (fun (W : World) (h : (w6.alloc (.cells (tabV none 0 0) 24)).grownBy W (some w6.heap.size)) => below_grown (below_alloc (Below.refl w6.heap.size w6) (.cells (tabV none 0 0) 24)) h (Nat.le_refl _))
    go_wp2_with (first | ((with_reducible show wpList _ _ _ (Oper.mk _ (Op.store _ _ _) _ _ _ _ :: _) _ _); refine wpList_store_blk (blk_new w6 (.cells (tabV none 0 0) 24)) 24 0 (tabV A6 n6 c6) (Nat.le_refl _) (info_rib _ _ _) (tab_one _ _ _) _ _ rfl rfl rfl rfl ?_; intro w7 hg9 hs9 hb9; rw [splice_tab] at hb9; have H7 := Lib.hid (And.intro hg9 hb9); clear hg9 hs9 hb9) | ((with_reducible show wpList _ _ _ (Oper.mk _ (Op.load _ _) _ _ _ _ :: _) _ _); refine wpList_load_g ((HP1.out.all _ (below_step HB6.out (HB7f.out _ H7.out.1))).1) _ rfl rfl (by go_simp) ?_) | ((with_reducible show wpList _ _ _ (Oper.mk _ (Op.load _ _) _ _ _ _ :: _) _ _); refine wpList_load_g ((HP2.out.all _ (below_step HB6.out (HB7f.out _ H7.out.1))).1) _ rfl rfl (by go_simp) ?_))
    have HB67 := Lib.hid (HB7f.out _ H7.out.1)
    have HB7 := Lib.hid (below_step HB6.out HB67.out)
    have HX7 := Lib.hid (blk_below HX6.out HB67.out)
    have HY7 := Lib.hid (blk_below HY6.out HB67.out)
    have HQ7 := Lib.hid (And.intro (HQ6.out.1.below HB67.out) (HQ6.out.2.below HB67.out))
    have HO7 := Lib.hid (HO6.out.below HB67.out)
    have HG7 := Lib.hid H7.out.2
    obtain ⟨g7, hg7⟩ : ∃ g, w6.heap.size = g := ⟨_, rfl⟩
    rw [hg7] at HG7 ⊢
    clear HB7f H7 HB67 HX6 HY6 HQ6 HO6 HB6 hg7
    refine (refapply_any A n c l A2 m c2 b w7 (HR.out.below HB7.out) OK.out (by omega) (HU.out.below HB7.out) OKU.out (by omega)).mono ?_
    rintro e w8 ⟨A8, n8, c8, rfl, hO8, hb8⟩
    rw [HN.out]
    have HLN : Hid (n6 ≤ 1000 ∧ n8 ≤ 1000) := Lib.hid (by
      rw [← HO7.out.len, ← hO8.len]
      have h1 : (appR l b).length ≤ 1000 := by
        unfold appR
        split
        · rename_i h
          unfold appN at h
          split at h
          · rename_i h1
            split at h
            · split at h
              · rename_i k hk
                have h2 := (appL_rok ⟨OK.out, (rib_to h1).2.1⟩ OKU.out hk).2
                have h3 := (rib_to h1).1
                rw [HU.out.len] at h2
                have h4 := HNM.out
                rw [hk]
                show k.length ≤ 1000
                omega
              · cases h
            · cases h
          · cases h
        · exact Nat.zero_le _
      exact ⟨h1, h1⟩)
    have HO8 := Lib.hid hO8
    have HB8 := Lib.hid (below_step HB7.out hb8)
    have HX8 := Lib.hid (blk_below HX7.out hb8)
    have HY8 := Lib.hid (blk_below HY7.out hb8)
    have HG8 := Lib.hid (blk_below HG7.out hb8)
    have HQ8 := Lib.hid (And.intro (HQ7.out.1.below hb8) (HQ7.out.2.below hb8))
    have HP8 := Lib.hid (HO7.out.below hb8)
    have HAO := Lib.hid (appR_ok OK.out OKU.out)
    clear hO8 hb8 HX7 HY7 HG7 HQ7 HO7 HB7
    go_upto_region 8 with (first | ((with_reducible show wpList _ _ _ (Oper.mk _ (Op.store _ _ _) _ _ _ _ :: _) _ _); refine wpList_store_blk (blk_new w8 (.cells (tabV none 0 0) 24)) 24 0 (tabV A8 n8 c8) (Nat.le_refl _) (info_rib _ _ _) (tab_one _ _ _) _ _ rfl rfl rfl rfl ?_; intro w9 hg9 hs9 hb9; rw [splice_tab] at hb9; have H9 := Lib.hid (And.intro hg9 hb9); clear hg9 hs9 hb9))
    have HB89 := Lib.hid (below_grown (below_alloc (Below.refl w8.heap.size w8) (.cells (tabV none 0 0) 24)) H9.out.1 (Nat.le_refl _))
    have HB9 := Lib.hid (below_step HB8.out HB89.out)
    have hl7 := load_rib (blk_below HG8.out HB89.out)
    have hl9 := load_rib H9.out.2
    have hln := HLN.out
    go_wp2_with (first | ((with_reducible show wpList _ _ _ (Oper.mk _ (Op.load _ _) _ _ _ _ :: _) _ _); refine wpList_load_g hl7 _ rfl rfl (by go_simp) ?_) | ((with_reducible show wpList _ _ _ (Oper.mk _ (Op.load _ _) _ _ _ _ :: _) _ _); refine wpList_load_g hl9 _ rfl rfl (by go_simp) ?_))
    refine (refsameQ_any A6 n6 c6 (appR l b) A8 n8 c8 (appR l b) w9 (HP8.out.below HB89.out) (HO8.out.below HB89.out) HAO.out HAO.out (by omega) (by omega)).mono ?_
    rintro e w10 ⟨rfl, hb10⟩
    rw [eqL_self]
    have HB10 := Lib.hid (below_step HB9.out hb10)
    have HBX := Lib.hid (below_step HB89.out hb10)
    have hl5 := load_rib (blk_below HX8.out HBX.out)
    clear hb10 hl7 hl9
    go_wp2_with (first | ((with_reducible show wpList _ _ _ (Oper.mk _ (Op.load _ _) _ _ _ _ :: _) _ _); refine wpList_load_g hl5 _ rfl rfl (by go_simp) ?_) | ((with_reducible show wpList _ _ _ (Oper.mk _ (Op.load _ _) _ _ _ _ :: _) _ _); refine wpList_load_g ((HP1.out.all _ HB10.out).1) _ rfl rfl (by go_simp) ?_))
    refine (refsameQ_any A3 n c3 l A n c l w10 (HQ8.out.1.below HBX.out) (HR.out.below HB10.out) OK.out OK.out (by omega) (by omega)).mono ?_
    rintro e w11 ⟨rfl, hb11⟩
    rw [eqL_self]
    have HB11 := Lib.hid (below_step HB10.out hb11)
    have HBY := Lib.hid (below_step HBX.out hb11)
    have hl6 := load_bat (blk_below HY8.out HBY.out)
    clear hb11 hl5
    go_wp2_with (first | ((with_reducible show wpList _ _ _ (Oper.mk _ (Op.load _ _) _ _ _ _ :: _) _ _); refine wpList_load_g hl6 _ rfl rfl (by go_simp) ?_) | ((with_reducible show wpList _ _ _ (Oper.mk _ (Op.load _ _) _ _ _ _ :: _) _ _); refine wpList_load_g ((HP2.out.all _ HB11.out).1) _ rfl rfl (by go_simp) ?_))
    refine (refsameU_any A4 m c4 b A2 m c2 b w11 (HQ8.out.2.below HBY.out) (HU.out.below HB11.out) OKU.out OKU.out (by omega) (by omega)).mono ?_
    rintro e w12 ⟨rfl, hb12⟩
    rw [eqL_self]
    have HB12 := Lib.hid (below_step HB11.out hb12)
    clear hb12 hl6
    go_wp2_with fail
    go_ret
    exact ⟨rfl, below_step HBE.out HB12.out⟩
end Go.Proofs.YtnpeedmicjeleaaDoor

/- The walk of RouteApplies, as the row asks it. -/
namespace Go.Proofs.YtnpeedmicjeleaaDoor
open Go.RowKit
set_option linter.unusedVariables false
set_option linter.unusedSimpArgs false
set_option maxRecDepth 4000
theorem routeApplies_walk (A : Option Addr) (n c : Nat) (l : List Rte) (A2 : Option Addr) (m c2 : Nat) (b : List Upd) (w : World) (hL : Laid w) (hr : RS rteK w A n c l) (ok : ∀ a ∈ l, a.ok) (h0 : n * 56 ≤ 140737488351232) (hu : RS updK w A2 m c2 b) (oku : ∀ a ∈ b, a.ok) (h1 : m * 64 ≤ 140737488351232) : Calls Tryd.prog 3 #[.agg (tabV A n c), .agg (tabV A2 m c2)] w fun e w' => e = .returned (.bool true) ∧ Below w.heap.size w w' := applies11_any A n c l A2 m c2 b w hL hr ok hu oku
end Go.Proofs.YtnpeedmicjeleaaDoor
