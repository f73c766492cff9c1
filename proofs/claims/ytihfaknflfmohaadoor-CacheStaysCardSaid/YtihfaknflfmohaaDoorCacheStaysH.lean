/- Layer 27 (cache): the document's Move. -/
import Derived.Test.YtihfaknflfmohaaDoorCacheStaysE
import Derived.Test.YtihfaknflfmohaaDoorCacheStaysG
namespace Go.Proofs.YtihfaknflfmohaaDoor
open Go.RowKit
set_option linter.unusedVariables false
set_option linter.unusedSimpArgs false
set_option maxRecDepth 4000
theorem goes_of {was ver : Int} {ds : List Pfx} {e : Ent} (h : was < ver) : (decide (1 < ver - was) || ds.any fun p => p.has e.v e.l) = goesB was ver ds e := by
  unfold goesB
  congr 1
  rw [decide_eq_decide]
  omega
theorem any_take {α : Type} {S : Shape α} {q : α → Bool} {t : List α} {k : Nat} (h : k < t.length) : (t.take (k + 1)).any q = ((t.take k).any q || q (S.at_ t k)) := by
  rw [Shape.take_succ (S := S) h, List.any_append]
  simp
set_option maxRecDepth 100000 in
set_option maxHeartbeats 8000000 in
theorem refmove_any (x : Cac) (es : List Ent) (A : Option Addr) (n c : Nat) (a : List Row) (A2 : Option Addr) (m c2 : Nat) (b : List Row) (ver : Int) (w : World) (hre : RE w x.A x.n x.c es) (oe : Oke es) (hxn : x.n ≤ 100000) (hx : x.ok) (ha : RT w A n c a) (oa : Oks a) (hn : n ≤ 1000) (hb : RT w A2 m c2 b) (ob : Oks b) (hm : m ≤ 1000) (hv : (Lit.int .u64 ver).wf = true) :
    Calls Tryd.prog 39 #[.agg x.vv, .agg (tabV A n c), .agg (tabV A2 m c2), .int .u64 ver] w fun r w' => ∃ y fs k, r = .returned (.tuple #[.agg (Cac.vv y), .int .i64 k, .int .i64 (moveN x es a b ver)]) ∧ RE w' y.A y.n y.c fs ∧ MoveIs x es a b ver y fs k ∧ Below w.heap.size w w' := by
  have hblk1 := blk_new w (.cells (x.vv) 25)
  have hbel1 : Below w.heap.size w (w.alloc (.cells (x.vv) 25)) := below_alloc (Below.refl _ _) _
  have hblk2 := blk_new (w.alloc (.cells (x.vv) 25)) (.cells (tabV A n c) 28)
  have hbel2 : Below w.heap.size w ((w.alloc (.cells (x.vv) 25)).alloc (.cells (tabV A n c) 28)) := below_alloc (hbel1) _
  rw [show (w.alloc (.cells (x.vv) 25)).heap.size = w.heap.size + 1 by simp] at hblk2
  replace hblk1 := blk_below hblk1 (below_alloc (Below.refl _ _) (.cells (tabV A n c) 28))
  have hblk3 := blk_new ((w.alloc (.cells (x.vv) 25)).alloc (.cells (tabV A n c) 28)) (.cells (tabV A2 m c2) 28)
  have hbel3 : Below w.heap.size w (((w.alloc (.cells (x.vv) 25)).alloc (.cells (tabV A n c) 28)).alloc (.cells (tabV A2 m c2) 28)) := below_alloc (hbel2) _
  rw [show ((w.alloc (.cells (x.vv) 25)).alloc (.cells (tabV A n c) 28)).heap.size = w.heap.size + 2 by simp] at hblk3
  replace hblk1 := blk_below hblk1 (below_alloc (Below.refl _ _) (.cells (tabV A2 m c2) 28))
  replace hblk2 := blk_below hblk2 (below_alloc (Below.refl _ _) (.cells (tabV A2 m c2) 28))
  have HP1 := Lib.hid (cac_at hblk1)
  have HBK1 := Lib.hid hblk1
  have HP2 := Lib.hid (tab_at hblk2)
  have HBK2 := Lib.hid hblk2
  have HP3 := Lib.hid (tab_at hblk3)
  have HBK3 := Lib.hid hblk3
  have HBE := Lib.hid hbel3
  obtain ⟨cs1, hcs1⟩ : ∃ cs, x.vv = cs := ⟨_, rfl⟩
  obtain ⟨cs2, hcs2⟩ : ∃ cs, tabV A n c = cs := ⟨_, rfl⟩
  obtain ⟨cs3, hcs3⟩ : ∃ cs, tabV A2 m c2 = cs := ⟨_, rfl⟩
  simp only [hcs1, hcs2, hcs3] at HBE HP1 HP2 HP3 HBK1 HBK2 HBK3 ⊢
  have HC1 := Lib.hid hcs1
  have HC2 := Lib.hid hcs2
  have HC3 := Lib.hid hcs3
  clear hcs1 hblk1 hbel1 hcs2 hblk2 hbel2 hcs3 hblk3 hbel3
  have HE := Lib.hid (hre.below HBE.out)
  have H1 := Lib.hid (ha.below HBE.out)
  have H2 := Lib.hid (hb.below HBE.out)
  have OE := Lib.hid oe
  have OA := Lib.hid oa
  have OB := Lib.hid ob
  have hbc := run_build_cac_nil
  clear hre ha hb oe oa ob
  obtain ⟨W0, hW0⟩ : ∃ W0, W0 = (((w.alloc (.cells cs1 25)).alloc (.cells cs2 28)).alloc (.cells cs3 28)) := ⟨_, rfl⟩
  have hs0 : W0.heap.size = w.heap.size + 3 := by rw [hW0]; simp
  have HBW : Hid (Below W0.heap.size W0 (W0.alloc (.cells cacZ.vv 25))) := Lib.hid (below_alloc (Below.refl _ _) _)
  have HG8 : Hid ((W0.alloc (.cells cacZ.vv 25)).heap[w.heap.size + 3]? = some (.cells cacZ.vv 25 (0, 0))) := Lib.hid (by
    rw [← hs0]
    exact blk_new W0 _)
  clear hs0
  subst hW0
  go_enter Tryd.func39, Tryd.ntmps39
  go_wp2_with (first | ((with_reducible show wpList _ _ _ (Oper.mk _ (Op.load _ _) _ _ _ _ :: _) _ _); refine wpList_load_g ((HP1.out.all _ (below_alloc (Below.refl _ _) _)).cac) _ rfl rfl (by go_simp) ?_))
  have hcall := refcright_any x es _ (HE.out.below HBW.out) OE.out hxn
  refine hcall.mono ?_
  clear hcall
  rintro e w1 ⟨rfl, hb1⟩
  have HB1 := Lib.hid (below_step HBW.out hb1)
  have HR1 := Lib.hid (blk_below HG8.out hb1)
  clear hb1 HG8 HBW
  cases hC : cacB x es with
  | false =>
    have HN := Lib.hid (show moveN x es a b ver = 370 by unfold moveN; rw [hC]; rfl)
    clear hC
    go_wp2_with (first | ((with_reducible show wpList _ _ _ (Oper.mk _ (Op.build _ _) _ _ _ _ :: _) _ _); refine wpList_exw rfl (exec_build 25 #[] rfl #[] rfl (hbc _)) ?_) | ((with_reducible show wpList _ _ _ (Oper.mk _ (Op.store _ _ _) _ _ _ _ :: _) _ _); refine wpList_store_blk HR1.out 25 0 cacZ.vv (Nat.le_refl _) (info_cac _) (cac_one _) _ _ rfl rfl rfl rfl ?_; intro w8 hg9 hs9 hb9; rw [splice_cac] at hb9; have H8 := Lib.hid (And.intro hg9 hb9); clear hg9 hs9 hb9))
    refine bodyPost_ret (results_c3 rfl rfl (load_cac H8.out.2)) rfl ?_
    exact ⟨cacZ, [], 0, by rw [HN.out]; rfl, RS.nil _ _ _ _, moveIs_err (by rw [HN.out]; decide), below_grown (below_step HBE.out HB1.out) H8.out.1 (by omega)⟩
  | true =>
    have HCB := Lib.hid hC
    clear hC
    go_wp2_with (first | ((with_reducible show wpList _ _ _ (Oper.mk _ (Op.load _ _) _ _ _ _ :: _) _ _); refine wpList_load_g ((HP2.out.all w1 HB1.out).1) _ rfl rfl (by go_simp) ?_))
    refine (refRight_any A n c a w1 (H1.out.below HB1.out) OA.out (by omega)).mono ?_
    rintro e w2 ⟨rfl, hb2⟩
    have HB2 := Lib.hid (below_step HB1.out hb2)
    have HR2 := Lib.hid (blk_below HR1.out hb2)
    clear hb2 HR1 HB1
    cases hRa : tabB a with
    | false =>
      have HN := Lib.hid (show moveN x es a b ver = 190 by unfold moveN; rw [HCB.out, hRa]; rfl)
      clear hRa
      go_wp2_with (first | ((with_reducible show wpList _ _ _ (Oper.mk _ (Op.build _ _) _ _ _ _ :: _) _ _); refine wpList_exw rfl (exec_build 25 #[] rfl #[] rfl (hbc _)) ?_) | ((with_reducible show wpList _ _ _ (Oper.mk _ (Op.store _ _ _) _ _ _ _ :: _) _ _); refine wpList_store_blk HR2.out 25 0 cacZ.vv (Nat.le_refl _) (info_cac _) (cac_one _) _ _ rfl rfl rfl rfl ?_; intro w8 hg9 hs9 hb9; rw [splice_cac] at hb9; have H8 := Lib.hid (And.intro hg9 hb9); clear hg9 hs9 hb9))
      refine bodyPost_ret (results_c3 rfl rfl (load_cac H8.out.2)) rfl ?_
      exact ⟨cacZ, [], 0, by rw [HN.out]; rfl, RS.nil _ _ _ _, moveIs_err (by rw [HN.out]; decide), below_grown (below_step HBE.out HB2.out) H8.out.1 (by omega)⟩
    | true =>
      have HRA := Lib.hid hRa
      clear hRa
      go_wp2_with (first | ((with_reducible show wpList _ _ _ (Oper.mk _ (Op.load _ _) _ _ _ _ :: _) _ _); refine wpList_load_g ((HP3.out.all w2 HB2.out).1) _ rfl rfl (by go_simp) ?_))
      refine (refRight_any A2 m c2 b w2 (H2.out.below HB2.out) OB.out (by omega)).mono ?_
      rintro e w3 ⟨rfl, hb3⟩
      have HB3 := Lib.hid (below_step HB2.out hb3)
      have HR3 := Lib.hid (blk_below HR2.out hb3)
      clear hb3 HR2 HB2
      cases hRb : tabB b with
      | false =>
        have HN := Lib.hid (show moveN x es a b ver = 190 by unfold moveN; rw [HCB.out, HRA.out, hRb]; rfl)
        clear hRb
        go_wp2_with (first | ((with_reducible show wpList _ _ _ (Oper.mk _ (Op.build _ _) _ _ _ _ :: _) _ _); refine wpList_exw rfl (exec_build 25 #[] rfl #[] rfl (hbc _)) ?_) | ((with_reducible show wpList _ _ _ (Oper.mk _ (Op.store _ _ _) _ _ _ _ :: _) _ _); refine wpList_store_blk HR3.out 25 0 cacZ.vv (Nat.le_refl _) (info_cac _) (cac_one _) _ _ rfl rfl rfl rfl ?_; intro w8 hg9 hs9 hb9; rw [splice_cac] at hb9; have H8 := Lib.hid (And.intro hg9 hb9); clear hg9 hs9 hb9))
        refine bodyPost_ret (results_c3 rfl rfl (load_cac H8.out.2)) rfl ?_
        exact ⟨cacZ, [], 0, by rw [HN.out]; rfl, RS.nil _ _ _ _, moveIs_err (by rw [HN.out]; decide), below_grown (below_step HBE.out HB3.out) H8.out.1 (by omega)⟩
      | true =>
        have HRB := Lib.hid hRb
        clear hRb
        have HK3 : Hid (w3.heap[w.heap.size]? = some (.cells x.vv 25 (0, 0))) := Lib.hid (blk_below (by rw [HC1.out]; exact HBK1.out) HB3.out)
        by_cases hv1 : 4611686018427387904 < ver
        · have hv1b : decide (4611686018427387904 < ver) = true := decide_eq_true hv1
          have HN := Lib.hid (show moveN x es a b ver = 2 by unfold moveN; rw [HCB.out, show (tabB a && tabB b) = true by rw [HRA.out, HRB.out]; rfl, if_pos rfl, if_pos rfl, if_pos (.inl hv1)])
          clear hv1
          go_wp2_with (first | ((with_reducible show wpList _ _ _ (Oper.mk _ (Op.build _ _) _ _ _ _ :: _) _ _); refine wpList_exw rfl (exec_build 25 #[] rfl #[] rfl (hbc _)) ?_) | ((with_reducible show wpList _ _ _ (Oper.mk _ (Op.store _ _ _) _ _ _ _ :: _) _ _); refine wpList_store_blk HR3.out 25 0 cacZ.vv (Nat.le_refl _) (info_cac _) (cac_one _) _ _ rfl rfl rfl rfl ?_; intro w8 hg9 hs9 hb9; rw [splice_cac] at hb9; have H8 := Lib.hid (And.intro hg9 hb9); clear hg9 hs9 hb9))
          refine bodyPost_ret (results_c3 rfl rfl (load_cac H8.out.2)) rfl ?_
          exact ⟨cacZ, [], 0, by rw [HN.out]; rfl, RS.nil _ _ _ _, moveIs_err (by rw [HN.out]; decide), below_grown (below_step HBE.out HB3.out) H8.out.1 (by omega)⟩
        · have hv1b : decide (4611686018427387904 < ver) = false := decide_eq_false hv1
          have hcell : w3.cell? ⟨w.heap.size, 1, none⟩ = some (.int .u64 x.ver) := by rw [blk_cell HK3.out]; rfl
          by_cases hv2 : ver ≤ x.ver
          · have hv2b : decide (ver ≤ x.ver) = true := decide_eq_true hv2
            have HN := Lib.hid (show moveN x es a b ver = 2 by unfold moveN; rw [HCB.out, show (tabB a && tabB b) = true by rw [HRA.out, HRB.out]; rfl, if_pos rfl, if_pos rfl, if_pos (.inr hv2)])
            clear hv1 hv2
            go_wp2_with (first | ((with_reducible show wpList _ _ _ (Oper.mk _ (Op.build _ _) _ _ _ _ :: _) _ _); refine wpList_exw rfl (exec_build 25 #[] rfl #[] rfl (hbc _)) ?_) | ((with_reducible show wpList _ _ _ (Oper.mk _ (Op.store _ _ _) _ _ _ _ :: _) _ _); refine wpList_store_blk HR3.out 25 0 cacZ.vv (Nat.le_refl _) (info_cac _) (cac_one _) _ _ rfl rfl rfl rfl ?_; intro w8 hg9 hs9 hb9; rw [splice_cac] at hb9; have H8 := Lib.hid (And.intro hg9 hb9); clear hg9 hs9 hb9))
            refine bodyPost_ret (results_c3 rfl rfl (load_cac H8.out.2)) rfl ?_
            exact ⟨cacZ, [], 0, by rw [HN.out]; rfl, RS.nil _ _ _ _, moveIs_err (by rw [HN.out]; decide), below_grown (below_step HBE.out HB3.out) H8.out.1 (by omega)⟩
          · have hv2b : decide (ver ≤ x.ver) = false := decide_eq_false hv2
            have HN := Lib.hid (show moveN x es a b ver = 0 by unfold moveN; rw [HCB.out, show (tabB a && tabB b) = true by rw [HRA.out, HRB.out]; rfl, if_pos rfl, if_pos rfl, if_neg (by omega)])
            have HVV := Lib.hid (And.intro hv1 hv2)
            clear hv1 hv2
            go_wp2_with (first | ((with_reducible show wpList _ _ _ (Oper.mk _ (Op.load _ _) _ _ _ _ :: _) _ _); refine wpList_load_g ((HP2.out.all w3 HB3.out).1) _ rfl rfl (by go_simp) ?_) | ((with_reducible show wpList _ _ _ (Oper.mk _ (Op.load _ _) _ _ _ _ :: _) _ _); refine wpList_load_g ((HP3.out.all w3 HB3.out).1) _ rfl rfl (by go_simp) ?_))
            refine (refdiffer_any A n c a A2 m c2 b w3 (H1.out.below HB3.out) (H2.out.below HB3.out) OA.out OB.out (tabB_to HRA.out).2.2 (tabB_to HRB.out).2.2 hn hm).mono ?_
            rintro e w4 ⟨A5, n5, c5, rfl, hO4, hb4⟩
            have hTa := Tab.of (RT.fits H1.out) HRA.out
            have hTb := Tab.of (RT.fits H2.out) HRB.out
            rw [difR_mrg hTa hTb] at hO4
            have HO4 := Lib.hid hO4.reads
            have HMO : Hid (∀ p ∈ mrg a b, p.ok) := Lib.hid (fun p hp => by
              obtain ⟨r, hr, rfl⟩ := (mrg_spec a b hTa hTb).2.1 p hp
              rcases hr with hr | hr
              · exact (OA.out r hr).p
              · exact (OB.out r hr).p)
            have HB4 := Lib.hid (below_step HB3.out hb4)
            have HR4 := Lib.hid (blk_below HR3.out hb4)
            have HK4 := Lib.hid (blk_below HK3.out hb4)
            have HEL := Lib.hid HE.out.len
            have HNL : Hid (n5 ≤ 2000) := Lib.hid (by
              rw [← HO4.out.len]
              have := mrg_len a b
              rw [H1.out.len, H2.out.len] at this
              omega)
            have hxo := wfu hx.ver
            have hvo := wfu hv
            have hgt : x.ver < ver := by have := HVV.out; omega
            have hwr : IntKind.u64.wrap (ver - x.ver) = ver - x.ver := by
              simp only [IntKind.wrap, IntKind.bits, IntKind.signed]
              simp
              omega
            clear hO4 hb4 hTa hTb HR3 HK3 HB3 hcell
            go_wp2_with fail
            go_loopw [12, 13] (fun s12 s13 wr => ∃ (i no co : Nat) (Ao : Option Addr), s13 = .int .i64 i ∧ s12 = .slice Ao no co ∧ Hid (i ≤ x.n ∧ OS entK wr w4.heap.size Ao no co ((es.take i).filter fun e => !goesB x.ver ver (mrg a b) e) ∧ Below w4.heap.size w4 wr)) (fun _ y _ => x.n - (intOf y).toNat)
            case atStart => exact ⟨0, 0, 0, none, rfl, rfl, Nat.zero_le _, OS.nil _ _ _, Below.refl _ _⟩
            case round =>
              obtain ⟨i, no, co, Ao, rfl, rfl, HI⟩ := hrel
              have HBI := Lib.hid (below_step HB4.out HI.out.2.2)
              have hl3 := (HP1.out.all wr HBI.out).ents
              have hlv := (HP1.out.all wr HBI.out).ver
              by_cases hlt : i < x.n
              · have hlt' : (i : Int) < x.n := by omega
                obtain ⟨b3, o3, hxA, hc⟩ := RS.at_ HE.out (by omega)
                have HXA := Lib.hid hxA
                have HC := Lib.hid (hc i hlt)
                have HF := Lib.hid (RS.fits_at HE.out hlt)
                have hil : i < es.length := by rw [HEL.out]; exact hlt
                have HSTEP := Lib.hid (filter_step (S := entK) (p := fun e => !goesB x.ver ver (mrg a b) e) (t := es) (j := i) hil)
                have HOE := Lib.hid (OE.out.at_ hil)
                rw [hxA] at hl3
                clear hc hxA hil
                go_wp2_with (first | ((with_reducible show wpList _ _ _ (Oper.mk _ (Op.load _ _) _ _ _ _ :: _) _ _); refine wpList_load_g hl3 _ rfl rfl (by go_simp) ?_) | ((with_reducible show wpList _ _ _ (Oper.mk _ (Op.load _ _) _ _ _ _ :: _) _ _); refine wpList_load_g hlv _ rfl rfl (by go_simp) ?_))
                obtain ⟨v8, rfl⟩ : ∃ v8, v8 = wr := ⟨wr, rfl⟩
                go_loopw [14, 15] (fun s14 s15 wk => ∃ (k : Nat) (fl : Bool), s15 = .int .i64 k ∧ s14 = .bool fl ∧ Hid (k ≤ n5 ∧ fl = (decide (1 < ver - x.ver) || ((mrg a b).take k).any fun p => p.has (entAt es i).v (entAt es i).l) ∧ Below v8.heap.size v8 wk)) (fun _ y _ => n5 - (intOf y).toNat)
                case atStart => exact ⟨0, _, rfl, rfl, Nat.zero_le _, by simp, Below.refl _ _⟩
                case round =>
                  obtain ⟨k, fl, rfl, rfl, HK⟩ := hrel
                  have HBK := Lib.hid (below_step HBI.out HK.out.2.2)
                  have HB4K := Lib.hid (below_step HI.out.2.2 HK.out.2.2)
                  by_cases hkn : k < n5
                  · have hkn' : (k : Int) < n5 := by omega
                    have hn5 := HNL.out
                    obtain ⟨b5, o5, rfl, hc5⟩ := RS.at_ HO4.out (by omega)
                    have HC5 := Lib.hid (hc5 k hkn)
                    have HF5 := Lib.hid (RS.fits_at HO4.out hkn)
                    have hkl : k < (mrg a b).length := by rw [HO4.out.len]; exact hkn
                    have HPO := Lib.hid (HMO.out _ (List.mem_of_getElem? (Shape.at_get (S := pfxK) hkl)))
                    have HANY := Lib.hid (any_take (S := pfxK) (q := fun p => p.has (entAt es i).v (entAt es i).l) hkl)
                    clear hc5 hkl
                    go_wp2_with fail
                    refine wp_region_mix (fun w0 => Below (wr).heap.size (wr) w0) [(0, 0), (1, 0), (2, 0), (3, 0), (4, 0), (5, 0), (6, 0), (7, 0), (8, 0), (9, 0), (10, 2)] (by kernel_rfl) (by kernel_rfl) (below_drew1 _) ?_
                    simp only [List.map_cons, List.map_nil]
                    iterate 3 (refine wpO_step0 rfl rfl (fun K hK => ?_); go_simp; refine hK _ _ ?_; clear hK K)
                    refine wpO_loadW (t := 36) (ad := ⟨b5, (o5+k*18), none⟩) rfl rfl ?hw rfl rfl ((fun w0 hS => Shape.ld pfxK w0 b5 _ _ HF5.out (HC5.out.below (below_step HB4K.out hS)))) ?_
                    case hw => go_simp
                    iterate 1 (refine wpO_step0 rfl rfl (fun K hK => ?_); go_simp; refine hK _ _ ?_; clear hK K)
                    refine wpO_loadW (t := 23) (ad := ⟨w.heap.size, 2, none⟩) rfl rfl ?hw rfl rfl ((fun w0 hS => by have := (HP1.out.all w0 (below_step HBK.out hS)).ents; rwa [HXA.out] at this)) ?_
                    case hw => go_simp
                    iterate 3 (refine wpO_step0 rfl rfl (fun K hK => ?_); go_simp; refine hK _ _ ?_; clear hK K)
                    refine wpO_loadW (t := 31) (ad := ⟨b3, (o3+i*37), none⟩) rfl rfl ?hw rfl rfl ((fun w0 hS => (entLd_of HF.out (HC.out.below (below_step HBK.out hS))).adr)) ?_
                    case hw => go_simp
                    refine wpO_step2 rfl rfl (below_drew1 _) (fun K hK => ?_)
                    go_simp
                    refine (refhas_any (pfxK.at_ (mrg a b) k) (entAt es i).v (entAt es i).l _ HF5.out HF.out.l (wf_i64 HPO.out.b).2).mono ?_
                    rintro e w9 ⟨rfl, hb9⟩
                    have HB9 := Lib.hid (below_step (below_drew1 _) hb9)
                    clear hb9
                    refine hK _ _ ⟨HB9.out, ?_⟩
                    clear hK K
                    refine wpO_nil ?_
                    cases hh : (pfxK.at_ (mrg a b) k).has (entAt es i).v (entAt es i).l with
                    | true =>
                      have HH := Lib.hid hh
                      clear hh
                      go_wp2_with fail
                      go_roundw
                      case measure => simp [intOf]; omega
                      case rel => exact ⟨k + 1, true, by go_num, rfl, by omega, by rw [HANY.out, HH.out, Bool.or_true, Bool.or_true], below_step HK.out.2.2 HB9.out⟩
                    | false =>
                      have HH := Lib.hid hh
                      clear hh
                      go_wp2_with fail
                      go_roundw
                      case measure => simp [intOf]; omega
                      case rel => exact ⟨k + 1, fl, by go_num, rfl, by omega, by rw [HANY.out, HH.out, Bool.or_false]; exact HK.out.2.1, below_step HK.out.2.2 HB9.out⟩
                  · have hkn' : decide (k < n5) = false := decide_eq_false hkn
                    have hfl : fl = goesB x.ver ver (mrg a b) (entAt es i) := by
                      rw [HK.out.2.1, ← goes_of hgt]
                      have hk5 : k = (mrg a b).length := by rw [HO4.out.len]; have := HK.out.1; omega
                      rw [hk5, List.take_length]
                    have HFL := Lib.hid hfl
                    have HOW := Lib.hid (HI.out.2.1.below HK.out.2.2)
                    have hl3 := (HP1.out.all wr HBK.out).ents
                    rw [HXA.out] at hl3
                    have hent := (entLd_of HF.out (HC.out.below HBK.out)).ent
                    have hno : no ≤ 100000 := by
                      rw [← HOW.out.len]
                      have h1 := List.length_filter_le (fun e => !goesB x.ver ver (mrg a b) e) (es.take i)
                      rw [List.length_take] at h1
                      have h2 := HEL.out
                      omega
                    clear hfl hkn
                    cases fl with
                    | true =>
                      have HST : Hid ((es.take (i + 1)).filter (fun e => !goesB x.ver ver (mrg a b) e) = (es.take i).filter (fun e => !goesB x.ver ver (mrg a b) e)) := Lib.hid (by rw [HSTEP.out, if_neg (by show ¬ (!goesB x.ver ver (mrg a b) (entAt es i)) = true; rw [← HFL.out]; decide), List.append_nil])
                      go_wp2_with fail
                      go_roundw
                      case measure => simp [intOf]; omega
                      case rel => exact ⟨i + 1, no, co, Ao, by go_num, rfl, by omega, by rw [HST.out]; exact HOW.out, HB4K.out⟩
                    | false =>
                      have HST : Hid ((es.take (i + 1)).filter (fun e => !goesB x.ver ver (mrg a b) e) = (es.take i).filter (fun e => !goesB x.ver ver (mrg a b) e) ++ [entAt es i]) := Lib.hid (by rw [HSTEP.out, if_pos (by show (!goesB x.ver ver (mrg a b) (entAt es i)) = true; rw [← HFL.out]; rfl)])
                      go_wp2_with (first | ((with_reducible show wpList _ _ _ (Oper.mk _ (Op.load _ _) _ _ _ _ :: _) _ _); refine wpList_load_g hl3 _ rfl rfl (by go_simp) ?_) | ((with_reducible show wpList _ _ _ (Oper.mk _ (Op.load _ _) _ _ _ _ :: _) _ _); refine wpList_load_g hent _ rfl rfl (by go_simp) ?_) | ((with_reducible show wpList _ _ _ (Oper.mk _ (Op.buildSlice _ _ _) _ _ _ _ :: _) _ _); refine wpList_exw rfl (exec_lit1 entK (x := .tmp 78) rfl (entAt es i) rfl HF.out (by show 37 ≤ _; omega) _) ?_) | (at_builtin; refine wpList_append_shp entK rfl (.tmp 73) (.tmp 79) rfl rfl rfl (OS.below HOW.out (below_alloc (Below.refl _ _) _)) (OS.one entK wr 0 (entAt es i) (Nat.zero_le _) HF.out).reads (by have := HB4K.out.size; simp only [World.alloc, Array.size_push]; omega) (by omega) ?_; intro A9 c9 w9 h1 h2 h3; have H9 := Lib.hid (And.intro h1 (And.intro h2 h3)); clear h1 h2 h3))
                      go_roundw
                      case measure => simp [intOf]; omega
                      case rel =>
                        have hbase := HOW.out.base_
                        exact ⟨i + 1, no + 1, c9, A9, by go_num, rfl, by omega, by rw [HST.out]; exact H9.out.1, below_own (below_alloc HB4K.out _) H9.out.2.1 hbase⟩
              · have hlt' : decide (i < x.n) = false := decide_eq_false hlt
                have hin : i = es.length := by rw [HEL.out]; have := HI.out.1; omega
                have HOW : Hid (OS entK wr w4.heap.size Ao no co (movedL x es a b ver)) := Lib.hid (by
                  have := HI.out.2.1
                  rwa [hin, List.take_length] at this)
                have HK5 := Lib.hid (blk_below HK4.out HI.out.2.2)
                have HR5 := Lib.hid (blk_below HR4.out HI.out.2.2)
                have hs4 := blk_lt HR4.out
                have hno : no ≤ x.n := by
                  rw [← HOW.out.len, ← HEL.out]
                  exact List.length_filter_le _ _
                have HKD : Hid ((x.n : Int) - no = (es.length : Int) - (movedL x es a b ver).length) := Lib.hid (by rw [HEL.out, HOW.out.len])
                obtain ⟨kd, hkd⟩ : ∃ kd : Int, (x.n : Int) - no = kd := ⟨_, rfl⟩
                have hwk : IntKind.i64.wrap ((x.n : Int) - no) = kd := by rw [hkd]; exact IntWalk.i64_in _ (by omega)
                rw [hkd] at HKD
                clear hin hlt hkd hno hwr hgt
                go_wp2_with (first | ((with_reducible show wpList _ _ _ (Oper.mk _ (Op.load _ _) _ _ _ _ :: _) _ _); refine wpList_load_g hl3 _ rfl rfl (by go_simp) ?_) | ((with_reducible show wpList _ _ _ (Oper.mk _ (Op.store _ _ _) _ _ _ _ :: _) _ _); refine wpList_store_cell HK5.out 23 2 (.slice Ao no co) (by show 2 < 5; omega) (by kernel_rfl) rfl rfl _ _ rfl rfl rfl rfl ?_; intro w6 hg9 hs9 hb9; have H6 := Lib.hid (And.intro hg9 (show (World.heap w6)[(w.heap.size)]? = some (.cells (Cac.vv ⟨x.room, x.ver, Ao, no, co, x.hits, x.misses⟩) 25 (0, 0)) from hb9)); clear hg9 hs9 hb9) | ((with_reducible show wpList _ _ _ (Oper.mk _ (Op.store _ _ _) _ _ _ _ :: _) _ _); refine wpList_store_cell H6.out.2 22 1 (.int .u64 ver) (by show 1 < 5; omega) (by kernel_rfl) rfl rfl _ _ rfl rfl rfl rfl ?_; intro w7 hg9 hs9 hb9; have H7 := Lib.hid (And.intro hg9 (show (World.heap w7)[(w.heap.size)]? = some (.cells (Cac.vv ⟨x.room, ver, Ao, no, co, x.hits, x.misses⟩) 25 (0, 0)) from hb9)); clear hg9 hs9 hb9) | ((with_reducible show wpList _ _ _ (Oper.mk _ (Op.load _ _) _ _ _ _ :: _) _ _); refine wpList_load_g (load_cac H7.out.2) _ rfl rfl (by go_simp) ?_) | ((with_reducible show wpList _ _ _ (Oper.mk _ (Op.store _ _ _) _ _ _ _ :: _) _ _); refine wpList_store_blk (blk_grown (blk_grown HR5.out H6.out.1 (by simp)) H7.out.1 (by simp)) 25 0 (Cac.mk x.room ver Ao no co x.hits x.misses).vv (Nat.le_refl _) (info_cac _) (cac_one _) _ _ rfl rfl rfl rfl ?_; intro w8 hg9 hs9 hb9; rw [splice_cac] at hb9; have H8 := Lib.hid (And.intro hg9 hb9); clear hg9 hs9 hb9))
                refine bodyPost_ret (results_c3 rfl rfl (load_cac H8.out.2)) rfl ?_
                have hob := HOW.out.base_
                refine ⟨⟨x.room, ver, Ao, no, co, x.hits, x.misses⟩, movedL x es a b ver, kd, by rw [HN.out]; rfl, ?_, ?_, below_grown (below_grown (below_grown (below_step HBE.out HBI.out) H6.out.1 (by omega)) H7.out.1 (by omega)) H8.out.1 (by omega)⟩
                · exact ((HOW.out.reads.grown H6.out.1 (fun ad e h => by injection h with h; have := hob ad e; omega)).grown H7.out.1 (fun ad e h => by injection h with h; have := hob ad e; omega)).grown H8.out.1 (fun ad e h => by injection h with h; have := hob ad e; omega)
                · unfold MoveIs
                  rw [if_pos HN.out]
                  exact ⟨rfl, rfl, rfl, rfl, rfl, HKD.out⟩
end Go.Proofs.YtihfaknflfmohaaDoor

/- Layer 27 (cache): a pair of tables; the law CacheMoves. -/
namespace Go.Proofs.YtihfaknflfmohaaDoor
open Go.RowKit
set_option linter.unusedVariables false
set_option linter.unusedSimpArgs false
set_option maxRecDepth 4000
def tbsV (a b : Tb) : Array Value := #[.slice a.A a.n a.c, .slice b.A b.n b.c]
structure TbsAt (w : World) (g : Nat) (a b : Tb) : Prop where
  all : ∀ w0, Below w.heap.size w w0 → (Instr.loadAt 28 (.pointer (some ⟨g, 0, none⟩))).run Tryd.prog w0 = .ok (.agg (tabV a.A a.n a.c)) w0 ∧ (Instr.loadAt 28 (.pointer (some ⟨g, 1, none⟩))).run Tryd.prog w0 = .ok (.agg (tabV b.A b.n b.c)) w0
theorem tbs_at {w : World} {g : Nat} {a b : Tb} (h : w.heap[g]? = some (.cells (tbsV a b) 75 (0, 0))) : TbsAt w g a b := by
  refine ⟨fun w0 hb => ?_⟩
  have h0 := cells_blk (blk_below h hb)
  have h1 : CellsAt w0 g 0 (tabV a.A a.n a.c).toList := CellsAt.left (ys := [.slice b.A b.n b.c]) h0
  have h2 : CellsAt w0 g 1 (tabV b.A b.n b.c).toList := CellsAt.right (xs := [.slice a.A a.n a.c]) (o := 0) h0
  exact ⟨load_cells h1 Tryd.underlying28 rfl (info_tab _ _ _), load_cells h2 Tryd.underlying28 rfl (info_tab _ _ _)⟩
theorem overB_two (n : Nat) (y z : Tb) : overB n [y, z] = (decide (100 < n) || (decide (200 < y.n) || decide (200 < z.n))) := by simp [overB]
theorem move_same {x y z : Cac} {es fs gs : List Ent} {a b : List Row} {ver k q : Int} (h : MoveIs x es a b ver y fs k) (j : MoveIs x es a b ver z gs q) : (y.room = z.room ∧ y.ver = z.ver ∧ y.hits = z.hits ∧ y.misses = z.misses ∧ fs = gs) ∧ k = q := by
  unfold MoveIs at h j
  split at h
  · rename_i hc
    rw [if_pos hc] at j
    obtain ⟨h1, h2, h3, h4, h5, h6⟩ := h
    obtain ⟨k1, k2, k3, k4, k5, k6⟩ := j
    refine ⟨⟨h1.trans k1.symm, h2.trans k2.symm, h4.trans k4.symm, h5.trans k5.symm, h3.trans k3.symm⟩, ?_⟩
    rw [h6, k6, h3, k3]
  · rename_i hc
    rw [if_neg hc] at j
    obtain ⟨rfl, rfl, rfl⟩ := h
    obtain ⟨rfl, rfl, rfl⟩ := j
    exact ⟨⟨rfl, rfl, rfl, rfl, rfl⟩, rfl⟩
theorem move_ok {x y : Cac} {es fs : List Ent} {a b : List Row} {ver k : Int} (oe : Oke es) (h : MoveIs x es a b ver y fs k) : Oke fs ∧ fs.length ≤ es.length := by
  unfold MoveIs at h
  split at h
  · obtain ⟨_, _, h3, _⟩ := h
    rw [h3]
    exact ⟨fun e he => oe e (List.mem_filter.1 he).1, List.length_filter_le _ _⟩
  · obtain ⟨_, h2, _⟩ := h
    rw [h2]
    exact ⟨fun e he => (by cases he), Nat.zero_le _⟩
set_option maxRecDepth 100000 in
set_option maxHeartbeats 8000000 in
theorem moves27_any (x : Cac) (es : List Ent) (a b : Tb) (ver : Int) (w : World) (hL : Laid w) (he : RE w x.A x.n x.c es) (oe : Oke es) (hx : x.ok) (ha : RT w a.A a.n a.c a.t) (oa : Oks a.t) (hb : RT w b.A b.n b.c b.t) (ob : Oks b.t) (hv : (Lit.int .u64 ver).wf = true) :
    Calls Tryd.prog 8 #[.agg x.vv, .agg (tbsV a b), .int .u64 ver] w fun r w' => r = .returned (.bool true) ∧ Below w.heap.size w w' := by
  have hblk1 := blk_new w (.cells (x.vv) 25)
  have hbel1 : Below w.heap.size w (w.alloc (.cells (x.vv) 25)) := below_alloc (Below.refl _ _) _
  have hblk2 := blk_new (w.alloc (.cells (x.vv) 25)) (.cells (tbsV a b) 75)
  have hbel2 : Below w.heap.size w ((w.alloc (.cells (x.vv) 25)).alloc (.cells (tbsV a b) 75)) := below_alloc (hbel1) _
  rw [show (w.alloc (.cells (x.vv) 25)).heap.size = w.heap.size + 1 by simp] at hblk2
  replace hblk1 := blk_below hblk1 (below_alloc (Below.refl _ _) (.cells (tbsV a b) 75))
  have HP1 := Lib.hid (cac_at hblk1)
  have HBK1 := Lib.hid hblk1
  have HP2 := Lib.hid (tbs_at hblk2)
  have HBK2 := Lib.hid hblk2
  have HBE := Lib.hid hbel2
  have HL := Lib.hid (hL.below HBE.out)
  obtain ⟨cs1, hcs1⟩ : ∃ cs, x.vv = cs := ⟨_, rfl⟩
  obtain ⟨cs2, hcs2⟩ : ∃ cs, tbsV a b = cs := ⟨_, rfl⟩
  simp only [hcs1, hcs2] at HBE HL HP1 HP2 HBK1 HBK2 ⊢
  have HC1 := Lib.hid hcs1
  have HC2 := Lib.hid hcs2
  clear hL hcs1 hblk1 hbel1 hcs2 hblk2 hbel2
  have HE := Lib.hid (he.below HBE.out)
  have HA := Lib.hid (ha.below HBE.out)
  have HB := Lib.hid (hb.below HBE.out)
  have OE := Lib.hid oe
  have OA := Lib.hid oa
  have OB := Lib.hid ob
  clear he ha hb oe oa ob
  go_enter Tryd.func8, Tryd.ntmps8
  go_wp2_with fail
  refine (wakes27_any _ HL.out).mono ?_
  rintro e w1 ⟨rfl, hb1⟩
  have HB1 := Lib.hid hb1
  clear hb1
  go_wp2_with (first | ((with_reducible show wpList _ _ _ (Oper.mk _ (Op.load _ _) _ _ _ _ :: _) _ _); refine wpList_load_g ((HP1.out.all _ HB1.out).cac) _ rfl rfl (by go_simp) ?_) | ((with_reducible show wpList _ _ _ (Oper.mk _ (Op.load _ _) _ _ _ _ :: _) _ _); refine wpList_load_g ((HP2.out.all _ HB1.out).1) _ rfl rfl (by go_simp) ?_) | ((with_reducible show wpList _ _ _ (Oper.mk _ (Op.load _ _) _ _ _ _ :: _) _ _); refine wpList_load_g ((HP2.out.all _ HB1.out).2) _ rfl rfl (by go_simp) ?_) | ((with_reducible show wpList _ _ _ (Oper.mk _ (Op.buildSlice _ _ _) _ _ _ _ :: _) _ _); refine wpList_exw rfl (exec_lit2 tbK (x := .tmp 18) (y := .tmp 20) rfl a b rfl rfl trivial trivial (by show 1 ≤ _; omega) _) ?_))
  have hcall := over_any x _ 2 2 [a, b] _ (OS.two tbK w1 0 a b (Nat.zero_le _) trivial trivial).reads (by omega)
  refine hcall.mono ?_
  clear hcall
  rintro e w2 ⟨rfl, hb2⟩
  rw [overB_two]
  have HB2 := Lib.hid (below_step (below_alloc HB1.out (.cells (tbK.cells [a, b]).toArray tbK.t)) hb2)
  clear hb2 HB1
  by_cases hov : (decide (100 < x.n) || (decide (200 < a.n) || decide (200 < b.n))) = true
  · rw [hov]
    go_wp2
    go_ret
    exact ⟨rfl, below_step HBE.out HB2.out⟩
  · have hof : (decide (100 < x.n) || (decide (200 < a.n) || decide (200 < b.n))) = false := by simpa using hov
    rw [hof]
    have HN : Hid (¬ 100 < x.n ∧ ¬ 200 < a.n ∧ ¬ 200 < b.n) := Lib.hid (by simpa [not_or] using hov)
    clear hov hof
    have hnn := HN.out
    go_wp2_with (first | ((with_reducible show wpList _ _ _ (Oper.mk _ (Op.load _ _) _ _ _ _ :: _) _ _); refine wpList_load_g ((HP1.out.all _ HB2.out).cac) _ rfl rfl (by go_simp) ?_))
    refine (copiedC_any x es w2 (HE.out.below HB2.out) (by omega)).mono ?_
    rintro e w3 ⟨A3, c3, rfl, hO3, hb3⟩
    have HO3 := Lib.hid hO3.reads
    have HB3 := Lib.hid (below_step HB2.out hb3)
    clear hO3 hb3 HB2
    have HB4f := Lib.hid (fun (W : World) (h : (w3.alloc (.cells cacZ.vv 25)).grownBy W (some w3.heap.size)) => below_grown (below_alloc HB3.out (.cells cacZ.vv 25)) h HB3.out.size)
    go_wp2_with (first | ((with_reducible show wpList _ _ _ (Oper.mk _ (Op.store _ _ _) _ _ _ _ :: _) _ _); refine wpList_store_blk (blk_new w3 (.cells cacZ.vv 25)) 25 0 (Cac.mk x.room x.ver A3 x.n c3 x.hits x.misses).vv (Nat.le_refl _) (info_cac _) (cac_one _) _ _ rfl rfl rfl rfl ?_; intro w4 hg9 hs9 hb9; rw [splice_cac] at hb9; have H4 := Lib.hid (And.intro hg9 hb9); clear hg9 hs9 hb9) | ((with_reducible show wpList _ _ _ (Oper.mk _ (Op.load _ _) _ _ _ _ :: _) _ _); refine wpList_load_g (load_cac H4.out.2) _ rfl rfl (by go_simp) ?_) | ((with_reducible show wpList _ _ _ (Oper.mk _ (Op.load _ _) _ _ _ _ :: _) _ _); refine wpList_load_g ((HP2.out.all _ (HB4f.out _ H4.out.1)).1) _ rfl rfl (by go_simp) ?_) | ((with_reducible show wpList _ _ _ (Oper.mk _ (Op.load _ _) _ _ _ _ :: _) _ _); refine wpList_load_g ((HP2.out.all _ (HB4f.out _ H4.out.1)).2) _ rfl rfl (by go_simp) ?_))
    have HB4 := Lib.hid (HB4f.out _ H4.out.1)
    have HO4 : Hid (RE w4 A3 x.n c3 es) := Lib.hid (RS.grownN HO3.out (HO3.out.below (below_alloc (Below.refl _ _) (.cells cacZ.vv 25))) H4.out.1 (Nat.le_refl _))
    clear HB4f HO3
    have hxo : (Cac.mk x.room x.ver A3 x.n c3 x.hits x.misses).ok := ⟨hx.room, hx.ver, hx.hits, hx.misses⟩
    refine (cmove_any (Cac.mk x.room x.ver A3 x.n c3 x.hits x.misses) es a.A a.n a.c a.t b.A b.n b.c b.t ver w4 (HL.out.below HB4.out) HO4.out OE.out (by show x.n ≤ _; omega) hxo (HA.out.below HB4.out) OA.out (by omega) (HB.out.below HB4.out) OB.out (by omega) hv).mono ?_
    rintro e w5 ⟨y, fs, kk, rfl, hO5, hF5, hI5, hb5⟩
    have hI5 : MoveIs x es a.t b.t ver y fs kk := hI5
    obtain ⟨k1, k2⟩ := move_ok OE.out hI5
    have HI5 := Lib.hid hI5
    have HFO := Lib.hid k1
    have HFL : Hid (y.n ≤ 1000) := Lib.hid (by rw [← hO5.len]; have := HO4.out.len; omega)
    have HO5 := Lib.hid hO5
    have HB5 := Lib.hid (below_step HB4.out hb5)
    have HC5 := Lib.hid (blk_below H4.out.2 hb5)
    have HP5 := Lib.hid (HO4.out.below hb5)
    rw [show moveN (Cac.mk x.room x.ver A3 x.n c3 x.hits x.misses) es a.t b.t ver = moveN x es a.t b.t ver from rfl]
    obtain ⟨N, hN⟩ : ∃ N, moveN x es a.t b.t ver = N := ⟨_, rfl⟩
    have HNN := Lib.hid hN
    rw [hN]
    clear hO5 hF5 hI5 hb5 k1 k2 hN H4
    have HB6f := Lib.hid (fun (W : World) (h : (w5.alloc (.cells cacZ.vv 25)).grownBy W (some w5.heap.size)) => below_grown (below_alloc (Below.refl w5.heap.size w5) (.cells cacZ.vv 25)) h (Nat.le_refl _))
    go_wp2_with (first | ((with_reducible show wpList _ _ _ (Oper.mk _ (Op.store _ _ _) _ _ _ _ :: _) _ _); refine wpList_store_blk (blk_new w5 (.cells cacZ.vv 25)) 25 0 y.vv (Nat.le_refl _) (info_cac _) (cac_one _) _ _ rfl rfl rfl rfl ?_; intro w6 hg9 hs9 hb9; rw [splice_cac] at hb9; have H6 := Lib.hid (And.intro hg9 hb9); clear hg9 hs9 hb9) | ((with_reducible show wpList _ _ _ (Oper.mk _ (Op.load _ _) _ _ _ _ :: _) _ _); refine wpList_load_g ((HP1.out.all _ (below_step HB5.out (HB6f.out _ H6.out.1))).cac) _ rfl rfl (by go_simp) ?_) | ((with_reducible show wpList _ _ _ (Oper.mk _ (Op.load _ _) _ _ _ _ :: _) _ _); refine wpList_load_g ((HP2.out.all _ (below_step HB5.out (HB6f.out _ H6.out.1))).1) _ rfl rfl (by go_simp) ?_) | ((with_reducible show wpList _ _ _ (Oper.mk _ (Op.load _ _) _ _ _ _ :: _) _ _); refine wpList_load_g ((HP2.out.all _ (below_step HB5.out (HB6f.out _ H6.out.1))).2) _ rfl rfl (by go_simp) ?_))
    have HB56 := Lib.hid (HB6f.out _ H6.out.1)
    have HB6 := Lib.hid (below_step HB5.out HB56.out)
    have HG6 := Lib.hid H6.out.2
    have HC6 := Lib.hid (blk_below HC5.out HB56.out)
    have HY6 := Lib.hid (HO5.out.below HB56.out)
    have HP6 := Lib.hid (HP5.out.below HB56.out)
    clear HB6f H6 HC5 HO5 HP5
    refine (refmove_any x es a.A a.n a.c a.t b.A b.n b.c b.t ver w6 (HE.out.below HB6.out) OE.out (by omega) hx (HA.out.below HB6.out) OA.out (by omega) (HB.out.below HB6.out) OB.out (by omega) hv).mono ?_
    rintro e w7 ⟨z, gs, kz, rfl, hO7, hI7, hb7⟩
    obtain ⟨k1, k2⟩ := move_same HI5.out hI7
    rw [HNN.out, ← k2]
    have HSM := Lib.hid (cacSame_iff.2 k1)
    have HO7 := Lib.hid hO7
    have HZL : Hid (z.n ≤ 1000) := Lib.hid (by rw [← hO7.len, ← k1.2.2.2.2, HY6.out.len]; exact HFL.out)
    have HZO : Hid (Oke gs) := Lib.hid (by rw [← k1.2.2.2.2]; exact HFO.out)
    have HB7 := Lib.hid (below_step HB6.out hb7)
    have HG7 := Lib.hid (blk_below HG6.out hb7)
    have HC7 := Lib.hid (blk_below HC6.out hb7)
    have HY7 := Lib.hid (HY6.out.below hb7)
    have HP7 := Lib.hid (HP6.out.below hb7)
    clear hO7 hI7 hb7 k1 k2 HG6 HC6 HY6 HP6
    go_upto_region 8 with (first | ((with_reducible show wpList _ _ _ (Oper.mk _ (Op.store _ _ _) _ _ _ _ :: _) _ _); refine wpList_store_blk (blk_new w7 (.cells cacZ.vv 25)) 25 0 z.vv (Nat.le_refl _) (info_cac _) (cac_one _) _ _ rfl rfl rfl rfl ?_; intro w8 hg9 hs9 hb9; rw [splice_cac] at hb9; have H8 := Lib.hid (And.intro hg9 hb9); clear hg9 hs9 hb9))
    have HB78 := Lib.hid (below_grown (below_alloc (Below.refl w7.heap.size w7) (.cells cacZ.vv 25)) H8.out.1 (Nat.le_refl _))
    have HB8 := Lib.hid (below_step HB7.out HB78.out)
    have hy8 := load_cac (blk_below HG7.out HB78.out)
    have hz8 := load_cac H8.out.2
    go_wp2_with (first | ((with_reducible show wpList _ _ _ (Oper.mk _ (Op.load _ _) _ _ _ _ :: _) _ _); refine wpList_load_g hy8 _ rfl rfl (by go_simp) ?_) | ((with_reducible show wpList _ _ _ (Oper.mk _ (Op.load _ _) _ _ _ _ :: _) _ _); refine wpList_load_g hz8 _ rfl rfl (by go_simp) ?_))
    refine (refcsame_any y fs z gs w8 (HY7.out.below HB78.out) (HO7.out.below HB78.out) HFO.out HZO.out (Nat.le_trans HFL.out (by decide)) (Nat.le_trans HZL.out (by decide))).mono ?_
    rintro e w9 ⟨rfl, hb9⟩
    rw [HSM.out]
    have HB9 := Lib.hid (below_step HB8.out hb9)
    have HP9 := Lib.hid ((HP7.out.below HB78.out).below hb9)
    have hc7 := load_cac (blk_below (blk_below HC7.out HB78.out) hb9)
    clear hb9 hy8 hz8
    go_wp2_with (first | ((with_reducible show wpList _ _ _ (Oper.mk _ (Op.load _ _) _ _ _ _ :: _) _ _); refine wpList_load_g hc7 _ rfl rfl (by go_simp) ?_) | ((with_reducible show wpList _ _ _ (Oper.mk _ (Op.load _ _) _ _ _ _ :: _) _ _); refine wpList_load_g ((HP1.out.all _ HB9.out).cac) _ rfl rfl (by go_simp) ?_))
    have hsame : cacSame (Cac.mk x.room x.ver A3 x.n c3 x.hits x.misses) es x es = true := cacSame_iff.2 ⟨rfl, rfl, rfl, rfl, rfl⟩
    refine (refcsame_any (Cac.mk x.room x.ver A3 x.n c3 x.hits x.misses) es x es w9 HP9.out (HE.out.below HB9.out) OE.out OE.out (by show x.n ≤ _; omega) (by omega)).mono ?_
    rintro e w10 ⟨rfl, hb10⟩
    rw [hsame]
    have HB10 := Lib.hid (below_step HB9.out hb10)
    clear hb10 hc7
    go_wp2
    go_ret
    exact ⟨rfl, below_step HBE.out HB10.out⟩
end Go.Proofs.YtihfaknflfmohaaDoor

/- Arguments that are pairs of tables, opened. -/
namespace Go.Proofs.YtihfaknflfmohaaDoor
open Go.ChangeShapes Go.WideShapes Go.ChangeAt Go.RowKit
set_option linter.unusedVariables false
set_option linter.unusedSimpArgs false
set_option maxRecDepth 4000
theorem open_tbs {H : Type} {enc : TypeId × Value → H} {W : World} {base b0 : Nat} {spare : Nat → Bool} {held : Bool} {v : Value} {d : DataW H} {p : List MemPlace} (hv : Value.okWide Tryd.prog W .any b0 75 v)
    (h : DataW.Trod enc Tryd.prog W base spare held 75 v d p) (hl : Light Tryd.prog 75 d) : ∃ a b : Tb, v = .agg (tbsV a b) ∧ RT W a.A a.n a.c a.t ∧ RT W b.A b.n b.c b.t ∧ Oks a.t ∧ Oks b.t ∧ a.n * 40 ≤ 140737488351232 ∧ b.n * 40 ≤ 140737488351232 := by
  obtain ⟨cs, rfl, -⟩ := okWide_struct Tryd.underlying75 hv
  obtain ⟨fuel, hf⟩ := h
  have hf : DataW.trod enc Tryd.prog W base spare held fuel 75 cs.toList = some (d, p) := hf
  obtain ⟨xs, m, -, hx, hlen, hxl, hg⟩ := DataW.trod_struct Tryd.underlying75 hf
  have c1 : Tryd.prog.cellsOf 28 = 1 := by kernel_rfl
  have c3 : Tryd.prog.cellsOf 75 = 2 := by kernel_rfl
  have h0 : DataW.trod enc Tryd.prog W base spare held m 28 ((cs.toList.drop 0).take (Tryd.prog.cellsOf 28)) = xs[0]? := hg 0 _ rfl
  have h1 : DataW.trod enc Tryd.prog W base spare held m 28 ((cs.toList.drop 1).take (Tryd.prog.cellsOf 28)) = xs[1]? := hg 1 _ rfl
  rw [c3] at hlen
  rw [c1] at h0 h1
  have hx2 : xs.length = 2 := hxl
  have hd : d = .agg (xs.map (·.1)) := congrArg Prod.fst hx
  subst hd
  obtain ⟨cl, hcl⟩ : ∃ cl, cs.toList = cl := ⟨_, rfl⟩
  rw [hcl] at h0 h1 hlen
  match cl, hlen, xs, hx2 with
  | [d0, d1], _, [x0, x1], _ =>
    have hl0 : Light Tryd.prog 28 x0.1 := light_field Tryd.underlying75 hl (i := 0) (f := _) rfl rfl
    have hl1 : Light Tryd.prog 28 x1.1 := light_field Tryd.underlying75 hl (i := 1) (f := _) rfl rfl
    obtain ⟨A, n, c, t, e1, e2, e3, e4⟩ := open_tab_cells (show DataW.trod enc Tryd.prog W base spare held m 28 [d0] = some x0 from h0) hl0
    obtain ⟨B, k, q, u, f1, f2, f3, f4⟩ := open_tab_cells (show DataW.trod enc Tryd.prog W base spare held m 28 [d1] = some x1 from h1) hl1
    refine ⟨⟨A, n, c, t⟩, ⟨B, k, q, u⟩, ?_, e2, f2, e3, f3, e4, f4⟩
    have : cs = tbsV ⟨A, n, c, t⟩ ⟨B, k, q, u⟩ := by
      apply Array.toList_inj.1
      rw [hcl]
      injection e1 with e1
      injection f1 with f1
      rw [e1, f1]
      rfl
    rw [this]
end Go.Proofs.YtihfaknflfmohaaDoor

/- Layer 27 (cache): Peek. -/
namespace Go.Proofs.YtihfaknflfmohaaDoor
open Go.RowKit
set_option linter.unusedVariables false
set_option linter.unusedSimpArgs false
set_option maxRecDepth 4000
def peekB (x : Cac) (es : List Ent) (v : Int) (l : List Int) : Bool := cacB x es && decide (0 ≤ hitN es v l)
def peekE (x : Cac) (es : List Ent) (v : Int) (l : List Int) : Ent := if peekB x es v l = true then entAt es (hitN es v l).toNat else entZ
set_option maxHeartbeats 2000000 in
theorem cpeek_any (x : Cac) (es : List Ent) (v : Int) (l : List Int) (w : World) (hL : Laid w) (he : RE w x.A x.n x.c es) (oe : Oke es) (hxn : x.n ≤ 100000) (hl : B16 l) (hv : (Lit.int .i64 v).wf = true) :
    Calls Tryd.prog 36 #[.agg x.vv, .agg (adrV v l)] w fun r w' => r = .returned (.tuple #[.agg (entV (peekE x es v l)), .bool (peekB x es v l)]) ∧ Below w.heap.size w w' := by
  have hblk1 := blk_new w (.cells (x.vv) 25)
  have hbel1 : Below w.heap.size w (w.alloc (.cells (x.vv) 25)) := below_alloc (Below.refl _ _) _
  have hblk2 := blk_new (w.alloc (.cells (x.vv) 25)) (.cells (adrV v l) 31)
  have hbel2 : Below w.heap.size w ((w.alloc (.cells (x.vv) 25)).alloc (.cells (adrV v l) 31)) := below_alloc (hbel1) _
  rw [show (w.alloc (.cells (x.vv) 25)).heap.size = w.heap.size + 1 by simp] at hblk2
  replace hblk1 := blk_below hblk1 (below_alloc (Below.refl _ _) (.cells (adrV v l) 31))
  have HP1 := Lib.hid (cac_at hblk1)
  have HBK1 := Lib.hid hblk1
  have HP2 := Lib.hid (adr_at hl hblk2)
  have HBK2 := Lib.hid hblk2
  have HBE := Lib.hid hbel2
  have HL := Lib.hid (hL.below HBE.out)
  obtain ⟨cs1, hcs1⟩ : ∃ cs, x.vv = cs := ⟨_, rfl⟩
  obtain ⟨cs2, hcs2⟩ : ∃ cs, adrV v l = cs := ⟨_, rfl⟩
  simp only [hcs1, hcs2] at HBE HL HP1 HP2 HBK1 HBK2 ⊢
  have HC1 := Lib.hid hcs1
  have HC2 := Lib.hid hcs2
  clear hL hcs1 hblk1 hbel1 hcs2 hblk2 hbel2
  have HE := Lib.hid (he.below HBE.out)
  have OE := Lib.hid oe
  have hbe := run_build_ent_nil
  clear he oe
  have HZ : Hid ((((w.alloc (.cells cs1 25)).alloc (.cells cs2 31)).alloc (.cells (entV entZ) 43)).heap[w.heap.size + 2]? = some (.cells (entV entZ) 43 (0, 0))) := Lib.hid (by
    have := blk_new ((w.alloc (.cells cs1 25)).alloc (.cells cs2 31)) (.cells (entV entZ) 43)
    rw [show ((w.alloc (.cells cs1 25)).alloc (.cells cs2 31)).heap.size = w.heap.size + 2 by simp] at this
    exact this)
  have HBZ := Lib.hid (below_alloc (Below.refl ((w.alloc (.cells cs1 25)).alloc (.cells cs2 31)).heap.size ((w.alloc (.cells cs1 25)).alloc (.cells cs2 31))) (.cells (entV entZ) 43))
  go_enter Tryd.func36, Tryd.ntmps36
  go_wp2_with (first | ((with_reducible show wpList _ _ _ (Oper.mk _ (Op.load _ _) _ _ _ _ :: _) _ _); refine wpList_load_g ((HP1.out.all _ HBZ.out).cac) _ rfl rfl (by go_simp) ?_) | ((with_reducible show wpList _ _ _ (Oper.mk _ (Op.load _ _) _ _ _ _ :: _) _ _); refine wpList_load_g ((HP2.out.all _ HBZ.out).1) _ rfl rfl (by go_simp) ?_))
  refine (cplace_any x es v l _ (HE.out.below HBZ.out) OE.out hxn hl hv).mono ?_
  rintro e w2 ⟨rfl, hb2⟩
  have HB2 := Lib.hid (below_step HBZ.out hb2)
  have HZ2 := Lib.hid (blk_below HZ.out hb2)
  clear hb2 HZ HBZ
  rw [show idxE (fun e => sA e.v e.l v l) es = hitN es v l from rfl]
  obtain ⟨h, hh⟩ : ∃ h, hitN es v l = h := ⟨_, rfl⟩
  have HH := Lib.hid hh
  rw [hh]
  clear hh
  go_wp2_with (first | ((with_reducible show wpList _ _ _ (Oper.mk _ (Op.load _ _) _ _ _ _ :: _) _ _); refine wpList_load_g ((HP1.out.all _ HB2.out).cac) _ rfl rfl (by go_simp) ?_))
  refine (ccheck_any x es w2 (HL.out.below HB2.out) (HE.out.below HB2.out) OE.out hxn).mono ?_
  rintro e w3 ⟨rfl, hb3⟩
  have HB3 := Lib.hid (below_step HB2.out hb3)
  have HZ3 := Lib.hid (blk_below HZ2.out hb3)
  clear hb3 HZ2 HB2
  cases hC : cacB x es with
  | false =>
    have HF := Lib.hid (show peekB x es v l = false by unfold peekB; rw [hC]; rfl)
    rw [cacE_false hC]
    clear hC
    go_wp2_with (first | ((with_reducible show wpList _ _ _ (Oper.mk _ (Op.build _ _) _ _ _ _ :: _) _ _); refine wpList_exw rfl (exec_build 43 #[] rfl #[] rfl (hbe _)) ?_) | ((with_reducible show wpList _ _ _ (Oper.mk _ (Op.store _ _ _) _ _ _ _ :: _) _ _); refine wpList_store_blk HZ3.out 43 0 (entV entZ) (store_ent_fit entZ_fits (entV_size entZ_fits)) (info_ent entZ_fits) (entV_one _) _ _ rfl rfl rfl rfl ?_; intro w4 hg9 hs9 hb9; rw [splice_ent entZ_fits (entV_size entZ_fits)] at hb9; have H4 := Lib.hid (And.intro hg9 hb9); clear hg9 hs9 hb9))
    refine bodyPost_ret (results_c2 rfl rfl (Shape.ld entK w4 _ 0 entZ entZ_fits (cells_blk H4.out.2))) rfl ?_
    rw [HF.out, show peekE x es v l = entZ by unfold peekE; rw [if_neg (by rw [HF.out]; decide)]]
    exact ⟨rfl, below_grown (below_step HBE.out HB3.out) H4.out.1 (by omega)⟩
  | true =>
    have HCB := Lib.hid hC
    rw [cacE_true hC]
    clear hC
    have hc := hit_cases es v l
    rw [HH.out] at hc
    rcases hc with rfl | ⟨i, hi, rfl⟩
    · have HF := Lib.hid (show peekB x es v l = false by unfold peekB; rw [HH.out, HCB.out]; rfl)
      go_wp2_with (first | ((with_reducible show wpList _ _ _ (Oper.mk _ (Op.build _ _) _ _ _ _ :: _) _ _); refine wpList_exw rfl (exec_build 43 #[] rfl #[] rfl (hbe _)) ?_) | ((with_reducible show wpList _ _ _ (Oper.mk _ (Op.store _ _ _) _ _ _ _ :: _) _ _); refine wpList_store_blk HZ3.out 43 0 (entV entZ) (store_ent_fit entZ_fits (entV_size entZ_fits)) (info_ent entZ_fits) (entV_one _) _ _ rfl rfl rfl rfl ?_; intro w4 hg9 hs9 hb9; rw [splice_ent entZ_fits (entV_size entZ_fits)] at hb9; have H4 := Lib.hid (And.intro hg9 hb9); clear hg9 hs9 hb9))
      refine bodyPost_ret (results_c2 rfl rfl (Shape.ld entK w4 _ 0 entZ entZ_fits (cells_blk H4.out.2))) rfl ?_
      rw [HF.out, show peekE x es v l = entZ by unfold peekE; rw [if_neg (by rw [HF.out]; decide)]]
      exact ⟨rfl, below_grown (below_step HBE.out HB3.out) H4.out.1 (by omega)⟩
    · have hi0 : decide ((i : Int) < 0) = false := decide_eq_false (by omega)
      have hin : i < x.n := by rw [← HE.out.len]; exact hi
      have hin' : (i : Int) < x.n := by omega
      obtain ⟨b, o, hxA, hc⟩ := RS.at_ HE.out (by omega)
      have HFi := Lib.hid (RS.fits_at HE.out hin)
      have hent := (entLd_of HFi.out ((hc i hin).below HB3.out)).ent
      have hl3 := (HP1.out.all w3 HB3.out).ents
      rw [hxA] at hl3
      have HF := Lib.hid (show peekB x es v l = true by unfold peekB; rw [HH.out, HCB.out, decide_eq_true (show (0 : Int) ≤ i by omega)]; rfl)
      have HPE := Lib.hid (show peekE x es v l = entAt es i by unfold peekE; rw [if_pos HF.out, HH.out]; simp)
      clear hc hi hxA
      go_wp2_with (first | ((with_reducible show wpList _ _ _ (Oper.mk _ (Op.load _ _) _ _ _ _ :: _) _ _); refine wpList_load_g hl3 _ rfl rfl (by go_simp) ?_) | ((with_reducible show wpList _ _ _ (Oper.mk _ (Op.load _ _) _ _ _ _ :: _) _ _); refine wpList_load_g hent _ rfl rfl (by go_simp) ?_) | ((with_reducible show wpList _ _ _ (Oper.mk _ (Op.store _ _ _) _ _ _ _ :: _) _ _); refine wpList_store_blk HZ3.out 43 0 (entV (entAt es i)) (store_ent_fit HFi.out (entV_size entZ_fits)) (info_ent HFi.out) (entV_one _) _ _ rfl rfl rfl rfl ?_; intro w4 hg9 hs9 hb9; rw [splice_ent HFi.out (entV_size entZ_fits)] at hb9; have H4 := Lib.hid (And.intro hg9 hb9); clear hg9 hs9 hb9))
      refine bodyPost_ret (results_c2 rfl rfl (Shape.ld entK w4 _ 0 (entAt es i) HFi.out (cells_blk H4.out.2))) rfl ?_
      rw [HF.out, HPE.out]
      exact ⟨rfl, below_grown (below_step HBE.out HB3.out) H4.out.1 (by omega)⟩
end Go.Proofs.YtihfaknflfmohaaDoor

/- Layer 27 (cache): the law CacheStays. -/
namespace Go.Proofs.YtihfaknflfmohaaDoor
open Go.RowKit
set_option linter.unusedVariables false
set_option linter.unusedSimpArgs false
set_option maxRecDepth 4000
theorem entAt_eq {es : List Ent} {i : Nat} (hi : i < es.length) : es[i] = entAt es i := by
  have := entAt_get hi
  rw [List.getElem?_eq_getElem hi] at this
  exact Option.some.inj this
theorem entsB_iff {es : List Ent} : entsB es = true ↔ (∀ e ∈ es, entB e = true) ∧ es.Pairwise (fun a b => sameA a b = false) := by
  unfold entsB
  rw [decide_eq_true_eq, List.pairwise_iff_getElem]
  constructor
  · intro h
    refine ⟨fun e he => ?_, fun i j hi hj hij => ?_⟩
    · obtain ⟨k, hk, rfl⟩ := mem_entAt he
      exact (h k hk).1
    · rw [entAt_eq hi, entAt_eq hj]
      exact (h j hj).2 i hij
  · rintro ⟨h1, h2⟩ j hj
    refine ⟨h1 _ (List.mem_of_getElem? (entAt_get hj)), fun k hk => ?_⟩
    have := h2 k j (by omega) hj hk
    rwa [entAt_eq (by omega), entAt_eq hj] at this
theorem entsB_filter {es : List Ent} (p : Ent → Bool) (h : entsB es = true) : entsB (es.filter p) = true := by
  rw [entsB_iff] at h ⊢
  exact ⟨fun e he => h.1 e (List.mem_filter.1 he).1, h.2.filter _⟩
theorem same_unique {es : List Ent} (h : entsB es = true) {e g : Ent} (he : e ∈ es) (hg : g ∈ es) {v : Int} {l : List Int} (h1 : sA e.v e.l v l = true) (h2 : sA g.v g.l v l = true) : e = g := by
  obtain ⟨i, hi, rfl⟩ := mem_entAt he
  obtain ⟨j, hj, rfl⟩ := mem_entAt hg
  have a1 := (hit_iff h hi).1 h1
  have a2 := (hit_iff h hj).1 h2
  have : i = j := by omega
  rw [this]
/-- What CacheStays says of a lookup, a move, and a look at the place. -/
theorem stays {y z : Cac} {fs : List Ent} {a b : List Row} {tl : Ent} {v : Int} {l : List Int} {gs : List Ent} {k : Int} (htl : tl ∈ fs) (hta : sA tl.v tl.l v l = true) (hm : moveN y fs a b (y.ver + 1) = 0) (hi : MoveIs y fs a b (y.ver + 1) z gs k) (hn : z.n = gs.length) (hny : y.n = fs.length) :
    (peekB z gs v l = true → peekE z gs v l = tl) ∧ (peekB z gs v l = false → 0 < k) := by
  unfold MoveIs at hi
  rw [if_pos hm] at hi
  obtain ⟨i1, i2, i3, i4, i5, i6⟩ := hi
  have hcb : cacB y fs = true := by
    unfold moveN at hm
    cases hc : cacB y fs with
    | true => rfl
    | false => rw [hc] at hm; cases hm
  have hver : ¬ 4611686018427387904 < y.ver + 1 := by
    unfold moveN at hm
    rw [hcb] at hm
    cases ht : (tabB a && tabB b) with
    | false => rw [ht] at hm; cases hm
    | true =>
      rw [ht, if_pos rfl, if_pos rfl] at hm
      split at hm
      · cases hm
      · rename_i hh
        exact fun h => hh (.inl h)
  have hE : headB y = true ∧ entsB fs = true := by
    unfold cacB at hcb
    rwa [Bool.and_eq_true] at hcb
  have hgs : gs = fs.filter fun e => !goesB y.ver (y.ver + 1) (mrg a b) e := i3
  have hle : gs.length ≤ fs.length := by rw [hgs]; exact List.length_filter_le _ _
  constructor
  · intro hp
    unfold peekE
    rw [if_pos hp]
    unfold peekB at hp
    rw [Bool.and_eq_true, decide_eq_true_eq] at hp
    rcases hit_cases gs v l with h | ⟨i, hi, h⟩
    · have := hp.2; omega
    · rw [h]
      have hs := (hit_spec h).2.1
      have hmem : entAt gs i ∈ gs := List.mem_of_getElem? (entAt_get hi)
      rw [show ((i : Int)).toNat = i by simp]
      rw [hgs] at hmem
      exact same_unique hE.2 (by have := (List.mem_filter.1 hmem).1; rw [← hgs] at this; exact this) htl hs hta
  · intro hp
    rw [i6]
    by_cases hg : goesB y.ver (y.ver + 1) (mrg a b) tl = true
    · have : gs.length < fs.length := by
        rw [hgs, List.length_filter_lt_length_iff_exists]
        exact ⟨tl, htl, by rw [hg]; decide⟩
      omega
    · exfalso
      have hmem : tl ∈ gs := by
        rw [hgs]
        exact List.mem_filter.2 ⟨htl, by simpa using hg⟩
      have hcz : cacB z gs = true := by
        unfold cacB
        rw [Bool.and_eq_true]
        refine ⟨?_, by rw [hgs]; exact entsB_filter _ hE.2⟩
        have h1 := hE.1
        unfold headB at h1 ⊢
        rw [i1, i2, i4, i5, hn]
        rw [hny] at h1
        simp at h1 ⊢
        omega
      have hh : 0 ≤ hitN gs v l := by
        rcases hit_cases gs v l with h | ⟨i, hi, h⟩
        · obtain ⟨i, hi, he⟩ := mem_entAt hmem
          have := miss_spec h i hi
          rw [he, hta] at this
          cases this
        · omega
      unfold peekB at hp
      rw [hcz, decide_eq_true hh] at hp
      cases hp
theorem look_zero {x : Cac} {es : List Ent} {t : List Row} {v : Int} {l : List Int} (h : lookN x es t v l = 0) : cacB x es = true ∧ tabB t = true ∧ rightA v l = true := by
  unfold lookN at h
  cases hc : cacB x es with
  | false => rw [hc] at h; cases h
  | true =>
    rw [hc] at h
    cases ht : tabB t with
    | false => rw [ht] at h; cases h
    | true =>
      rw [ht] at h
      cases ha : rightA v l with
      | true => exact ⟨rfl, rfl, rfl⟩
      | false => rw [show errA v l = 150 from errA_false ha] at h; cases h
theorem cac_head {x : Cac} {es : List Ent} (h : cacB x es = true) : 1 ≤ x.room ∧ (x.n : Int) ≤ x.room ∧ x.ver ≤ 4611686018427387904 ∧ x.hits ≤ 4611686018427387904 ∧ x.misses ≤ 4611686018427387904 := by
  unfold cacB headB at h
  simp at h
  omega
theorem look_yok {x y : Cac} {es fs : List Ent} {t : List Row} {v : Int} {l : List Int} {ro : Row} {fo : Bool} (hx : x.ok) (h0 : lookN x es t v l = 0) (h : LookIs x es t v l y fs ro fo) : y.ok ∧ told es t v l ∈ fs ∧ y.ver = x.ver ∧ ro = (told es t v l).r ∧ fo = (told es t v l).f := by
  have hc := cac_head (look_zero h0).1
  unfold LookIs at h
  rw [if_pos h0] at h
  obtain ⟨q1, q2, q3, q4, q5, q6, q7⟩ := h
  have w1 := wfu hx.hits
  have w2 := wfu hx.misses
  refine ⟨⟨by rw [q1]; exact hx.room, by rw [q2]; exact hx.ver, ?_, ?_⟩, ?_, q2, q6, q7⟩
  · rw [q4]
    split
    · unfold oneMore; simp [Lit.wf, IntKind.min, IntKind.max, IntKind.bits, IntKind.signed]; omega
    · exact hx.hits
  · rw [q5]
    split
    · exact hx.misses
    · unfold oneMore; simp [Lit.wf, IntKind.min, IntKind.max, IntKind.bits, IntKind.signed]; omega
  · rw [q3]
    unfold lookL
    split
    · exact List.mem_cons_self
    · obtain ⟨R, hR⟩ : ∃ R, x.room.toNat = R + 1 := ⟨x.room.toNat - 1, by omega⟩
      rw [hR, List.take_succ_cons]
      exact List.mem_cons_self
theorem told_sA (es : List Ent) (t : List Row) (v : Int) (l : List Int) : sA (told es t v l).v (told es t v l).l v l = true := by
  unfold told
  split
  · rename_i h
    rcases hit_cases es v l with hm | ⟨j, hj, hm⟩
    · omega
    · rw [show (hitN es v l).toNat = j by omega]
      exact (hit_spec hm).2.1
  · exact sA_true.2 ⟨rfl, rfl⟩
theorem move_zero {x : Cac} {es : List Ent} {a b : List Row} {ver : Int} (h : moveN x es a b ver = 0) : tabB b = true := by
  unfold moveN at h
  cases hc : cacB x es with
  | false => rw [hc] at h; cases h
  | true =>
    rw [hc] at h
    cases ht : (tabB a && tabB b) with
    | false => rw [ht] at h; cases h
    | true => exact (Bool.and_eq_true _ _ ▸ ht).2
theorem long_zero {t : List Row} {v : Int} {l : List Int} (ht : tabB t = true) (ha : rightA v l = true) : longE t v l = 0 ∧ longRE t v l = longR t v l ∧ longBE t v l = longB t v l := by
  have h1 : longE t v l = 0 := by unfold longE; rw [ht, errA_true ha]; rfl
  unfold longRE longBE
  rw [h1]
  exact ⟨rfl, rfl, rfl⟩
theorem row_self_nexec {r : Operand → Value} {o : Oper} {x y : Operand} {ty : TypeId} (ho : o.op = .binOp .neq 38 x y ty) (p : Row) (hx : r x = .agg (rowV p)) (hy : r y = .agg (rowV p)) (hp : p.ok) (w : World) : (execOp r o).run Tryd.prog w = .ok (.value (.bool false)) w := by
  rw [row_neq_exec ho p p hx hy hp hp w, (Row.eqB_iff p p).2 rfl]
  rfl
set_option maxRecDepth 100000 in
set_option maxHeartbeats 8000000 in
theorem stays27_any (x : Cac) (es : List Ent) (a b : Tb) (v : Int) (l : List Int) (w : World) (hL : Laid w) (he : RE w x.A x.n x.c es) (oe : Oke es) (hx : x.ok) (ha : RT w a.A a.n a.c a.t) (oa : Oks a.t) (hb : RT w b.A b.n b.c b.t) (ob : Oks b.t) (hl : B16 l) (hv : (Lit.int .i64 v).wf = true) :
    Calls Tryd.prog 9 #[.agg x.vv, .agg (tbsV a b), .agg (adrV v l)] w fun r w' => r = .returned (.bool true) ∧ Below w.heap.size w w' := by
  have hblk1 := blk_new w (.cells (x.vv) 25)
  have hbel1 : Below w.heap.size w (w.alloc (.cells (x.vv) 25)) := below_alloc (Below.refl _ _) _
  have hblk2 := blk_new (w.alloc (.cells (x.vv) 25)) (.cells (tbsV a b) 75)
  have hbel2 : Below w.heap.size w ((w.alloc (.cells (x.vv) 25)).alloc (.cells (tbsV a b) 75)) := below_alloc (hbel1) _
  rw [show (w.alloc (.cells (x.vv) 25)).heap.size = w.heap.size + 1 by simp] at hblk2
  replace hblk1 := blk_below hblk1 (below_alloc (Below.refl _ _) (.cells (tbsV a b) 75))
  have hblk3 := blk_new ((w.alloc (.cells (x.vv) 25)).alloc (.cells (tbsV a b) 75)) (.cells (adrV v l) 31)
  have hbel3 : Below w.heap.size w (((w.alloc (.cells (x.vv) 25)).alloc (.cells (tbsV a b) 75)).alloc (.cells (adrV v l) 31)) := below_alloc (hbel2) _
  rw [show ((w.alloc (.cells (x.vv) 25)).alloc (.cells (tbsV a b) 75)).heap.size = w.heap.size + 2 by simp] at hblk3
  replace hblk1 := blk_below hblk1 (below_alloc (Below.refl _ _) (.cells (adrV v l) 31))
  replace hblk2 := blk_below hblk2 (below_alloc (Below.refl _ _) (.cells (adrV v l) 31))
  have HP1 := Lib.hid (cac_at hblk1)
  have HBK1 := Lib.hid hblk1
  have HP2 := Lib.hid (tbs_at hblk2)
  have HBK2 := Lib.hid hblk2
  have HP3 := Lib.hid (adr_at hl hblk3)
  have HBK3 := Lib.hid hblk3
  have HBE := Lib.hid hbel3
  have HL := Lib.hid (hL.below HBE.out)
  obtain ⟨cs1, hcs1⟩ : ∃ cs, x.vv = cs := ⟨_, rfl⟩
  obtain ⟨cs2, hcs2⟩ : ∃ cs, tbsV a b = cs := ⟨_, rfl⟩
  obtain ⟨cs3, hcs3⟩ : ∃ cs, adrV v l = cs := ⟨_, rfl⟩
  simp only [hcs1, hcs2, hcs3] at HBE HL HP1 HP2 HP3 HBK1 HBK2 HBK3 ⊢
  have HC1 := Lib.hid hcs1
  have HC2 := Lib.hid hcs2
  have HC3 := Lib.hid hcs3
  clear hL hcs1 hblk1 hbel1 hcs2 hblk2 hbel2 hcs3 hblk3 hbel3
  have HE := Lib.hid (he.below HBE.out)
  have HA := Lib.hid (ha.below HBE.out)
  have HB := Lib.hid (hb.below HBE.out)
  have OE := Lib.hid oe
  have OA := Lib.hid oa
  have OB := Lib.hid ob
  clear he ha hb oe oa ob
  go_enter Tryd.func9, Tryd.ntmps9
  go_wp2_with fail
  refine (wakes27_any _ HL.out).mono ?_
  rintro e w1 ⟨rfl, hb1⟩
  have HB1 := Lib.hid hb1
  clear hb1
  go_wp2_with (first | ((with_reducible show wpList _ _ _ (Oper.mk _ (Op.load _ _) _ _ _ _ :: _) _ _); refine wpList_load_g ((HP1.out.all _ HB1.out).cac) _ rfl rfl (by go_simp) ?_) | ((with_reducible show wpList _ _ _ (Oper.mk _ (Op.load _ _) _ _ _ _ :: _) _ _); refine wpList_load_g ((HP2.out.all _ HB1.out).1) _ rfl rfl (by go_simp) ?_) | ((with_reducible show wpList _ _ _ (Oper.mk _ (Op.load _ _) _ _ _ _ :: _) _ _); refine wpList_load_g ((HP2.out.all _ HB1.out).2) _ rfl rfl (by go_simp) ?_) | ((with_reducible show wpList _ _ _ (Oper.mk _ (Op.buildSlice _ _ _) _ _ _ _ :: _) _ _); refine wpList_exw rfl (exec_lit2 tbK (x := .tmp 24) (y := .tmp 26) rfl a b rfl rfl trivial trivial (by show 1 ≤ _; omega) _) ?_))
  have hcall := over_any x _ 2 2 [a, b] _ (OS.two tbK w1 0 a b (Nat.zero_le _) trivial trivial).reads (by omega)
  refine hcall.mono ?_
  clear hcall
  rintro e w2 ⟨rfl, hb2⟩
  rw [overB_two]
  have HB2 := Lib.hid (below_step (below_alloc HB1.out (.cells (tbK.cells [a, b]).toArray tbK.t)) hb2)
  clear hb2 HB1
  by_cases hov : (decide (100 < x.n) || (decide (200 < a.n) || decide (200 < b.n))) = true
  · rw [hov]
    go_wp2
    go_ret
    exact ⟨rfl, below_step HBE.out HB2.out⟩
  · have hof : (decide (100 < x.n) || (decide (200 < a.n) || decide (200 < b.n))) = false := by simpa using hov
    rw [hof]
    have HN : Hid (¬ 100 < x.n ∧ ¬ 200 < a.n ∧ ¬ 200 < b.n) := Lib.hid (by simpa [not_or] using hov)
    clear hov hof
    have hnn := HN.out
    go_wp2_with (first | ((with_reducible show wpList _ _ _ (Oper.mk _ (Op.load _ _) _ _ _ _ :: _) _ _); refine wpList_load_g ((HP1.out.all _ HB2.out).cac) _ rfl rfl (by go_simp) ?_) | ((with_reducible show wpList _ _ _ (Oper.mk _ (Op.load _ _) _ _ _ _ :: _) _ _); refine wpList_load_g ((HP2.out.all _ HB2.out).1) _ rfl rfl (by go_simp) ?_) | ((with_reducible show wpList _ _ _ (Oper.mk _ (Op.load _ _) _ _ _ _ :: _) _ _); refine wpList_load_g ((HP3.out.all _ HB2.out).1) _ rfl rfl (by go_simp) ?_))
    refine (clook_any x es a.A a.n a.c a.t v l w2 (HL.out.below HB2.out) (HE.out.below HB2.out) OE.out (by omega) (HA.out.below HB2.out) (by omega) hl hv hx).mono ?_
    rintro e w5 ⟨y, fs, ro, fo, rfl, hO5, hF5, hI5, hb5⟩
    obtain ⟨k1, k2, k3⟩ := look_ok OE.out OA.out hl hv hI5
    have HI5 := Lib.hid hI5
    have HFO := Lib.hid (And.intro k1 k2)
    have HFL : Hid (y.n ≤ 1000) := Lib.hid (by rw [← hO5.len]; have := HE.out.len; omega)
    have HO5 := Lib.hid hO5
    have HB5 := Lib.hid (below_step HB2.out hb5)
    obtain ⟨N, hN⟩ : ∃ N, lookN x es a.t v l = N := ⟨_, rfl⟩
    have HNN := Lib.hid hN
    rw [hN]
    clear hO5 hF5 hI5 hb5 k1 k2 k3 hN
    have hbz := blk_new (w5.alloc (.cells cacZ.vv 25)) (.cells (rowV rowZ) 38)
    rw [show (w5.alloc (.cells cacZ.vv 25)).heap.size = w5.heap.size + 1 by simp] at hbz
    have hbc := blk_below (blk_new w5 (.cells cacZ.vv 25)) (below_alloc (Below.refl _ _) (.cells (rowV rowZ) 38))
    have HB7f := Lib.hid (fun (W U : World) (h : ((w5.alloc (.cells cacZ.vv 25)).alloc (.cells (rowV rowZ) 38)).grownBy W (some w5.heap.size)) (h2 : W.grownBy U (some (w5.heap.size + 1))) => below_grown (below_grown (below_alloc (below_alloc (Below.refl w5.heap.size w5) (.cells cacZ.vv 25)) (.cells (rowV rowZ) 38)) h (Nat.le_refl _)) h2 (Nat.le_succ _))
    by_cases hN0 : N = 0
    case neg =>
      have hN0b : (N == 0) = false := by simpa using hN0
      have hyz : y = cacZ := by
        have := HI5.out
        unfold LookIs at this
        rw [if_neg (by rw [HNN.out]; exact hN0)] at this
        exact this.1
      subst hyz
      clear hN0
      go_wp2_with (first | ((with_reducible show wpList _ _ _ (Oper.mk _ (Op.store _ _ _) _ _ _ _ :: _) _ _); refine wpList_store_blk hbc 25 0 cacZ.vv (Nat.le_refl _) (info_cac _) (cac_one _) _ _ rfl rfl rfl rfl ?_; intro w6 hg9 hs9 hb9; rw [splice_cac] at hb9; have H6 := Lib.hid (And.intro hg9 hb9); clear hg9 hs9 hb9) | ((with_reducible show wpList _ _ _ (Oper.mk _ (Op.store _ _ _) _ _ _ _ :: _) _ _); refine wpList_store_blk (blk_grown hbz H6.out.1 (fun e => by injection e with e; omega)) 38 0 (rowV ro) (store_row_fit HFO.out.2.fits (rowV_size rowZ_fits)) (info_row HFO.out.2.fits) (rowV_one _) _ _ rfl rfl rfl rfl ?_; intro w7 hg9 hs9 hb9; rw [splice_row HFO.out.2.fits (rowV_size rowZ_fits)] at hb9; have H7 := Lib.hid (And.intro hg9 hb9); clear hg9 hs9 hb9) | ((with_reducible show wpList _ _ _ (Oper.mk _ (Op.load _ _) _ _ _ _ :: _) _ _); refine wpList_load_g (((cac_at (blk_grown H6.out.2 H7.out.1 (fun e => by injection e with e; omega))).all w7 (Below.refl _ _)).ents) _ rfl rfl (by go_simp) ?_))
      go_ret
      exact ⟨rfl, below_step HBE.out (below_step HB5.out (HB7f.out _ _ H6.out.1 H7.out.1))⟩
    case pos =>
      subst hN0
      obtain ⟨HYO, hmem, hyv, hro, hfo⟩ := look_yok hx HNN.out HI5.out
      have hz0 := look_zero HNN.out
      have hch := cac_head hz0.1
      have hxv := wfu hx.ver
      have hwr : IntKind.u64.wrap (y.ver + 1) = y.ver + 1 := by
        simp only [IntKind.wrap, IntKind.bits, IntKind.signed]
        simp
        omega
      have hvw : (Lit.int .u64 (y.ver + 1)).wf = true := by simp [Lit.wf, IntKind.min, IntKind.max, IntKind.bits, IntKind.signed]; omega
      have HM := Lib.hid (And.intro hmem (And.intro hro hfo))
      have HYO := Lib.hid HYO
      have HZ0 := Lib.hid hz0
      clear hmem hro hfo hz0 hch hxv hyv
      go_wp2_with (first | ((with_reducible show wpList _ _ _ (Oper.mk _ (Op.store _ _ _) _ _ _ _ :: _) _ _); refine wpList_store_blk hbc 25 0 y.vv (Nat.le_refl _) (info_cac _) (cac_one _) _ _ rfl rfl rfl rfl ?_; intro w6 hg9 hs9 hb9; rw [splice_cac] at hb9; have H6 := Lib.hid (And.intro hg9 hb9); clear hg9 hs9 hb9) | ((with_reducible show wpList _ _ _ (Oper.mk _ (Op.store _ _ _) _ _ _ _ :: _) _ _); refine wpList_store_blk (blk_grown hbz H6.out.1 (fun e => by injection e with e; omega)) 38 0 (rowV ro) (store_row_fit HFO.out.2.fits (rowV_size rowZ_fits)) (info_row HFO.out.2.fits) (rowV_one _) _ _ rfl rfl rfl rfl ?_; intro w7 hg9 hs9 hb9; rw [splice_row HFO.out.2.fits (rowV_size rowZ_fits)] at hb9; have H7 := Lib.hid (And.intro hg9 hb9); clear hg9 hs9 hb9) | ((with_reducible show wpList _ _ _ (Oper.mk _ (Op.load _ _) _ _ _ _ :: _) _ _); refine wpList_load_g (load_cac (blk_grown H6.out.2 H7.out.1 (fun e => by injection e with e; omega))) _ rfl rfl (by go_simp) ?_) | ((with_reducible show wpList _ _ _ (Oper.mk _ (Op.load _ _) _ _ _ _ :: _) _ _); refine wpList_load_g (((cac_at (blk_grown H6.out.2 H7.out.1 (fun e => by injection e with e; omega))).all w7 (Below.refl _ _)).ver) _ rfl rfl (by go_simp) ?_) | ((with_reducible show wpList _ _ _ (Oper.mk _ (Op.load _ _) _ _ _ _ :: _) _ _); refine wpList_load_g ((HP2.out.all _ (below_step HB5.out (HB7f.out _ _ H6.out.1 H7.out.1))).1) _ rfl rfl (by go_simp) ?_) | ((with_reducible show wpList _ _ _ (Oper.mk _ (Op.load _ _) _ _ _ _ :: _) _ _); refine wpList_load_g ((HP2.out.all _ (below_step HB5.out (HB7f.out _ _ H6.out.1 H7.out.1))).2) _ rfl rfl (by go_simp) ?_))
      have HB57 := Lib.hid (HB7f.out _ _ H6.out.1 H7.out.1)
      have HB7 := Lib.hid (below_step HB5.out HB57.out)
      have HR7 := Lib.hid H7.out.2
      have HY7 := Lib.hid (HO5.out.below HB57.out)
      clear hbz hbc HB7f H6 H7 HO5 hwr
      refine (cmove_any y fs a.A a.n a.c a.t b.A b.n b.c b.t (y.ver + 1) w7 (HL.out.below HB7.out) HY7.out HFO.out.1 (Nat.le_trans HFL.out (by decide)) HYO.out (HA.out.below HB7.out) OA.out (by omega) (HB.out.below HB7.out) OB.out (by omega) hvw).mono ?_
      rintro e w8 ⟨z, gs, k, rfl, hO8, hF8, hI8, hb8⟩
      obtain ⟨m1, m2⟩ := move_ok HFO.out.1 hI8
      have HI8 := Lib.hid hI8
      have HGO := Lib.hid m1
      have HO8 := Lib.hid hO8
      have HZN : Hid (z.n ≤ 1000) := Lib.hid (by rw [← hO8.len]; have := HY7.out.len; have := HFL.out; omega)
      have HB8 := Lib.hid (below_step HB7.out hb8)
      have HR8 := Lib.hid (blk_below HR7.out hb8)
      obtain ⟨M, hM⟩ : ∃ M, moveN y fs a.t b.t (y.ver + 1) = M := ⟨_, rfl⟩
      have HMM := Lib.hid hM
      rw [hM]
      clear hO8 hF8 hI8 hb8 m1 m2 hM HR7 hvw
      by_cases hM0 : M = 0
      case neg =>
        have hM0b : (M == 0) = false := by simpa using hM0
        have hk0 : k = 0 := by
          have := HI8.out
          unfold MoveIs at this
          rw [if_neg (by rw [HMM.out]; exact hM0)] at this
          exact this.2.2
        subst hk0
        clear hM0
        go_wp2_with (first | ((with_reducible show wpList _ _ _ (Oper.mk _ (Op.store _ _ _) _ _ _ _ :: _) _ _); refine wpList_store_blk (blk_new w8 (.cells cacZ.vv 25)) 25 0 z.vv (Nat.le_refl _) (info_cac _) (cac_one _) _ _ rfl rfl rfl rfl ?_; intro w9 hg9 hs9 hb9; rw [splice_cac] at hb9; have H9 := Lib.hid (And.intro hg9 hb9); clear hg9 hs9 hb9))
        go_ret
        exact ⟨rfl, below_step HBE.out (below_grown (below_alloc HB8.out (.cells cacZ.vv 25)) H9.out.1 HB8.out.size)⟩
      case pos =>
        subst hM0
        have hst := stays HM.out.1 (told_sA es a.t v l) HMM.out HI8.out HO8.out.len.symm HY7.out.len.symm
        have HST := Lib.hid hst
        have HTB := Lib.hid (move_zero HMM.out)
        clear hst
        have HB9f := Lib.hid (fun (W : World) (h : (w8.alloc (.cells cacZ.vv 25)).grownBy W (some w8.heap.size)) => below_grown (below_alloc (Below.refl w8.heap.size w8) (.cells cacZ.vv 25)) h (Nat.le_refl _))
        go_wp2_with (first | ((with_reducible show wpList _ _ _ (Oper.mk _ (Op.store _ _ _) _ _ _ _ :: _) _ _); refine wpList_store_blk (blk_new w8 (.cells cacZ.vv 25)) 25 0 z.vv (Nat.le_refl _) (info_cac _) (cac_one _) _ _ rfl rfl rfl rfl ?_; intro w9 hg9 hs9 hb9; rw [splice_cac] at hb9; have H9 := Lib.hid (And.intro hg9 hb9); clear hg9 hs9 hb9) | ((with_reducible show wpList _ _ _ (Oper.mk _ (Op.load _ _) _ _ _ _ :: _) _ _); refine wpList_load_g ((HP2.out.all _ (below_step HB8.out (HB9f.out _ H9.out.1))).1) _ rfl rfl (by go_simp) ?_) | ((with_reducible show wpList _ _ _ (Oper.mk _ (Op.load _ _) _ _ _ _ :: _) _ _); refine wpList_load_g ((HP3.out.all _ (below_step HB8.out (HB9f.out _ H9.out.1))).1) _ rfl rfl (by go_simp) ?_))
        have HB89 := Lib.hid (HB9f.out _ H9.out.1)
        have HB9 := Lib.hid (below_step HB8.out HB89.out)
        have HZ9 := Lib.hid H9.out.2
        have HR9 := Lib.hid (blk_below HR8.out HB89.out)
        have HO9 := Lib.hid (HO8.out.below HB89.out)
        clear HB9f H9 HR8 HO8
        refine (tlongest_any a.A a.n a.c a.t v l w9 (HL.out.below HB9.out) (HA.out.below HB9.out) hl (by omega)).mono ?_
        rintro e w10 ⟨rfl, hb10⟩
        have lz := long_zero HZ0.out.2.1 HZ0.out.2.2
        rw [lz.1, lz.2.1, lz.2.2]
        clear lz
        have HR1 := Lib.hid (longR_okk OA.out v l)
        obtain ⟨R1, hR1⟩ : ∃ R, longR a.t v l = R := ⟨_, rfl⟩
        rw [hR1] at HR1 ⊢
        have HB10 := Lib.hid (below_step HB9.out hb10)
        have HZ10 := Lib.hid (blk_below HZ9.out hb10)
        have HR10 := Lib.hid (blk_below HR9.out hb10)
        have HO10 := Lib.hid (HO9.out.below hb10)
        clear hb10 hR1 HZ9 HR9 HO9
        have HB11f := Lib.hid (fun (W : World) (h : (w10.alloc (.cells (rowV rowZ) 38)).grownBy W (some w10.heap.size)) => below_grown (below_alloc (Below.refl w10.heap.size w10) (.cells (rowV rowZ) 38)) h (Nat.le_refl _))
        go_wp2_with (first | ((with_reducible show wpList _ _ _ (Oper.mk _ (Op.store _ _ _) _ _ _ _ :: _) _ _); refine wpList_store_blk (blk_new w10 _) 38 0 (rowV R1) (store_row_fit HR1.out.fits rfl) (info_row HR1.out.fits) (rowV_one _) _ _ rfl rfl rfl rfl ?_; intro w11 hg9 hs9 hb9; rw [splice_row HR1.out.fits rfl] at hb9; have H11 := Lib.hid (And.intro hg9 hb9); clear hg9 hs9 hb9) | ((with_reducible show wpList _ _ _ (Oper.mk _ (Op.load _ _) _ _ _ _ :: _) _ _); refine wpList_load_g ((HP2.out.all _ (below_step HB10.out (HB11f.out _ H11.out.1))).2) _ rfl rfl (by go_simp) ?_) | ((with_reducible show wpList _ _ _ (Oper.mk _ (Op.load _ _) _ _ _ _ :: _) _ _); refine wpList_load_g ((HP3.out.all _ (below_step HB10.out (HB11f.out _ H11.out.1))).1) _ rfl rfl (by go_simp) ?_))
        have HB1011 := Lib.hid (HB11f.out _ H11.out.1)
        have HB11 := Lib.hid (below_step HB10.out HB1011.out)
        have HX11 := Lib.hid H11.out.2
        have HZ11 := Lib.hid (blk_below HZ10.out HB1011.out)
        have HR11 := Lib.hid (blk_below HR10.out HB1011.out)
        have HO11 := Lib.hid (HO10.out.below HB1011.out)
        clear HB11f H11 HZ10 HR10 HO10
        refine (tlongest_any b.A b.n b.c b.t v l w11 (HL.out.below HB11.out) (HB.out.below HB11.out) hl (by omega)).mono ?_
        rintro e w12 ⟨rfl, hb12⟩
        have lz := long_zero HTB.out HZ0.out.2.2
        rw [lz.1, lz.2.1, lz.2.2]
        clear lz
        have HR2 := Lib.hid (longR_okk OB.out v l)
        obtain ⟨R2, hR2⟩ : ∃ R, longR b.t v l = R := ⟨_, rfl⟩
        rw [hR2] at HR2 ⊢
        have HB12 := Lib.hid (below_step HB11.out hb12)
        have HX12 := Lib.hid (blk_below HX11.out hb12)
        have HZ12 := Lib.hid (blk_below HZ11.out hb12)
        have HR12 := Lib.hid (blk_below HR11.out hb12)
        have HO12 := Lib.hid (HO11.out.below hb12)
        clear hb12 hR2 HX11 HZ11 HR11 HO11
        have HB13f := Lib.hid (fun (W : World) (h : (w12.alloc (.cells (rowV rowZ) 38)).grownBy W (some w12.heap.size)) => below_grown (below_alloc (Below.refl w12.heap.size w12) (.cells (rowV rowZ) 38)) h (Nat.le_refl _))
        go_wp2_with (first | ((with_reducible show wpList _ _ _ (Oper.mk _ (Op.store _ _ _) _ _ _ _ :: _) _ _); refine wpList_store_blk (blk_new w12 _) 38 0 (rowV R2) (store_row_fit HR2.out.fits rfl) (info_row HR2.out.fits) (rowV_one _) _ _ rfl rfl rfl rfl ?_; intro w13 hg9 hs9 hb9; rw [splice_row HR2.out.fits rfl] at hb9; have H13 := Lib.hid (And.intro hg9 hb9); clear hg9 hs9 hb9) | ((with_reducible show wpList _ _ _ (Oper.mk _ (Op.load _ _) _ _ _ _ :: _) _ _); refine wpList_load_g (load_cac (blk_below HZ12.out (HB13f.out _ H13.out.1))) _ rfl rfl (by go_simp) ?_) | ((with_reducible show wpList _ _ _ (Oper.mk _ (Op.load _ _) _ _ _ _ :: _) _ _); refine wpList_load_g ((HP3.out.all _ (below_step HB12.out (HB13f.out _ H13.out.1))).1) _ rfl rfl (by go_simp) ?_))
        have HB1213 := Lib.hid (HB13f.out _ H13.out.1)
        have HB13 := Lib.hid (below_step HB12.out HB1213.out)
        have HV13 := Lib.hid H13.out.2
        have HX13 := Lib.hid (blk_below HX12.out HB1213.out)
        have HR13 := Lib.hid (blk_below HR12.out HB1213.out)
        have HO13 := Lib.hid (HO12.out.below HB1213.out)
        clear HB13f H13 HX12 HZ12 HR12 HO12
        refine (cpeek_any z gs v l w13 (HL.out.below HB13.out) HO13.out HGO.out (Nat.le_trans HZN.out (by decide)) hl hv).mono ?_
        rintro e w14 ⟨rfl, hb14⟩
        have HB14 := Lib.hid (below_step HB13.out hb14)
        have HV14 := Lib.hid (blk_below HV13.out hb14)
        have HX14 := Lib.hid (blk_below HX13.out hb14)
        have HR14 := Lib.hid (blk_below HR13.out hb14)
        clear hb14 HV13 HX13 HR13 HO13
        have hro := HM.out.2.1
        have hfo := HM.out.2.2
        have htok := HFO.out.1 _ HM.out.1
        have hst := HST.out
        obtain ⟨tl, htl⟩ : ∃ tl, told es a.t v l = tl := ⟨_, rfl⟩
        rw [htl] at hro hfo htok hst
        have HTK := Lib.hid htok
        have HRT : Hid (w14.heap[w5.heap.size + 1]? = some (.cells (rowV tl.r) 38 (0, 0))) := Lib.hid (by rw [← hro]; exact HR14.out)
        rw [hfo]
        cases hp : peekB z gs v l with
        | true =>
          rw [hst.1 hp]
          clear hro hfo htok hst htl hp
          go_upto_region 14 with (first | ((with_reducible show wpList _ _ _ (Oper.mk _ (Op.store _ _ _) _ _ _ _ :: _) _ _); refine wpList_store_blk (blk_new w14 _) 43 0 (entV tl) (store_ent_fit HTK.out.fits rfl) (info_ent HTK.out.fits) (entV_one _) _ _ rfl rfl rfl rfl ?_; intro w15 hg9 hs9 hb9; rw [splice_ent HTK.out.fits rfl] at hb9; have H15 := Lib.hid (And.intro hg9 hb9); clear hg9 hs9 hb9))
          have HB1415 := Lib.hid (below_grown (below_alloc (Below.refl w14.heap.size w14) (.cells (entV entZ) 43)) H15.out.1 (Nat.le_refl _))
          have hlr := ((ent_at HTK.out.fits H15.out.2).all _ (Below.refl _ _)).row.row
          have hlf := (ent_at HTK.out.fits H15.out.2).found _ (Below.refl _ _)
          have hl8 := Shape.ld rowK w15 _ 0 _ HTK.out.r.fits (cells_blk (blk_below HRT.out HB1415.out))
          go_wp2_with (first | ((with_reducible show wpList _ _ _ (Oper.mk _ (Op.load _ _) _ _ _ _ :: _) _ _); refine wpList_load_g hlr _ rfl rfl (by go_simp) ?_) | ((with_reducible show wpList _ _ _ (Oper.mk _ (Op.load _ _) _ _ _ _ :: _) _ _); refine wpList_load_g hlf _ rfl rfl (by go_simp) ?_) | ((with_reducible show wpList _ _ _ (Oper.mk _ (Op.load _ _) _ _ _ _ :: _) _ _); refine wpList_load_g hl8 _ rfl rfl (by go_simp) ?_) | ((with_reducible show wpList _ _ _ (Oper.mk _ (Op.binOp _ _ _ _ _) _ _ _ _ :: _) _ _); refine wpList_exw rfl (row_self_nexec rfl tl.r rfl rfl HTK.out.r _) ?_))
          go_ret
          exact ⟨rfl, below_step HBE.out (below_step HB14.out HB1415.out)⟩
        | false =>
          have hk := hst.2 hp
          have hkb : decide (0 < k) = true := decide_eq_true hk
          rw [show peekE z gs v l = entZ by unfold peekE; rw [if_neg (by rw [hp]; decide)]]
          clear hro hfo htok hst htl hp hk
          go_upto_region 14 with (first | ((with_reducible show wpList _ _ _ (Oper.mk _ (Op.store _ _ _) _ _ _ _ :: _) _ _); refine wpList_store_blk (blk_new w14 _) 43 0 (entV entZ) (store_ent_fit entZ_fits rfl) (info_ent entZ_fits) (entV_one _) _ _ rfl rfl rfl rfl ?_; intro w15 hg9 hs9 hb9; rw [splice_ent entZ_fits rfl] at hb9; have H15 := Lib.hid (And.intro hg9 hb9); clear hg9 hs9 hb9))
          have HB1415 := Lib.hid (below_grown (below_alloc (Below.refl w14.heap.size w14) (.cells (entV entZ) 43)) H15.out.1 (Nat.le_refl _))
          have hl13 := Shape.ld rowK w15 _ 0 _ HR1.out.fits (cells_blk (blk_below HX14.out HB1415.out))
          have hl15 := Shape.ld rowK w15 _ 0 _ HR2.out.fits (cells_blk (blk_below HV14.out HB1415.out))
          have hex := fun (r : Operand → Value) (o : Oper) (x y : Operand) (ty : TypeId) (ho : o.op = .binOp .neq 38 x y ty) (hx : r x = .agg (rowV R1)) (hy : r y = .agg (rowV R2)) (w : World) => row_neq_exec ho R1 R2 hx hy HR1.out HR2.out w
          cases hq : R1.eqB R2 with
          | true =>
            rw [hq] at hex
            have HEX := Lib.hid hex
            clear hq hex
            go_wp2_with (first | ((with_reducible show wpList _ _ _ (Oper.mk _ (Op.load _ _) _ _ _ _ :: _) _ _); refine wpList_load_g hl13 _ rfl rfl (by go_simp) ?_) | ((with_reducible show wpList _ _ _ (Oper.mk _ (Op.load _ _) _ _ _ _ :: _) _ _); refine wpList_load_g hl15 _ rfl rfl (by go_simp) ?_) | ((with_reducible show wpList _ _ _ (Oper.mk _ (Op.binOp _ _ _ _ _) _ _ _ _ :: _) _ _); refine wpList_exw rfl (HEX.out _ _ _ _ _ rfl rfl rfl _) ?_))
            go_ret
            exact ⟨rfl, below_step HBE.out (below_step HB14.out HB1415.out)⟩
          | false =>
            rw [hq] at hex
            have HEX := Lib.hid hex
            clear hq hex
            go_wp2_with (first | ((with_reducible show wpList _ _ _ (Oper.mk _ (Op.load _ _) _ _ _ _ :: _) _ _); refine wpList_load_g hl13 _ rfl rfl (by go_simp) ?_) | ((with_reducible show wpList _ _ _ (Oper.mk _ (Op.load _ _) _ _ _ _ :: _) _ _); refine wpList_load_g hl15 _ rfl rfl (by go_simp) ?_) | ((with_reducible show wpList _ _ _ (Oper.mk _ (Op.binOp _ _ _ _ _) _ _ _ _ :: _) _ _); refine wpList_exw rfl (HEX.out _ _ _ _ _ rfl rfl rfl _) ?_))
            go_ret
            exact ⟨rfl, below_step HBE.out (below_step HB14.out HB1415.out)⟩
end Go.Proofs.YtihfaknflfmohaaDoor

/- The walk of CacheStays, as the row asks it. -/
namespace Go.Proofs.YtihfaknflfmohaaDoor
open Go.RowKit
set_option linter.unusedVariables false
set_option linter.unusedSimpArgs false
set_option maxRecDepth 4000
theorem cacheStays_walk (x : Cac) (es : List Ent) (a b : Tb) (v : Int) (l : List Int) (w : World) (hL : Laid w) (he : RE w x.A x.n x.c es) (oe : Oke es) (hx : x.ok) (hy : x.n * 72 ≤ 140737488351232) (ha : RT w a.A a.n a.c a.t) (hb : RT w b.A b.n b.c b.t) (oa : Oks a.t) (ob : Oks b.t) (ya : a.n * 40 ≤ 140737488351232) (yb : b.n * 40 ≤ 140737488351232) (hl : B16 l) (hv : (Lit.int .i64 v).wf = true) : Calls Tryd.prog 9 #[.agg x.vv, .agg (tbsV a b), .agg (adrV v l)] w fun e w' => e = .returned (.bool true) ∧ Below w.heap.size w w' := stays27_any x es a b v l w hL he oe hx ha oa hb ob hl hv
end Go.Proofs.YtihfaknflfmohaaDoor
