/- Layer 27 (cache): the document's Move. -/
import Derived.Test.YtihfaknflfmohaaDoorCacheMovesE
import Derived.Test.YtihfaknflfmohaaDoorCacheMovesG
namespace Go.Proofs.YtihfaknflfmohaaDoor
open Go.RowKit
set_option linter.unusedVariables false
set_option linter.unusedSimpArgs false
set_option maxRecDepth 4000
theorem goes_of {was ver : Int} {ds : List Pfx} {e : Ent} (h : was < ver) : (decide (1 < ver - was) || ds.any fun p => p.has e.v e.l) = goesB was ver ds e := by
  unfold goesB
  congr 1
  rw [decide_eq_decide]
  omega
theorem any_take {α : Type} {S : Shape α} {q : α → Bool} {t : List α} {k : Nat} (h : k < t.length) : (t.take (k + 1)).any q = ((t.take k).any q || q (S.at_ t k)) := by
  rw [Shape.take_succ (S := S) h, List.any_append]
  simp
set_option maxRecDepth 100000 in
set_option maxHeartbeats 8000000 in
theorem refmove_any (x : Cac) (es : List Ent) (A : Option Addr) (n c : Nat) (a : List Row) (A2 : Option Addr) (m c2 : Nat) (b : List Row) (ver : Int) (w : World) (hre : RE w x.A x.n x.c es) (oe : Oke es) (hxn : x.n ≤ 100000) (hx : x.ok) (ha : RT w A n c a) (oa : Oks a) (hn : n ≤ 1000) (hb : RT w A2 m c2 b) (ob : Oks b) (hm : m ≤ 1000) (hv : (Lit.int .u64 ver).wf = true) :
    Calls Tryd.prog 39 #[.agg x.vv, .agg (tabV A n c), .agg (tabV A2 m c2), .int .u64 ver] w fun r w' => ∃ y fs k, r = .returned (.tuple #[.agg (Cac.vv y), .int .i64 k, .int .i64 (moveN x es a b ver)]) ∧ RE w' y.A y.n y.c fs ∧ MoveIs x es a b ver y fs k ∧ Below w.heap.size w w' := by
  have hblk1 := blk_new w (.cells (x.vv) 25)
  have hbel1 : Below w.heap.size w (w.alloc (.cells (x.vv) 25)) := below_alloc (Below.refl _ _) _
  have hblk2 := blk_new (w.alloc (.cells (x.vv) 25)) (.cells (tabV A n c) 28)
  have hbel2 : Below w.heap.size w ((w.alloc (.cells (x.vv) 25)).alloc (.cells (tabV A n c) 28)) := below_alloc (hbel1) _
  rw [show (w.alloc (.cells (x.vv) 25)).heap.size = w.heap.size + 1 by simp] at hblk2
  replace hblk1 := blk_below hblk1 (below_alloc (Below.refl _ _) (.cells (tabV A n c) 28))
  have hblk3 := blk_new ((w.alloc (.cells (x.vv) 25)).alloc (.cells (tabV A n c) 28)) (.cells (tabV A2 m c2) 28)
  have hbel3 : Below w.heap.size w (((w.alloc (.cells (x.vv) 25)).alloc (.cells (tabV A n c) 28)).alloc (.cells (tabV A2 m c2) 28)) := below_alloc (hbel2) _
  rw [show ((w.alloc (.cells (x.vv) 25)).alloc (.cells (tabV A n c) 28)).heap.size = w.heap.size + 2 by simp] at hblk3
  replace hblk1 := blk_below hblk1 (below_alloc (Below.refl _ _) (.cells (tabV A2 m c2) 28))
  replace hblk2 := blk_below hblk2 (below_alloc (Below.refl _ _) (.cells (tabV A2 m c2) 28))
  have HP1 := Lib.hid (cac_at hblk1)
  have HBK1 := Lib.hid hblk1
  have HP2 := Lib.hid (tab_at hblk2)
  have HBK2 := Lib.hid hblk2
  have HP3 := Lib.hid (tab_at hblk3)
  have HBK3 := Lib.hid hblk3
  have HBE := Lib.hid hbel3
  obtain ⟨cs1, hcs1⟩ : ∃ cs, x.vv = cs := ⟨_, rfl⟩
  obtain ⟨cs2, hcs2⟩ : ∃ cs, tabV A n c = cs := ⟨_, rfl⟩
  obtain ⟨cs3, hcs3⟩ : ∃ cs, tabV A2 m c2 = cs := ⟨_, rfl⟩
  simp only [hcs1, hcs2, hcs3] at HBE HP1 HP2 HP3 HBK1 HBK2 HBK3 ⊢
  have HC1 := Lib.hid hcs1
  have HC2 := Lib.hid hcs2
  have HC3 := Lib.hid hcs3
  clear hcs1 hblk1 hbel1 hcs2 hblk2 hbel2 hcs3 hblk3 hbel3
  have HE := Lib.hid (hre.below HBE.out)
  have H1 := Lib.hid (ha.below HBE.out)
  have H2 := Lib.hid (hb.below HBE.out)
  have OE := Lib.hid oe
  have OA := Lib.hid oa
  have OB := Lib.hid ob
  have hbc := run_build_cac_nil
  clear hre ha hb oe oa ob
  obtain ⟨W0, hW0⟩ : ∃ W0, W0 = (((w.alloc (.cells cs1 25)).alloc (.cells cs2 28)).alloc (.cells cs3 28)) := ⟨_, rfl⟩
  have hs0 : W0.heap.size = w.heap.size + 3 := by rw [hW0]; simp
  have HBW : Hid (Below W0.heap.size W0 (W0.alloc (.cells cacZ.vv 25))) := Lib.hid (below_alloc (Below.refl _ _) _)
  have HG8 : Hid ((W0.alloc (.cells cacZ.vv 25)).heap[w.heap.size + 3]? = some (.cells cacZ.vv 25 (0, 0))) := Lib.hid (by
    rw [← hs0]
    exact blk_new W0 _)
  clear hs0
  subst hW0
  go_enter Tryd.func39, Tryd.ntmps39
  go_wp2_with (first | ((with_reducible show wpList _ _ _ (Oper.mk _ (Op.load _ _) _ _ _ _ :: _) _ _); refine wpList_load_g ((HP1.out.all _ (below_alloc (Below.refl _ _) _)).cac) _ rfl rfl (by go_simp) ?_))
  have hcall := refcright_any x es _ (HE.out.below HBW.out) OE.out hxn
  refine hcall.mono ?_
  clear hcall
  rintro e w1 ⟨rfl, hb1⟩
  have HB1 := Lib.hid (below_step HBW.out hb1)
  have HR1 := Lib.hid (blk_below HG8.out hb1)
  clear hb1 HG8 HBW
  cases hC : cacB x es with
  | false =>
    have HN := Lib.hid (show moveN x es a b ver = 370 by unfold moveN; rw [hC]; rfl)
    clear hC
    go_wp2_with (first | ((with_reducible show wpList _ _ _ (Oper.mk _ (Op.build _ _) _ _ _ _ :: _) _ _); refine wpList_exw rfl (exec_build 25 #[] rfl #[] rfl (hbc _)) ?_) | ((with_reducible show wpList _ _ _ (Oper.mk _ (Op.store _ _ _) _ _ _ _ :: _) _ _); refine wpList_store_blk HR1.out 25 0 cacZ.vv (Nat.le_refl _) (info_cac _) (cac_one _) _ _ rfl rfl rfl rfl ?_; intro w8 hg9 hs9 hb9; rw [splice_cac] at hb9; have H8 := Lib.hid (And.intro hg9 hb9); clear hg9 hs9 hb9))
    refine bodyPost_ret (results_c3 rfl rfl (load_cac H8.out.2)) rfl ?_
    exact ⟨cacZ, [], 0, by rw [HN.out]; rfl, RS.nil _ _ _ _, moveIs_err (by rw [HN.out]; decide), below_grown (below_step HBE.out HB1.out) H8.out.1 (by omega)⟩
  | true =>
    have HCB := Lib.hid hC
    clear hC
    go_wp2_with (first | ((with_reducible show wpList _ _ _ (Oper.mk _ (Op.load _ _) _ _ _ _ :: _) _ _); refine wpList_load_g ((HP2.out.all w1 HB1.out).1) _ rfl rfl (by go_simp) ?_))
    refine (refRight_any A n c a w1 (H1.out.below HB1.out) OA.out (by omega)).mono ?_
    rintro e w2 ⟨rfl, hb2⟩
    have HB2 := Lib.hid (below_step HB1.out hb2)
    have HR2 := Lib.hid (blk_below HR1.out hb2)
    clear hb2 HR1 HB1
    cases hRa : tabB a with
    | false =>
      have HN := Lib.hid (show moveN x es a b ver = 190 by unfold moveN; rw [HCB.out, hRa]; rfl)
      clear hRa
      go_wp2_with (first | ((with_reducible show wpList _ _ _ (Oper.mk _ (Op.build _ _) _ _ _ _ :: _) _ _); refine wpList_exw rfl (exec_build 25 #[] rfl #[] rfl (hbc _)) ?_) | ((with_reducible show wpList _ _ _ (Oper.mk _ (Op.store _ _ _) _ _ _ _ :: _) _ _); refine wpList_store_blk HR2.out 25 0 cacZ.vv (Nat.le_refl _) (info_cac _) (cac_one _) _ _ rfl rfl rfl rfl ?_; intro w8 hg9 hs9 hb9; rw [splice_cac] at hb9; have H8 := Lib.hid (And.intro hg9 hb9); clear hg9 hs9 hb9))
      refine bodyPost_ret (results_c3 rfl rfl (load_cac H8.out.2)) rfl ?_
      exact ⟨cacZ, [], 0, by rw [HN.out]; rfl, RS.nil _ _ _ _, moveIs_err (by rw [HN.out]; decide), below_grown (below_step HBE.out HB2.out) H8.out.1 (by omega)⟩
    | true =>
      have HRA := Lib.hid hRa
      clear hRa
      go_wp2_with (first | ((with_reducible show wpList _ _ _ (Oper.mk _ (Op.load _ _) _ _ _ _ :: _) _ _); refine wpList_load_g ((HP3.out.all w2 HB2.out).1) _ rfl rfl (by go_simp) ?_))
      refine (refRight_any A2 m c2 b w2 (H2.out.below HB2.out) OB.out (by omega)).mono ?_
      rintro e w3 ⟨rfl, hb3⟩
      have HB3 := Lib.hid (below_step HB2.out hb3)
      have HR3 := Lib.hid (blk_below HR2.out hb3)
      clear hb3 HR2 HB2
      cases hRb : tabB b with
      | false =>
        have HN := Lib.hid (show moveN x es a b ver = 190 by unfold moveN; rw [HCB.out, HRA.out, hRb]; rfl)
        clear hRb
        go_wp2_with (first | ((with_reducible show wpList _ _ _ (Oper.mk _ (Op.build _ _) _ _ _ _ :: _) _ _); refine wpList_exw rfl (exec_build 25 #[] rfl #[] rfl (hbc _)) ?_) | ((with_reducible show wpList _ _ _ (Oper.mk _ (Op.store _ _ _) _ _ _ _ :: _) _ _); refine wpList_store_blk HR3.out 25 0 cacZ.vv (Nat.le_refl _) (info_cac _) (cac_one _) _ _ rfl rfl rfl rfl ?_; intro w8 hg9 hs9 hb9; rw [splice_cac] at hb9; have H8 := Lib.hid (And.intro hg9 hb9); clear hg9 hs9 hb9))
        refine bodyPost_ret (results_c3 rfl rfl (load_cac H8.out.2)) rfl ?_
        exact ⟨cacZ, [], 0, by rw [HN.out]; rfl, RS.nil _ _ _ _, moveIs_err (by rw [HN.out]; decide), below_grown (below_step HBE.out HB3.out) H8.out.1 (by omega)⟩
      | true =>
        have HRB := Lib.hid hRb
        clear hRb
        have HK3 : Hid (w3.heap[w.heap.size]? = some (.cells x.vv 25 (0, 0))) := Lib.hid (blk_below (by rw [HC1.out]; exact HBK1.out) HB3.out)
        by_cases hv1 : 4611686018427387904 < ver
        · have hv1b : decide (4611686018427387904 < ver) = true := decide_eq_true hv1
          have HN := Lib.hid (show moveN x es a b ver = 2 by unfold moveN; rw [HCB.out, show (tabB a && tabB b) = true by rw [HRA.out, HRB.out]; rfl, if_pos rfl, if_pos rfl, if_pos (.inl hv1)])
          clear hv1
          go_wp2_with (first | ((with_reducible show wpList _ _ _ (Oper.mk _ (Op.build _ _) _ _ _ _ :: _) _ _); refine wpList_exw rfl (exec_build 25 #[] rfl #[] rfl (hbc _)) ?_) | ((with_reducible show wpList _ _ _ (Oper.mk _ (Op.store _ _ _) _ _ _ _ :: _) _ _); refine wpList_store_blk HR3.out 25 0 cacZ.vv (Nat.le_refl _) (info_cac _) (cac_one _) _ _ rfl rfl rfl rfl ?_; intro w8 hg9 hs9 hb9; rw [splice_cac] at hb9; have H8 := Lib.hid (And.intro hg9 hb9); clear hg9 hs9 hb9))
          refine bodyPost_ret (results_c3 rfl rfl (load_cac H8.out.2)) rfl ?_
          exact ⟨cacZ, [], 0, by rw [HN.out]; rfl, RS.nil _ _ _ _, moveIs_err (by rw [HN.out]; decide), below_grown (below_step HBE.out HB3.out) H8.out.1 (by omega)⟩
        · have hv1b : decide (4611686018427387904 < ver) = false := decide_eq_false hv1
          have hcell : w3.cell? ⟨w.heap.size, 1, none⟩ = some (.int .u64 x.ver) := by rw [blk_cell HK3.out]; rfl
          by_cases hv2 : ver ≤ x.ver
          · have hv2b : decide (ver ≤ x.ver) = true := decide_eq_true hv2
            have HN := Lib.hid (show moveN x es a b ver = 2 by unfold moveN; rw [HCB.out, show (tabB a && tabB b) = true by rw [HRA.out, HRB.out]; rfl, if_pos rfl, if_pos rfl, if_pos (.inr hv2)])
            clear hv1 hv2
            go_wp2_with (first | ((with_reducible show wpList _ _ _ (Oper.mk _ (Op.build _ _) _ _ _ _ :: _) _ _); refine wpList_exw rfl (exec_build 25 #[] rfl #[] rfl (hbc _)) ?_) | ((with_reducible show wpList _ _ _ (Oper.mk _ (Op.store _ _ _) _ _ _ _ :: _) _ _); refine wpList_store_blk HR3.out 25 0 cacZ.vv (Nat.le_refl _) (info_cac _) (cac_one _) _ _ rfl rfl rfl rfl ?_; intro w8 hg9 hs9 hb9; rw [splice_cac] at hb9; have H8 := Lib.hid (And.intro hg9 hb9); clear hg9 hs9 hb9))
            refine bodyPost_ret (results_c3 rfl rfl (load_cac H8.out.2)) rfl ?_
            exact ⟨cacZ, [], 0, by rw [HN.out]; rfl, RS.nil _ _ _ _, moveIs_err (by rw [HN.out]; decide), below_grown (below_step HBE.out HB3.out) H8.out.1 (by omega)⟩
          · have hv2b : decide (ver ≤ x.ver) = false := decide_eq_false hv2
            have HN := Lib.hid (show moveN x es a b ver = 0 by unfold moveN; rw [HCB.out, show (tabB a && tabB b) = true by rw [HRA.out, HRB.out]; rfl, if_pos rfl, if_pos rfl, if_neg (by omega)])
            have HVV := Lib.hid (And.intro hv1 hv2)
            clear hv1 hv2
            go_wp2_with (first | ((with_reducible show wpList _ _ _ (Oper.mk _ (Op.load _ _) _ _ _ _ :: _) _ _); refine wpList_load_g ((HP2.out.all w3 HB3.out).1) _ rfl rfl (by go_simp) ?_) | ((with_reducible show wpList _ _ _ (Oper.mk _ (Op.load _ _) _ _ _ _ :: _) _ _); refine wpList_load_g ((HP3.out.all w3 HB3.out).1) _ rfl rfl (by go_simp) ?_))
            refine (refdiffer_any A n c a A2 m c2 b w3 (H1.out.below HB3.out) (H2.out.below HB3.out) OA.out OB.out (tabB_to HRA.out).2.2 (tabB_to HRB.out).2.2 hn hm).mono ?_
            rintro e w4 ⟨A5, n5, c5, rfl, hO4, hb4⟩
            have hTa := Tab.of (RT.fits H1.out) HRA.out
            have hTb := Tab.of (RT.fits H2.out) HRB.out
            rw [difR_mrg hTa hTb] at hO4
            have HO4 := Lib.hid hO4.reads
            have HMO : Hid (∀ p ∈ mrg a b, p.ok) := Lib.hid (fun p hp => by
              obtain ⟨r, hr, rfl⟩ := (mrg_spec a b hTa hTb).2.1 p hp
              rcases hr with hr | hr
              · exact (OA.out r hr).p
              · exact (OB.out r hr).p)
            have HB4 := Lib.hid (below_step HB3.out hb4)
            have HR4 := Lib.hid (blk_below HR3.out hb4)
            have HK4 := Lib.hid (blk_below HK3.out hb4)
            have HEL := Lib.hid HE.out.len
            have HNL : Hid (n5 ≤ 2000) := Lib.hid (by
              rw [← HO4.out.len]
              have := mrg_len a b
              rw [H1.out.len, H2.out.len] at this
              omega)
            have hxo := wfu hx.ver
            have hvo := wfu hv
            have hgt : x.ver < ver := by have := HVV.out; omega
            have hwr : IntKind.u64.wrap (ver - x.ver) = ver - x.ver := by
              simp only [IntKind.wrap, IntKind.bits, IntKind.signed]
              simp
              omega
            clear hO4 hb4 hTa hTb HR3 HK3 HB3 hcell
            go_wp2_with fail
            go_loopw [12, 13] (fun s12 s13 wr => ∃ (i no co : Nat) (Ao : Option Addr), s13 = .int .i64 i ∧ s12 = .slice Ao no co ∧ Hid (i ≤ x.n ∧ OS entK wr w4.heap.size Ao no co ((es.take i).filter fun e => !goesB x.ver ver (mrg a b) e) ∧ Below w4.heap.size w4 wr)) (fun _ y _ => x.n - (intOf y).toNat)
            case atStart => exact ⟨0, 0, 0, none, rfl, rfl, Nat.zero_le _, OS.nil _ _ _, Below.refl _ _⟩
            case round =>
              obtain ⟨i, no, co, Ao, rfl, rfl, HI⟩ := hrel
              have HBI := Lib.hid (below_step HB4.out HI.out.2.2)
              have hl3 := (HP1.out.all wr HBI.out).ents
              have hlv := (HP1.out.all wr HBI.out).ver
              by_cases hlt : i < x.n
              · have hlt' : (i : Int) < x.n := by omega
                obtain ⟨b3, o3, hxA, hc⟩ := RS.at_ HE.out (by omega)
                have HXA := Lib.hid hxA
                have HC := Lib.hid (hc i hlt)
                have HF := Lib.hid (RS.fits_at HE.out hlt)
                have hil : i < es.length := by rw [HEL.out]; exact hlt
                have HSTEP := Lib.hid (filter_step (S := entK) (p := fun e => !goesB x.ver ver (mrg a b) e) (t := es) (j := i) hil)
                have HOE := Lib.hid (OE.out.at_ hil)
                rw [hxA] at hl3
                clear hc hxA hil
                go_wp2_with (first | ((with_reducible show wpList _ _ _ (Oper.mk _ (Op.load _ _) _ _ _ _ :: _) _ _); refine wpList_load_g hl3 _ rfl rfl (by go_simp) ?_) | ((with_reducible show wpList _ _ _ (Oper.mk _ (Op.load _ _) _ _ _ _ :: _) _ _); refine wpList_load_g hlv _ rfl rfl (by go_simp) ?_))
                obtain ⟨v8, rfl⟩ : ∃ v8, v8 = wr := ⟨wr, rfl⟩
                go_loopw [14, 15] (fun s14 s15 wk => ∃ (k : Nat) (fl : Bool), s15 = .int .i64 k ∧ s14 = .bool fl ∧ Hid (k ≤ n5 ∧ fl = (decide (1 < ver - x.ver) || ((mrg a b).take k).any fun p => p.has (entAt es i).v (entAt es i).l) ∧ Below v8.heap.size v8 wk)) (fun _ y _ => n5 - (intOf y).toNat)
                case atStart => exact ⟨0, _, rfl, rfl, Nat.zero_le _, by simp, Below.refl _ _⟩
                case round =>
                  obtain ⟨k, fl, rfl, rfl, HK⟩ := hrel
                  have HBK := Lib.hid (below_step HBI.out HK.out.2.2)
                  have HB4K := Lib.hid (below_step HI.out.2.2 HK.out.2.2)
                  by_cases hkn : k < n5
                  · have hkn' : (k : Int) < n5 := by omega
                    have hn5 := HNL.out
                    obtain ⟨b5, o5, rfl, hc5⟩ := RS.at_ HO4.out (by omega)
                    have HC5 := Lib.hid (hc5 k hkn)
                    have HF5 := Lib.hid (RS.fits_at HO4.out hkn)
                    have hkl : k < (mrg a b).length := by rw [HO4.out.len]; exact hkn
                    have HPO := Lib.hid (HMO.out _ (List.mem_of_getElem? (Shape.at_get (S := pfxK) hkl)))
                    have HANY := Lib.hid (any_take (S := pfxK) (q := fun p => p.has (entAt es i).v (entAt es i).l) hkl)
                    clear hc5 hkl
                    go_wp2_with fail
                    refine wp_region_mix (fun w0 => Below (wr).heap.size (wr) w0) [(0, 0), (1, 0), (2, 0), (3, 0), (4, 0), (5, 0), (6, 0), (7, 0), (8, 0), (9, 0), (10, 2)] (by kernel_rfl) (by kernel_rfl) (below_drew1 _) ?_
                    simp only [List.map_cons, List.map_nil]
                    iterate 3 (refine wpO_step0 rfl rfl (fun K hK => ?_); go_simp; refine hK _ _ ?_; clear hK K)
                    refine wpO_loadW (t := 36) (ad := ⟨b5, (o5+k*18), none⟩) rfl rfl ?hw rfl rfl ((fun w0 hS => Shape.ld pfxK w0 b5 _ _ HF5.out (HC5.out.below (below_step HB4K.out hS)))) ?_
                    case hw => go_simp
                    iterate 1 (refine wpO_step0 rfl rfl (fun K hK => ?_); go_simp; refine hK _ _ ?_; clear hK K)
                    refine wpO_loadW (t := 23) (ad := ⟨w.heap.size, 2, none⟩) rfl rfl ?hw rfl rfl ((fun w0 hS => by have := (HP1.out.all w0 (below_step HBK.out hS)).ents; rwa [HXA.out] at this)) ?_
                    case hw => go_simp
                    iterate 3 (refine wpO_step0 rfl rfl (fun K hK => ?_); go_simp; refine hK _ _ ?_; clear hK K)
                    refine wpO_loadW (t := 31) (ad := ⟨b3, (o3+i*37), none⟩) rfl rfl ?hw rfl rfl ((fun w0 hS => (entLd_of HF.out (HC.out.below (below_step HBK.out hS))).adr)) ?_
                    case hw => go_simp
                    refine wpO_step2 rfl rfl (below_drew1 _) (fun K hK => ?_)
                    go_simp
                    refine (refhas_any (pfxK.at_ (mrg a b) k) (entAt es i).v (entAt es i).l _ HF5.out HF.out.l (wf_i64 HPO.out.b).2).mono ?_
                    rintro e w9 ⟨rfl, hb9⟩
                    have HB9 := Lib.hid (below_step (below_drew1 _) hb9)
                    clear hb9
                    refine hK _ _ ⟨HB9.out, ?_⟩
                    clear hK K
                    refine wpO_nil ?_
                    cases hh : (pfxK.at_ (mrg a b) k).has (entAt es i).v (entAt es i).l with
                    | true =>
                      have HH := Lib.hid hh
                      clear hh
                      go_wp2_with fail
                      go_roundw
                      case measure => simp [intOf]; omega
                      case rel => exact ⟨k + 1, true, by go_num, rfl, by omega, by rw [HANY.out, HH.out, Bool.or_true, Bool.or_true], below_step HK.out.2.2 HB9.out⟩
                    | false =>
                      have HH := Lib.hid hh
                      clear hh
                      go_wp2_with fail
                      go_roundw
                      case measure => simp [intOf]; omega
                      case rel => exact ⟨k + 1, fl, by go_num, rfl, by omega, by rw [HANY.out, HH.out, Bool.or_false]; exact HK.out.2.1, below_step HK.out.2.2 HB9.out⟩
                  · have hkn' : decide (k < n5) = false := decide_eq_false hkn
                    have hfl : fl = goesB x.ver ver (mrg a b) (entAt es i) := by
                      rw [HK.out.2.1, ← goes_of hgt]
                      have hk5 : k = (mrg a b).length := by rw [HO4.out.len]; have := HK.out.1; omega
                      rw [hk5, List.take_length]
                    have HFL := Lib.hid hfl
                    have HOW := Lib.hid (HI.out.2.1.below HK.out.2.2)
                    have hl3 := (HP1.out.all wr HBK.out).ents
                    rw [HXA.out] at hl3
                    have hent := (entLd_of HF.out (HC.out.below HBK.out)).ent
                    have hno : no ≤ 100000 := by
                      rw [← HOW.out.len]
                      have h1 := List.length_filter_le (fun e => !goesB x.ver ver (mrg a b) e) (es.take i)
                      rw [List.length_take] at h1
                      have h2 := HEL.out
                      omega
                    clear hfl hkn
                    cases fl with
                    | true =>
                      have HST : Hid ((es.take (i + 1)).filter (fun e => !goesB x.ver ver (mrg a b) e) = (es.take i).filter (fun e => !goesB x.ver ver (mrg a b) e)) := Lib.hid (by rw [HSTEP.out, if_neg (by show ¬ (!goesB x.ver ver (mrg a b) (entAt es i)) = true; rw [← HFL.out]; decide), List.append_nil])
                      go_wp2_with fail
                      go_roundw
                      case measure => simp [intOf]; omega
                      case rel => exact ⟨i + 1, no, co, Ao, by go_num, rfl, by omega, by rw [HST.out]; exact HOW.out, HB4K.out⟩
                    | false =>
                      have HST : Hid ((es.take (i + 1)).filter (fun e => !goesB x.ver ver (mrg a b) e) = (es.take i).filter (fun e => !goesB x.ver ver (mrg a b) e) ++ [entAt es i]) := Lib.hid (by rw [HSTEP.out, if_pos (by show (!goesB x.ver ver (mrg a b) (entAt es i)) = true; rw [← HFL.out]; rfl)])
                      go_wp2_with (first | ((with_reducible show wpList _ _ _ (Oper.mk _ (Op.load _ _) _ _ _ _ :: _) _ _); refine wpList_load_g hl3 _ rfl rfl (by go_simp) ?_) | ((with_reducible show wpList _ _ _ (Oper.mk _ (Op.load _ _) _ _ _ _ :: _) _ _); refine wpList_load_g hent _ rfl rfl (by go_simp) ?_) | ((with_reducible show wpList _ _ _ (Oper.mk _ (Op.buildSlice _ _ _) _ _ _ _ :: _) _ _); refine wpList_exw rfl (exec_lit1 entK (x := .tmp 78) rfl (entAt es i) rfl HF.out (by show 37 ≤ _; omega) _) ?_) | (at_builtin; refine wpList_append_shp entK rfl (.tmp 73) (.tmp 79) rfl rfl rfl (OS.below HOW.out (below_alloc (Below.refl _ _) _)) (OS.one entK wr 0 (entAt es i) (Nat.zero_le _) HF.out).reads (by have := HB4K.out.size; simp only [World.alloc, Array.size_push]; omega) (by omega) ?_; intro A9 c9 w9 h1 h2 h3; have H9 := Lib.hid (And.intro h1 (And.intro h2 h3)); clear h1 h2 h3))
                      go_roundw
                      case measure => simp [intOf]; omega
                      case rel =>
                        have hbase := HOW.out.base_
                        exact ⟨i + 1, no + 1, c9, A9, by go_num, rfl, by omega, by rw [HST.out]; exact H9.out.1, below_own (below_alloc HB4K.out _) H9.out.2.1 hbase⟩
              · have hlt' : decide (i < x.n) = false := decide_eq_false hlt
                have hin : i = es.length := by rw [HEL.out]; have := HI.out.1; omega
                have HOW : Hid (OS entK wr w4.heap.size Ao no co (movedL x es a b ver)) := Lib.hid (by
                  have := HI.out.2.1
                  rwa [hin, List.take_length] at this)
                have HK5 := Lib.hid (blk_below HK4.out HI.out.2.2)
                have HR5 := Lib.hid (blk_below HR4.out HI.out.2.2)
                have hs4 := blk_lt HR4.out
                have hno : no ≤ x.n := by
                  rw [← HOW.out.len, ← HEL.out]
                  exact List.length_filter_le _ _
                have HKD : Hid ((x.n : Int) - no = (es.length : Int) - (movedL x es a b ver).length) := Lib.hid (by rw [HEL.out, HOW.out.len])
                obtain ⟨kd, hkd⟩ : ∃ kd : Int, (x.n : Int) - no = kd := ⟨_, rfl⟩
                have hwk : IntKind.i64.wrap ((x.n : Int) - no) = kd := by rw [hkd]; exact IntWalk.i64_in _ (by omega)
                rw [hkd] at HKD
                clear hin hlt hkd hno hwr hgt
                go_wp2_with (first | ((with_reducible show wpList _ _ _ (Oper.mk _ (Op.load _ _) _ _ _ _ :: _) _ _); refine wpList_load_g hl3 _ rfl rfl (by go_simp) ?_) | ((with_reducible show wpList _ _ _ (Oper.mk _ (Op.store _ _ _) _ _ _ _ :: _) _ _); refine wpList_store_cell HK5.out 23 2 (.slice Ao no co) (by show 2 < 5; omega) (by kernel_rfl) rfl rfl _ _ rfl rfl rfl rfl ?_; intro w6 hg9 hs9 hb9; have H6 := Lib.hid (And.intro hg9 (show (World.heap w6)[(w.heap.size)]? = some (.cells (Cac.vv ⟨x.room, x.ver, Ao, no, co, x.hits, x.misses⟩) 25 (0, 0)) from hb9)); clear hg9 hs9 hb9) | ((with_reducible show wpList _ _ _ (Oper.mk _ (Op.store _ _ _) _ _ _ _ :: _) _ _); refine wpList_store_cell H6.out.2 22 1 (.int .u64 ver) (by show 1 < 5; omega) (by kernel_rfl) rfl rfl _ _ rfl rfl rfl rfl ?_; intro w7 hg9 hs9 hb9; have H7 := Lib.hid (And.intro hg9 (show (World.heap w7)[(w.heap.size)]? = some (.cells (Cac.vv ⟨x.room, ver, Ao, no, co, x.hits, x.misses⟩) 25 (0, 0)) from hb9)); clear hg9 hs9 hb9) | ((with_reducible show wpList _ _ _ (Oper.mk _ (Op.load _ _) _ _ _ _ :: _) _ _); refine wpList_load_g (load_cac H7.out.2) _ rfl rfl (by go_simp) ?_) | ((with_reducible show wpList _ _ _ (Oper.mk _ (Op.store _ _ _) _ _ _ _ :: _) _ _); refine wpList_store_blk (blk_grown (blk_grown HR5.out H6.out.1 (by simp)) H7.out.1 (by simp)) 25 0 (Cac.mk x.room ver Ao no co x.hits x.misses).vv (Nat.le_refl _) (info_cac _) (cac_one _) _ _ rfl rfl rfl rfl ?_; intro w8 hg9 hs9 hb9; rw [splice_cac] at hb9; have H8 := Lib.hid (And.intro hg9 hb9); clear hg9 hs9 hb9))
                refine bodyPost_ret (results_c3 rfl rfl (load_cac H8.out.2)) rfl ?_
                have hob := HOW.out.base_
                refine ⟨⟨x.room, ver, Ao, no, co, x.hits, x.misses⟩, movedL x es a b ver, kd, by rw [HN.out]; rfl, ?_, ?_, below_grown (below_grown (below_grown (below_step HBE.out HBI.out) H6.out.1 (by omega)) H7.out.1 (by omega)) H8.out.1 (by omega)⟩
                · exact ((HOW.out.reads.grown H6.out.1 (fun ad e h => by injection h with h; have := hob ad e; omega)).grown H7.out.1 (fun ad e h => by injection h with h; have := hob ad e; omega)).grown H8.out.1 (fun ad e h => by injection h with h; have := hob ad e; omega)
                · unfold MoveIs
                  rw [if_pos HN.out]
                  exact ⟨rfl, rfl, rfl, rfl, rfl, HKD.out⟩
end Go.Proofs.YtihfaknflfmohaaDoor

/- Layer 27 (cache): a pair of tables; the law CacheMoves. -/
namespace Go.Proofs.YtihfaknflfmohaaDoor
open Go.RowKit
set_option linter.unusedVariables false
set_option linter.unusedSimpArgs false
set_option maxRecDepth 4000
def tbsV (a b : Tb) : Array Value := #[.slice a.A a.n a.c, .slice b.A b.n b.c]
structure TbsAt (w : World) (g : Nat) (a b : Tb) : Prop where
  all : ∀ w0, Below w.heap.size w w0 → (Instr.loadAt 28 (.pointer (some ⟨g, 0, none⟩))).run Tryd.prog w0 = .ok (.agg (tabV a.A a.n a.c)) w0 ∧ (Instr.loadAt 28 (.pointer (some ⟨g, 1, none⟩))).run Tryd.prog w0 = .ok (.agg (tabV b.A b.n b.c)) w0
theorem tbs_at {w : World} {g : Nat} {a b : Tb} (h : w.heap[g]? = some (.cells (tbsV a b) 75 (0, 0))) : TbsAt w g a b := by
  refine ⟨fun w0 hb => ?_⟩
  have h0 := cells_blk (blk_below h hb)
  have h1 : CellsAt w0 g 0 (tabV a.A a.n a.c).toList := CellsAt.left (ys := [.slice b.A b.n b.c]) h0
  have h2 : CellsAt w0 g 1 (tabV b.A b.n b.c).toList := CellsAt.right (xs := [.slice a.A a.n a.c]) (o := 0) h0
  exact ⟨load_cells h1 Tryd.underlying28 rfl (info_tab _ _ _), load_cells h2 Tryd.underlying28 rfl (info_tab _ _ _)⟩
theorem overB_two (n : Nat) (y z : Tb) : overB n [y, z] = (decide (100 < n) || (decide (200 < y.n) || decide (200 < z.n))) := by simp [overB]
theorem move_same {x y z : Cac} {es fs gs : List Ent} {a b : List Row} {ver k q : Int} (h : MoveIs x es a b ver y fs k) (j : MoveIs x es a b ver z gs q) : (y.room = z.room ∧ y.ver = z.ver ∧ y.hits = z.hits ∧ y.misses = z.misses ∧ fs = gs) ∧ k = q := by
  unfold MoveIs at h j
  split at h
  · rename_i hc
    rw [if_pos hc] at j
    obtain ⟨h1, h2, h3, h4, h5, h6⟩ := h
    obtain ⟨k1, k2, k3, k4, k5, k6⟩ := j
    refine ⟨⟨h1.trans k1.symm, h2.trans k2.symm, h4.trans k4.symm, h5.trans k5.symm, h3.trans k3.symm⟩, ?_⟩
    rw [h6, k6, h3, k3]
  · rename_i hc
    rw [if_neg hc] at j
    obtain ⟨rfl, rfl, rfl⟩ := h
    obtain ⟨rfl, rfl, rfl⟩ := j
    exact ⟨⟨rfl, rfl, rfl, rfl, rfl⟩, rfl⟩
theorem move_ok {x y : Cac} {es fs : List Ent} {a b : List Row} {ver k : Int} (oe : Oke es) (h : MoveIs x es a b ver y fs k) : Oke fs ∧ fs.length ≤ es.length := by
  unfold MoveIs at h
  split at h
  · obtain ⟨_, _, h3, _⟩ := h
    rw [h3]
    exact ⟨fun e he => oe e (List.mem_filter.1 he).1, List.length_filter_le _ _⟩
  · obtain ⟨_, h2, _⟩ := h
    rw [h2]
    exact ⟨fun e he => (by cases he), Nat.zero_le _⟩
set_option maxRecDepth 100000 in
set_option maxHeartbeats 8000000 in
theorem moves27_any (x : Cac) (es : List Ent) (a b : Tb) (ver : Int) (w : World) (hL : Laid w) (he : RE w x.A x.n x.c es) (oe : Oke es) (hx : x.ok) (ha : RT w a.A a.n a.c a.t) (oa : Oks a.t) (hb : RT w b.A b.n b.c b.t) (ob : Oks b.t) (hv : (Lit.int .u64 ver).wf = true) :
    Calls Tryd.prog 8 #[.agg x.vv, .agg (tbsV a b), .int .u64 ver] w fun r w' => r = .returned (.bool true) ∧ Below w.heap.size w w' := by
  have hblk1 := blk_new w (.cells (x.vv) 25)
  have hbel1 : Below w.heap.size w (w.alloc (.cells (x.vv) 25)) := below_alloc (Below.refl _ _) _
  have hblk2 := blk_new (w.alloc (.cells (x.vv) 25)) (.cells (tbsV a b) 75)
  have hbel2 : Below w.heap.size w ((w.alloc (.cells (x.vv) 25)).alloc (.cells (tbsV a b) 75)) := below_alloc (hbel1) _
  rw [show (w.alloc (.cells (x.vv) 25)).heap.size = w.heap.size + 1 by simp] at hblk2
  replace hblk1 := blk_below hblk1 (below_alloc (Below.refl _ _) (.cells (tbsV a b) 75))
  have HP1 := Lib.hid (cac_at hblk1)
  have HBK1 := Lib.hid hblk1
  have HP2 := Lib.hid (tbs_at hblk2)
  have HBK2 := Lib.hid hblk2
  have HBE := Lib.hid hbel2
  have HL := Lib.hid (hL.below HBE.out)
  obtain ⟨cs1, hcs1⟩ : ∃ cs, x.vv = cs := ⟨_, rfl⟩
  obtain ⟨cs2, hcs2⟩ : ∃ cs, tbsV a b = cs := ⟨_, rfl⟩
  simp only [hcs1, hcs2] at HBE HL HP1 HP2 HBK1 HBK2 ⊢
  have HC1 := Lib.hid hcs1
  have HC2 := Lib.hid hcs2
  clear hL hcs1 hblk1 hbel1 hcs2 hblk2 hbel2
  have HE := Lib.hid (he.below HBE.out)
  have HA := Lib.hid (ha.below HBE.out)
  have HB := Lib.hid (hb.below HBE.out)
  have OE := Lib.hid oe
  have OA := Lib.hid oa
  have OB := Lib.hid ob
  clear he ha hb oe oa ob
  go_enter Tryd.func8, Tryd.ntmps8
  go_wp2_with fail
  refine (wakes27_any _ HL.out).mono ?_
  rintro e w1 ⟨rfl, hb1⟩
  have HB1 := Lib.hid hb1
  clear hb1
  go_wp2_with (first | ((with_reducible show wpList _ _ _ (Oper.mk _ (Op.load _ _) _ _ _ _ :: _) _ _); refine wpList_load_g ((HP1.out.all _ HB1.out).cac) _ rfl rfl (by go_simp) ?_) | ((with_reducible show wpList _ _ _ (Oper.mk _ (Op.load _ _) _ _ _ _ :: _) _ _); refine wpList_load_g ((HP2.out.all _ HB1.out).1) _ rfl rfl (by go_simp) ?_) | ((with_reducible show wpList _ _ _ (Oper.mk _ (Op.load _ _) _ _ _ _ :: _) _ _); refine wpList_load_g ((HP2.out.all _ HB1.out).2) _ rfl rfl (by go_simp) ?_) | ((with_reducible show wpList _ _ _ (Oper.mk _ (Op.buildSlice _ _ _) _ _ _ _ :: _) _ _); refine wpList_exw rfl (exec_lit2 tbK (x := .tmp 18) (y := .tmp 20) rfl a b rfl rfl trivial trivial (by show 1 ≤ _; omega) _) ?_))
  have hcall := over_any x _ 2 2 [a, b] _ (OS.two tbK w1 0 a b (Nat.zero_le _) trivial trivial).reads (by omega)
  refine hcall.mono ?_
  clear hcall
  rintro e w2 ⟨rfl, hb2⟩
  rw [overB_two]
  have HB2 := Lib.hid (below_step (below_alloc HB1.out (.cells (tbK.cells [a, b]).toArray tbK.t)) hb2)
  clear hb2 HB1
  by_cases hov : (decide (100 < x.n) || (decide (200 < a.n) || decide (200 < b.n))) = true
  · rw [hov]
    go_wp2
    go_ret
    exact ⟨rfl, below_step HBE.out HB2.out⟩
  · have hof : (decide (100 < x.n) || (decide (200 < a.n) || decide (200 < b.n))) = false := by simpa using hov
    rw [hof]
    have HN : Hid (¬ 100 < x.n ∧ ¬ 200 < a.n ∧ ¬ 200 < b.n) := Lib.hid (by simpa [not_or] using hov)
    clear hov hof
    have hnn := HN.out
    go_wp2_with (first | ((with_reducible show wpList _ _ _ (Oper.mk _ (Op.load _ _) _ _ _ _ :: _) _ _); refine wpList_load_g ((HP1.out.all _ HB2.out).cac) _ rfl rfl (by go_simp) ?_))
    refine (copiedC_any x es w2 (HE.out.below HB2.out) (by omega)).mono ?_
    rintro e w3 ⟨A3, c3, rfl, hO3, hb3⟩
    have HO3 := Lib.hid hO3.reads
    have HB3 := Lib.hid (below_step HB2.out hb3)
    clear hO3 hb3 HB2
    have HB4f := Lib.hid (fun (W : World) (h : (w3.alloc (.cells cacZ.vv 25)).grownBy W (some w3.heap.size)) => below_grown (below_alloc HB3.out (.cells cacZ.vv 25)) h HB3.out.size)
    go_wp2_with (first | ((with_reducible show wpList _ _ _ (Oper.mk _ (Op.store _ _ _) _ _ _ _ :: _) _ _); refine wpList_store_blk (blk_new w3 (.cells cacZ.vv 25)) 25 0 (Cac.mk x.room x.ver A3 x.n c3 x.hits x.misses).vv (Nat.le_refl _) (info_cac _) (cac_one _) _ _ rfl rfl rfl rfl ?_; intro w4 hg9 hs9 hb9; rw [splice_cac] at hb9; have H4 := Lib.hid (And.intro hg9 hb9); clear hg9 hs9 hb9) | ((with_reducible show wpList _ _ _ (Oper.mk _ (Op.load _ _) _ _ _ _ :: _) _ _); refine wpList_load_g (load_cac H4.out.2) _ rfl rfl (by go_simp) ?_) | ((with_reducible show wpList _ _ _ (Oper.mk _ (Op.load _ _) _ _ _ _ :: _) _ _); refine wpList_load_g ((HP2.out.all _ (HB4f.out _ H4.out.1)).1) _ rfl rfl (by go_simp) ?_) | ((with_reducible show wpList _ _ _ (Oper.mk _ (Op.load _ _) _ _ _ _ :: _) _ _); refine wpList_load_g ((HP2.out.all _ (HB4f.out _ H4.out.1)).2) _ rfl rfl (by go_simp) ?_))
    have HB4 := Lib.hid (HB4f.out _ H4.out.1)
    have HO4 : Hid (RE w4 A3 x.n c3 es) := Lib.hid (RS.grownN HO3.out (HO3.out.below (below_alloc (Below.refl _ _) (.cells cacZ.vv 25))) H4.out.1 (Nat.le_refl _))
    clear HB4f HO3
    have hxo : (Cac.mk x.room x.ver A3 x.n c3 x.hits x.misses).ok := ⟨hx.room, hx.ver, hx.hits, hx.misses⟩
    refine (cmove_any (Cac.mk x.room x.ver A3 x.n c3 x.hits x.misses) es a.A a.n a.c a.t b.A b.n b.c b.t ver w4 (HL.out.below HB4.out) HO4.out OE.out (by show x.n ≤ _; omega) hxo (HA.out.below HB4.out) OA.out (by omega) (HB.out.below HB4.out) OB.out (by omega) hv).mono ?_
    rintro e w5 ⟨y, fs, kk, rfl, hO5, hF5, hI5, hb5⟩
    have hI5 : MoveIs x es a.t b.t ver y fs kk := hI5
    obtain ⟨k1, k2⟩ := move_ok OE.out hI5
    have HI5 := Lib.hid hI5
    have HFO := Lib.hid k1
    have HFL : Hid (y.n ≤ 1000) := Lib.hid (by rw [← hO5.len]; have := HO4.out.len; omega)
    have HO5 := Lib.hid hO5
    have HB5 := Lib.hid (below_step HB4.out hb5)
    have HC5 := Lib.hid (blk_below H4.out.2 hb5)
    have HP5 := Lib.hid (HO4.out.below hb5)
    rw [show moveN (Cac.mk x.room x.ver A3 x.n c3 x.hits x.misses) es a.t b.t ver = moveN x es a.t b.t ver from rfl]
    obtain ⟨N, hN⟩ : ∃ N, moveN x es a.t b.t ver = N := ⟨_, rfl⟩
    have HNN := Lib.hid hN
    rw [hN]
    clear hO5 hF5 hI5 hb5 k1 k2 hN H4
    have HB6f := Lib.hid (fun (W : World) (h : (w5.alloc (.cells cacZ.vv 25)).grownBy W (some w5.heap.size)) => below_grown (below_alloc (Below.refl w5.heap.size w5) (.cells cacZ.vv 25)) h (Nat.le_refl _))
    go_wp2_with (first | ((with_reducible show wpList _ _ _ (Oper.mk _ (Op.store _ _ _) _ _ _ _ :: _) _ _); refine wpList_store_blk (blk_new w5 (.cells cacZ.vv 25)) 25 0 y.vv (Nat.le_refl _) (info_cac _) (cac_one _) _ _ rfl rfl rfl rfl ?_; intro w6 hg9 hs9 hb9; rw [splice_cac] at hb9; have H6 := Lib.hid (And.intro hg9 hb9); clear hg9 hs9 hb9) | ((with_reducible show wpList _ _ _ (Oper.mk _ (Op.load _ _) _ _ _ _ :: _) _ _); refine wpList_load_g ((HP1.out.all _ (below_step HB5.out (HB6f.out _ H6.out.1))).cac) _ rfl rfl (by go_simp) ?_) | ((with_reducible show wpList _ _ _ (Oper.mk _ (Op.load _ _) _ _ _ _ :: _) _ _); refine wpList_load_g ((HP2.out.all _ (below_step HB5.out (HB6f.out _ H6.out.1))).1) _ rfl rfl (by go_simp) ?_) | ((with_reducible show wpList _ _ _ (Oper.mk _ (Op.load _ _) _ _ _ _ :: _) _ _); refine wpList_load_g ((HP2.out.all _ (below_step HB5.out (HB6f.out _ H6.out.1))).2) _ rfl rfl (by go_simp) ?_))
    have HB56 := Lib.hid (HB6f.out _ H6.out.1)
    have HB6 := Lib.hid (below_step HB5.out HB56.out)
    have HG6 := Lib.hid H6.out.2
    have HC6 := Lib.hid (blk_below HC5.out HB56.out)
    have HY6 := Lib.hid (HO5.out.below HB56.out)
    have HP6 := Lib.hid (HP5.out.below HB56.out)
    clear HB6f H6 HC5 HO5 HP5
    refine (refmove_any x es a.A a.n a.c a.t b.A b.n b.c b.t ver w6 (HE.out.below HB6.out) OE.out (by omega) hx (HA.out.below HB6.out) OA.out (by omega) (HB.out.below HB6.out) OB.out (by omega) hv).mono ?_
    rintro e w7 ⟨z, gs, kz, rfl, hO7, hI7, hb7⟩
    obtain ⟨k1, k2⟩ := move_same HI5.out hI7
    rw [HNN.out, ← k2]
    have HSM := Lib.hid (cacSame_iff.2 k1)
    have HO7 := Lib.hid hO7
    have HZL : Hid (z.n ≤ 1000) := Lib.hid (by rw [← hO7.len, ← k1.2.2.2.2, HY6.out.len]; exact HFL.out)
    have HZO : Hid (Oke gs) := Lib.hid (by rw [← k1.2.2.2.2]; exact HFO.out)
    have HB7 := Lib.hid (below_step HB6.out hb7)
    have HG7 := Lib.hid (blk_below HG6.out hb7)
    have HC7 := Lib.hid (blk_below HC6.out hb7)
    have HY7 := Lib.hid (HY6.out.below hb7)
    have HP7 := Lib.hid (HP6.out.below hb7)
    clear hO7 hI7 hb7 k1 k2 HG6 HC6 HY6 HP6
    go_upto_region 8 with (first | ((with_reducible show wpList _ _ _ (Oper.mk _ (Op.store _ _ _) _ _ _ _ :: _) _ _); refine wpList_store_blk (blk_new w7 (.cells cacZ.vv 25)) 25 0 z.vv (Nat.le_refl _) (info_cac _) (cac_one _) _ _ rfl rfl rfl rfl ?_; intro w8 hg9 hs9 hb9; rw [splice_cac] at hb9; have H8 := Lib.hid (And.intro hg9 hb9); clear hg9 hs9 hb9))
    have HB78 := Lib.hid (below_grown (below_alloc (Below.refl w7.heap.size w7) (.cells cacZ.vv 25)) H8.out.1 (Nat.le_refl _))
    have HB8 := Lib.hid (below_step HB7.out HB78.out)
    have hy8 := load_cac (blk_below HG7.out HB78.out)
    have hz8 := load_cac H8.out.2
    go_wp2_with (first | ((with_reducible show wpList _ _ _ (Oper.mk _ (Op.load _ _) _ _ _ _ :: _) _ _); refine wpList_load_g hy8 _ rfl rfl (by go_simp) ?_) | ((with_reducible show wpList _ _ _ (Oper.mk _ (Op.load _ _) _ _ _ _ :: _) _ _); refine wpList_load_g hz8 _ rfl rfl (by go_simp) ?_))
    refine (refcsame_any y fs z gs w8 (HY7.out.below HB78.out) (HO7.out.below HB78.out) HFO.out HZO.out (Nat.le_trans HFL.out (by decide)) (Nat.le_trans HZL.out (by decide))).mono ?_
    rintro e w9 ⟨rfl, hb9⟩
    rw [HSM.out]
    have HB9 := Lib.hid (below_step HB8.out hb9)
    have HP9 := Lib.hid ((HP7.out.below HB78.out).below hb9)
    have hc7 := load_cac (blk_below (blk_below HC7.out HB78.out) hb9)
    clear hb9 hy8 hz8
    go_wp2_with (first | ((with_reducible show wpList _ _ _ (Oper.mk _ (Op.load _ _) _ _ _ _ :: _) _ _); refine wpList_load_g hc7 _ rfl rfl (by go_simp) ?_) | ((with_reducible show wpList _ _ _ (Oper.mk _ (Op.load _ _) _ _ _ _ :: _) _ _); refine wpList_load_g ((HP1.out.all _ HB9.out).cac) _ rfl rfl (by go_simp) ?_))
    have hsame : cacSame (Cac.mk x.room x.ver A3 x.n c3 x.hits x.misses) es x es = true := cacSame_iff.2 ⟨rfl, rfl, rfl, rfl, rfl⟩
    refine (refcsame_any (Cac.mk x.room x.ver A3 x.n c3 x.hits x.misses) es x es w9 HP9.out (HE.out.below HB9.out) OE.out OE.out (by show x.n ≤ _; omega) (by omega)).mono ?_
    rintro e w10 ⟨rfl, hb10⟩
    rw [hsame]
    have HB10 := Lib.hid (below_step HB9.out hb10)
    clear hb10 hc7
    go_wp2
    go_ret
    exact ⟨rfl, below_step HBE.out HB10.out⟩
end Go.Proofs.YtihfaknflfmohaaDoor

/- Arguments that are pairs of tables, opened. -/
namespace Go.Proofs.YtihfaknflfmohaaDoor
open Go.ChangeShapes Go.WideShapes Go.ChangeAt Go.RowKit
set_option linter.unusedVariables false
set_option linter.unusedSimpArgs false
set_option maxRecDepth 4000
theorem open_tbs {H : Type} {enc : TypeId × Value → H} {W : World} {base b0 : Nat} {spare : Nat → Bool} {held : Bool} {v : Value} {d : DataW H} {p : List MemPlace} (hv : Value.okWide Tryd.prog W .any b0 75 v)
    (h : DataW.Trod enc Tryd.prog W base spare held 75 v d p) (hl : Light Tryd.prog 75 d) : ∃ a b : Tb, v = .agg (tbsV a b) ∧ RT W a.A a.n a.c a.t ∧ RT W b.A b.n b.c b.t ∧ Oks a.t ∧ Oks b.t ∧ a.n * 40 ≤ 140737488351232 ∧ b.n * 40 ≤ 140737488351232 := by
  obtain ⟨cs, rfl, -⟩ := okWide_struct Tryd.underlying75 hv
  obtain ⟨fuel, hf⟩ := h
  have hf : DataW.trod enc Tryd.prog W base spare held fuel 75 cs.toList = some (d, p) := hf
  obtain ⟨xs, m, -, hx, hlen, hxl, hg⟩ := DataW.trod_struct Tryd.underlying75 hf
  have c1 : Tryd.prog.cellsOf 28 = 1 := by kernel_rfl
  have c3 : Tryd.prog.cellsOf 75 = 2 := by kernel_rfl
  have h0 : DataW.trod enc Tryd.prog W base spare held m 28 ((cs.toList.drop 0).take (Tryd.prog.cellsOf 28)) = xs[0]? := hg 0 _ rfl
  have h1 : DataW.trod enc Tryd.prog W base spare held m 28 ((cs.toList.drop 1).take (Tryd.prog.cellsOf 28)) = xs[1]? := hg 1 _ rfl
  rw [c3] at hlen
  rw [c1] at h0 h1
  have hx2 : xs.length = 2 := hxl
  have hd : d = .agg (xs.map (·.1)) := congrArg Prod.fst hx
  subst hd
  obtain ⟨cl, hcl⟩ : ∃ cl, cs.toList = cl := ⟨_, rfl⟩
  rw [hcl] at h0 h1 hlen
  match cl, hlen, xs, hx2 with
  | [d0, d1], _, [x0, x1], _ =>
    have hl0 : Light Tryd.prog 28 x0.1 := light_field Tryd.underlying75 hl (i := 0) (f := _) rfl rfl
    have hl1 : Light Tryd.prog 28 x1.1 := light_field Tryd.underlying75 hl (i := 1) (f := _) rfl rfl
    obtain ⟨A, n, c, t, e1, e2, e3, e4⟩ := open_tab_cells (show DataW.trod enc Tryd.prog W base spare held m 28 [d0] = some x0 from h0) hl0
    obtain ⟨B, k, q, u, f1, f2, f3, f4⟩ := open_tab_cells (show DataW.trod enc Tryd.prog W base spare held m 28 [d1] = some x1 from h1) hl1
    refine ⟨⟨A, n, c, t⟩, ⟨B, k, q, u⟩, ?_, e2, f2, e3, f3, e4, f4⟩
    have : cs = tbsV ⟨A, n, c, t⟩ ⟨B, k, q, u⟩ := by
      apply Array.toList_inj.1
      rw [hcl]
      injection e1 with e1
      injection f1 with f1
      rw [e1, f1]
      rfl
    rw [this]
end Go.Proofs.YtihfaknflfmohaaDoor

/- The walk of CacheMoves, as the row asks it. -/
namespace Go.Proofs.YtihfaknflfmohaaDoor
open Go.RowKit
set_option linter.unusedVariables false
set_option linter.unusedSimpArgs false
set_option maxRecDepth 4000
theorem cacheMoves_walk (x : Cac) (es : List Ent) (a b : Tb) (ver : Int) (w : World) (hL : Laid w) (he : RE w x.A x.n x.c es) (oe : Oke es) (hx : x.ok) (hy : x.n * 72 ≤ 140737488351232) (ha : RT w a.A a.n a.c a.t) (hb : RT w b.A b.n b.c b.t) (oa : Oks a.t) (ob : Oks b.t) (ya : a.n * 40 ≤ 140737488351232) (yb : b.n * 40 ≤ 140737488351232) (hv : (Lit.int .u64 ver).wf = true) : Calls Tryd.prog 8 #[.agg x.vv, .agg (tbsV a b), .int .u64 ver] w fun e w' => e = .returned (.bool true) ∧ Below w.heap.size w w' := moves27_any x es a b ver w hL he oe hx ha oa hb ob hv
end Go.Proofs.YtihfaknflfmohaaDoor
