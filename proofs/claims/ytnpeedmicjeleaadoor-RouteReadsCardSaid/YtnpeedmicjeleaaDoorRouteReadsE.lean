/- Layer 11 (route): Decode's closure. -/
import Derived.Test.YtnpeedmicjeleaaDoorRouteReadsB
import Derived.Test.YtnpeedmicjeleaaDoorRouteReadsC
import Derived.Test.YtnpeedmicjeleaaDoorRouteReadsD
namespace Go.Proofs.YtnpeedmicjeleaaDoor
open Go.RowKit
set_option linter.unusedVariables false
set_option linter.unusedSimpArgs false
set_option maxRecDepth 4000
theorem itR_7 {ys : List Int} (h : decPE ys = 7) : (itR ys).1 = 7 := by unfold itR; rw [if_pos h]
theorem itR_bad {ys : List Int} (h : decPE ys ≠ 7) (h0 : decPE ys ≠ 0) : (itR ys).1 = 211 := by unfold itR; rw [if_neg h, if_pos h0]
theorem itR_short {ys : List Int} {q : Nat} (h0 : decPE ys = 0) (hq : decPN ys = q) (h : ys.length < q + 3) : (itR ys).1 = 7 := by unfold itR; rw [if_neg (by rw [h0]; decide), if_neg (by rw [h0]; simp), if_pos (by rw [hq]; simpa using h)]
theorem itR_ok {ys : List Int} {q : Nat} (h0 : decPE ys = 0) (hq : decPN ys = q) (h : q + 3 ≤ ys.length) : itR ys = (0, ⟨decP ys, rd (ys.drop q) 0, rd ((ys.drop q).drop 1) 0, rd (((ys.drop q).drop 1).drop 1) 0⟩, q + 3) := by
  unfold itR
  rw [if_neg (by rw [h0]; decide), if_neg (by rw [h0]; simp), if_neg (by rw [hq]; simp; omega), hq, List.drop_drop, List.drop_drop, rd_drop2, rd_drop2, rd_drop2]
  rfl
set_option maxHeartbeats 8000000 in
set_option maxRecDepth 100000 in
theorem dec1_any {lo : Nat} (g gt : Nat) (A : Option Addr) (n c : Nat) (xs : List Int) (W0 w : World) (hL0 : Laid W0) (hx : RB W0 A n c xs) (hn : n ≤ 100000) (hB : Below W0.heap.size W0 w) (hr : Rdr w lo g xs 0) (hg : W0.heap.size ≤ g) (hgt : W0.heap.size ≤ gt) (hlo : gt < lo) (hne : gt < g)
    (ht : w.heap[gt]? = some (.cells (tabV none 0 0) 24 (0, 0))) :
    Calls Tryd.prog 73 #[.agg (rd3V g A n c 211), .pointer (some ⟨gt, 0, none⟩)] w fun e w' => DecQ rteK 24 itR xs W0 w lo g gt e w' := by
  have hL := hL0.below hB
  have hblk1 := blk_new w (.cells (rd3V g A n c 211) 110)
  have hbel1 : Below w.heap.size w (w.alloc (.cells (rd3V g A n c 211) 110)) := below_alloc (Below.refl _ _) _
  have HP1 := Lib.hid (rd3_at hblk1)
  have HBK1 := Lib.hid hblk1
  have HBE := Lib.hid hbel1
  have HL := Lib.hid (hL.below HBE.out)
  obtain ⟨cs1, hcs1⟩ : ∃ cs, rd3V g A n c 211 = cs := ⟨_, rfl⟩
  simp only [hcs1] at HBE HL HP1 HBK1 ⊢
  have HC1 := Lib.hid hcs1
  clear hL hcs1 hblk1 hbel1
  have HL0 := Lib.hid hL0
  have HX := Lib.hid hx
  have HLEN := Lib.hid hx.len
  have HBY := Lib.hid hr.byte
  have hgw := hr.lt
  have HD := Lib.hid (DecL.start (S := rteK) (T := 24) (W0 := W0) (w := w) (g := g) (gt := gt) (cs := cs1) hB ht)
  have HR := Lib.hid (hr.below HBE.out)
  have HBS := Lib.hid hB.size
  clear hL0 hx hr hB ht
  go_enter Tryd.func73, Tryd.ntmps73
  go_wp2_with (first | ((with_reducible show wpList _ _ _ (Oper.mk _ (Op.load _ _) _ _ _ _ :: _) _ _); refine wpList_load_g ((HP1.out.all _ (Below.refl _ _)).all) _ rfl rfl (by go_simp) ?_))
  refine (number11_any g A n c 211 xs _ HR.out).mono ?_
  rintro e w2 ⟨hg2, ⟨hz, rfl⟩ | ⟨hz, rfl, hr2⟩⟩
  · have HD2 := Lib.hid (HD.out.grow hg2 hg hgw (by omega))
    have HZ := Lib.hid hz
    clear hg2 hz
    go_wp2_with fail
    exact ⟨rfl, HD2.out.bel, HD2.out.keep, .inl ⟨7, rfl, by decide, by rw [if_pos HZ.out]⟩⟩
  · have HD2 := Lib.hid (HD.out.grow hg2 hg hgw (by omega))
    have HR2 := Lib.hid hr2
    have HZ := Lib.hid hz
    have hrx := HBY.out.getD 0
    obtain ⟨K, hK⟩ := Int.eq_ofNat_of_zero_le hrx.1
    have hK' : rd xs 0 = K := hK
    have hK1 : K < 256 := by have h1 : rd xs 0 < 256 := hrx.2; omega
    rw [hK']
    have HTR : Hid (decIR itR xs = decI itR K [] (xs.drop 1)) := Lib.hid (by unfold decIR; rw [hK']; rfl)
    have hn1 : 1 ≤ n := by have := HLEN.out; have := HZ.out; omega
    clear hg2 hr2 hz hrx hK hK' HD HR
    go_wp2_with fail
    go_loopw [5] (fun x wr => ∃ (k m : Nat) (A1 : Option Addr) (c1 : Nat) (acc : List Rte), x = .int .i64 k ∧ Hid (k ≤ K ∧ m ≤ n ∧ DecL rteK 24 W0 w wr g gt cs1 A1 k c1 acc ∧ Rdr wr lo g (xs.drop m) 0 ∧ decIR itR xs = decI itR (K - k) acc (xs.drop m))) (fun x _ => K - (intOf x).toNat)
    case atStart => exact ⟨0, 1, none, 0, [], rfl, Nat.zero_le _, hn1, HD2.out, HR2.out, HTR.out⟩
    case round =>
      obtain ⟨k, m, A1, c1, acc, rfl, HH⟩ := hrel
      obtain ⟨wk, rfl⟩ : ∃ wk, wk = wr := ⟨wr, rfl⟩
      clear HD2 HR2
      have HD := Lib.hid HH.out.2.2.1
      have HRR := Lib.hid HH.out.2.2.2.1
      by_cases hlt : k < K
      · have hlt' : (k : Int) < K := by omega
        have HLT := Lib.hid hlt
        have hmn := HH.out.2.1
        obtain ⟨ys, hys⟩ : ∃ ys, xs.drop m = ys := ⟨_, rfl⟩
        have HTE := Lib.hid HH.out.2.2.2.2
        rw [hys] at HRR HTE
        have HYS := Lib.hid hys
        have hyl : ys.length ≤ 100000 := by rw [← hys, List.length_drop, HLEN.out]; omega
        have HYL := Lib.hid hyl
        clear hys hyl HH hlt
        go_upto_region 3 with fail
        refine wp_region_mixp (fun w0 => w0.heap[gt]? = some (.cells (tabV A1 k c1) 24 (0, 0)) ∧ w0.heap[w.heap.size]? = some (.cells cs1 110 (0, 0))) [] 0 (some (.agg cs1)) (DecC (itR ys).1 W0 w g gt) [(0, 0), (1, 0), (2, 0), (4, 0), (6, 0), (8, 0), (3, 2), (5, 2), (7, 2), (9, 2), (10, 0), (11, 2), (12, 2), (13, 0), (14, 3)] (by kernel_rfl) (by kernel_rfl) (by kernel_rfl) ⟨HD.out.tab, HD.out.box⟩ ?_ ?_
        · rintro ch a wx ⟨h1, -, h2, h3, E, rfl, h5, h6⟩
          exact ⟨h1, h2, h3, .inl ⟨E, rfl, h5, by rw [if_neg HZ.out, HTE.out]; exact decI_err (by have := HLT.out; omega) h6 h5⟩⟩
        · simp only [List.map_cons, List.map_nil]
          iterate 1 (refine wpO_step0 rfl rfl (fun K hK => ?_); go_simp; refine hK _ _ ?_; clear hK K)
          refine wpO_loadW (t := 22) (ad := ⟨gt, 0, none⟩) rfl rfl ?hw rfl rfl ((fun w0 hS => ((rib_at hS.1).all _ (Below.refl _ _)).2)) ?_
          case hw => go_simp
          refine wpO_loadW (t := 110) (ad := ⟨w.heap.size, 0, none⟩) rfl rfl ?hw rfl rfl ((fun w0 hS => (rd3_ld (hS.2.trans (by rw [HC1.out]))).all)) ?_
          case hw => go_simp
          refine wpO_loadW (t := 110) (ad := ⟨w.heap.size, 0, none⟩) rfl rfl ?hw rfl rfl ((fun w0 hS => (rd3_ld (hS.2.trans (by rw [HC1.out]))).all)) ?_
          case hw => go_simp
          refine wpO_loadW (t := 110) (ad := ⟨w.heap.size, 0, none⟩) rfl rfl ?hw rfl rfl ((fun w0 hS => (rd3_ld (hS.2.trans (by rw [HC1.out]))).all)) ?_
          case hw => go_simp
          refine wpO_loadW (t := 110) (ad := ⟨w.heap.size, 0, none⟩) rfl rfl ?hw rfl rfl ((fun w0 hS => (rd3_ld (hS.2.trans (by rw [HC1.out]))).all)) ?_
          case hw => go_simp
          refine wpO_step2 rfl rfl (⟨HD.out.tab, HD.out.box⟩) (fun K hK => ?_)
          go_simp
          have HDd := Lib.hid (HD.out.step (below_drew1 wk))
          refine (prefix11_any g A n c 211 xs ys m wk.drew (HL0.out.below HDd.out.bel) (HRR.out.below (below_drew1 wk)) (HX.out.below HDd.out.bel) HYS.out hmn hn).mono ?_
          rintro e w3 ⟨hg3, ⟨h7, rfl⟩ | ⟨h7, h0, rfl⟩ | ⟨h0, rfl, hr3⟩⟩
          · exact ⟨rfl, rfl, (HDd.out.grow hg3 hg hgw (by omega)).leave (itR_7 h7) (by decide)⟩
          · exact ⟨rfl, rfl, (HDd.out.grow hg3 hg hgw (by omega)).leave (itR_bad h7 h0) (by decide)⟩
          · have HD3 := Lib.hid (HDd.out.grow hg3 hg hgw (by omega))
            have HR3 := Lib.hid hr3
            have H0 := Lib.hid h0
            obtain ⟨q, hq, hql⟩ := dec_nat HRR.out.byte h0
            have HQ := Lib.hid hq
            rw [hq, Int.toNat_natCast] at HR3
            have hp16 : B16 (decP ys).l := decP_16 HRR.out.byte
            obtain ⟨pp, hpp⟩ : ∃ pp, decP ys = pp := ⟨_, rfl⟩
            have HPP := Lib.hid hpp
            rw [hpp] at hp16 ⊢
            have hp16l := hp16.len
            obtain ⟨zs, hzs⟩ : ∃ zs, ys.drop q = zs := ⟨_, rfl⟩
            rw [hzs] at HR3
            have HZS := Lib.hid hzs
            have HZL : Hid (zs.length = ys.length - q) := Lib.hid (by rw [← hzs, List.length_drop])
            have HQL := Lib.hid hql
            clear hg3 hr3 h0 hq hpp hzs hql HDd
            refine hK _ _ ⟨⟨HD3.out.tab, HD3.out.box⟩, ?_⟩
            clear hK K
            refine wpO_step2 rfl rfl (⟨HD3.out.tab, HD3.out.box⟩) (fun K hK => ?_)
            go_simp
            refine (number11_any g A n c 211 zs w3 HR3.out).mono ?_
            rintro e w4 ⟨hg4, ⟨hz, rfl⟩ | ⟨hz, rfl, hr4⟩⟩
            · exact ⟨rfl, rfl, (HD3.out.grow hg4 hg hgw (by omega)).leave (itR_short H0.out HQ.out (by have := HZL.out; have := HQL.out; omega)) (by decide)⟩
            · have HD4 := Lib.hid (HD3.out.grow hg4 hg hgw (by omega))
              have HR4 := Lib.hid hr4
              have HZ4 := Lib.hid hz
              have hs1 : 0 ≤ rd zs 0 ∧ rd zs 0 < 256 := HR3.out.byte.getD 0
              obtain ⟨s, hs⟩ : ∃ s, rd zs 0 = s := ⟨_, rfl⟩
              rw [hs] at hs1 ⊢
              have HS := Lib.hid hs
              clear hg4 hr4 hz hs
              refine hK _ _ ⟨⟨HD4.out.tab, HD4.out.box⟩, ?_⟩
              clear hK K
              refine wpO_step2 rfl rfl (⟨HD4.out.tab, HD4.out.box⟩) (fun K hK => ?_)
              go_simp
              refine (number11_any g A n c 211 (zs.drop 1) w4 HR4.out).mono ?_
              rintro e w5 ⟨hg5, ⟨hz, rfl⟩ | ⟨hz, rfl, hr5⟩⟩
              · exact ⟨rfl, rfl, (HD4.out.grow hg5 hg hgw (by omega)).leave (itR_short H0.out HQ.out (by rw [List.length_drop] at hz; have := HZL.out; have := HQL.out; omega)) (by decide)⟩
              · have HD5 := Lib.hid (HD4.out.grow hg5 hg hgw (by omega))
                have HR5 := Lib.hid hr5
                have HZ5 := Lib.hid hz
                have hf1 : 0 ≤ rd (zs.drop 1) 0 ∧ rd (zs.drop 1) 0 < 256 := HR4.out.byte.getD 0
                obtain ⟨f, hf⟩ : ∃ f, rd (zs.drop 1) 0 = f := ⟨_, rfl⟩
                rw [hf] at hf1 ⊢
                have HF := Lib.hid hf
                clear hg5 hr5 hz hf
                refine hK _ _ ⟨⟨HD5.out.tab, HD5.out.box⟩, ?_⟩
                clear hK K
                refine wpO_step2 rfl rfl (⟨HD5.out.tab, HD5.out.box⟩) (fun K hK => ?_)
                go_simp
                refine (number11_any g A n c 211 ((zs.drop 1).drop 1) w5 HR5.out).mono ?_
                rintro e w6 ⟨hg6, ⟨hz, rfl⟩ | ⟨hz, rfl, hr6⟩⟩
                · exact ⟨rfl, rfl, (HD5.out.grow hg6 hg hgw (by omega)).leave (itR_short H0.out HQ.out (by rw [List.length_drop, List.length_drop] at hz; have := HZL.out; have := HQL.out; omega)) (by decide)⟩
                · have HD6 := Lib.hid (HD5.out.grow hg6 hg hgw (by omega))
                  have HR6 := Lib.hid hr6
                  have hh1 : 0 ≤ rd ((zs.drop 1).drop 1) 0 ∧ rd ((zs.drop 1).drop 1) 0 < 256 := HR5.out.byte.getD 0
                  have HIT : Hid (itR ys = (0, ⟨pp, s, f, rd ((zs.drop 1).drop 1) 0⟩, q + 3)) := Lib.hid (by
                    rw [itR_ok H0.out HQ.out (by rw [List.length_drop, List.length_drop] at hz; have := HZL.out; omega), HZS.out, HPP.out, HS.out, HF.out])
                  have HLQ : Hid (q + 3 ≤ ys.length) := Lib.hid (by rw [List.length_drop, List.length_drop] at hz; have := HZL.out; omega)
                  obtain ⟨h, hh⟩ : ∃ h, rd ((zs.drop 1).drop 1) 0 = h := ⟨_, rfl⟩
                  rw [hh] at hh1 HIT ⊢
                  clear hg6 hr6 hz hh HD3 HD4 HD5 HR3 HR4 HR5
                  refine hK _ _ ⟨⟨HD6.out.tab, HD6.out.box⟩, ?_⟩
                  clear hK K
                  refine wpO_step0 rfl rfl (fun K hK => ?_)
                  rw [if_pos (show Region.wanted _ _ = true from rfl)]
                  refine ⟨_, fun w0 => exec_build4 rfl rfl rfl rfl rfl (run_build_rte w0 pp s f h hp16l), hK _ _ ?_⟩
                  clear hK K
                  refine wpO_step2 rfl rfl (⟨HD6.out.tab, HD6.out.box⟩) (fun K hK => ?_)
                  rw [if_pos (show Region.wanted _ _ = true from rfl)]
                  have HFIT : Hid ((⟨pp, s, f, h⟩ : Rte).fits) := Lib.hid hp16
                  refine oper_exec (exec_lit1 rteK (x := .tmp 17) rfl ⟨pp, s, f, h⟩ rfl HFIT.out (by show 21 ≤ _; omega) _) ?_
                  have HD8 := Lib.hid (HD6.out.step (below_alloc (Below.refl _ _) (.cells (rteK.enc ⟨pp, s, f, h⟩).toArray rteK.t)))
                  have HR8 := Lib.hid (HR6.out.below (below_alloc (Below.refl _ _) (.cells (rteK.enc ⟨pp, s, f, h⟩).toArray rteK.t)))
                  refine hK _ _ ⟨⟨HD8.out.tab, HD8.out.box⟩, ?_⟩
                  clear hK K
                  refine wpO_step2 rfl rfl (⟨HD8.out.tab, HD8.out.box⟩) (fun K hK => ?_)
                  rw [if_pos (show Region.wanted _ _ = true from rfl)]
                  refine oper_append_shp (S := rteK) (.tmp 8) (.tmp 18) rfl rfl rfl HD8.out.own (OS.one rteK w6 0 ⟨pp, s, f, h⟩ (Nat.zero_le _) HFIT.out).reads (by have := blk_lt HD6.out.box; simp; omega) (by omega) ?_
                  intro A9 c9 w9 h1 h2 h3
                  have hA8 := HD8.out.own.base_
                  have HT9 := Lib.hid (blk_own2 HD8.out.tab h2 (fun ad e => by have := hA8 ad e; omega))
                  have HX9 := Lib.hid (blk_own2 HD8.out.box h2 (fun ad e => by have := hA8 ad e; omega))
                  have H9 := Lib.hid (And.intro h1 h2)
                  clear h1 h2 h3
                  refine hK _ _ ⟨⟨HT9.out, HX9.out⟩, ?_⟩
                  clear hK K
                  iterate 1 (refine wpO_step0 rfl rfl (fun K hK => ?_); go_simp; refine hK _ _ ?_; clear hK K)
                  refine wpO_step3 rfl rfl (fun K hK => ?_)
                  rw [if_pos (show Region.wanted _ _ = true from rfl)]
                  refine oper_store_cell HT9.out 22 0 (.slice A9 (k + 1) c9) (Nat.le_refl _) (by kernel_rfl) rfl rfl _ _ rfl rfl rfl ?_
                  intro wa hga hsa hta
                  have HDa := Lib.hid (HD8.out.push H9.out.2 hga H9.out.1 hta hgt (by omega) HBS.out)
                  have HRa := Lib.hid ((HR8.out.grown H9.out.2 (fun b e => by
                    obtain ⟨ad, e1, e2⟩ := own_of e
                    have := hA8 ad e1
                    omega)).grown hga (fun b e => by injection e with e; omega))
                  clear hga hsa hta H9 HT9 HX9 HD8 HD6 HR8 HR6 hA8
                  refine hK _ _ ?_
                  clear hK K
                  refine wpO_nilp ?_
                  go_wp2_with fail
                  go_roundw
                  case measure => simp [intOf]; omega
                  case rel =>
                    have hst := decI_step HLT.out HIT.out (acc := acc)
                    have hdr : ((zs.drop 1).drop 1).drop 1 = xs.drop (m + (q + 3)) := by rw [← HZS.out, ← HYS.out, List.drop_drop, List.drop_drop, List.drop_drop, List.drop_drop]
                    have hdr2 : ys.drop (q + 3) = xs.drop (m + (q + 3)) := by rw [← HYS.out, List.drop_drop]
                    rw [hdr2] at hst
                    have hRa := HRa.out
                    rw [hdr] at hRa
                    have hml : m + (q + 3) ≤ n := by have h1 := HLQ.out; have h2 := HYS.out; have h3 := HLEN.out; have h4 : ys.length = n - m := by rw [← h2, List.length_drop, h3]
                                                     omega
                    exact ⟨k + 1, m + (q + 3), A9, c9, acc ++ [⟨pp, s, f, h⟩], by go_num, HLT.out, hml, HDa.out, hRa, HTE.out.trans hst⟩
      · obtain rfl : k = K := by have := HH.out.1; omega
        have HTE := Lib.hid HH.out.2.2.2.2
        rw [Nat.sub_self, decI] at HTE
        have hlt' : decide (k < k) = false := decide_eq_false hlt
        clear HH hlt
        go_wp2_with fail
        go_end0
        exact ⟨HD.out.bel, HD.out.keep, .inr ⟨rfl, A1, k, c1, acc, xs.drop m, HRR.out, HZ.out, HTE.out, by omega, HD.out.tab, HD.out.own⟩⟩
end Go.Proofs.YtnpeedmicjeleaaDoor

/- The document's answer for layer 5: some. -/
namespace Go.Proofs.YtnpeedmicjeleaaDoor
open Go.RowKit
set_option linter.unusedVariables false
set_option linter.unusedSimpArgs false
set_option maxRecDepth 4000

/-- What the document's reading holds: the result's cell, the bytes read so far. -/
structure RefS (w : World) (l : List Int) (w0 : World) : Prop where
  below : Below w.heap.size w w0
  zero : w0.heap[w.heap.size]? = some (.cells (arrV zero16) 45 (0, 0))
  x : w0.heap[w.heap.size + 1]? = some (.cells (arrV l) 45 (0, 0))
theorem RefS.step {w w0 w1 : World} {l : List Int} (h : RefS w l w0) (hb : Below w0.heap.size w0 w1) : RefS w l w1 := ⟨below_step h.below hb, blk_below h.zero hb, blk_below h.x hb⟩

set_option maxHeartbeats 4000000 in
theorem refsome_any (A : Option Addr) (n c : Nat) (xs : List Int) (fm bits : Nat) (wrong : Int) (w : World) (hr : RB w A n c xs) (hfm : fm ≤ 1000) (hwr : wrong ≠ 0) (hbits : bits ≤ 128) :
    Calls Tryd.prog 105 #[.slice A n c, .int .i64 fm, .int .i64 bits, .int .i64 wrong] w fun e w' => e = .returned (.tuple #[.agg (arrV (someL (xs.drop fm) bits wrong)), .int .i64 (someE (xs.drop fm) bits wrong)]) ∧ Below w.heap.size w w' := by
  have hsm := hr.small
  have hlen := hr.len
  have hxb := hr.range
  have HR := Lib.hid hr
  have HLEN := Lib.hid hlen
  obtain ⟨ys, hys⟩ : ∃ ys, xs.drop fm = ys := ⟨_, rfl⟩
  have hyl : ys.length = n - fm := by rw [← hys, List.length_drop, hlen]
  have hyb : Bytes ys := by rw [← hys]; exact hxb.drop fm
  have HYR : Hid (∀ k : Nat, rd ys (k : Int) = rd xs ((fm : Int) + k)) := fun k => by
    rw [← hys]
    simp only [rd, Int.toNat_natCast, List.getD_eq_getElem?_getD, List.getElem?_drop]
    rw [show ((fm : Int) + k).toNat = fm + k by omega]
  rw [hys]
  have HYL := Lib.hid hyl
  clear hys hr hlen hxb hyl
  have hst2 := blk_new (w.alloc (.cells (arrV zero16) 45)) (.cells (arrV zero16) 45)
  rw [show (w.alloc (.cells (arrV zero16) 45)).heap.size = w.heap.size + 1 by simp] at hst2
  have HS : Hid (RefS w (pad (ys.take 0)) ((w.alloc (.cells (arrV zero16) 45)).alloc (.cells (arrV zero16) 45))) :=
    ⟨below_alloc (below_alloc (Below.refl _ _) _) _, blk_below (blk_new w _) (below_alloc (Below.refl _ _) _), hst2⟩
  clear hst2
  obtain ⟨nb, hnb⟩ : ∃ nb, fullB (bits : Int) = nb := ⟨_, rfl⟩
  have hnn : 8 * nb ≤ bits + 7 ∧ bits ≤ 8 * nb := by rw [← hnb]; unfold fullB; omega
  have hn16 : nb ≤ 16 := by omega
  have HNB := Lib.hid hnb
  clear hnb
  go_enter Tryd.func105, Tryd.ntmps105
  go_wp2_with fail
  go_loopw [11] (fun i wr => ∃ k : Nat, i = .int .i64 k ∧ Hid (k ≤ nb ∧ k ≤ ys.length ∧ RefS w (pad (ys.take k)) wr ∧ (k = nb → 0 < nb → clearA (pad (ys.take nb)) bits = true))) (fun i _ => 16 - (intOf i).toNat)
  case atStart => exact ⟨0, rfl, Nat.zero_le _, Nat.zero_le _, HS.out, fun h h0 => by omega⟩
  case round =>
    obtain ⟨k, rfl, HH⟩ := hrel
    clear HS
    have hk := HH.out.1
    by_cases hlt2 : k < nb
    · have hlt' : 8 * (k : Int) < bits := by omega
      have hlp : (pad (ys.take k)).length = 16 := pad_len (by rw [List.length_take]; omega)
      by_cases hkx : k < ys.length
      · have hkn : (fm : Int) + k < n := by have := HYL.out; omega
        have hd0 : decide ((n : Int) ≤ (fm : Int) + k) = false := decide_eq_false (by omega)
        have hf0 : 0 ≤ (fm : Int) + k := by omega
        obtain ⟨ad, rfl, hc⟩ := (HR.out.below HH.out.2.2.1.below).at_ ((fm : Int) + k) (by omega) (by omega)
        rw [← HYR.out k, show ((fm : Int) + k).toNat = fm + k by omega] at hc
        have hrk : 0 ≤ rd ys (k : Int) ∧ rd ys (k : Int) < 256 := hyb.getD _
        have hcy := arr_cell HH.out.2.2.1.x k (by rw [hlp]; omega)
        have hfy : wr.frozen? ⟨w.heap.size + 1, k, none⟩ = false := blk_frozen HH.out.2.2.1.x k
        have hk16 : (k : Int) < 16 := by omega
        have hk0 : (0 : Int) ≤ k := by omega
        have H2 : Hid (RefS w (pad (ys.take (k + 1))) (wr.setCell ⟨w.heap.size + 1, k, none⟩ (.int .u8 (rd ys (k : Int))))) := by
          refine ⟨HH.out.2.2.1.below.setCell (by simp) _, blk_set_far HH.out.2.2.1.zero (by simp) _, ?_⟩
          have := arr_set HH.out.2.2.1.x k (rd ys (k : Int))
          rw [pad_set ys k hkx (by omega)] at this
          exact this
        have HKX := Lib.hid hkx
        clear hkx
        go_wp2_with fail
        clear hc hcy hfy hf0 hkn hd0
        go_loopw [12] (fun v wr3 => ∃ m : Nat, v = .int .i64 m ∧ Hid (bits ≤ m ∧ (∀ j : Nat, bits ≤ j → j < m → bitA (pad (ys.take (k + 1))) j = 0) ∧ RefS w (pad (ys.take (k + 1))) wr3)) (fun v _ => 128 - (intOf v).toNat)
        case atStart => exact ⟨bits, rfl, Nat.le_refl _, fun j h1 h2 => by omega, H2.out⟩
        case round =>
          obtain ⟨m, rfl, HM⟩ := hrel
          have hmb := HM.out.1
          have hp16 : B16 (pad (ys.take (k + 1))) := pad_16 (by rw [List.length_take]; omega) (hyb.take _)
          by_cases hlt3 : m < 8 * k + 8
          · have hlt4 : (m : Int) < 8 * (k : Int) + 8 := by omega
            have hm0 : (0 : Int) ≤ m := by omega
            have hm1 : (m : Int) < 128 := by omega
            have hlx := load_arr0 hp16 HM.out.2.2.x
            go_wp2_with ((with_reducible show wpList _ _ _ (Oper.mk _ (Op.load _ _) _ _ _ _ :: _) _ _); refine wpList_load_g hlx _ rfl rfl (by go_simp) ?_)
            refine (refat_any _ m _ hp16 hm0 hm1).mono ?_
            rintro e w3 ⟨rfl, hbb3⟩
            rw [show (m : Int).toNat = m by omega]
            have H3 := Lib.hid (HM.out.2.2.step hbb3)
            clear hbb3 hlx
            by_cases hbit : bitA (pad (ys.take (k + 1))) m = 1
            · have hbt : (bitA (pad (ys.take (k + 1))) m == 1) = true := by simpa using hbit
              have hcf : clearA (pad (ys.take (k + 1))) bits = false := by
                rw [Bool.eq_false_iff]
                intro h
                have := (clearA_iff _ bits).1 h m hmb (by omega)
                omega
              have hk1 : k + 1 = nb := by omega
              have HE := Lib.hid (some_wrong (xs := ys) (bits := bits) (wrong := wrong) (by rw [HNB.out]; have := HKX.out; omega) (by rw [HNB.out, ← hk1]; exact hcf))
              have HE2 := Lib.hid (someL_no (xs := ys) (bits := bits) (wrong := wrong) (by rw [HE.out]; exact hwr))
              have hbn := run_build_arr_nil
              clear hbit hcf hk1
              go_wp2_with (refine wpList_store_blk H3.out.zero 45 0 (arrV zero16) (by rw [arr_size rfl]; exact Nat.le_refl _) (info_arr rfl) (arr_one _) _ _ rfl rfl rfl rfl ?_; intro w9 hg9 hs9 hb9; rw [splice_arr0 _ zero16 rfl rfl] at hb9; have H9 := Lib.hid (And.intro hg9 hb9); clear hg9 hs9 hb9)
              have hld := load_arr0 zero16_B H9.out.2
              refine bodyPost_ret (results_c2 rfl rfl hld) rfl ?_
              rw [HE.out, HE2.out]
              exact ⟨rfl, below_grown H3.out.below H9.out.1 (by omega)⟩
            · have hbt : (bitA (pad (ys.take (k + 1))) m == 1) = false := by simpa using hbit
              have HZ : Hid (bitA (pad (ys.take (k + 1))) m = 0) := (bitA_range _ m).resolve_right hbit
              clear hbit
              go_wp2_with fail
              go_roundw
              case measure => simp [intOf]; omega
              case rel =>
                refine ⟨m + 1, by go_num, by omega, fun j h1 h2 => ?_, H3.out⟩
                by_cases hj : j < m
                · exact HM.out.2.1 j h1 hj
                · rw [show j = m by omega]; exact HZ.out
          · have hge : decide ((m : Int) < 8 * (k : Int) + 8) = false := decide_eq_false (by omega)
            have HC : Hid (clearA (pad (ys.take (k + 1))) bits = true) := (clearA_iff _ bits).2 (fun j h1 h2 => by
              by_cases hj : j < m
              · exact HM.out.2.1 j h1 hj
              · exact bit_pad _ j (by rw [List.length_take]; omega))
            clear hlt3
            go_wp2_with fail
            go_roundw
            case measure => simp [intOf]; omega
            case rel =>
              refine ⟨k + 1, by go_num, by omega, by have := HKX.out; omega, HM.out.2.2, fun h _ => by rw [← h]; exact HC.out⟩
      · have hkx' : k = ys.length := by have := HH.out.2.1; omega
        have hd0 : decide ((n : Int) ≤ (fm : Int) + k) = true := decide_eq_true (by have := HYL.out; omega)
        have HE := Lib.hid (some_short (xs := ys) (bits := bits) (wrong := wrong) (by rw [HNB.out]; omega))
        have HE2 := Lib.hid (someL_no (xs := ys) (bits := bits) (wrong := wrong) (by rw [HE.out]; decide))
        have hbn := run_build_arr_nil
        clear hkx hkx'
        go_wp2_with (refine wpList_store_blk HH.out.2.2.1.zero 45 0 (arrV zero16) (by rw [arr_size rfl]; exact Nat.le_refl _) (info_arr rfl) (arr_one _) _ _ rfl rfl rfl rfl ?_; intro w9 hg9 hs9 hb9; rw [splice_arr0 _ zero16 rfl rfl] at hb9; have H9 := Lib.hid (And.intro hg9 hb9); clear hg9 hs9 hb9)
        have hld := load_arr0 zero16_B H9.out.2
        refine bodyPost_ret (results_c2 rfl rfl hld) rfl ?_
        rw [HE.out, HE2.out]
        exact ⟨rfl, below_grown HH.out.2.2.1.below H9.out.1 (by omega)⟩
    · obtain rfl : k = nb := by omega
      have hm1 : decide (8 * (k : Int) < bits) = false := decide_eq_false (by omega)
      have hp16 : B16 (pad (ys.take k)) := pad_16 (by rw [List.length_take]; omega) (hyb.take _)
      have hcl : clearA (pad (ys.take k)) bits = true := by
        rcases Nat.eq_zero_or_pos k with h | h
        · subst h
          exact clear_pad _ _ (by simp)
        · exact HH.out.2.2.2 rfl h
      have HE := Lib.hid (some_ok (xs := ys) (bits := bits) (wrong := wrong) (by rw [HNB.out]; exact HH.out.2.1) (by rw [HNB.out]; exact hcl))
      have HE2 := Lib.hid ((someL_ok HE.out).trans (by rw [HNB.out]))
      have hld0 := load_arr0 hp16 HH.out.2.2.1.x
      clear hlt2 hcl hk
      go_wp2_with (first | ((with_reducible show wpList _ _ _ (Oper.mk _ (Op.load _ _) _ _ _ _ :: _) _ _); refine wpList_load_g hld0 _ rfl rfl (by go_simp) ?_) | (refine wpList_store_blk HH.out.2.2.1.zero 45 0 (arrV (pad (ys.take k))) (by rw [arr_size hp16.len, arr_size rfl]; exact Nat.le_refl _) (info_arr hp16.len) (arr_one _) _ _ rfl rfl rfl rfl ?_; intro w4 hg hs hb; rw [splice_arr0 _ (pad (ys.take k)) hp16.len rfl] at hb; have H4 := Lib.hid (And.intro hg hb); clear hg hs hb))
      have hld := load_arr0 hp16 H4.out.2
      refine bodyPost_ret (results_c2 rfl rfl hld) rfl ?_
      rw [HE.out, HE2.out]
      exact ⟨rfl, below_grown HH.out.2.2.1.below H4.out.1 (by omega)⟩
end Go.Proofs.YtnpeedmicjeleaaDoor

/- The document's answer for layer 5: DecodeAddr, Decode. -/
namespace Go.Proofs.YtnpeedmicjeleaaDoor
open Go.RowKit
set_option linter.unusedVariables false
set_option linter.unusedSimpArgs false
set_option maxRecDepth 4000

theorem load_u8 {w : World} {ad : Addr} {v : Value} (h : w.cell? ad = some v) : (Instr.loadAt 5 (.pointer (some ad))).run Tryd.prog w = .ok v w := by
  go_simp
structure RefT (w : World) (gb : Nat) (l : List Int) (w0 : World) : Prop where
  below : Below w.heap.size w w0
  arr : w0.heap[gb]? = some (.cells (arrV l) 45 (0, 0))
theorem RefT.step {w w0 w1 : World} {gb : Nat} {l : List Int} (h : RefT w gb l w0) (hb : Below w0.heap.size w0 w1) : RefT w gb l w1 := ⟨below_step h.below hb, blk_below h.arr hb⟩
theorem RefT.grow {w w0 w1 : World} {gb c : Nat} {l : List Int} (h : RefT w gb l w0) (hg : w0.grownBy w1 (some c)) (h1 : w.heap.size ≤ c) (h2 : gb ≠ c) : RefT w gb l w1 :=
  ⟨below_grown h.below hg h1, blk_grown h.arr hg (fun e => by injection e with e; exact h2 e)⟩
theorem RB.first {w : World} {A : Option Addr} {n c : Nat} {xs : List Int} (h : RB w A n c xs) (hn : 0 < n) : ∃ ad, A = some ad ∧ ∀ w0, Below w.heap.size w w0 → w0.cell? ad = some (.int .u8 (rd xs 0)) := by
  obtain ⟨ad, e, -⟩ := h.at_ 0 (by omega) (by omega)
  refine ⟨ad, e, fun w0 hb => ?_⟩
  obtain ⟨ad2, e2, hc⟩ := (h.below hb).at_ 0 (by omega) (by omega)
  rw [e] at e2
  injection e2 with e2
  subst e2
  simpa [Addr.add] using hc

theorem RB.second {w : World} {A : Option Addr} {n c : Nat} {xs : List Int} (h : RB w A n c xs) (ad : Addr) (he : A = some ad) (hn : 1 < n) : ∀ w0, Below w.heap.size w w0 → w0.cell? (ad.add 1) = some (.int .u8 (rd xs 1)) := by
  intro w0 hb
  obtain ⟨ad2, e2, hc⟩ := (h.below hb).at_ 1 (by omega) (by omega)
  rw [he] at e2
  injection e2 with e2
  subst e2
  exact hc
set_option maxHeartbeats 4000000 in
theorem refdecode_any (A : Option Addr) (n c : Nat) (xs : List Int) (w : World) (hr : RB w A n c xs) :
    Calls Tryd.prog 76 #[.slice A n c] w fun e w' => e = .returned (.tuple #[.agg (pfxV (decP xs).v (decP xs).l (decP xs).b), .int .i64 (decPN xs), .int .i64 (decPE xs)]) ∧ Below w.heap.size w w' := by
  have hsm := hr.small
  have hlen := hr.len
  have HR := Lib.hid hr
  have HLEN := Lib.hid hlen
  have HZ := Lib.hid (blk_new w (.cells (pfxV 0 zero16 0) 49))
  have HBZ : Hid (Below w.heap.size w (w.alloc (.cells (pfxV 0 zero16 0) 49))) := below_alloc (Below.refl _ _) _
  by_cases hn0 : n = 0
  · have hv : verE xs 151 = 7 := by unfold verE; rw [if_pos (by omega)]
    have HE := Lib.hid ((decP_ver (xs := xs) (by rw [hv]; decide)).trans hv)
    have HN0 := Lib.hid (decP_no (xs := xs) (by rw [HE.out]; decide))
    have hbn := run_build_pfx_nil
    subst hn0
    clear hr hlen hv
    go_enter Tryd.func76, Tryd.ntmps76
    go_wp2_with (refine wpList_store_blk HZ.out 49 0 (pfxV 0 zero16 0) (store_pfx_fit rfl rfl) (info_pfx rfl) (pfx_one _ _ _) _ _ rfl rfl rfl rfl ?_; intro w9 hg9 hs9 hb9; rw [splice_pfx _ 0 0 zero16 rfl rfl] at hb9; have H9 := Lib.hid (And.intro hg9 hb9); clear hg9 hs9 hb9)
    have hld := load_pfx zero16_B H9.out.2
    refine bodyPost_ret (results_c3 rfl rfl hld) rfl ?_
    rw [HN0.out.1, HN0.out.2, HE.out]
    exact ⟨rfl, below_grown HBZ.out H9.out.1 (by omega)⟩
  · have hpos : 0 < n := by omega
    have hn1 : decide (n < 1) = false := decide_eq_false (by omega)
    have hn2 : decide ((n : Int) < 1) = false := decide_eq_false (by omega)
    obtain ⟨ad, rfl, hcell⟩ := hr.first hpos
    have hrd : 0 ≤ rd xs 0 ∧ rd xs 0 < 256 := hr.range.getD 0
    have hrd1 : 0 ≤ rd xs 1 ∧ rd xs 1 < 256 := hr.range.getD 1
    have hlc := load_u8 (hcell _ HBZ.out)
    have HC := Lib.hid hcell
    have hver := verE_cons (xs := xs) (by omega) 151
    have hxb := hr.range
    clear hn0 hr hlen hcell
    go_enter Tryd.func76, Tryd.ntmps76
    go_wp2_with ((with_reducible show wpList _ _ _ (Oper.mk _ (Op.load _ _) _ _ _ _ :: _) _ _); refine wpList_load_g hlc _ rfl rfl (by go_simp) ?_)
    refine (refwidth_any (rd xs 0) _).mono ?_
    rintro e w1' ⟨rfl, rfl⟩
    have hwl := widthA_le (rd xs 0)
    by_cases hw : widthA (rd xs 0) = 0
    · rw [if_pos hw] at hver
      have HE := Lib.hid ((decP_ver (xs := xs) (by rw [hver]; decide)).trans hver)
      have HN0 := Lib.hid (decP_no (xs := xs) (by rw [HE.out]; decide))
      have hbn := run_build_pfx_nil
      rw [hw]
      clear hver hw hwl
      go_wp2_with (refine wpList_store_blk HZ.out 49 0 (pfxV 0 zero16 0) (store_pfx_fit rfl rfl) (info_pfx rfl) (pfx_one _ _ _) _ _ rfl rfl rfl rfl ?_; intro w9 hg9 hs9 hb9; rw [splice_pfx _ 0 0 zero16 rfl rfl] at hb9; have H9 := Lib.hid (And.intro hg9 hb9); clear hg9 hs9 hb9)
      have hld := load_pfx zero16_B H9.out.2
      refine bodyPost_ret (results_c3 rfl rfl hld) rfl ?_
      rw [HN0.out.1, HN0.out.2, HE.out]
      exact ⟨rfl, below_grown HBZ.out H9.out.1 (by omega)⟩
    · rw [if_neg hw] at hver
      have HVE := Lib.hid hver
      have hw0 : ((widthA (rd xs 0) : Int) == 0) = false := by simp; omega
      have hw1 : ((widthA (rd xs 0)) == 0) = false := by simp; omega
      clear hver hw hlc
      by_cases h2 : n < 2
      · have HE := Lib.hid (decP_short HVE.out (by rw [HLEN.out]; exact h2))
        have HN0 := Lib.hid (decP_no (xs := xs) (by rw [HE.out]; decide))
        have hd2 : decide ((n : Int) < 2) = true := decide_eq_true (by omega)
        have hbn := run_build_pfx_nil
        go_wp2_with (refine wpList_store_blk HZ.out 49 0 (pfxV 0 zero16 0) (store_pfx_fit rfl rfl) (info_pfx rfl) (pfx_one _ _ _) _ _ rfl rfl rfl rfl ?_; intro w9 hg9 hs9 hb9; rw [splice_pfx _ 0 0 zero16 rfl rfl] at hb9; have H9 := Lib.hid (And.intro hg9 hb9); clear hg9 hs9 hb9)
        have hld := load_pfx zero16_B H9.out.2
        refine bodyPost_ret (results_c3 rfl rfl hld) rfl ?_
        rw [HN0.out.1, HN0.out.2, HE.out]
        exact ⟨rfl, below_grown HBZ.out H9.out.1 (by omega)⟩
      · have h2' : 2 ≤ xs.length := by rw [HLEN.out]; omega
        have hd2 : decide ((n : Int) < 2) = false := decide_eq_false (by omega)
        have hn2 : (1 : Int) < n := by omega
        obtain ⟨b, hb⟩ := Int.eq_ofNat_of_zero_le hrd1.1
        have hlc1 := load_u8 (HR.out.second ad rfl (by omega) _ HBZ.out)
        rw [hb] at hlc1 hrd1
        have HBQ := Lib.hid hb
        clear hb h2
        by_cases hwb : (widthA (rd xs 0) : Int) < b
        · have HE := Lib.hid (decP_wide HVE.out h2' (by rw [HBQ.out]; exact hwb))
          have HN0 := Lib.hid (decP_no (xs := xs) (by rw [HE.out]; decide))
          have hbn := run_build_pfx_nil
          clear h2'
          go_wp2_with (first | ((with_reducible show wpList _ _ _ (Oper.mk _ (Op.load _ _) _ _ _ _ :: _) _ _); refine wpList_load_g hlc1 _ rfl rfl (by go_simp) ?_) | (refine wpList_store_blk HZ.out 49 0 (pfxV 0 zero16 0) (store_pfx_fit rfl rfl) (info_pfx rfl) (pfx_one _ _ _) _ _ rfl rfl rfl rfl ?_; intro w9 hg9 hs9 hb9; rw [splice_pfx _ 0 0 zero16 rfl rfl] at hb9; have H9 := Lib.hid (And.intro hg9 hb9); clear hg9 hs9 hb9))
          have hld := load_pfx zero16_B H9.out.2
          refine bodyPost_ret (results_c3 rfl rfl hld) rfl ?_
          rw [HN0.out.1, HN0.out.2, HE.out]
          exact ⟨rfl, below_grown HBZ.out H9.out.1 (by omega)⟩
        · have hw' : b ≤ widthA (rd xs 0) := by omega
          have hd1 : decide ((widthA (rd xs 0) : Int) < b) = false := decide_eq_false hwb
          have HPE := Lib.hid (decP_some HVE.out h2' HBQ.out hw')
          have H2 := Lib.hid h2'
          have hb128 : b ≤ 128 := by omega
          have hsomeB : B16 (someL (xs.drop 2) b 151) := someL_16 (hxb.drop 2) hb128
          obtain ⟨sl, hsl⟩ : ∃ sl, someL (xs.drop 2) b 151 = sl := ⟨_, rfl⟩
          obtain ⟨se, hse⟩ : ∃ se, someE (xs.drop 2) b 151 = se := ⟨_, rfl⟩
          rw [hsl] at hsomeB
          have HSL := Lib.hid (And.intro hsl hse)
          clear hsl hse hwb h2'
          go_wp2_with ((with_reducible show wpList _ _ _ (Oper.mk _ (Op.load _ _) _ _ _ _ :: _) _ _); refine wpList_load_g hlc1 _ rfl rfl (by go_simp) ?_)
          clear hd1 hd2 hw0 hw1 hlc1
          refine (refsome_any (some ad) n c xs 2 b 151 _ (HR.out.below HBZ.out) (by omega) (by decide) hb128).mono ?_
          rw [HSL.out.1, HSL.out.2]
          rintro e w1 ⟨rfl, hb1⟩
          have HB1 := Lib.hid (below_step HBZ.out hb1)
          have HZ1 := Lib.hid (blk_below HZ.out hb1)
          have HN := Lib.hid (blk_new w1 (.cells (arrV zero16) 45))
          have hlt1 := blk_lt HZ1.out
          clear hb1
          by_cases hse : se = 0
          · have hpe : decPE xs = 0 := HPE.out.trans (HSL.out.2.trans hse)
            have HE := Lib.hid (And.intro hpe (decP_ok hpe HPE.out H2.out HBQ.out))
            subst hse
            clear hpe
            go_wp2_with (refine wpList_store_blk HN.out 45 0 (arrV sl) (by rw [arr_size hsomeB.len, arr_size rfl]; exact Nat.le_refl _) (info_arr hsomeB.len) (arr_one _) _ _ rfl rfl rfl rfl ?_; intro w5 hg5 hs5 hb5; rw [splice_arr0 _ sl hsomeB.len rfl] at hb5; have H5 : Hid (RefT w w1.heap.size sl w5 ∧ w5.heap[w.heap.size]? = some (.cells (pfxV 0 zero16 0) 49 (0, 0))) := ⟨⟨below_grown (below_alloc HB1.out _) hg5 HB1.out.size, hb5⟩, blk_grown (blk_below HZ1.out (below_alloc (Below.refl _ _) _)) hg5 (fun e => by injection e with e; omega)⟩; clear hg5 hs5 hb5)
            obtain ⟨wq, hwq⟩ : ∃ wq, fullB b = wq := ⟨_, rfl⟩
            have hqq : ((b : Int) + 7) / 8 = wq := by rw [← hwq]; unfold fullB; omega
            have hqt : ((b : Int) + 7).tdiv 8 = wq := by rw [Int.tdiv_eq_ediv_of_nonneg (by omega)]; exact hqq
            have hqw : IntKind.i64.wrap (wq : Int) = wq := IntWalk.i64_in _ (by omega)
            have hq0 : IntKind.i64.wrap ((b : Int) + 7) = b + 7 := IntWalk.i64_in _ (by omega)
            have hq1 : IntKind.i64.wrap (((b : Int) + 7) / 8) = wq := by rw [IntWalk.i64_in _ (by omega)]; omega
            have hq2 : IntKind.i64.wrap (2 + (wq : Int)) = 2 + wq := IntWalk.i64_in _ (by omega)
            have hwrd : IntKind.i64.wrap (rd xs 0) = rd xs 0 := IntWalk.i64_in _ (by omega)
            have HWQ := Lib.hid hwq
            clear hwq hqq
            refine wp_region_mix ((RefT w w1.heap.size sl)) [(0, 0), (1, 0), (2, 0), (3, 0), (4, 0), (5, 0), (6, 0), (7, 0), (8, 0), (9, 0), (10, 0), (11, 0), (12, 2), (13, 0), (14, 0)] (by kernel_rfl) (by kernel_rfl) ((H5.out.1.step (below_drew1 _))) ?_
            simp only [List.map_cons, List.map_nil]
            iterate 2 (refine wpO_step0 rfl rfl (fun K hK => ?_); go_simp; refine hK _ _ ?_; clear hK K)
            refine wpO_loadW (t := 5) (ad := ad) rfl rfl ?hw rfl rfl ((fun w0 hS => load_u8 (HC.out w0 hS.below))) ?_
            case hw => go_simp
            iterate 1 (refine wpO_step0 rfl rfl (fun K hK => ?_); go_simp; refine hK _ _ ?_; clear hK K)
            refine wpO_loadW (t := 45) (ad := ⟨w1.heap.size, 0, none⟩) rfl rfl ?hw rfl rfl ((fun w0 hS => load_arr0 hsomeB hS.arr)) ?_
            case hw => go_simp
            refine wpO_step0 rfl rfl (fun K hK => ?_)
            rw [if_pos (show Region.wanted _ _ = true from rfl)]
            refine ⟨_, fun w0 => exec_build_adr rfl rfl rfl hsomeB.len w0, hK _ _ ?_⟩
            clear hK K
            iterate 1 (refine wpO_step0 rfl rfl (fun K hK => ?_); go_simp; refine hK _ _ ?_; clear hK K)
            refine wpO_step0 rfl rfl (fun K hK => ?_)
            rw [if_pos (show Region.wanted _ _ = true from rfl)]
            refine ⟨_, fun w0 => exec_build_pfx rfl rfl rfl hsomeB.len w0, hK _ _ ?_⟩
            clear hK K
            iterate 4 (refine wpO_step0 rfl rfl (fun K hK => ?_); go_simp; refine hK _ _ ?_; clear hK K)
            refine wpO_step2 rfl rfl (H5.out.1.step (below_drew1 _)) (fun K hK => ?_)
            rw [if_pos (show Region.wanted _ _ = true from rfl)]
            refine oper_store_blk (blk_below H5.out.2 (below_drew1 _)) 49 0 (pfxV (rd xs 0) sl b) (store_pfx_fit hsomeB.len rfl) (info_pfx hsomeB.len) (pfx_one _ _ _) _ _ rfl rfl rfl ?_
            intro w6 hg6 hs6 hb6
            rw [splice_pfx _ _ _ sl hsomeB.len rfl] at hb6
            have H6 := Lib.hid (And.intro ((H5.out.1.step (below_drew1 _)).grow hg6 (by omega) (by omega)) hb6)
            clear hg6 hs6 hb6
            refine hK _ _ ⟨H6.out.1, ?_⟩
            clear hK K
            iterate 2 (refine wpO_step0 rfl rfl (fun K hK => ?_); go_simp; refine hK _ _ ?_; clear hK K)
            refine wpO_nil ?_
            go_wp2
            have hld := load_pfx hsomeB H6.out.2
            refine bodyPost_ret (results_c3 rfl rfl hld) rfl ?_
            rw [HE.out.1, HE.out.2.1, HE.out.2.2.1, HSL.out.1, HWQ.out]
            exact ⟨rfl, H6.out.1.below⟩
          · have HE := Lib.hid (HPE.out.trans HSL.out.2)
            have HN0 := Lib.hid (decP_no (by rw [HE.out]; exact hse))
            have hsb : (se != 0) = true := by simpa using hse
            have hbn := run_build_pfx_nil
            clear hse
            go_wp2_with (first | (refine wpList_store_blk HN.out 45 0 (arrV sl) (by rw [arr_size hsomeB.len, arr_size rfl]; exact Nat.le_refl _) (info_arr hsomeB.len) (arr_one _) _ _ rfl rfl rfl rfl ?_; intro w5 hg5 hs5 hb5; rw [splice_arr0 _ sl hsomeB.len rfl] at hb5; have H5 : Hid (RefT w w1.heap.size sl w5 ∧ w5.heap[w.heap.size]? = some (.cells (pfxV 0 zero16 0) 49 (0, 0))) := ⟨⟨below_grown (below_alloc HB1.out _) hg5 HB1.out.size, hb5⟩, blk_grown (blk_below HZ1.out (below_alloc (Below.refl _ _) _)) hg5 (fun e => by injection e with e; omega)⟩; clear hg5 hs5 hb5) | (refine wpList_store_blk H5.out.2 49 0 (pfxV 0 zero16 0) (store_pfx_fit rfl rfl) (info_pfx rfl) (pfx_one _ _ _) _ _ rfl rfl rfl rfl ?_; intro w9 hg9 hs9 hb9; rw [splice_pfx _ 0 0 zero16 rfl rfl] at hb9; have H9 := Lib.hid (And.intro hg9 hb9); clear hg9 hs9 hb9))
            have hld := load_pfx zero16_B H9.out.2
            refine bodyPost_ret (results_c3 rfl rfl hld) rfl ?_
            rw [HN0.out.1, HN0.out.2, HE.out]
            exact ⟨rfl, below_grown H5.out.1.below H9.out.1 (by omega)⟩
end Go.Proofs.YtnpeedmicjeleaaDoor

/- Layer 9 (table): the document's Decode. -/
namespace Go.Proofs.YtnpeedmicjeleaaDoor
open Go.RowKit
set_option linter.unusedVariables false
set_option linter.unusedSimpArgs false
set_option maxRecDepth 4000
theorem wf_small {x : Int} (h : 0 ≤ x ∧ x ≤ 1000) : (Lit.int .i64 x).wf = true := by
  have h1 : IntKind.i64.min ≤ x := by show (-9223372036854775808 : Int) ≤ x; omega
  have h2 : x ≤ IntKind.i64.max := by show x ≤ (9223372036854775807 : Int); omega
  simp only [Lit.wf, h1, h2, decide_true, Bool.and_self]
theorem decP_okk {xs : List Int} (hx : Bytes xs) (h : decPE xs = 0) : (decP xs).ok := by
  obtain ⟨h1, h2, -⟩ := enc_dec hx h
  obtain ⟨b, hb, -, hb2⟩ := right_b h1
  have hv := right_v h1
  refine ⟨h2, ?_, ?_⟩
  · rcases hv with h | h <;> rw [h] <;> rfl
  · rw [hb]
    have := fullB_le hb2
    exact wf_small (by omega)
end Go.Proofs.YtnpeedmicjeleaaDoor

/- Layer 11 (route): Decode. -/
namespace Go.Proofs.YtnpeedmicjeleaaDoor
open Go.RowKit
set_option linter.unusedVariables false
set_option linter.unusedSimpArgs false
set_option maxRecDepth 4000
def ribDE (xs : List Int) : Int := decIE itR 211 ribB xs
def ribDL (xs : List Int) : List Rte := decIL itR 211 ribB xs
theorem itR_okk (ys : List Int) (hy : Bytes ys) (h : (itR ys).1 = 0) : (itR ys).2.1.ok := by
  unfold itR at *
  split at h
  · cases h
  · rename_i h7
    split at h
    · cases h
    · rename_i h0
      have h0' : decPE ys = 0 := by simpa using h0
      split at h
      · cases h
      · rename_i h3
        rw [if_neg h7, if_neg h0, if_neg h3]
        have hb : ∀ i : Int, (Lit.int .i64 (rd ys i)).wf = true := fun i => wf_small (by have := hy.getD i.toNat; show 0 ≤ rd ys i ∧ rd ys i ≤ 1000; unfold rd; omega)
        exact ⟨decP_okk hy h0', hb _, hb _, hb _⟩
theorem ribDL_ok {xs : List Int} (hx : Bytes xs) : Okr (ribDL xs) := decIL_all itR_okk hx
/-- What holds behind read. -/
def DecP {α : Type} (S : Shape α) (T : TypeId) (it : List Int → Int × α × Nat) (bad : Int) (xs : List Int) (W0 : World) (rb gt b : Nat) (E : Int) (w' : World) : Prop :=
  E = endE it bad xs ∧ Below W0.heap.size W0 w' ∧ w'.heap[rb]? = some (.cells (tabV none 0 0) T (0, 0)) ∧ (E = 0 → ∃ A n c, n ≤ 255 ∧ w'.heap[gt]? = some (.cells (tabV A n c) T (0, 0)) ∧ OS S w' b A n c (decIR it xs).2.1)
theorem DecP.grow {α : Type} {S : Shape α} {T : TypeId} {it : List Int → Int × α × Nat} {bad : Int} {xs : List Int} {W0 : World} {rb gt b k : Nat} {E : Int} {w1 w2 : World} (h : DecP S T it bad xs W0 rb gt b E w1) (hg : w1.grownBy w2 (some k)) (h0 : W0.heap.size ≤ k) (h1 : rb ≠ k) (h2 : gt ≠ k) (h3 : k < b) : DecP S T it bad xs W0 rb gt b E w2 := by
  obtain ⟨k1, k2, k3, k4⟩ := h
  refine ⟨k1, below_grown k2 hg h0, blk_grown k3 hg (fun e => by injection e with e; exact h1 e), fun e => ?_⟩
  obtain ⟨A, n, c, hn, ht, ho⟩ := k4 e
  exact ⟨A, n, c, hn, blk_grown ht hg (fun e => by injection e with e; exact h2 e), ho.grown hg (fun ad e hh => by have := ho.base_ ad e; injection hh with hh; omega)⟩
theorem DecP.step {α : Type} {S : Shape α} {T : TypeId} {it : List Int → Int × α × Nat} {bad : Int} {xs : List Int} {W0 : World} {rb gt b : Nat} {E : Int} {w1 w2 : World} (h : DecP S T it bad xs W0 rb gt b E w1) (hb : Below w1.heap.size w1 w2) : DecP S T it bad xs W0 rb gt b E w2 := by
  obtain ⟨k1, k2, k3, k4⟩ := h
  refine ⟨k1, below_step k2 hb, blk_below k3 hb, fun e => ?_⟩
  obtain ⟨A, n, c, hn, ht, ho⟩ := k4 e
  exact ⟨A, n, c, hn, blk_below ht hb, ho.below hb⟩
/-- From the closure's end to read's. -/
theorem DecP.of {α : Type} {S : Shape α} {T : TypeId} {it : List Int → Int × α × Nat} {bad : Int} {xs : List Int} {W0 w w1 w2 : World} {lo g gt : Nat} {e : Ending} (hs : w.heap.size = W0.heap.size + 2) (hgt : gt = W0.heap.size + 1) (hg : w.heap.size < g) (hgw : g < w1.heap.size)
    (hz : w1.heap[W0.heap.size]? = some (.cells (tabV none 0 0) T (0, 0))) (h : DecQ S T it xs W0 w1 lo g gt e w2) :
    Keep11 w.heap.size g w1 w2 ∧ ((∃ E, e = .panicked (wrg E) ∧ DecP S T it bad xs W0 W0.heap.size gt (W0.heap.size + 3) E w2) ∨ (e = .returned (.tuple #[]) ∧ ∃ ys, Rdr w2 lo g ys 0 ∧ DecP S T it bad xs W0 W0.heap.size gt (W0.heap.size + 3) (if ys.length = 0 then 0 else bad) w2)) := by
  obtain ⟨h1, h2, h3⟩ := h
  have hz2 := h2.blk_ hz (Nat.le_refl _) (by omega) (by omega)
  refine ⟨h2.k11 (by omega) (by omega), ?_⟩
  rcases h3 with ⟨E, rfl, hE, he⟩ | ⟨rfl, A, n, c, acc, ys, hr, hx, hd, hn, ht, ho⟩
  · refine .inl ⟨E, rfl, ?_, h1, hz2, fun e => absurd e hE⟩
    by_cases hx : xs.length = 0
    · rw [if_pos hx] at he
      rw [endE_none hx, ← he]
    · rw [if_neg hx] at he
      rw [endE_err hx he hE]
  · refine .inr ⟨rfl, ys, hr, (endE_end hx hd).symm, h1, hz2, fun _ => ⟨A, n, c, hn, ht, ?_⟩⟩
    rw [hd]
    exact ho.lower (by omega)
set_option maxHeartbeats 4000000 in
theorem rdecode_any (A : Option Addr) (n c : Nat) (xs : List Int) (w : World) (hL : Laid w) (hr : RB w A n c xs) (hn : n ≤ 100000) :
    Calls Tryd.prog 35 #[.slice A n c] w fun e w' => ∃ A' n' c', e = .returned (.tuple #[.agg (tabV A' n' c'), .int .i64 (ribDE xs)]) ∧ OS rteK w' w.heap.size A' n' c' (ribDL xs) ∧ Below w.heap.size w w' := by
  have hmf : ∀ (fn : Fn) (first cap : Array Value) (w : World), (Instr.makeFunc fn first cap).run Tryd.prog w = .ok (.func fn first cap) w := fun _ _ _ _ => rfl
  have hs0 : (w.alloc (.cells (tabV none 0 0) 24)).heap.size = w.heap.size + 1 := by simp
  obtain ⟨W1, hW1⟩ : ∃ W1, (w.alloc (.cells #[.slice none 0 0] 24)).alloc (.cells #[.slice none 0 0] 24) = W1 := ⟨_, rfl⟩
  have HB1 : Hid (Below w.heap.size w W1) := Lib.hid (hW1 ▸ below_alloc (below_alloc (Below.refl _ _) _) _)
  have HZ1 : Hid (W1.heap[w.heap.size]? = some (.cells (tabV none 0 0) 24 (0, 0))) := Lib.hid (by rw [← hW1]; exact blk_below (blk_new w _) (below_alloc (Below.refl _ _) _))
  have HT1 : Hid (W1.heap[w.heap.size + 1]? = some (.cells (tabV none 0 0) 24 (0, 0))) := Lib.hid (by rw [← hW1, ← hs0]; exact blk_new _ _)
  have HS1 : Hid (W1.heap.size = w.heap.size + 2) := Lib.hid (by rw [← hW1]; simp)
  have HR1 := Lib.hid (hr.below HB1.out)
  have HR := Lib.hid hr
  have HL := Lib.hid hL
  have HBY := Lib.hid hr.range
  clear hr hL hs0
  go_enter Tryd.func35, Tryd.ntmps35
  go_wp2_with fail
  clear hW1
  refine (read11_any 73 (fun _ _ => by simp [go_sem]) #[.pointer (some ⟨w.heap.size + 1, 0, none⟩)] A n c xs 211 W1 (HL.out.below HB1.out) HR1.out hn (DecP rteK 24 itR 211 xs w w.heap.size (w.heap.size + 1) (w.heap.size + 3)) ?_ ?_).mono ?_
  · intro E w1 w2 hsz h hg
    have := HS1.out
    exact h.grow hg (by omega) (by omega) (by omega) (by omega)
  · intro lo g w1 hlo hg hrd hb
    have hs := HS1.out
    have hz := blk_below HZ1.out hb
    refine (dec1_any g (w.heap.size + 1) A n c xs w w1 HL.out HR.out hn (below_step HB1.out hb) hrd (by omega) (by omega) (by omega) (by omega) (blk_below HT1.out hb)).mono ?_
    intro e w2 h
    exact DecP.of hs rfl hg hrd.lt hz h
  · rintro e w2 ⟨E, rfl, hP⟩
    have HP := Lib.hid hP
    clear hP
    by_cases hE : E = 0
    · subst hE
      obtain ⟨hE0, hbel, hz2, hex⟩ := HP.out
      obtain ⟨A2, n2, c2, hn2, ht2, ho2⟩ := hex rfl
      have HE0 : Hid (ribDE xs = if ribB (decIR itR xs).2.1 then 0 else 211) := Lib.hid (endE_ok (by decide) hE0.symm)
      have HBY1 := Lib.hid (decI_all (P := Rte.ok) itR_okk (rd xs 0).toNat [] (xs.drop 1) (HBY.out.drop 1) (fun a h => by cases h))
      have HDL : Hid (ribDE xs = 0 → ribDL xs = (decIR itR xs).2.1) := Lib.hid (fun h => if_pos h)
      have HDN : Hid (ribDE xs ≠ 0 → ribDL xs = []) := Lib.hid (fun h => decIL_no h)
      obtain ⟨acc, hacc⟩ : ∃ acc, (decIR itR xs).2.1 = acc := ⟨_, rfl⟩
      have hok : Okr acc := by rw [← hacc]; exact HBY1.out
      rw [hacc] at ho2 HE0 HDL
      have HB2 := Lib.hid hbel
      have HZ2 := Lib.hid hz2
      have HT2 := Lib.hid ht2
      have HO2 := Lib.hid ho2
      have HOK := Lib.hid hok
      clear hE0 hbel hz2 hex ht2 ho2 HP HBY1 hacc hok
      go_wp2_with (first | ((with_reducible show wpList _ _ _ (Oper.mk _ (Op.load _ _) _ _ _ _ :: _) _ _); refine wpList_load_g (load_rib HT2.out) _ rfl rfl (by go_simp) ?_))
      refine (rcheck_any A2 n2 c2 acc w2 (HL.out.below HB2.out) HO2.out.reads HOK.out (by omega)).mono ?_
      rintro e w3 ⟨rfl, hb3⟩
      have HB3 := Lib.hid (below_step HB2.out hb3)
      have HZ3 := Lib.hid (blk_below HZ2.out hb3)
      have HT3 := Lib.hid (blk_below HT2.out hb3)
      have HO3 := Lib.hid (HO2.out.below hb3)
      clear hb3 HB2 HZ2 HT2 HO2
      cases hrb : ribB acc with
      | true =>
        have hE0 : ribDE xs = 0 := by rw [HE0.out, hrb]; rfl
        have HE := Lib.hid (And.intro hE0 (HDL.out hE0))
        rw [show ribE acc = 0 by unfold ribE; rw [hrb]; rfl]
        clear hrb hE0
        go_wp2_with (first | ((with_reducible show wpList _ _ _ (Oper.mk _ (Op.load _ _) _ _ _ _ :: _) _ _); refine wpList_load_g (load_rib HT3.out) _ rfl rfl (by go_simp) ?_) | ((with_reducible show wpList _ _ _ (Oper.mk _ (Op.store _ _ _) _ _ _ _ :: _) _ _); refine wpList_store_blk HZ3.out 24 0 (tabV A2 n2 c2) (Nat.le_refl _) (info_rib _ _ _) (tab_one _ _ _) _ _ rfl rfl rfl rfl ?_; intro w4 hg9 hs9 hb9; rw [splice_tab] at hb9; have H4 := Lib.hid (And.intro hg9 hb9); clear hg9 hs9 hb9))
        refine bodyPost_ret (results_c2 rfl rfl (load_rib H4.out.2)) rfl ?_
        rw [HE.out.1, HE.out.2]
        exact ⟨A2, n2, c2, rfl, (HO3.out.grown H4.out.1 (fun ad e hh => by have := HO3.out.base_ ad e; injection hh with hh; omega)).lower (by omega), below_grown HB3.out H4.out.1 (Nat.le_refl _)⟩
      | false =>
        have hE0 : ribDE xs = 211 := by rw [HE0.out, hrb]; rfl
        have HE := Lib.hid (And.intro hE0 (HDN.out (by rw [hE0]; decide)))
        rw [show ribE acc = 211 by unfold ribE; rw [hrb]; rfl]
        clear hrb hE0
        go_wp2_with (first | ((with_reducible show wpList _ _ _ (Oper.mk _ (Op.build _ _) _ _ _ _ :: _) _ _); refine wpList_exw rfl (exec_build 24 #[] rfl #[] rfl ((run_build_rib_nil _))) ?_) | ((with_reducible show wpList _ _ _ (Oper.mk _ (Op.store _ _ _) _ _ _ _ :: _) _ _); refine wpList_store_blk HZ3.out 24 0 (tabV none 0 0) (Nat.le_refl _) (info_rib _ _ _) (tab_one _ _ _) _ _ rfl rfl rfl rfl ?_; intro w4 hg9 hs9 hb9; rw [splice_tab] at hb9; have H4 := Lib.hid (And.intro hg9 hb9); clear hg9 hs9 hb9))
        refine bodyPost_ret (results_c2 rfl rfl (load_rib H4.out.2)) rfl ?_
        rw [HE.out.1, HE.out.2]
        exact ⟨none, 0, 0, rfl, OS.nil _ _ _, below_grown HB3.out H4.out.1 (Nat.le_refl _)⟩
    · obtain ⟨hE0, hbel, hz2, -⟩ := HP.out
      have hE1 : ribDE xs = E := by rw [hE0]; exact endE_no (by decide) (by rw [← hE0]; exact hE)
      have HE : Hid (ribDE xs = E ∧ ribDL xs = []) := Lib.hid ⟨hE1, decIL_no (by show ribDE xs ≠ 0; rw [hE1]; exact hE)⟩
      have HB2 := Lib.hid hbel
      have HZ2 := Lib.hid hz2
      have hEb : (E == 0) = false := by simpa using hE
      have hEn : (E != 0) = true := by simpa using hE
      clear hE0 hbel hz2 hE1 HP hE
      go_wp2_with (first | ((with_reducible show wpList _ _ _ (Oper.mk _ (Op.build _ _) _ _ _ _ :: _) _ _); refine wpList_exw rfl (exec_build 24 #[] rfl #[] rfl ((run_build_rib_nil _))) ?_) | ((with_reducible show wpList _ _ _ (Oper.mk _ (Op.store _ _ _) _ _ _ _ :: _) _ _); refine wpList_store_blk HZ2.out 24 0 (tabV none 0 0) (Nat.le_refl _) (info_rib _ _ _) (tab_one _ _ _) _ _ rfl rfl rfl rfl ?_; intro w4 hg9 hs9 hb9; rw [splice_tab] at hb9; have H4 := Lib.hid (And.intro hg9 hb9); clear hg9 hs9 hb9))
      refine bodyPost_ret (results_c2 rfl rfl (load_rib H4.out.2)) rfl ?_
      rw [HE.out.1, HE.out.2]
      exact ⟨none, 0, 0, rfl, OS.nil _ _ _, below_grown HB2.out H4.out.1 (Nat.le_refl _)⟩
end Go.Proofs.YtnpeedmicjeleaaDoor

/- Layer 11 (route): the document's Decode. -/
namespace Go.Proofs.YtnpeedmicjeleaaDoor
open Go.RowKit
set_option linter.unusedVariables false
set_option linter.unusedSimpArgs false
set_option maxRecDepth 4000
/-- What the document's Decode bears. -/
structure TDS {α : Type} (S : Shape α) (T : TypeId) (w wr : World) (gt : Nat) (A : Option Addr) (n c : Nat) (t : List α) : Prop where
  zero : wr.heap[w.heap.size]? = some (.cells (tabV none 0 0) T (0, 0))
  tab : wr.heap[gt]? = some (.cells (tabV A n c) T (0, 0))
  own : OS S wr (gt + 1) A n c t
  below : Below w.heap.size w wr
section
variable {α : Type} {S : Shape α} {T : TypeId} {w wr w2 : World} {gt : Nat} {A : Option Addr} {n c : Nat} {t : List α}
theorem TDS.step (h : TDS S T w wr gt A n c t) (hb : Below wr.heap.size wr w2) : TDS S T w w2 gt A n c t :=
  ⟨blk_below h.zero hb, blk_below h.tab hb, h.own.below hb, below_step h.below hb⟩
theorem TDS.push {w9 w10 : World} {A' : Option Addr} {n' c' : Nat} {t' : List α} (h : TDS S T w wr gt A n c t) (h2 : wr.grownBy w9 ((Value.slice A n c).ownBlock)) (h3 : w9.grownBy w10 (some gt)) (ho : OS S w9 (gt + 1) A' n' c' t') (ht : w10.heap[gt]? = some (.cells (tabV A' n' c') T (0, 0))) (hz : w.heap.size < gt) : TDS S T w w10 gt A' n' c' t' :=
  ⟨blk_grown (blk_own2 h.zero h2 (fun ad e => by have := h.own.base_ ad e; omega)) h3 (fun e => by injection e with e; omega), ht, ho.grown h3 (fun ad e hh => by have := ho.base_ ad e; injection hh with hh; omega), below_grown (below_own h.below h2 (fun ad e => by have := h.own.base_ ad e; omega)) h3 (by omega)⟩
end
set_option maxRecDepth 100000 in
set_option maxHeartbeats 8000000 in
theorem refribdec_any (A : Option Addr) (n c : Nat) (xs : List Int) (w : World) (hr : RB w A n c xs) (hn : n ≤ 100000) : Calls Tryd.prog 36 #[.slice A n c] w fun e w' => ∃ A' n' c', e = .returned (.tuple #[.agg (tabV A' n' c'), .int .i64 (ribDE xs)]) ∧ OS rteK w' w.heap.size A' n' c' (ribDL xs) ∧ Below w.heap.size w w' := by
  have HLEN := Lib.hid hr.len
  have HZ := Lib.hid (blk_new w (.cells (tabV none 0 0) 24))
  have HBZ : Hid (Below w.heap.size w (w.alloc (.cells (tabV none 0 0) 24))) := below_alloc (Below.refl _ _) _
  have HR0 := Lib.hid hr
  have HBY := Lib.hid hr.range
  have hs0 : (w.alloc (.cells (tabV none 0 0) 24)).heap.size = w.heap.size + 1 := by simp
  have HD1 : Hid (TDS rteK 24 w ((w.alloc (.cells (tabV none 0 0) 24)).alloc (.cells (tabV none 0 0) 24)) (w.heap.size + 1) none 0 0 []) :=
    ⟨blk_below HZ.out (below_alloc (Below.refl _ _) _), hs0 ▸ blk_new _ _, OS.nil _ _ _, below_alloc HBZ.out _⟩
  obtain ⟨gt, hgt⟩ : ∃ gt, w.heap.size + 1 = gt := ⟨_, rfl⟩
  have HNO : Hid (∀ e : Int, ribDE xs = e → e ≠ 0 → ribDE xs = e ∧ ribDL xs = []) := Lib.hid (fun e h h0 => ⟨h, decIL_no (by show ribDE xs ≠ 0; rw [h]; exact h0)⟩)
  by_cases hx0 : xs.length = 0
  · have hn0 : n = 0 := by rw [← HLEN.out]; exact hx0
    have HE := Lib.hid (HNO.out 7 (by unfold ribDE decIE; rw [if_pos hx0]) (by decide))
    subst hn0
    clear hx0 hr
    go_enter Tryd.func36, Tryd.ntmps36
    go_wp2_with (first | ((with_reducible show wpList _ _ _ (Oper.mk _ (Op.build _ _) _ _ _ _ :: _) _ _); refine wpList_exw rfl (exec_build 24 #[] rfl #[] rfl ((run_build_rib_nil _))) ?_) | ((with_reducible show wpList _ _ _ (Oper.mk _ (Op.store _ _ _) _ _ _ _ :: _) _ _); refine wpList_store_blk HZ.out 24 0 (tabV none 0 0) (Nat.le_refl _) (info_rib _ _ _) (tab_one _ _ _) _ _ rfl rfl rfl rfl ?_; intro wc hg9 hs9 hb9; rw [splice_tab] at hb9; have Hc := Lib.hid (And.intro hg9 hb9); clear hg9 hs9 hb9))
    have hld := load_rib Hc.out.2
    refine bodyPost_ret (results_c2 rfl rfl hld) rfl ?_
    rw [HE.out.1, HE.out.2]
    exact ⟨_, _, _, rfl, OS.nil _ _ _, below_grown HBZ.out Hc.out.1 (by omega)⟩
  · have hn1 : 1 ≤ n := by rw [← HLEN.out]; omega
    obtain ⟨ad, rfl, hc00⟩ := hr.at_ 0 (by omega) (by omega)
    have HADL := Lib.hid (show ad.block < w.heap.size from World.block_lt_of_cell? _ _ hc00)
    clear hc00
    have hrx := HBY.out.getD 0
    obtain ⟨K, hK⟩ := Int.eq_ofNat_of_zero_le hrx.1
    have hK' : rd xs 0 = K := hK
    have hK1 : K < 256 := by have h1 : rd xs 0 < 256 := hrx.2; omega
    have HK := Lib.hid hK'
    have HX0 := Lib.hid hx0
    have HTR : Hid (decIR itR xs = decI itR K [] (xs.drop 1)) := Lib.hid (by unfold decIR; rw [hK']; rfl)
    have hlt1 : ¬ ((n : Int) < 1) := by omega
    clear hr hx0 hrx hK hK'
    go_enter Tryd.func36, Tryd.ntmps36
    go_wp2_with fail
    rw [hgt] at HD1
    go_loopw [5, 6] (fun y x wr => ∃ (k m : Nat) (A1 : Option Addr) (c1 : Nat) (acc : List Rte), x = .int .i64 k ∧ y = .int .i64 m ∧ Hid (k ≤ K ∧ m ≤ n ∧ TDS rteK 24 w wr gt A1 k c1 acc ∧ decIR itR xs = decI itR (K - k) acc (xs.drop m) ∧ Okr acc)) (fun _ x _ => K - (intOf x).toNat)
    case atStart => exact ⟨0, 1, none, 0, [], rfl, rfl, Nat.zero_le _, hn1, HD1.out, HTR.out, fun r hr => by cases hr⟩
    case round =>
      obtain ⟨k, m, A1, c1, acc, rfl, rfl, HH⟩ := hrel
      have HD := Lib.hid HH.out.2.2.1
      have hmn := HH.out.2.1
      obtain ⟨ad', hade, hc0⟩ := (HR0.out.below HD.out.below).at_ 0 (by omega) (by omega)
      injection hade with hade
      subst hade
      rw [HK.out, show ad.add (0 : Int).toNat = ad by simp [Addr.add]] at hc0
      by_cases hlt : k < K
      · have hlt' : (k : Int) < K := by omega
        obtain ⟨ys, hys⟩ : ∃ ys, xs.drop m = ys := ⟨_, rfl⟩
        have HTE := Lib.hid HH.out.2.2.2.1
        have HOK := Lib.hid HH.out.2.2.2.2
        rw [hys] at HTE
        have HYS := Lib.hid hys
        have HYL : Hid (m + ys.length = n) := Lib.hid (by rw [← hys, List.length_drop, HLEN.out]; omega)
        obtain ⟨A2, hsl, hsr, -⟩ := cut_bytes (some ad) n c m (by omega) (by omega)
        rw [Int.toNat_natCast] at hsl hsr
        have HRB := Lib.hid (hsr wr _ (HR0.out.below HD.out.below))
        rw [hys] at HRB
        have HLT := Lib.hid hlt
        have HERR : Hid (∀ e : Int, (itR ys).1 = e → e ≠ 0 → ribDE xs = e ∧ ribDL xs = []) := Lib.hid (fun e h h0 => HNO.out e (decIE_of HX0.out (by rw [HTE.out]; exact decI_err (by omega) h h0) h0) h0)
        clear hys hsr HH hlt
        have hp16 : B16 (decP ys).l := decP_16 (HYS.out ▸ HBY.out.drop m)
        go_wp2_with fail
        refine (refdecode_any A2 (n - m) (c - m) ys wr HRB.out).mono ?_
        rintro e w4 ⟨rfl, hb4⟩
        have HD4 := Lib.hid (HD.out.step hb4)
        have HLT4 := Lib.hid (Nat.lt_of_lt_of_le (blk_lt HD.out.tab) hb4.size)
        have HAL := Lib.hid (fun ad e => Nat.lt_of_lt_of_le (HD.out.own.lt ad e) hb4.size)
        have HP4 := Lib.hid (blk_new w4 (.cells (pfxV 0 zero16 0) 49))
        obtain ⟨pp, hpp⟩ : ∃ pp, decP ys = pp := ⟨_, rfl⟩
        obtain ⟨ee, hee⟩ : ∃ ee, decPE ys = ee := ⟨_, rfl⟩
        obtain ⟨nn, hnn⟩ : ∃ nn, decPN ys = nn := ⟨_, rfl⟩
        rw [hpp] at hp16
        have hp16l := hp16.len
        rw [hpp, hee, hnn]
        have HPN := Lib.hid (And.intro hpp (And.intro hee hnn))
        clear hb4 HRB HD hpp hee hnn hsl hc0
        by_cases h7 : ee = 7
        · subst h7
          have HE := Lib.hid (HERR.out 7 (itR_7 HPN.out.2.1) (by decide))
          go_wp2_with (first | ((with_reducible show wpList _ _ _ (Oper.mk _ (Op.build _ _) _ _ _ _ :: _) _ _); refine wpList_exw rfl (exec_build 24 #[] rfl #[] rfl ((run_build_rib_nil _))) ?_) | ((with_reducible show wpList _ _ _ (Oper.mk _ (Op.store _ _ _) _ _ _ _ :: _) _ _); refine wpList_store_blk HP4.out 49 0 (pfxV (pp.v) (pp.l) (pp.b)) (store_pfx_fit hp16l rfl) (info_pfx hp16l) (pfx_one _ _ _) _ _ rfl rfl rfl rfl ?_; intro w5 hg9 hs9 hb9; rw [splice_pfx _ _ _ _ hp16l rfl] at hb9; have H5 := Lib.hid (And.intro hg9 hb9); have HD5 := Lib.hid (HD4.out.step (below_grown (below_alloc (Below.refl w4.heap.size w4) _) hg9 (Nat.le_refl _))); clear hg9 hs9 hb9) | ((with_reducible show wpList _ _ _ (Oper.mk _ (Op.store _ _ _) _ _ _ _ :: _) _ _); refine wpList_store_blk HD5.out.zero 24 0 (tabV none 0 0) (Nat.le_refl _) (info_rib _ _ _) (tab_one _ _ _) _ _ rfl rfl rfl rfl ?_; intro w6 hg9 hs9 hb9; rw [splice_tab] at hb9; have H6 := Lib.hid (And.intro hg9 hb9); clear hg9 hs9 hb9))
          have hld := load_rib H6.out.2
          refine bodyPost_ret (results_c2 rfl rfl hld) rfl ?_
          rw [HE.out.1, HE.out.2]
          exact ⟨_, _, _, rfl, OS.nil _ _ _, below_grown HD5.out.below H6.out.1 (by omega)⟩
        · by_cases hz : ee = 0
          · subst hz
            have hnz := dec_nat (HYS.out ▸ HBY.out.drop m) HPN.out.2.1
            rw [HPN.out.2.2] at hnz
            obtain ⟨q, hq, hql⟩ := hnz
            subst hq
            obtain ⟨a, ha⟩ : ∃ a, m + q = a := ⟨_, rfl⟩
            obtain ⟨r, hr⟩ : ∃ r, n = a + r := ⟨n - a, by have := HYL.out; omega⟩
            have hwq : IntKind.i64.wrap ((m : Int) + (q : Int)) = (a : Int) := by rw [IntWalk.i64_in _ (by omega)]; omega
            have hws : IntKind.i64.wrap ((n : Int) - (a : Int)) = (r : Int) := by rw [IntWalk.i64_in _ (by omega)]; omega
            have HAR := Lib.hid (And.intro ha (And.intro hr (show ys.length = q + r by have := HYL.out; omega)))
            clear hql h7
            by_cases h3 : r < 3
            · have h3b : (r : Int) < 3 := by omega
              have HE := Lib.hid (HERR.out 7 (itR_short HPN.out.2.1 HPN.out.2.2 (by have := HAR.out.2.2; omega)) (by decide))
              clear hr
              go_wp2_with (first | ((with_reducible show wpList _ _ _ (Oper.mk _ (Op.build _ _) _ _ _ _ :: _) _ _); refine wpList_exw rfl (exec_build 24 #[] rfl #[] rfl ((run_build_rib_nil _))) ?_) | ((with_reducible show wpList _ _ _ (Oper.mk _ (Op.store _ _ _) _ _ _ _ :: _) _ _); refine wpList_store_blk HP4.out 49 0 (pfxV (pp.v) (pp.l) (pp.b)) (store_pfx_fit hp16l rfl) (info_pfx hp16l) (pfx_one _ _ _) _ _ rfl rfl rfl rfl ?_; intro w5 hg9 hs9 hb9; rw [splice_pfx _ _ _ _ hp16l rfl] at hb9; have H5 := Lib.hid (And.intro hg9 hb9); have HD5 := Lib.hid (HD4.out.step (below_grown (below_alloc (Below.refl w4.heap.size w4) _) hg9 (Nat.le_refl _))); clear hg9 hs9 hb9) | ((with_reducible show wpList _ _ _ (Oper.mk _ (Op.store _ _ _) _ _ _ _ :: _) _ _); refine wpList_store_blk HD5.out.zero 24 0 (tabV none 0 0) (Nat.le_refl _) (info_rib _ _ _) (tab_one _ _ _) _ _ rfl rfl rfl rfl ?_; intro w6 hg9 hs9 hb9; rw [splice_tab] at hb9; have H6 := Lib.hid (And.intro hg9 hb9); clear hg9 hs9 hb9))
              have hld := load_rib H6.out.2
              refine bodyPost_ret (results_c2 rfl rfl hld) rfl ?_
              rw [HE.out.1, HE.out.2]
              exact ⟨_, _, _, rfl, OS.nil _ _ _, below_grown HD5.out.below H6.out.1 (by omega)⟩
            · have h3b : ¬ ((r : Int) < 3) := by omega
              have HIT := Lib.hid (itR_ok HPN.out.2.1 HPN.out.2.2 (show q + 3 ≤ ys.length by have := HAR.out.2.2; omega))
              have hdd : ∀ j, rd (ys.drop (q + j)) 0 = rd xs ((a + j : Nat) : Int) := fun j => by rw [← HYS.out, List.drop_drop, rd_drop2]; congr 2; omega
              have e1 := hdd 0
              have e2 := hdd 1
              have e3 := hdd 2
              rw [List.drop_drop, List.drop_drop] at HIT
              rw [show q + 0 = q from rfl] at e1
              rw [e1, e2, show q + 1 + 1 = q + 2 from rfl, e3, HPN.out.1] at HIT
              obtain ⟨v1, hv1⟩ : ∃ v, rd xs ((a + 0 : Nat) : Int) = v := ⟨_, rfl⟩
              obtain ⟨v2, hv2⟩ : ∃ v, rd xs ((a + 1 : Nat) : Int) = v := ⟨_, rfl⟩
              obtain ⟨v3, hv3⟩ : ∃ v, rd xs ((a + 2 : Nat) : Int) = v := ⟨_, rfl⟩
              rw [hv1, hv2, hv3] at HIT
              have hb1 : 0 ≤ v1 ∧ v1 < 256 := by rw [← hv1]; exact HBY.out.getD _
              have hb2 : 0 ≤ v2 ∧ v2 < 256 := by rw [← hv2]; exact HBY.out.getD _
              have hb3 : 0 ≤ v3 ∧ v3 < 256 := by rw [← hv3]; exact HBY.out.getD _
              have hw1 : IntKind.i64.wrap v1 = v1 := IntWalk.i64_in _ (by omega)
              have hw2 : IntKind.i64.wrap v2 = v2 := IntWalk.i64_in _ (by omega)
              have hw3 : IntKind.i64.wrap v3 = v3 := IntWalk.i64_in _ (by omega)
              have HCL : Hid (∀ w0, RB w0 (some ad) n c xs → w0.cell? (ad.add a) = some (.int .u8 v1) ∧ w0.cell? (ad.add (a + 1)) = some (.int .u8 v2) ∧ w0.cell? (ad.add (a + 2)) = some (.int .u8 v3)) := Lib.hid (fun w0 h0 => by
                have key : ∀ j, j < 3 → w0.cell? (ad.add (a + j)) = some (.int .u8 (rd xs ((a + j : Nat) : Int))) := fun j hj => by
                  obtain ⟨a1, x1, x2⟩ := h0.at_ ((a + j : Nat) : Int) (by omega) (by omega)
                  injection x1 with x1
                  subst x1
                  exact x2
                exact ⟨by have := key 0 (by omega); rw [hv1] at this; exact this, by have := key 1 (by omega); rw [hv2] at this; exact this, by have := key 2 (by omega); rw [hv3] at this; exact this⟩)
              have hwa1 : IntKind.i64.wrap ((a : Int) + 1) = (a : Int) + 1 := IntWalk.i64_in _ (by omega)
              have hwa2 : IntKind.i64.wrap ((a : Int) + 2) = (a : Int) + 2 := IntWalk.i64_in _ (by omega)
              have hwa3 : IntKind.i64.wrap ((a : Int) + 3) = ((a + 3 : Nat) : Int) := by rw [IntWalk.i64_in _ (by omega)]; omega
              have hl0 : ¬ (n : Int) ≤ (a : Int) := by omega
              have hl1 : ¬ (n : Int) ≤ (a : Int) + 1 := by omega
              have hl2 : ¬ (n : Int) ≤ (a : Int) + 2 := by omega
              have hk0 : (a : Int) < n := by omega
              have hk1 : (a : Int) + 1 < n := by omega
              have hk2 : (a : Int) + 2 < n := by omega
              have hj1 : (0 : Int) ≤ (a : Int) + 1 := by omega
              have hj2 : (0 : Int) ≤ (a : Int) + 2 := by omega
              have HHV := Lib.hid (And.intro hv1 (And.intro hv2 hv3))
              clear hr hdd e1 e2 e3 hv1 hv2 hv3 h3
              go_upto_region 16 with (first | ((with_reducible show wpList _ _ _ (Oper.mk _ (Op.store _ _ _) _ _ _ _ :: _) _ _); refine wpList_store_blk HP4.out 49 0 (pfxV (pp.v) (pp.l) (pp.b)) (store_pfx_fit hp16l rfl) (info_pfx hp16l) (pfx_one _ _ _) _ _ rfl rfl rfl rfl ?_; intro w5 hg9 hs9 hb9; rw [splice_pfx _ _ _ _ hp16l rfl] at hb9; have H5 := Lib.hid (And.intro hg9 hb9); have HD5 := Lib.hid (HD4.out.step (below_grown (below_alloc (Below.refl w4.heap.size w4) _) hg9 (Nat.le_refl _))); clear hg9 hs9 hb9))
              try dsimp only [Act.put]
              have hgp := HLT4.out
              have HRX := Lib.hid (HR0.out.below HD5.out.below)
              obtain ⟨gp, hgpe⟩ : ∃ gp, w4.heap.size = gp := ⟨_, rfl⟩
              rw [hgpe] at hgp H5 HAL ⊢
              have HP5 := Lib.hid H5.out.2
              clear HP4 HD4 H5
              refine wp_region_mix ((fun w0 => w0.heap[gt]? = some (.cells (tabV A1 k c1) 24 (0, 0)) ∧ w0.heap[gp]? = some (.cells (pfxV pp.v pp.l pp.b) 49 (0, 0)) ∧ RB w0 (some ad) n c xs)) [(0, 0), (1, 0), (2, 0), (3, 0), (4, 0), (5, 0), (6, 0), (7, 0), (8, 0), (9, 0), (10, 0), (11, 0), (12, 0), (13, 0), (14, 0), (15, 0), (16, 0), (17, 0), (18, 0), (19, 0), (20, 0), (21, 2), (22, 2), (23, 0), (24, 3)] (by kernel_rfl) (by kernel_rfl) (⟨HD5.out.tab, HP5.out, HRX.out.below (below_drew1 _)⟩) ?_
              simp only [List.map_cons, List.map_nil]
              iterate 1 (refine wpO_step0 rfl rfl (fun K hK => ?_); go_simp; refine hK _ _ ?_; clear hK K)
              refine wpO_loadW (t := 22) (ad := ⟨gt, 0, none⟩) rfl rfl ?hw rfl rfl ((fun w0 hS => ((rib_at hS.1).all _ (Below.refl _ _)).2)) ?_
              case hw => go_simp
              refine wpO_loadW (t := 49) (ad := ⟨gp, 0, none⟩) rfl rfl ?hw rfl rfl ((fun w0 hS => load_pfx hp16 hS.2.1)) ?_
              case hw => go_simp
              iterate 3 (refine wpO_step0 rfl rfl (fun K hK => ?_); go_simp; refine hK _ _ ?_; clear hK K)
              refine wpO_loadW (t := 5) (ad := (ad.add a)) rfl rfl ?hw rfl rfl ((fun w0 hS => load_u8 (HCL.out w0 hS.2.2).1)) ?_
              case hw => go_simp
              iterate 5 (refine wpO_step0 rfl rfl (fun K hK => ?_); go_simp; refine hK _ _ ?_; clear hK K)
              refine wpO_loadW (t := 5) (ad := (ad.add (a + 1))) rfl rfl ?hw rfl rfl ((fun w0 hS => load_u8 (HCL.out w0 hS.2.2).2.1)) ?_
              case hw => go_simp
              iterate 5 (refine wpO_step0 rfl rfl (fun K hK => ?_); go_simp; refine hK _ _ ?_; clear hK K)
              refine wpO_loadW (t := 5) (ad := (ad.add (a + 2))) rfl rfl ?hw rfl rfl ((fun w0 hS => load_u8 (HCL.out w0 hS.2.2).2.2)) ?_
              case hw => go_simp
              iterate 1 (refine wpO_step0 rfl rfl (fun K hK => ?_); go_simp; refine hK _ _ ?_; clear hK K)
              refine wpO_step0 rfl rfl (fun K hK => ?_)
              rw [if_pos (show Region.wanted _ _ = true from rfl)]
              refine ⟨_, fun w0 => exec_build4 rfl rfl rfl rfl rfl (run_build_rte w0 pp v1 v2 v3 hp16l), hK _ _ ?_⟩
              clear hK K
              have HFIT : Hid ((⟨pp, v1, v2, v3⟩ : Rte).fits) := Lib.hid hp16
              refine wpO_step2 rfl rfl (⟨HD5.out.tab, HP5.out, HRX.out.below (below_drew1 _)⟩) (fun K hK => ?_)
              rw [if_pos (show Region.wanted _ _ = true from rfl)]
              refine oper_exec (exec_lit1 rteK (x := .tmp 65) rfl ⟨pp, v1, v2, v3⟩ rfl HFIT.out (by show 21 ≤ _; omega) _) ?_
              have HD8 := Lib.hid (HD5.out.step (below_drew1 w5))
              have HB8 := Lib.hid (below_alloc (Below.refl w5.drew.heap.size w5.drew) (.cells (rteK.enc ⟨pp, v1, v2, v3⟩).toArray rteK.t))
              have HD8 := Lib.hid (HD8.out.step HB8.out)
              have HP8 := Lib.hid (blk_below (show w5.drew.heap[gp]? = _ from HP5.out) HB8.out)
              have HR8 := Lib.hid ((HRX.out.below (below_drew1 w5)).below HB8.out)
              have hgt5 := blk_lt HD5.out.tab
              refine hK _ _ ⟨⟨HD8.out.tab, HP8.out, HR8.out⟩, ?_⟩
              clear hK K
              refine wpO_step2 rfl rfl (⟨HD8.out.tab, HP8.out, HR8.out⟩) (fun K hK => ?_)
              rw [if_pos (show Region.wanted _ _ = true from rfl)]
              refine oper_append_shp (S := rteK) (.tmp 46) (.tmp 66) rfl rfl rfl HD8.out.own (OS.one rteK w5.drew 0 ⟨pp, v1, v2, v3⟩ (Nat.zero_le _) HFIT.out).reads (by simp; omega) (by omega) ?_
              intro A9 c9 w9 h1 h2 h3
              have hA8 := HD8.out.own.base_
              have hT9 := blk_own2 HD8.out.tab h2 (fun ad e => by have := hA8 ad e; omega)
              have hR9 := HR8.out.grown h2 (fun ad0 e hh => by
                injection e with e
                subst e
                obtain ⟨ad2, x1, x2⟩ := own_of hh.symm
                have := hA8 ad2 x1
                have := HADL.out
                omega)
              have HT9 := Lib.hid hT9
              have H9 := Lib.hid (And.intro h1 (And.intro h2 hR9))
              clear h1 h2 h3 hT9 hR9
              refine hK _ _ ⟨⟨HT9.out, blk_own2 HP8.out H9.out.2.1 (fun ad e => by have := HAL.out ad e; omega), H9.out.2.2⟩, ?_⟩
              clear hK K
              iterate 1 (refine wpO_step0 rfl rfl (fun K hK => ?_); go_simp; refine hK _ _ ?_; clear hK K)
              refine wpO_step3 rfl rfl (fun K hK => ?_)
              rw [if_pos (show Region.wanted _ _ = true from rfl)]
              refine oper_store_cell HT9.out 22 0 (.slice A9 (k + 1) c9) (Nat.le_refl _) (by kernel_rfl) rfl rfl _ _ rfl rfl rfl ?_
              intro wa hga hsa hta
              have HDa := Lib.hid (HD8.out.push H9.out.2.1 hga H9.out.1 hta (by omega))
              clear hga hsa hta H9 HT9 HD8 HP8 HR8 HB8 HD5 HP5 HRX hA8
              refine hK _ _ ?_
              clear hK K
              refine wpO_nil ?_
              have hwf : ∀ v : Int, 0 ≤ v ∧ v < 256 → (Lit.int .i64 v).wf = true := fun v h => wf_small (by show 0 ≤ v ∧ v ≤ 1000; omega)
              have HOK2 : Hid (Okr (acc ++ [⟨pp, v1, v2, v3⟩])) := Lib.hid (fun x hx => by
                rcases List.mem_append.1 hx with h1 | h1
                · exact HOK.out x h1
                · rw [List.mem_singleton] at h1
                  rw [h1]
                  exact ⟨HPN.out.1 ▸ decP_okk (HYS.out ▸ HBY.out.drop m) HPN.out.2.1, hwf _ hb1, hwf _ hb2, hwf _ hb3⟩)
              have HST := Lib.hid (decI_step HLT.out HIT.out (acc := acc))
              have HDR : Hid (ys.drop (q + 3) = xs.drop (a + 3)) := Lib.hid (by rw [← HYS.out, List.drop_drop]; congr 1; have := HAR.out.1; omega)
              clear hwf
              go_wp2
              go_roundw
              case measure => simp [intOf]; have := HLT.out; omega
              case rel => exact ⟨k + 1, a + 3, A9, c9, acc ++ [⟨pp, v1, v2, v3⟩], by go_num, by go_num, HLT.out, by have := HAR.out.2; omega, HDa.out, by rw [HTE.out, HST.out, HDR.out], HOK2.out⟩
          · have HE := Lib.hid (HERR.out 211 (itR_bad (by rw [HPN.out.2.1]; exact h7) (by rw [HPN.out.2.1]; exact hz)) (by decide))
            have h7b : (ee == 7) = false := by simpa using h7
            have hzc : (ee == 0) = false := by simpa using hz
            have hzb : (ee != 0) = true := by simpa using hz
            clear h7 hz
            go_wp2_with (first | ((with_reducible show wpList _ _ _ (Oper.mk _ (Op.build _ _) _ _ _ _ :: _) _ _); refine wpList_exw rfl (exec_build 24 #[] rfl #[] rfl ((run_build_rib_nil _))) ?_) | ((with_reducible show wpList _ _ _ (Oper.mk _ (Op.store _ _ _) _ _ _ _ :: _) _ _); refine wpList_store_blk HP4.out 49 0 (pfxV (pp.v) (pp.l) (pp.b)) (store_pfx_fit hp16l rfl) (info_pfx hp16l) (pfx_one _ _ _) _ _ rfl rfl rfl rfl ?_; intro w5 hg9 hs9 hb9; rw [splice_pfx _ _ _ _ hp16l rfl] at hb9; have H5 := Lib.hid (And.intro hg9 hb9); have HD5 := Lib.hid (HD4.out.step (below_grown (below_alloc (Below.refl w4.heap.size w4) _) hg9 (Nat.le_refl _))); clear hg9 hs9 hb9) | ((with_reducible show wpList _ _ _ (Oper.mk _ (Op.store _ _ _) _ _ _ _ :: _) _ _); refine wpList_store_blk HD5.out.zero 24 0 (tabV none 0 0) (Nat.le_refl _) (info_rib _ _ _) (tab_one _ _ _) _ _ rfl rfl rfl rfl ?_; intro w6 hg9 hs9 hb9; rw [splice_tab] at hb9; have H6 := Lib.hid (And.intro hg9 hb9); clear hg9 hs9 hb9))
            have hld := load_rib H6.out.2
            refine bodyPost_ret (results_c2 rfl rfl hld) rfl ?_
            rw [HE.out.1, HE.out.2]
            exact ⟨_, _, _, rfl, OS.nil _ _ _, below_grown HD5.out.below H6.out.1 (by omega)⟩
      · obtain rfl : k = K := by have := HH.out.1; omega
        have HTE := Lib.hid HH.out.2.2.2.1
        have HOK := Lib.hid HH.out.2.2.2.2
        rw [Nat.sub_self, decI] at HTE
        have HTT : Hid (ribDE xs = if (xs.drop m).length = 0 ∧ ribB acc = true then 0 else 211) := Lib.hid (decIE_end HX0.out HTE.out)
        have HAC : Hid (ribDE xs = 0 → ribDL xs = acc) := Lib.hid (fun h => decIL_end HTE.out h)
        have HLL := Lib.hid (show (xs.drop m).length = n - m by rw [List.length_drop, HLEN.out])
        have hlt' : decide (k < k) = false := decide_eq_false hlt
        clear HH hlt
        by_cases hl0 : m = n
        · subst hl0
          have hlt := ((rib_at HD.out.tab).all wr (Below.refl _ _)).1
          go_wp2_with (first | ((with_reducible show wpList _ _ _ (Oper.mk _ (Op.load _ _) _ _ _ _ :: _) _ _); refine wpList_load_g hlt _ rfl rfl (by go_simp) ?_))
          refine (refrib_any A1 k c1 acc wr HD.out.own.reads HOK.out (by omega)).mono ?_
          rintro e w8 ⟨rfl, hb8⟩
          have HD8 := Lib.hid (HD.out.step hb8)
          clear hlt hb8
          cases hR : ribB acc with
          | true =>
            have hE0 : ribDE xs = 0 := by rw [HTT.out, if_pos ⟨by rw [HLL.out]; omega, hR⟩]
            have HE := Lib.hid (And.intro hE0 (HAC.out hE0))
            have hlt := ((rib_at HD8.out.tab).all w8 (Below.refl _ _)).1
            clear hE0 hR
            go_wp2_with (first | ((with_reducible show wpList _ _ _ (Oper.mk _ (Op.load _ _) _ _ _ _ :: _) _ _); refine wpList_load_g hlt _ rfl rfl (by go_simp) ?_) | ((with_reducible show wpList _ _ _ (Oper.mk _ (Op.store _ _ _) _ _ _ _ :: _) _ _); refine wpList_store_blk HD8.out.zero 24 0 (tabV A1 k c1) (Nat.le_refl _) (info_rib _ _ _) (tab_one _ _ _) _ _ rfl rfl rfl rfl ?_; intro wc hg9 hs9 hb9; rw [splice_tab] at hb9; have Hc := Lib.hid (And.intro hg9 hb9); clear hg9 hs9 hb9))
            have hld := load_rib Hc.out.2
            refine bodyPost_ret (results_c2 rfl rfl hld) rfl ?_
            rw [HE.out.1, HE.out.2]
            exact ⟨_, _, _, rfl, (HD8.out.own.grown Hc.out.1 (fun ad e hh => by have := HD8.out.own.base_ ad e; injection hh with hh; omega)).lower (by omega), below_grown HD8.out.below Hc.out.1 (by omega)⟩
          | false =>
            have HE := Lib.hid (HNO.out 211 (by rw [HTT.out, if_neg (fun h => by rw [hR] at h; cases h.2)]) (by decide))
            clear hR
            go_wp2_with (first | ((with_reducible show wpList _ _ _ (Oper.mk _ (Op.build _ _) _ _ _ _ :: _) _ _); refine wpList_exw rfl (exec_build 24 #[] rfl #[] rfl ((run_build_rib_nil _))) ?_) | ((with_reducible show wpList _ _ _ (Oper.mk _ (Op.store _ _ _) _ _ _ _ :: _) _ _); refine wpList_store_blk HD8.out.zero 24 0 (tabV none 0 0) (Nat.le_refl _) (info_rib _ _ _) (tab_one _ _ _) _ _ rfl rfl rfl rfl ?_; intro wc hg9 hs9 hb9; rw [splice_tab] at hb9; have Hc := Lib.hid (And.intro hg9 hb9); clear hg9 hs9 hb9))
            have hld := load_rib Hc.out.2
            refine bodyPost_ret (results_c2 rfl rfl hld) rfl ?_
            rw [HE.out.1, HE.out.2]
            exact ⟨_, _, _, rfl, OS.nil _ _ _, below_grown HD8.out.below Hc.out.1 (by omega)⟩
        · have HE := Lib.hid (HNO.out 211 (by rw [HTT.out, if_neg (fun h => hl0 (by have := h.1; rw [HLL.out] at this; omega))]) (by decide))
          have hl1 : ((m : Int) != (n : Int)) = true := by simp; omega
          have hl2 : ((m : Int) == (n : Int)) = false := by simp; omega
          go_wp2_with (first | ((with_reducible show wpList _ _ _ (Oper.mk _ (Op.build _ _) _ _ _ _ :: _) _ _); refine wpList_exw rfl (exec_build 24 #[] rfl #[] rfl ((run_build_rib_nil _))) ?_) | ((with_reducible show wpList _ _ _ (Oper.mk _ (Op.store _ _ _) _ _ _ _ :: _) _ _); refine wpList_store_blk HD.out.zero 24 0 (tabV none 0 0) (Nat.le_refl _) (info_rib _ _ _) (tab_one _ _ _) _ _ rfl rfl rfl rfl ?_; intro wc hg9 hs9 hb9; rw [splice_tab] at hb9; have Hc := Lib.hid (And.intro hg9 hb9); clear hg9 hs9 hb9))
          have hld := load_rib Hc.out.2
          refine bodyPost_ret (results_c2 rfl rfl hld) rfl ?_
          rw [HE.out.1, HE.out.2]
          exact ⟨_, _, _, rfl, OS.nil _ _ _, below_grown HD.out.below Hc.out.1 (by omega)⟩
end Go.Proofs.YtnpeedmicjeleaaDoor

/- A region that draws its order, where two operations that act may stand in either order, and that may end in a panic. -/
namespace Go.Proofs.YtnpeedmicjeleaaDoor
open Go.RowKit
set_option linter.unusedVariables false
set_option linter.unusedSimpArgs false
set_option maxRecDepth 4000
section
variable {P : Program} {S : World → Prop} {ops : Array Oper} {md : Region.Mode} {cl : Nat → Nat} {R : List PanicEntry → Act → World → Prop}
theorem notOutp (X : Act → World → Prop) : ¬ LetsOut (panicOr X R) := fun ⟨_, _, h⟩ => h
theorem wpOp_panic {X Y K : Act → World → Prop} {i : Nat} {a : Act} {w : World} (h : wpOp P ops (panicOr X R) i K a w) : wpOp P ops (panicOr Y R) i K a w := by
  unfold wpOp at *
  cases hi : ops[i]? with
  | none => rw [hi] at h; exact h
  | some o =>
    rw [hi] at h
    simp only at h ⊢
    split
    · rename_i hw
      rw [if_pos hw] at h
      rcases h with h | ⟨_, h⟩
      · refine .inl ?_
        unfold Oper.wp at *
        generalize (execOp a.eval o).run P w = r at *
        cases r with
        | ok n w' =>
          cases n <;> simp only [Oper.upon] at h ⊢
          case value u => exact h
          case skip => exact h
          case defer d => exact h
          case enter f args =>
            refine Calls.mono h fun e w'' he => ?_
            cases e with
            | returned u => exact he
            | panicked c => exact he
            | outgrown => exact (notOutp _ he).elim
          case row row args => exact h
        | halt x w' =>
          cases x <;> simp only [Oper.upon] at h ⊢
          case panic u => exact h
      · exact (notOutp _ h).elim
    · rename_i hw
      rw [if_neg hw] at h
      exact h
theorem mOp_panic {X Y K K' : Act → World → Prop} {i : Nat} {a : Act} {w : World} (hk : ∀ a w, K a w → K' a w) (h : mOp P S ops (panicOr X R) cl i K a w) : mOp P S ops (panicOr Y R) cl i K' a w := by
  refine mOp_mono hk ?_
  unfold mOp at *
  cases hi : ops[i]? with
  | none => rw [hi] at h; exact h
  | some o =>
    rw [hi] at h
    simp only at h ⊢
    split at h
    · exact h
    · exact h
    · exact wpOp_panic h
    · exact h
    · exact wpOp_panic h

def wpFp (P : Program) (S : World → Prop) (ops : Array Oper) (cl : Nat → Nat) (R : List PanicEntry → Act → World → Prop) (K : Act → World → Prop) : OrdT → Act → World → Prop
  | .lin l, a, w => wpO P S ops (panicOr K R) cl l a w
  | .fork l i j r s, a, w => wpO P S ops (panicOr (fun a w => wpO P S ops (panicOr (wpFp P S ops cl R K r) R) cl [i] a w ∧ wpO P S ops (panicOr (wpFp P S ops cl R K s) R) cl [j] a w) R) cl l a w
theorem wpM_prefixp (hf : Fin md ops cl) (hs : Region.noSelect ops = true) (hQ : ∀ (i : Nat) (o : Oper), ops[i]? = some o → ∀ c v a w, R c (a.put o.dst v) w → R c a w) {X K : Act → World → Prop} {n : Nat} : ∀ (l : List Nat) (listed : Array Bool) (a : Act) (w : World), Closed md ops listed → ordP md ops cl l listed = true →
    wpO P S ops (panicOr X R) cl l a w → (∀ a w, Closed md ops (afterL l listed) → X a w → wpM P S md ops (panicOr K R) cl n (afterL l listed) a w) → wpM P S md ops (panicOr K R) cl (n + l.length) listed a w
  | [], listed, a, w, hcl, _, h, hX => hX a w hcl h
  | i :: l, listed, a, w, hcl, hB, h, hX => by
    simp only [ordP, Bool.and_eq_true] at hB
    obtain ⟨hB1, hB2⟩ := hB
    simp only [wpO] at h
    have h0 := h
    have hX' : ∀ a w, Closed md ops (afterL l (listed.setIfInBounds i true)) → X a w → wpM P S md ops (panicOr K R) cl n (afterL l (listed.setIfInBounds i true)) a w := fun a w hc hx => hX a w hc hx
    show wpM P S md ops (panicOr K R) cl (n + l.length + 1) listed a w
    unfold mOp at h
    split at hB1
    · rename_i hc
      simp only [Bool.and_eq_true, List.contains_iff_mem] at hB1
      obtain ⟨_, oi, hoi, _⟩ := mem_ready.1 hB1.1
      rw [hoi] at h
      simp only [hc] at h
      obtain ⟨v, hy, hk⟩ := h
      exact wpM_first0 hf hoi hc (Region.noSelect_spec hs) (fun c a w => hQ i oi hoi c v a w) (n + l.length) listed a w hcl (Region.free_spec hoi hB1.2) hB1.1 hy (wpM_prefixp hf hs hQ l _ _ w (hcl.set hB1.1) hB2 hk hX')
    · rename_i hc
      simp only [Bool.and_eq_true, List.contains_iff_mem, List.all_eq_true, List.mem_range, Bool.or_eq_true, beq_iff_eq] at hB1
      obtain ⟨_, oi, hoi, _⟩ := mem_ready.1 hB1.1.1
      rw [hoi] at h
      simp only [hc] at h
      obtain ⟨v, hy, hk⟩ := h
      refine wpM_first1 (N := ops.size) hoi hc (Region.noSelect_spec hs) (n + l.length) listed a hcl (fun j oj hj hun => ?_) (Region.free_spec hoi hB1.1.2) hB1.1.1 hy (wpM_prefixp hf hs hQ l _ _ w (hcl.set hB1.1.1) hB2 hk hX')
      have := hB1.2 j (Array.getElem?_eq_some_iff.1 hj).1
      rw [hun] at this
      simpa [or_assoc] using this
    · rename_i hc
      simp only [Bool.and_eq_true, List.contains_iff_mem] at hB1
      obtain ⟨_, oi, hoi, _⟩ := mem_ready.1 hB1.1
      rw [hoi] at h
      simp only [hc] at h
      obtain ⟨v, hy, hk⟩ := h
      exact wpM_first4 hoi hc (Region.noSelect_spec hs) (fun c a w => hQ i oi hoi c v a w) (n + l.length) listed a w hcl (Region.free_spec hoi hB1.2) hB1.1 hy (wpM_prefixp hf hs hQ l _ _ w (hcl.set hB1.1) hB2 hk hX')
    · simp only [beq_iff_eq] at hB1
      have hr : i ∈ Region.ready md ops listed := by rw [hB1]; exact List.mem_singleton.2 rfl
      exact wpM_only hB1 (mOp_panic (fun a' w' h' => wpM_prefixp hf hs hQ l _ a' w' (hcl.set hr) hB2 h' hX') h0)
theorem wpM_of_wpFp (hf : Fin md ops cl) (hs : Region.noSelect ops = true) (hQ : ∀ (i : Nat) (o : Oper), ops[i]? = some o → ∀ c v a w, R c (a.put o.dst v) w → R c a w) {K : Act → World → Prop} : ∀ (t : OrdT) (listed : Array Bool) (a : Act) (w : World), Closed md ops listed → ordF md ops cl t listed = true → wpFp P S ops cl R K t a w →
    wpM P S md ops (panicOr K R) cl t.len listed a w
  | .lin l, listed, a, w, hcl, hB, h => wpM_of_wpOq hf hs (fun i o hi c v a w h => hQ i o hi c v a w h) l listed a w hcl hB h
  | .fork l i j r s, listed, a, w, hcl, hB, h => by
    simp only [ordF, Bool.and_eq_true, decide_eq_true_eq, beq_iff_eq] at hB
    obtain ⟨⟨⟨⟨h1, h2⟩, h3⟩, h4⟩, h5⟩ := hB
    show wpM P S md ops (panicOr K R) cl (l.length + (r.len + 1)) listed a w
    rw [Nat.add_comm]
    refine wpM_prefixp hf hs hQ l listed a w hcl h1 h (fun a w hc hx => ?_)
    refine ⟨fun h => (by rw [h2] at h; cases h), fun k hk => ?_⟩
    have hri : i ∈ Region.ready md ops (afterL l listed) := by rw [h2]; simp
    have hrj : j ∈ Region.ready md ops (afterL l listed) := by rw [h2]; simp
    rw [h2] at hk
    rcases List.mem_cons.1 hk with rfl | hk
    · exact mOp_panic (fun a' w' h' => wpM_of_wpFp hf hs hQ r _ a' w' (hc.set hri) h4 h') hx.1
    · rw [List.mem_singleton] at hk
      subst hk
      exact mOp_panic (fun a' w' h' => by rw [h3]; exact wpM_of_wpFp hf hs hQ s _ a' w' (hc.set hrj) h5 h') hx.2
end
theorem wp_region_forkp {P : Program} (S : World → Prop) (D : List Deferred) (k : Nat) (V : Option Value) (C : List PanicEntry → World → Prop) {ops : Array Oper} {id : Nat} {Q : Exit → Act → World → Prop} {a : Act} {w : World} (t : OrdT) (l : List (Nat × Nat)) (hm : P.follows .mixedOrders = true)
    (hB : (finB .any ops l && Region.noSelect ops && decide (t.len = ops.size) && ordF .any ops (clOf l) t (Array.replicate ops.size false)) = true)
    (hk : ops.toList.all (fun o => o.dst != some k) = true)
    (hS : S w.drew) (hR : ∀ c a w, panicAt D k V C c a w → Q (.panic c) a w) (h : wpFp P S ops (clOf l) (panicAt D k V C) (Q .normal) t a w.drew) : (Code.region id ops true).wp P Q a w := by
  simp only [Bool.and_eq_true, decide_eq_true_eq] at hB
  refine wp_mono (Q := panicOr (Q .normal) (panicAt D k V C)) (wp_region_any hm (wpAny_of_wpM (S := S) (cl := clOf l) (fin_of hB.1.1.1) _ _ _ _ (Closed.start _) hS ?_)) (fun e a w hq => ?_)
  · have := wpM_of_wpFp (P := P) (S := S) (md := .any) (R := panicAt D k V C) (cl := clOf l) (fin_of hB.1.1.1) hB.1.1.2 (fun i o hi c v a w h => by
      have hne : o.dst ≠ some k := by
        have h3 := List.all_eq_true.1 hk o (List.mem_of_getElem? (i := i) (by rw [Array.getElem?_toList]; exact hi))
        simpa using h3
      unfold panicAt at h
      rw [put_defersP, put_slotP _ hne] at h
      exact h) t (Array.replicate ops.size false) a w.drew (Closed.start _) hB.2 h
    rw [hB.1.2] at this
    exact this
  · cases e <;> first | exact hq | exact hq.elim | exact hR _ _ _ hq
end Go.Proofs.YtnpeedmicjeleaaDoor

/- Layer 11 (route): DecodeBatch's closure. -/
namespace Go.Proofs.YtnpeedmicjeleaaDoor
open Go.RowKit
set_option linter.unusedVariables false
set_option linter.unusedSimpArgs false
set_option maxRecDepth 4000
theorem itU_7 {ys : List Int} (h : decPE ys = 7) : (itU ys).1 = 7 := by unfold itU; rw [if_pos h]
theorem itU_bad {ys : List Int} (h : decPE ys ≠ 7) (h0 : decPE ys ≠ 0) : (itU ys).1 = 210 := by unfold itU; rw [if_neg h, if_pos h0]
theorem itU_gone {ys : List Int} {q : Nat} (h0 : decPE ys = 0) (hq : decPN ys = q) (h : q + 2 ≤ ys.length) (hg : 1 < rd ((ys.drop q).drop 1) 0) : (itU ys).1 = 210 := by
  rw [List.drop_drop, rd_drop2] at hg
  unfold itU
  rw [if_neg (by rw [h0]; decide), if_neg (by rw [h0]; simp), if_pos ⟨by rw [hq]; simpa using h, by rw [hq]; exact hg⟩]
theorem itU_s1 {ys : List Int} {q : Nat} (h0 : decPE ys = 0) (hq : decPN ys = q) (h : ys.length < q + 2) : (itU ys).1 = 7 := by
  unfold itU
  rw [if_neg (by rw [h0]; decide), if_neg (by rw [h0]; simp), if_neg (by rw [hq]; simp; omega), if_pos (by rw [hq]; simp; omega)]
theorem itU_s2 {ys : List Int} {q : Nat} (h0 : decPE ys = 0) (hq : decPN ys = q) (h : ys.length < q + 4) (hg : ¬ 1 < rd ((ys.drop q).drop 1) 0) : (itU ys).1 = 7 := by
  rw [List.drop_drop, rd_drop2] at hg
  unfold itU
  rw [if_neg (by rw [h0]; decide), if_neg (by rw [h0]; simp), if_neg (by rw [hq]; rintro ⟨-, h⟩; exact hg h), if_pos (by rw [hq]; simpa using h)]
theorem itU_ok {ys : List Int} {q : Nat} (h0 : decPE ys = 0) (hq : decPN ys = q) (h : q + 4 ≤ ys.length) (hg : ¬ 1 < rd ((ys.drop q).drop 1) 0) :
    itU ys = (0, ⟨decP ys, rd (ys.drop q) 0, (rd ((ys.drop q).drop 1) 0 == 1), rd (((ys.drop q).drop 1).drop 1) 0, rd ((((ys.drop q).drop 1).drop 1).drop 1) 0⟩, q + 4) := by
  rw [List.drop_drop, List.drop_drop, List.drop_drop, rd_drop2, rd_drop2, rd_drop2, rd_drop2] at *
  unfold itU
  rw [if_neg (by rw [h0]; decide), if_neg (by rw [h0]; simp), if_neg (by rw [hq]; rintro ⟨-, h⟩; exact hg h), if_neg (by rw [hq]; simp; omega), hq]
  rfl
theorem built_upd2 (p : Pfx) (s : Int) (hl : p.l.length = 16) : Tryd.prog.built 75 [(0, .agg (pfxV p.v p.l p.b)), (1, .int .i64 s)] = some (updV ⟨p, s, false, 0, 0⟩) := by
  obtain ⟨a, b, c, d, e, f, g, h1, i, j, k, m, n, o, q, r, hh⟩ := len16 hl
  obtain ⟨v, l, x⟩ := p
  simp only at hh
  subst hh
  kernel_rfl
theorem run_build_upd2 (w : World) (p : Pfx) (s : Int) (hl : p.l.length = 16) : (Instr.build 75 #[(0, .agg (pfxV p.v p.l p.b)), (1, .int .i64 s)]).run Tryd.prog w = .ok (.agg (updV ⟨p, s, false, 0, 0⟩)) w := run_build w _ _ _ (built_upd2 p s hl)
theorem updV_set19 (x : Upd) (hx : x.fits) (g : Bool) : (updV x).setIfInBounds 19 (.bool g) = updV { x with g := g } := by
  obtain ⟨⟨v, l, y⟩, s, g0, f, h⟩ := x
  obtain ⟨a, b, c, d, e, f, g, h1, i, j, k, m, n, o, q, r, hh⟩ := len16 (show l.length = 16 from hx.len)
  subst hh
  rfl
theorem updV_set20 (x : Upd) (hx : x.fits) (y : Int) : (updV x).setIfInBounds 20 (.int .i64 y) = updV { x with f := y } := by
  obtain ⟨⟨v, l, y⟩, s, g0, f, h⟩ := x
  obtain ⟨a, b, c, d, e, f, g, h1, i, j, k, m, n, o, q, r, hh⟩ := len16 (show l.length = 16 from hx.len)
  subst hh
  rfl
theorem updV_set21 (x : Upd) (hx : x.fits) (y : Int) : (updV x).setIfInBounds 21 (.int .i64 y) = updV { x with h := y } := by
  obtain ⟨⟨v, l, y⟩, s, g0, f, h⟩ := x
  obtain ⟨a, b, c, d, e, f, g, h1, i, j, k, m, n, o, q, r, hh⟩ := len16 (show l.length = 16 from hx.len)
  subst hh
  rfl
set_option maxHeartbeats 8000000 in
set_option maxRecDepth 100000 in
theorem dec2_any {lo : Nat} (g gt : Nat) (A : Option Addr) (n c : Nat) (xs : List Int) (W0 w : World) (hL0 : Laid W0) (hx : RB W0 A n c xs) (hn : n ≤ 100000) (hB : Below W0.heap.size W0 w) (hr : Rdr w lo g xs 0) (hg : W0.heap.size ≤ g) (hgt : W0.heap.size ≤ gt) (hlo : gt < lo) (hne : gt < g)
    (ht : w.heap[gt]? = some (.cells (tabV none 0 0) 27 (0, 0))) :
    Calls Tryd.prog 77 #[.agg (rd3V g A n c 210), .pointer (some ⟨gt, 0, none⟩)] w fun e w' => DecQ updK 27 itU xs W0 w lo g gt e w' := by
  have hL := hL0.below hB
  have hblk1 := blk_new w (.cells (rd3V g A n c 210) 110)
  have hbel1 : Below w.heap.size w (w.alloc (.cells (rd3V g A n c 210) 110)) := below_alloc (Below.refl _ _) _
  have HP1 := Lib.hid (rd3_at hblk1)
  have HBK1 := Lib.hid hblk1
  have HBE := Lib.hid hbel1
  have HL := Lib.hid (hL.below HBE.out)
  obtain ⟨cs1, hcs1⟩ : ∃ cs, rd3V g A n c 210 = cs := ⟨_, rfl⟩
  simp only [hcs1] at HBE HL HP1 HBK1 ⊢
  have HC1 := Lib.hid hcs1
  clear hL hcs1 hblk1 hbel1
  have HL0 := Lib.hid hL0
  have HX := Lib.hid hx
  have HLEN := Lib.hid hx.len
  have HBY := Lib.hid hr.byte
  have hgw := hr.lt
  have HD := Lib.hid (DecL.start (S := updK) (T := 27) (W0 := W0) (w := w) (g := g) (gt := gt) (cs := cs1) hB ht)
  have HR := Lib.hid (hr.below HBE.out)
  have HBS := Lib.hid hB.size
  clear hL0 hx hr hB ht
  go_enter Tryd.func77, Tryd.ntmps77
  go_wp2_with (first | ((with_reducible show wpList _ _ _ (Oper.mk _ (Op.load _ _) _ _ _ _ :: _) _ _); refine wpList_load_g ((HP1.out.all _ (Below.refl _ _)).all) _ rfl rfl (by go_simp) ?_))
  refine (number11_any g A n c 210 xs _ HR.out).mono ?_
  rintro e w2 ⟨hg2, ⟨hz, rfl⟩ | ⟨hz, rfl, hr2⟩⟩
  · have HD2 := Lib.hid (HD.out.grow hg2 hg hgw (by omega))
    have HZ := Lib.hid hz
    clear hg2 hz
    go_wp2_with fail
    exact ⟨rfl, HD2.out.bel, HD2.out.keep, .inl ⟨7, rfl, by decide, by rw [if_pos HZ.out]⟩⟩
  · have HD2 := Lib.hid (HD.out.grow hg2 hg hgw (by omega))
    have HR2 := Lib.hid hr2
    have HZ := Lib.hid hz
    have hrx := HBY.out.getD 0
    obtain ⟨K, hK⟩ := Int.eq_ofNat_of_zero_le hrx.1
    have hK' : rd xs 0 = K := hK
    have hK1 : K < 256 := by have h1 : rd xs 0 < 256 := hrx.2; omega
    rw [hK']
    have HTR : Hid (decIR itU xs = decI itU K [] (xs.drop 1)) := Lib.hid (by unfold decIR; rw [hK']; rfl)
    have hn1 : 1 ≤ n := by have := HLEN.out; have := HZ.out; omega
    clear hg2 hr2 hz hrx hK hK' HD HR
    go_wp2_with fail
    go_loopw [7] (fun x wr => ∃ (k m : Nat) (A1 : Option Addr) (c1 : Nat) (acc : List Upd), x = .int .i64 k ∧ Hid (k ≤ K ∧ m ≤ n ∧ DecL updK 27 W0 w wr g gt cs1 A1 k c1 acc ∧ Rdr wr lo g (xs.drop m) 0 ∧ decIR itU xs = decI itU (K - k) acc (xs.drop m))) (fun x _ => K - (intOf x).toNat)
    case atStart => exact ⟨0, 1, none, 0, [], rfl, Nat.zero_le _, hn1, HD2.out, HR2.out, HTR.out⟩
    case round =>
      obtain ⟨k, m, A1, c1, acc, rfl, HH⟩ := hrel
      obtain ⟨wk, rfl⟩ : ∃ wk, wk = wr := ⟨wr, rfl⟩
      clear HD2 HR2
      have HD := Lib.hid HH.out.2.2.1
      have HRR := Lib.hid HH.out.2.2.2.1
      by_cases hlt : k < K
      · have hlt' : (k : Int) < K := by omega
        have HLT := Lib.hid hlt
        have hmn := HH.out.2.1
        obtain ⟨ys, hys⟩ : ∃ ys, xs.drop m = ys := ⟨_, rfl⟩
        have HTE := Lib.hid HH.out.2.2.2.2
        rw [hys] at HRR HTE
        have HYS := Lib.hid hys
        have HYB := Lib.hid HRR.out.byte
        have HER : Hid (∀ ch wx, DecC (itU ys).1 W0 w g gt ch wx → DecQ updK 27 itU xs W0 w lo g gt (.panicked ch) wx) := Lib.hid (by
          rintro ch wx ⟨h2, h3, E, rfl, h5, h6⟩
          exact ⟨h2, h3, .inl ⟨E, rfl, h5, by rw [if_neg HZ.out, HTE.out]; exact decI_err (by omega) h6 h5⟩⟩)
        clear hys HH hlt
        go_upto_region 3 with fail
        go_cut [3] (fun s3 wx => ∃ (gu q : Nat) (pp : Pfx) (s : Int), s3 = .pointer (some ⟨gu, 0, none⟩) ∧ Hid (decPE ys = 0 ∧ decPN ys = q ∧ decP ys = pp ∧ rd (ys.drop q) 0 = s ∧ B16 pp.l ∧ q + 1 ≤ ys.length ∧ (g < gu ∧ w.heap.size < gu ∧ ∀ ad, A1 = some ad → ad.block < gu) ∧ wx.heap[gu]? = some (.cells (updV ⟨pp, s, false, 0, 0⟩) 75 (0, 0)) ∧ DecL updK 27 W0 w wx g gt cs1 A1 k c1 acc ∧ Rdr wx lo g ((ys.drop q).drop 1) 0))
        case first =>
          refine wp_region_forkp (fun w0 => w0.heap[w.heap.size]? = some (.cells cs1 110 (0, 0))) [] 0 (some (.agg cs1)) (DecC (itU ys).1 W0 w g gt) (OrdT.fork [0, 2] 1 5 (OrdT.fork [] 3 5 (OrdT.lin [4, 5, 6]) (OrdT.lin [3, 4, 6])) (OrdT.lin [1, 3, 4, 6])) [(0, 0), (1, 2), (2, 0), (3, 2), (4, 0), (5, 2), (6, 2)] (by kernel_rfl) (by kernel_rfl) (by kernel_rfl) HD.out.box ?_ ?_
          · rintro ch a wx ⟨h1, -, h2⟩
            exact ⟨h1, HER.out ch wx h2⟩
          · simp only [wpFp]
            refine wpO_loadW (t := 110) (ad := ⟨w.heap.size, 0, none⟩) rfl rfl ?hw rfl rfl ((fun w0 hS => (rd3_ld (hS.trans (by rw [HC1.out]))).all)) ?_
            case hw => go_simp
            refine wpO_loadW (t := 110) (ad := ⟨w.heap.size, 0, none⟩) rfl rfl ?hw rfl rfl ((fun w0 hS => (rd3_ld (hS.trans (by rw [HC1.out]))).all)) ?_
            case hw => go_simp
            have HD9 := Lib.hid (HD.out.step (below_drew1 wk))
            have HR9 := Lib.hid (HRR.out.below (below_drew1 wk))
            refine wpO_nilp ⟨?_, ?_⟩
            · refine wpO_step2 rfl rfl (HD9.out.box) (fun K hK => ?_)
              go_simp
              refine (prefix11_any g A n c 210 xs ys m wk.drew (HL0.out.below HD9.out.bel) HR9.out (HX.out.below HD9.out.bel) HYS.out hmn hn).mono ?_
              rintro e w3 ⟨hg9, ⟨h7, rfl⟩ | ⟨h7, h0, rfl⟩ | ⟨h0, rfl, hr9⟩⟩
              · exact ⟨rfl, rfl, (HD9.out.grow hg9 hg hgw (by omega)).leave (itU_7 h7) (by decide)⟩
              · exact ⟨rfl, rfl, (HD9.out.grow hg9 hg hgw (by omega)).leave (itU_bad h7 h0) (by decide)⟩
              obtain ⟨q, hq, hql⟩ := dec_nat HYB.out h0
              rw [hq, Int.toNat_natCast] at hr9
              have H0 := Lib.hid h0
              have HQ := Lib.hid hq
              replace HD9 := Lib.hid (HD9.out.grow hg9 hg hgw (by omega))
              replace HR9 := Lib.hid hr9
              try replace HZ9 := Lib.hid (blk_grown HZ9.out hg9 (fun e => by injection e with e; have := HGU.out.1; omega))
              obtain ⟨pp, hpp⟩ : ∃ pp, decP ys = pp := ⟨_, rfl⟩
              have hp16 : B16 pp.l := by rw [← hpp]; exact decP_16 HYB.out
              have hp16l := hp16.len
              have HPP := Lib.hid hpp
              rw [hpp]
              clear hg9 hr9 h0 hq hpp
              refine hK _ _ ⟨HD9.out.box, ?_⟩
              clear hK K
              refine wpO_nilp ?_
              refine wpO_nilp ⟨?_, ?_⟩
              · refine wpO_step2 rfl rfl (HD9.out.box) (fun K hK => ?_)
                go_simp
                refine (number11_any g A n c 210 (ys.drop q) w3 HR9.out).mono ?_
                rintro e w4 ⟨hg9, ⟨hz, rfl⟩ | ⟨hz, rfl, hr9⟩⟩
                · exact ⟨rfl, rfl, (HD9.out.grow hg9 hg hgw (by omega)).leave (itU_s1 H0.out HQ.out (by rw [List.length_drop] at hz; omega)) (by decide)⟩
                have HLQ : Hid (q + 1 ≤ ys.length) := Lib.hid (by rw [List.length_drop] at hz; omega)
                obtain ⟨s, hs⟩ : ∃ s, rd (ys.drop q) 0 = s := ⟨_, rfl⟩
                have HS := Lib.hid hs
                replace HD9 := Lib.hid (HD9.out.grow hg9 hg hgw (by omega))
                replace HR9 := Lib.hid hr9
                try replace HZ9 := Lib.hid (blk_grown HZ9.out hg9 (fun e => by injection e with e; have := HGU.out.1; omega))
                rw [hs]
                clear hg9 hr9 hz hs
                refine hK _ _ ⟨HD9.out.box, ?_⟩
                clear hK K
                refine wpO_nilp ?_
                refine wpO_step0 rfl rfl (fun K hK => ?_)
                rw [if_pos (show Region.wanted _ _ = true from rfl)]
                refine ⟨_, fun w0 => exec_build2 rfl rfl rfl (run_build_upd2 w0 pp s hp16l), hK _ _ ?_⟩
                clear hK K
                refine wpO_step2 rfl rfl (HD9.out.box) (fun K hK => ?_)
                go_simp
                have hz9 := blk_new w4 (.cells (updV updZ) 75)
                obtain ⟨w5, hw9⟩ : ∃ w9, World.alloc w4 (.cells (updV updZ) 75) = w9 := ⟨_, rfl⟩
                have ha9 : Below (World.heap w4).size w4 w5 := hw9 ▸ below_alloc (Below.refl _ _) _
                refine kw_cast hw9 ?_
                rw [hw9] at hz9
                have HZ9 := Lib.hid hz9
                have HGU : Hid (g < (World.heap w4).size ∧ w.heap.size < (World.heap w4).size ∧ ∀ ad, A1 = some ad → ad.block < (World.heap w4).size) := Lib.hid ⟨HR9.out.lt, blk_lt HD9.out.box, HD9.out.own.lt⟩
                replace HD9 := Lib.hid (HD9.out.step ha9)
                replace HR9 := Lib.hid (HR9.out.below ha9)
                clear hw9 hz9 ha9
                refine hK _ _ ⟨HD9.out.box, ?_⟩
                clear hK K
                have HF : Hid ((⟨pp, s, false, 0, 0⟩ : Upd).fits) := Lib.hid hp16
                refine wpO_step2 rfl rfl (HD9.out.box) (fun K hK => ?_)
                rw [if_pos (show Region.wanted _ _ = true from rfl)]
                refine oper_store_blk HZ9.out 75 0 (updV ⟨pp, s, false, 0, 0⟩) (store_upd_fit HF.out rfl) (info_upd HF.out) (updV_one _) _ _ rfl rfl rfl ?_
                intro w6 hg9 hs9 hb9
                rw [splice_upd HF.out rfl] at hb9
                replace HD9 := Lib.hid (HD9.out.growU hg9 HGU.out.2.1 (by omega) HBS.out HGU.out.2.2)
                replace HR9 := Lib.hid (HR9.out.grown hg9 (fun b e => by injection e with e; have := HGU.out.1; omega))
                replace HZ9 := Lib.hid hb9
                clear hg9 hs9 hb9
                refine hK _ _ ⟨HD9.out.box, ?_⟩
                clear hK K
                refine wpO_nilp ?_
                go_wp2_with fail
                go_meet
                exact ⟨w4.heap.size, q, pp, s, rfl, H0.out, HQ.out, HPP.out, HS.out, hp16, HLQ.out, HGU.out, HZ9.out, HD9.out, HR9.out⟩
              · refine wpO_step2 rfl rfl (HD9.out.box) (fun K hK => ?_)
                go_simp
                have hz9 := blk_new w3 (.cells (updV updZ) 75)
                obtain ⟨w4, hw9⟩ : ∃ w9, World.alloc w3 (.cells (updV updZ) 75) = w9 := ⟨_, rfl⟩
                have ha9 : Below (World.heap w3).size w3 w4 := hw9 ▸ below_alloc (Below.refl _ _) _
                refine kw_cast hw9 ?_
                rw [hw9] at hz9
                have HZ9 := Lib.hid hz9
                have HGU : Hid (g < (World.heap w3).size ∧ w.heap.size < (World.heap w3).size ∧ ∀ ad, A1 = some ad → ad.block < (World.heap w3).size) := Lib.hid ⟨HR9.out.lt, blk_lt HD9.out.box, HD9.out.own.lt⟩
                replace HD9 := Lib.hid (HD9.out.step ha9)
                replace HR9 := Lib.hid (HR9.out.below ha9)
                clear hw9 hz9 ha9
                refine hK _ _ ⟨HD9.out.box, ?_⟩
                clear hK K
                refine wpO_nilp ?_
                refine wpO_step2 rfl rfl (HD9.out.box) (fun K hK => ?_)
                go_simp
                refine (number11_any g A n c 210 (ys.drop q) w4 HR9.out).mono ?_
                rintro e w5 ⟨hg9, ⟨hz, rfl⟩ | ⟨hz, rfl, hr9⟩⟩
                · exact ⟨rfl, rfl, (HD9.out.grow hg9 hg hgw (by omega)).leave (itU_s1 H0.out HQ.out (by rw [List.length_drop] at hz; omega)) (by decide)⟩
                have HLQ : Hid (q + 1 ≤ ys.length) := Lib.hid (by rw [List.length_drop] at hz; omega)
                obtain ⟨s, hs⟩ : ∃ s, rd (ys.drop q) 0 = s := ⟨_, rfl⟩
                have HS := Lib.hid hs
                replace HD9 := Lib.hid (HD9.out.grow hg9 hg hgw (by omega))
                replace HR9 := Lib.hid hr9
                try replace HZ9 := Lib.hid (blk_grown HZ9.out hg9 (fun e => by injection e with e; have := HGU.out.1; omega))
                rw [hs]
                clear hg9 hr9 hz hs
                refine hK _ _ ⟨HD9.out.box, ?_⟩
                clear hK K
                refine wpO_step0 rfl rfl (fun K hK => ?_)
                rw [if_pos (show Region.wanted _ _ = true from rfl)]
                refine ⟨_, fun w0 => exec_build2 rfl rfl rfl (run_build_upd2 w0 pp s hp16l), hK _ _ ?_⟩
                clear hK K
                have HF : Hid ((⟨pp, s, false, 0, 0⟩ : Upd).fits) := Lib.hid hp16
                refine wpO_step2 rfl rfl (HD9.out.box) (fun K hK => ?_)
                rw [if_pos (show Region.wanted _ _ = true from rfl)]
                refine oper_store_blk HZ9.out 75 0 (updV ⟨pp, s, false, 0, 0⟩) (store_upd_fit HF.out rfl) (info_upd HF.out) (updV_one _) _ _ rfl rfl rfl ?_
                intro w6 hg9 hs9 hb9
                rw [splice_upd HF.out rfl] at hb9
                replace HD9 := Lib.hid (HD9.out.growU hg9 HGU.out.2.1 (by omega) HBS.out HGU.out.2.2)
                replace HR9 := Lib.hid (HR9.out.grown hg9 (fun b e => by injection e with e; have := HGU.out.1; omega))
                replace HZ9 := Lib.hid hb9
                clear hg9 hs9 hb9
                refine hK _ _ ⟨HD9.out.box, ?_⟩
                clear hK K
                refine wpO_nilp ?_
                go_wp2_with fail
                go_meet
                exact ⟨w3.heap.size, q, pp, s, rfl, H0.out, HQ.out, HPP.out, HS.out, hp16, HLQ.out, HGU.out, HZ9.out, HD9.out, HR9.out⟩
            · refine wpO_step2 rfl rfl (HD9.out.box) (fun K hK => ?_)
              go_simp
              have hz9 := blk_new wk (.cells (updV updZ) 75)
              obtain ⟨w3, hw9⟩ : ∃ w9, (World.alloc wk (.cells (updV updZ) 75)).drew = w9 := ⟨_, rfl⟩
              have ha9 : Below (World.heap wk).size wk w3 := hw9 ▸ below_step (below_alloc (Below.refl _ _) _) (below_drew1 _)
              refine kw_cast hw9 ?_
              replace hz9 : (World.heap w3)[(World.heap wk).size]? = some (.cells (updV updZ) 75 (0, 0)) := by rw [← hw9]; exact hz9
              have HZ9 := Lib.hid hz9
              have HGU : Hid (g < (World.heap wk).size ∧ w.heap.size < (World.heap wk).size ∧ ∀ ad, A1 = some ad → ad.block < (World.heap wk).size) := Lib.hid ⟨HRR.out.lt, blk_lt HD.out.box, HD.out.own.lt⟩
              replace HD9 := Lib.hid (HD.out.step ha9)
              replace HR9 := Lib.hid (HRR.out.below ha9)
              clear hw9 hz9 ha9
              refine hK _ _ ⟨HD9.out.box, ?_⟩
              clear hK K
              refine wpO_nilp ?_
              refine wpO_step2 rfl rfl (HD9.out.box) (fun K hK => ?_)
              go_simp
              refine (prefix11_any g A n c 210 xs ys m w3 (HL0.out.below HD9.out.bel) HR9.out (HX.out.below HD9.out.bel) HYS.out hmn hn).mono ?_
              rintro e w4 ⟨hg9, ⟨h7, rfl⟩ | ⟨h7, h0, rfl⟩ | ⟨h0, rfl, hr9⟩⟩
              · exact ⟨rfl, rfl, (HD9.out.grow hg9 hg hgw (by omega)).leave (itU_7 h7) (by decide)⟩
              · exact ⟨rfl, rfl, (HD9.out.grow hg9 hg hgw (by omega)).leave (itU_bad h7 h0) (by decide)⟩
              obtain ⟨q, hq, hql⟩ := dec_nat HYB.out h0
              rw [hq, Int.toNat_natCast] at hr9
              have H0 := Lib.hid h0
              have HQ := Lib.hid hq
              replace HD9 := Lib.hid (HD9.out.grow hg9 hg hgw (by omega))
              replace HR9 := Lib.hid hr9
              try replace HZ9 := Lib.hid (blk_grown HZ9.out hg9 (fun e => by injection e with e; have := HGU.out.1; omega))
              obtain ⟨pp, hpp⟩ : ∃ pp, decP ys = pp := ⟨_, rfl⟩
              have hp16 : B16 pp.l := by rw [← hpp]; exact decP_16 HYB.out
              have hp16l := hp16.len
              have HPP := Lib.hid hpp
              rw [hpp]
              clear hg9 hr9 h0 hq hpp
              refine hK _ _ ⟨HD9.out.box, ?_⟩
              clear hK K
              refine wpO_step2 rfl rfl (HD9.out.box) (fun K hK => ?_)
              go_simp
              refine (number11_any g A n c 210 (ys.drop q) w4 HR9.out).mono ?_
              rintro e w5 ⟨hg9, ⟨hz, rfl⟩ | ⟨hz, rfl, hr9⟩⟩
              · exact ⟨rfl, rfl, (HD9.out.grow hg9 hg hgw (by omega)).leave (itU_s1 H0.out HQ.out (by rw [List.length_drop] at hz; omega)) (by decide)⟩
              have HLQ : Hid (q + 1 ≤ ys.length) := Lib.hid (by rw [List.length_drop] at hz; omega)
              obtain ⟨s, hs⟩ : ∃ s, rd (ys.drop q) 0 = s := ⟨_, rfl⟩
              have HS := Lib.hid hs
              replace HD9 := Lib.hid (HD9.out.grow hg9 hg hgw (by omega))
              replace HR9 := Lib.hid hr9
              try replace HZ9 := Lib.hid (blk_grown HZ9.out hg9 (fun e => by injection e with e; have := HGU.out.1; omega))
              rw [hs]
              clear hg9 hr9 hz hs
              refine hK _ _ ⟨HD9.out.box, ?_⟩
              clear hK K
              refine wpO_step0 rfl rfl (fun K hK => ?_)
              rw [if_pos (show Region.wanted _ _ = true from rfl)]
              refine ⟨_, fun w0 => exec_build2 rfl rfl rfl (run_build_upd2 w0 pp s hp16l), hK _ _ ?_⟩
              clear hK K
              have HF : Hid ((⟨pp, s, false, 0, 0⟩ : Upd).fits) := Lib.hid hp16
              refine wpO_step2 rfl rfl (HD9.out.box) (fun K hK => ?_)
              rw [if_pos (show Region.wanted _ _ = true from rfl)]
              refine oper_store_blk HZ9.out 75 0 (updV ⟨pp, s, false, 0, 0⟩) (store_upd_fit HF.out rfl) (info_upd HF.out) (updV_one _) _ _ rfl rfl rfl ?_
              intro w6 hg9 hs9 hb9
              rw [splice_upd HF.out rfl] at hb9
              replace HD9 := Lib.hid (HD9.out.growU hg9 HGU.out.2.1 (by omega) HBS.out HGU.out.2.2)
              replace HR9 := Lib.hid (HR9.out.grown hg9 (fun b e => by injection e with e; have := HGU.out.1; omega))
              replace HZ9 := Lib.hid hb9
              clear hg9 hs9 hb9
              refine hK _ _ ⟨HD9.out.box, ?_⟩
              clear hK K
              refine wpO_nilp ?_
              go_wp2_with fail
              go_meet
              exact ⟨wk.heap.size, q, pp, s, rfl, H0.out, HQ.out, HPP.out, HS.out, hp16, HLQ.out, HGU.out, HZ9.out, HD9.out, HR9.out⟩
        case rest =>
          obtain ⟨gu, q, pp, s, rfl, HC⟩ := hcut
          obtain ⟨w3, rfl⟩ : ∃ w3, w3 = wc := ⟨wc, rfl⟩
          have HP16 := Lib.hid HC.out.2.2.2.2.1
          have HGU := Lib.hid HC.out.2.2.2.2.2.2.1
          have HU3 := Lib.hid HC.out.2.2.2.2.2.2.2.1
          have HD3 := Lib.hid HC.out.2.2.2.2.2.2.2.2.1
          have HR3 := Lib.hid HC.out.2.2.2.2.2.2.2.2.2
          have HQS := Lib.hid (show decPE ys = 0 ∧ decPN ys = q ∧ decP ys = pp ∧ rd (ys.drop q) 0 = s ∧ q + 1 ≤ ys.length from ⟨HC.out.1, HC.out.2.1, HC.out.2.2.1, HC.out.2.2.2.1, HC.out.2.2.2.2.2.1⟩)
          clear HC HD HRR
          obtain ⟨zs, hzs⟩ : ∃ zs, (ys.drop q).drop 1 = zs := ⟨_, rfl⟩
          rw [hzs] at HR3
          have HZS := Lib.hid hzs
          have HZL : Hid (zs.length = ys.length - q - 1) := Lib.hid (by rw [← hzs, List.length_drop, List.length_drop])
          clear hzs
          go_wp2_with (first | ((with_reducible show wpList _ _ _ (Oper.mk _ (Op.load _ _) _ _ _ _ :: _) _ _); refine wpList_load_g ((rd3_ld (HD3.out.box.trans (by rw [HC1.out]))).all) _ rfl rfl (by go_simp) ?_))
          refine (number11_any g A n c 210 zs w3 HR3.out).mono ?_
          rintro e w4 ⟨hg4, ⟨hz, rfl⟩ | ⟨hz, rfl, hr4⟩⟩
          · have HD4 := Lib.hid (HD3.out.grow hg4 hg hgw (by omega))
            have HI : Hid ((itU ys).1 = 7) := Lib.hid (itU_s1 HQS.out.1 HQS.out.2.1 (by have := HZL.out; have := HQS.out.2.2.2.2; omega))
            clear hg4 hz
            go_wp2_with fail
            exact ⟨rfl, HER.out _ _ (HD4.out.leave HI.out (by decide))⟩
          · have HD4 := Lib.hid (HD3.out.grow hg4 hg hgw (by omega))
            have HU4 := Lib.hid (blk_grown HU3.out hg4 (fun e => by injection e with e; have := HGU.out.1; omega))
            have HR4 := Lib.hid hr4
            have hy1 : 0 ≤ rd zs 0 ∧ rd zs 0 < 256 := HR3.out.byte.getD 0
            have HL2 : Hid (q + 2 ≤ ys.length) := Lib.hid (by have := HZL.out; have := HQS.out.2.2.2.2; omega)
            obtain ⟨y, hy⟩ : ∃ y, rd zs 0 = y := ⟨_, rfl⟩
            have HYY : Hid (rd ((ys.drop q).drop 1) 0 = y) := Lib.hid (by rw [HZS.out, hy])
            rw [hy] at hy1 ⊢
            clear hg4 hr4 hz hy HD3 HU3 HR3
            by_cases hgo : 1 < y
            · have HI : Hid ((itU ys).1 = 210) := Lib.hid (itU_gone HQS.out.1 HQS.out.2.1 HL2.out (by rw [HYY.out]; exact hgo))
              have hgb : decide (y ≤ 1) = false := decide_eq_false (by omega)
              clear hgo
              go_wp2_with (first | ((with_reducible show wpList _ _ _ (Oper.mk _ (Op.load _ _) _ _ _ _ :: _) _ _); refine wpList_load_g ((rd3_ld (HD4.out.box.trans (by rw [HC1.out]))).all) _ rfl rfl (by go_simp) ?_))
              refine (need11_false g A n c 210 w4).mono ?_
              rintro e w5 ⟨rfl, hb5⟩
              have HD5 := Lib.hid (HD4.out.step hb5)
              clear hb5
              go_wp2_with fail
              exact ⟨rfl, HER.out _ _ (HD5.out.leave HI.out (by decide))⟩
            · have HNG : Hid (¬ 1 < rd ((ys.drop q).drop 1) 0) := Lib.hid (by rw [HYY.out]; exact hgo)
              have hgb : decide (y ≤ 1) = true := decide_eq_true (by omega)
              clear hgo
              go_wp2_with (first | ((with_reducible show wpList _ _ _ (Oper.mk _ (Op.load _ _) _ _ _ _ :: _) _ _); refine wpList_load_g ((rd3_ld (HD4.out.box.trans (by rw [HC1.out]))).all) _ rfl rfl (by go_simp) ?_))
              refine (need11_true g A n c 210 w4).mono ?_
              rintro e w5 ⟨rfl, hb5⟩
              have HD5 := Lib.hid (HD4.out.step hb5)
              have HU5 := Lib.hid (blk_below HU4.out hb5)
              have HR5 := Lib.hid (HR4.out.below hb5)
              clear hb5 HD4 HU4 HR4
              obtain ⟨G, hG⟩ : ∃ G, (y == 1) = G := ⟨_, rfl⟩
              have HGG := Lib.hid hG
              have HF5 : Hid ((⟨pp, s, false, 0, 0⟩ : Upd).fits) := Lib.hid HP16.out
              have HF6 : Hid ((⟨pp, s, G, 0, 0⟩ : Upd).fits) := Lib.hid HP16.out
              go_upto_region 7 with (first | ((with_reducible show wpList _ _ _ (Oper.mk _ (Op.store _ _ _) _ _ _ _ :: _) _ _); refine wpList_store_cell HU5.out 4 19 (.bool G) (by rw [updV_size HF5.out]; decide) (by kernel_rfl) rfl rfl _ _ rfl rfl rfl rfl ?_; intro w6 hg9 hs9 hb9; rw [updV_set19 _ HF5.out] at hb9; have H6 := Lib.hid (And.intro hg9 hb9); clear hg9 hs9 hb9))
              try dsimp only [Act.put]
              clear hG
              have HD6 := Lib.hid (HD5.out.growU H6.out.1 HGU.out.2.1 (by omega) HBS.out HGU.out.2.2)
              have HR6 := Lib.hid (HR5.out.grown H6.out.1 (fun b e => by injection e with e; have := HGU.out.1; omega))
              have HU6 := Lib.hid H6.out.2
              clear H6 HD5 HR5 HU5
              refine wp_region_mixp (fun w0 => w0.heap[w.heap.size]? = some (.cells cs1 110 (0, 0))) [] 0 (some (.agg cs1)) (DecC (itU ys).1 W0 w g gt) [(0, 0), (2, 0), (1, 2), (4, 0), (3, 2), (5, 2), (6, 0), (7, 2)] (by kernel_rfl) (by kernel_rfl) (by kernel_rfl) HD6.out.box ?_ ?_
              · rintro ch a wx ⟨h1, -, h2⟩
                exact ⟨h1, HER.out ch wx h2⟩
              · simp only [List.map_cons, List.map_nil]
                refine wpO_loadW (t := 110) (ad := ⟨w.heap.size, 0, none⟩) rfl rfl ?hw rfl rfl ((fun w0 hS => (rd3_ld (hS.trans (by rw [HC1.out]))).all)) ?_
                case hw => go_simp
                refine wpO_loadW (t := 110) (ad := ⟨w.heap.size, 0, none⟩) rfl rfl ?hw rfl rfl ((fun w0 hS => (rd3_ld (hS.trans (by rw [HC1.out]))).all)) ?_
                case hw => go_simp
                refine wpO_step2 rfl rfl (HD6.out.box) (fun K hK => ?_)
                go_simp
                have HDd := Lib.hid (HD6.out.step (below_drew1 w6))
                have HUd : Hid (w6.drew.heap[gu]? = some (.cells (updV ⟨pp, s, G, 0, 0⟩) 75 (0, 0))) := HU6
                refine (number11_any g A n c 210 (zs.drop 1) w6.drew (HR6.out.below (below_drew1 w6))).mono ?_
                rintro e w7 ⟨hg7, ⟨hz, rfl⟩ | ⟨hz, rfl, hr7⟩⟩
                · exact ⟨rfl, rfl, (HDd.out.grow hg7 hg hgw (by omega)).leave (itU_s2 HQS.out.1 HQS.out.2.1 (by rw [List.length_drop] at hz; have := HZL.out; have := HL2.out; omega) (by have := HNG.out; omega)) (by decide)⟩
                have HD7 := Lib.hid (HDd.out.grow hg7 hg hgw (by omega))
                have HR7 := Lib.hid hr7
                have HU7 := Lib.hid (blk_grown HUd.out hg7 (fun e => by injection e with e; have := HGU.out.1; omega))
                have hf1 : 0 ≤ rd (zs.drop 1) 0 ∧ rd (zs.drop 1) 0 < 256 := HR6.out.byte.getD 0
                have HL3 : Hid (q + 3 ≤ ys.length) := Lib.hid (by rw [List.length_drop] at hz; have := HZL.out; have := HL2.out; omega)
                obtain ⟨f, hf⟩ : ∃ f, rd (zs.drop 1) 0 = f := ⟨_, rfl⟩
                rw [hf] at hf1 ⊢
                have HF := Lib.hid hf
                clear hg7 hr7 hz hf HDd HUd
                refine hK _ _ ⟨HD7.out.box, ?_⟩
                clear hK K
                iterate 1 (refine wpO_step0 rfl rfl (fun K hK => ?_); go_simp; refine hK _ _ ?_; clear hK K)
                refine wpO_step2 rfl rfl (HD7.out.box) (fun K hK => ?_)
                go_simp
                refine (number11_any g A n c 210 ((zs.drop 1).drop 1) w7 HR7.out).mono ?_
                rintro e w8 ⟨hg8, ⟨hz, rfl⟩ | ⟨hz, rfl, hr8⟩⟩
                · exact ⟨rfl, rfl, (HD7.out.grow hg8 hg hgw (by omega)).leave (itU_s2 HQS.out.1 HQS.out.2.1 (by rw [List.length_drop, List.length_drop] at hz; have := HZL.out; have := HL2.out; omega) (by have := HNG.out; omega)) (by decide)⟩
                have HD8 := Lib.hid (HD7.out.grow hg8 hg hgw (by omega))
                have HR8 := Lib.hid hr8
                have HU8 := Lib.hid (blk_grown HU7.out hg8 (fun e => by injection e with e; have := HGU.out.1; omega))
                have hh1 : 0 ≤ rd ((zs.drop 1).drop 1) 0 ∧ rd ((zs.drop 1).drop 1) 0 < 256 := HR7.out.byte.getD 0
                have HL4 : Hid (q + 4 ≤ ys.length) := Lib.hid (by rw [List.length_drop, List.length_drop] at hz; have := HZL.out; have := HL3.out; omega)
                obtain ⟨h, hh⟩ : ∃ h, rd ((zs.drop 1).drop 1) 0 = h := ⟨_, rfl⟩
                rw [hh] at hh1 ⊢
                have HH := Lib.hid hh
                clear hg8 hr8 hz hh HD7 HU7 HR7 HD6 HU6 HR6
                refine hK _ _ ⟨HD8.out.box, ?_⟩
                clear hK K
                have HF7 : Hid ((⟨pp, s, G, f, 0⟩ : Upd).fits) := Lib.hid HP16.out
                have HF8 : Hid ((⟨pp, s, G, f, h⟩ : Upd).fits) := Lib.hid HP16.out
                refine wpO_step2 rfl rfl (HD8.out.box) (fun K hK => ?_)
                rw [if_pos (show Region.wanted _ _ = true from rfl)]
                refine oper_store_cell HU8.out 3 20 (.int .i64 f) (by rw [updV_size HF6.out]; decide) (by kernel_rfl) rfl rfl _ _ rfl rfl rfl ?_
                intro w9 hg9 hs9 hb9
                rw [updV_set20 _ HF6.out] at hb9
                have HD9 := Lib.hid (HD8.out.growU hg9 HGU.out.2.1 (by omega) HBS.out HGU.out.2.2)
                have HR9 := Lib.hid (HR8.out.grown hg9 (fun b e => by injection e with e; have := HGU.out.1; omega))
                have HU9 := Lib.hid hb9
                clear hg9 hs9 hb9 HD8 HR8 HU8
                refine hK _ _ ⟨HD9.out.box, ?_⟩
                clear hK K
                iterate 1 (refine wpO_step0 rfl rfl (fun K hK => ?_); go_simp; refine hK _ _ ?_; clear hK K)
                refine wpO_step2 rfl rfl (HD9.out.box) (fun K hK => ?_)
                rw [if_pos (show Region.wanted _ _ = true from rfl)]
                refine oper_store_cell HU9.out 3 21 (.int .i64 h) (by rw [updV_size HF7.out]; decide) (by kernel_rfl) rfl rfl _ _ rfl rfl rfl ?_
                intro wa hga hsa hba
                rw [updV_set21 _ HF7.out] at hba
                have HDa := Lib.hid (HD9.out.growU hga HGU.out.2.1 (by omega) HBS.out HGU.out.2.2)
                have HRa := Lib.hid (HR9.out.grown hga (fun b e => by injection e with e; have := HGU.out.1; omega))
                have HUa := Lib.hid hba
                clear hga hsa hba HD9 HR9 HU9
                refine hK _ _ ⟨HDa.out.box, ?_⟩
                clear hK K
                refine wpO_nilp ?_
                have hbz := below_alloc (Below.refl wa.heap.size wa) (.cells (updK.enc ⟨pp, s, G, f, h⟩).toArray updK.t)
                have HDb := Lib.hid (HDa.out.step hbz)
                have HRb := Lib.hid (HRa.out.below hbz)
                have hwa : w.heap.size + 1 ≤ wa.heap.size := blk_lt HDa.out.box
                clear hbz
                go_wp2_with (first | ((with_reducible show wpList _ _ _ (Oper.mk _ (Op.load _ _) _ _ _ _ :: _) _ _); refine wpList_load_g (((bat_at HDa.out.tab).all _ (Below.refl _ _)).2) _ rfl rfl (by go_simp) ?_) | ((with_reducible show wpList _ _ _ (Oper.mk _ (Op.load _ _) _ _ _ _ :: _) _ _); refine wpList_load_g (((upd_at HF8.out HUa.out).all _ (Below.refl _ _)).all) _ rfl rfl (by go_simp) ?_) | ((with_reducible show wpList _ _ _ (Oper.mk _ (Op.buildSlice _ _ _) _ _ _ _ :: _) _ _); refine wpList_exw rfl (exec_lit1 updK (x := .tmp 31) rfl ⟨pp, s, G, f, h⟩ rfl HF8.out (by show 22 ≤ _; omega) _) ?_) | (at_builtin; refine wpList_append_shp updK rfl (.tmp 30) (.tmp 32) rfl rfl rfl HDb.out.own (OS.one updK wa 0 ⟨pp, s, G, f, h⟩ (Nat.zero_le _) HF8.out).reads (by simp; omega) (by omega) ?_; intro A9 c9 w9 h1 h2 h3; have HT9 := Lib.hid (blk_own2 HDb.out.tab h2 (fun ad e => by have := HDb.out.own.base_ ad e; omega)); have H9 := Lib.hid (And.intro h1 h2); clear h1 h2 h3) | ((with_reducible show wpList _ _ _ (Oper.mk _ (Op.store _ _ _) _ _ _ _ :: _) _ _); refine wpList_store_cell HT9.out 25 0 (.slice A9 (k + 1) c9) (Nat.le_refl _) (by kernel_rfl) rfl rfl _ _ rfl rfl rfl rfl ?_; intro wc hg9 hs9 hb9; have Hc := Lib.hid (And.intro hg9 (show (World.heap wc)[gt]? = some (.cells (tabV A9 (k + 1) c9) 27 (0, 0)) from hb9)); clear hg9 hs9 hb9))
                have HDc := Lib.hid (HDb.out.push H9.out.2 Hc.out.1 H9.out.1 Hc.out.2 hgt (by omega) HBS.out)
                have HRc := Lib.hid ((HRb.out.grown H9.out.2 (fun b e => by
                  obtain ⟨ad, e1, e2⟩ := own_of e
                  have := HDb.out.own.base_ ad e1
                  omega)).grown Hc.out.1 (fun b e => by injection e with e; omega))
                have hit := itU_ok HQS.out.1 HQS.out.2.1 HL4.out (by have := HNG.out; omega)
                rw [HYY.out, HGG.out, HZS.out, HF.out, HH.out, HQS.out.2.2.1, HQS.out.2.2.2.1] at hit
                have HIT := Lib.hid hit
                have HYN : Hid (ys.length = n - m) := Lib.hid (by rw [← HYS.out, List.length_drop, HLEN.out])
                clear hit HDb HRb H9 HT9 Hc
                go_roundw
                case measure => simp [intOf]; omega
                case rel =>
                  have hst := decI_step HLT.out HIT.out (acc := acc)
                  have hdr : ((zs.drop 1).drop 1).drop 1 = xs.drop (m + (q + 4)) := by rw [← HZS.out, ← HYS.out, List.drop_drop, List.drop_drop, List.drop_drop, List.drop_drop, List.drop_drop]
                  have hdr2 : ys.drop (q + 4) = xs.drop (m + (q + 4)) := by rw [← HYS.out, List.drop_drop]
                  rw [hdr2] at hst
                  have hRc := HRc.out
                  rw [hdr] at hRc
                  have hml : m + (q + 4) ≤ n := by have := HL4.out; have := HYN.out; omega
                  exact ⟨k + 1, m + (q + 4), A9, c9, acc ++ [⟨pp, s, G, f, h⟩], by go_num, HLT.out, hml, HDc.out, hRc, HTE.out.trans hst⟩
      · obtain rfl : k = K := by have := HH.out.1; omega
        have HTE := Lib.hid HH.out.2.2.2.2
        rw [Nat.sub_self, decI] at HTE
        have hlt' : decide (k < k) = false := decide_eq_false hlt
        clear HH hlt
        go_wp2_with fail
        go_end0
        exact ⟨HD.out.bel, HD.out.keep, .inr ⟨rfl, A1, k, c1, acc, xs.drop m, HRR.out, HZ.out, HTE.out, by omega, HD.out.tab, HD.out.own⟩⟩
end Go.Proofs.YtnpeedmicjeleaaDoor

/- Layer 11 (route): Best. -/
namespace Go.Proofs.YtnpeedmicjeleaaDoor
open Go.RowKit
set_option linter.unusedVariables false
set_option linter.unusedSimpArgs false
set_option maxRecDepth 4000
/-- What the loop of Best keeps: a table of its own, and the cell that holds it. -/
structure TabS (w0 w : World) (g : Nat) (A : Option Addr) (n c : Nat) (t : List Row) : Prop where
  own : OS rowK w w0.heap.size A n c t
  cell : w.heap[g]? = some (.cells (tabV A n c) 39 (0, 0))
  bel : Below w0.heap.size w0 w
  gle : w0.heap.size ≤ g
theorem TabS.step {w0 w w1 : World} {g : Nat} {A : Option Addr} {n c : Nat} {t : List Row} (h : TabS w0 w g A n c t) (hb : Below w.heap.size w w1) : TabS w0 w1 g A n c t := ⟨h.own.below hb, blk_below h.cell hb, below_step h.bel hb, h.gle⟩
set_option maxHeartbeats 8000000 in
set_option maxRecDepth 100000 in
theorem rbest_any (A : Option Addr) (n c : Nat) (l : List Rte) (w : World) (hL : Laid w) (hr : RS rteK w A n c l) (ok : Okr l) (hn : n ≤ 10000) :
    Calls Tryd.prog 17 #[.agg (tabV A n c)] w fun e w' => ∃ A' n' c', e = .returned (.tuple #[.agg (tabV A' n' c'), .int .i64 (ribE l)]) ∧ OS rowK w' w.heap.size A' n' c' (bestR l) ∧ Below w.heap.size w w' := by
  have hblk1 := blk_new w (.cells (tabV A n c) 24)
  have hbel1 : Below w.heap.size w (w.alloc (.cells (tabV A n c) 24)) := below_alloc (Below.refl _ _) _
  have HP1 := Lib.hid (rib_at hblk1)
  have HBK1 := Lib.hid hblk1
  have HBE := Lib.hid hbel1
  have HL := Lib.hid (hL.below HBE.out)
  obtain ⟨cs1, hcs1⟩ : ∃ cs, tabV A n c = cs := ⟨_, rfl⟩
  simp only [hcs1] at HBE HL HP1 HBK1 ⊢
  have HC1 := Lib.hid hcs1
  clear hL hcs1 hblk1 hbel1
  have HR := Lib.hid (hr.below HBE.out)
  have OK := Lib.hid ok
  have hs0 : (w.alloc (.cells cs1 24)).heap.size = w.heap.size + 1 := by simp
  obtain ⟨W1, hW1⟩ : ∃ W1, (w.alloc (.cells cs1 24)).alloc (.cells #[.slice none 0 0] 39) = W1 := ⟨_, rfl⟩
  have HZ : Hid (W1.heap[w.heap.size + 1]? = some (.cells (tabV none 0 0) 39 (0, 0))) := Lib.hid (by rw [← hW1, ← hs0]; exact blk_new _ _)
  have HB1 : Hid (Below (w.alloc (.cells cs1 24)).heap.size (w.alloc (.cells cs1 24)) W1) := Lib.hid (hW1 ▸ below_alloc (Below.refl _ _) _)
  have HZL : Hid (w.heap.size ≤ w.heap.size + 1) := Lib.hid (by omega)
  have HS1 : Hid (W1.heap.size = w.heap.size + 2) := Lib.hid (by rw [← hW1]; simp)
  clear hr ok hs0
  go_enter Tryd.func17, Tryd.ntmps17
  go_wp2_with (first | ((with_reducible show wpList _ _ _ (Oper.mk _ (Op.load _ _) _ _ _ _ :: _) _ _); refine wpList_load_g ((HP1.out.all _ HB1.out).1) _ rfl rfl (by go_simp) ?_))
  clear hW1
  refine (rcheck_any A n c l W1 (HL.out.below HB1.out) (HR.out.below HB1.out) OK.out (by omega)).mono ?_
  rintro e w2 ⟨rfl, hb2⟩
  have HB2 := Lib.hid (below_step HB1.out hb2)
  have HZ2 := Lib.hid (blk_below HZ.out hb2)
  have HS2 : Hid (w.heap.size + 2 ≤ w2.heap.size) := Lib.hid (by rw [← HS1.out]; exact hb2.size)
  clear hb2 HZ HB1 HS1
  cases hrb : ribB l with
  | false =>
    have HE : Hid (ribE l = 211 ∧ bestR l = []) := Lib.hid ⟨by unfold ribE; rw [hrb]; rfl, by unfold bestR; rw [hrb]; rfl⟩
    rw [HE.out.1]
    clear hrb
    go_wp2_with (first | ((with_reducible show wpList _ _ _ (Oper.mk _ (Op.build _ _) _ _ _ _ :: _) _ _); refine wpList_exw rfl (exec_build 39 #[] rfl #[] rfl ((run_build_tab_nil _))) ?_) | ((with_reducible show wpList _ _ _ (Oper.mk _ (Op.store _ _ _) _ _ _ _ :: _) _ _); refine wpList_store_blk HZ2.out 39 0 (tabV none 0 0) (Nat.le_refl _) (info_tab _ _ _) (tab_one _ _ _) _ _ rfl rfl rfl rfl ?_; intro w9 hg9 hs9 hb9; rw [splice_tab] at hb9; have H9 := Lib.hid (And.intro hg9 hb9); clear hg9 hs9 hb9))
    refine bodyPost_ret (results_c2 rfl rfl (load_tab H9.out.2)) rfl ?_
    rw [HE.out.1, HE.out.2]
    exact ⟨none, 0, 0, rfl, OS.nil _ _ _, below_grown (below_step HBE.out HB2.out) H9.out.1 HZL.out⟩
  | true =>
    have HE : Hid (ribE l = 0 ∧ bestR l = bestT l) := Lib.hid ⟨by unfold ribE; rw [hrb]; rfl, by unfold bestR; rw [hrb]; rfl⟩
    rw [HE.out.1]
    have HRB := Lib.hid hrb
    clear hrb
    have hTS : TabS w2 (w2.alloc (.cells (tabV none 0 0) 39)) w2.heap.size none 0 0 (bk l 0) := ⟨OS.nil _ _ _, blk_new _ _, below_alloc (Below.refl _ _) _, Nat.le_refl _⟩
    have HTS := Lib.hid hTS
    clear hTS
    go_wp2_with (first | ((with_reducible show wpList _ _ _ (Oper.mk _ (Op.load _ _) _ _ _ _ :: _) _ _); refine wpList_load_g ((HP1.out.all _ (below_step HB2.out (below_alloc (Below.refl _ _) _))).2) _ rfl rfl (by go_simp) ?_))
    obtain ⟨g5, hg5⟩ : ∃ g, w2.heap.size = g := ⟨_, rfl⟩
    obtain ⟨w3, hw3⟩ : ∃ W, w2.alloc (.cells (tabV none 0 0) 39) = W := ⟨_, rfl⟩
    rw [hg5, hw3] at HTS
    rw [hg5]
    refine (show ∀ {P : World → Prop}, P w3 → P (w2.alloc (.cells #[.slice none 0 0] 39)) from fun {P} h => hw3 ▸ h) ?_
    clear hg5 hw3
    go_loopw [20] (fun s20 wr => ∃ (k : Nat) (Ak : Option Addr) (nk ck : Nat), s20 = .int .i64 k ∧ Hid (k ≤ n ∧ TabS w2 wr g5 Ak nk ck (bk l k))) (fun x _ => n - (intOf x).toNat)
    case atStart => exact ⟨0, none, 0, 0, rfl, Nat.zero_le _, HTS.out⟩
    case round =>
      obtain ⟨k, Ak, nk, ck, rfl, HI⟩ := hrel
      obtain ⟨wk, rfl⟩ : ∃ wk, wk = wr := ⟨wr, rfl⟩
      have HBK := Lib.hid (below_step HB2.out HI.out.2.bel)
      have hnk : nk ≤ 40 := by
        have h1 := HI.out.2.own.len
        have h2 := rib_to HRB.out
        have h3 := bk_len l k
        have h4 := best_len OK.out.fits h2.2.1
        omega
      by_cases hlt : k < n
      · have hlt' : (k : Int) < n := by omega
        obtain ⟨b, o, hA, hc⟩ := RS.at_ HR.out (by omega)
        have hil : k < l.length := by rw [HR.out.len]; exact hlt
        have HXO := Lib.hid (OK.out.at_ hil)
        have HCX : Hid (CellsAt wk b (o + k * 21) (rteC (rteAt l k))) := Lib.hid ((hc k hlt).below HBK.out)
        have HSB := Lib.hid (fun hu => set_bk OK.out.fits HRB.out hil hu)
        have HBS := Lib.hid (bk_succ l hil)
        obtain ⟨x, hx⟩ : ∃ x, rteAt l k = x := ⟨_, rfl⟩
        rw [hx] at HXO HCX HSB HBS
        have hla := (rteLd_of HXO.out.fits HCX.out).all
        have HB6f := Lib.hid (fun (W : World) (h : (wk.alloc (.cells (rteV rteZ) 51)).grownBy W (some wk.heap.size)) => below_grown (below_alloc (Below.refl wk.heap.size wk) (.cells (rteV rteZ) 51)) h (Nat.le_refl _))
        subst hA
        clear hc hx hil
        go_wp2_with (first | ((with_reducible show wpList _ _ _ (Oper.mk _ (Op.load _ _) _ _ _ _ :: _) _ _); refine wpList_load_g hla _ rfl rfl (by go_simp) ?_) | ((with_reducible show wpList _ _ _ (Oper.mk _ (Op.store _ _ _) _ _ _ _ :: _) _ _); refine wpList_store_blk (blk_new wk _) 51 0 (rteV x) (store_rte_fit HXO.out.fits rfl) (info_rte HXO.out.fits) (rteV_one _) _ _ rfl rfl rfl rfl ?_; intro w6 hg9 hs9 hb9; rw [splice_rte HXO.out.fits rfl] at hb9; have H6 := Lib.hid (And.intro hg9 hb9); clear hg9 hs9 hb9) | ((with_reducible show wpList _ _ _ (Oper.mk _ (Op.load _ _) _ _ _ _ :: _) _ _); refine wpList_load_g ((HP1.out.all _ (below_step HBK.out (HB6f.out _ H6.out.1))).2) _ rfl rfl (by go_simp) ?_))
        have HBR := Lib.hid (HB6f.out _ H6.out.1)
        have HB6 := Lib.hid (below_step HBK.out HBR.out)
        have HG6 := Lib.hid H6.out.2
        obtain ⟨gx, hgx⟩ : ∃ g, wk.heap.size = g := ⟨_, rfl⟩
        rw [hgx] at HG6 ⊢
        clear HB6f H6 hla hgx
        refine (containsQ_any (some ⟨b, o, none⟩) n c l w6 gx (HR.out.below HB6.out) (by omega) (fun y => beats y x) (fun i hi w1 hb => best1_any (rteK.at_ l i) x gx w1 (OK.out.at_ (by rw [HR.out.len]; exact hi)) HXO.out (rte_at HXO.out.fits (blk_below HG6.out hb)))).mono ?_
        rintro e w7 ⟨rfl, hb7⟩
        have HU : Hid (unb l x = !l.any (fun y => beats y x)) := Lib.hid rfl
        obtain ⟨T, hT⟩ : ∃ T, l.any (fun y => beats y x) = T := ⟨_, rfl⟩
        rw [hT] at HU ⊢
        have HS7 := Lib.hid ((HI.out.2.step HBR.out).step hb7)
        have HB7 := Lib.hid (below_step HB6.out hb7)
        have HBR7 := Lib.hid (below_step HBR.out hb7)
        have HX7 := Lib.hid (rte_at HXO.out.fits (blk_below HG6.out hb7))
        clear hb7 hT HG6 HBR HB6
        cases T with
        | true =>
          have HN : Hid (bk l (k + 1) = bk l k) := Lib.hid (by rw [HBS.out, if_neg (by rw [HU.out]; decide), List.append_nil])
          go_wp2_with fail
          go_roundw
          case measure => simp [intOf]; omega
          case rel => exact ⟨k + 1, Ak, nk, ck, by go_num, by omega, by rw [HN.out]; exact HS7.out⟩
        | false =>
          have HZS := Lib.hid (HSB.out HU.out)
          clear HU HSB
          go_upto_region 10 with fail
          go_cut [9, 10] (fun s9 s10 wx => ∃ (g : Nat) (A9 : Option Addr) (n9 c9 : Nat), s9 = .pointer (some ⟨g, 0, none⟩) ∧ s10 = .int .i64 0 ∧ Hid (wx.heap[g]? = some (.cells (tabV A9 n9 c9) 39 (0, 0)) ∧ OS rowK wx w7.heap.size A9 n9 c9 (bk l (k + 1)) ∧ (∀ ad, A9 = some ad → ad.block ≠ g) ∧ Below w7.heap.size w7 wx))
          case first =>
            have HBD := Lib.hid (below_drew1 w7)
            refine wp_region_fork ((fun w0 => Below w7.heap.size w7 w0)) (OrdT.fork [0, 1, 2, 3, 4, 5, 6, 7, 8] 9 13 (OrdT.lin [10, 11, 12, 13, 14, 15]) (OrdT.lin [9, 10, 11, 12, 14, 15])) [(0, 0), (1, 0), (2, 0), (3, 0), (4, 0), (5, 0), (6, 0), (7, 0), (8, 0), (9, 2), (10, 0), (11, 0), (12, 0), (13, 2), (14, 2), (15, 0)] (by kernel_rfl) (by kernel_rfl) ((below_drew1 _)) ?_
            simp only [wpF]
            refine wpO_loadW (t := 39) (ad := ⟨g5, 0, none⟩) rfl rfl ?hw rfl rfl ((fun w0 hS => load_tab (blk_below HS7.out.cell hS))) ?_
            case hw => go_simp
            iterate 1 (refine wpO_step0 rfl rfl (fun K hK => ?_); go_simp; refine hK _ _ ?_; clear hK K)
            refine wpO_loadW (t := 49) (ad := ⟨gx, 0, none⟩) rfl rfl ?hw rfl rfl ((fun w0 hS => (HX7.out.all w0 hS).pfx)) ?_
            case hw => go_simp
            iterate 1 (refine wpO_step0 rfl rfl (fun K hK => ?_); go_simp; refine hK _ _ ?_; clear hK K)
            refine wpO_loadW (t := 22) (ad := ⟨w.heap.size, 0, none⟩) rfl rfl ?hw rfl rfl ((fun w0 hS => (HP1.out.all w0 (below_step HB7.out hS)).2)) ?_
            case hw => go_simp
            iterate 3 (refine wpO_step0 rfl rfl (fun K hK => ?_); go_simp; refine hK _ _ ?_; clear hK K)
            refine wpO_loadW (t := 3) (ad := ⟨b, (o+k*21+20), none⟩) rfl rfl ?hw rfl rfl ((fun w0 hS => (rteLd_of HXO.out.fits (HCX.out.below (below_step HBR7.out hS))).hop)) ?_
            case hw => go_simp
            refine wpO_nil ⟨?_, ?_⟩
            · refine wpO_step2 rfl rfl (HBD.out) (fun K hK => ?_)
              go_simp
              refine (tset_any Ak nk ck (bk l k) x.p x.h w7.drew (HL.out.below (below_step HB7.out HBD.out)) (HS7.out.own.reads.below HBD.out) HXO.out.fits (by omega)).mono ?_
              rw [HZS.out.1, HZS.out.2]
              rintro e w2 ⟨A9, n9, c9, rfl, hO9, hb9⟩
              have HBC := Lib.hid (below_step HBD.out hb9)
              have HLT9 := Lib.hid hO9.lt
              have HBA9 := Lib.hid hO9.base_
              have HO9 := Lib.hid (hO9.lower HBD.out.size)
              try replace HZ9 := Lib.hid (blk_below HZ9.out hb9)
              clear hO9 hb9
              refine hK _ _ ⟨HBC.out, ?_⟩
              clear hK K
              refine wpO_nil ?_
              iterate 3 (refine wpO_step0 rfl rfl (fun K hK => ?_); go_simp; refine hK _ _ ?_; clear hK K)
              refine wpO_step2 rfl rfl (HBC.out) (fun K hK => ?_)
              go_simp
              have hz9 := blk_new w2 (.cells (tabV none 0 0) 39)
              obtain ⟨w3, hw9⟩ : ∃ w9, World.alloc w2 (.cells (tabV none 0 0) 39) = w9 := ⟨_, rfl⟩
              have ha9 : Below (World.heap w2).size w2 w3 := hw9 ▸ below_alloc (Below.refl _ _) _
              have HBK := Lib.hid (below_step HBC.out ha9)
              refine kw_cast hw9 ?_
              rw [hw9] at hz9
              have hzl9 := blk_lt hz9
              have HZ9 := Lib.hid hz9
              try replace HCP := Lib.hid (HCP.out.below ha9)
              try replace HO9 := Lib.hid (HO9.out.below ha9)
              try replace HLV := Lib.hid (HLV.out.below ha9)
              clear hw9 hz9 ha9
              refine hK _ _ ⟨HBK.out, ?_⟩
              clear hK K
              refine wpO_step2 rfl rfl (HBK.out) (fun K hK => ?_)
              rw [if_pos (show Region.wanted _ _ = true from rfl)]
              refine oper_store_blk HZ9.out 39 0 (tabV A9 n9 c9) (Nat.le_refl _) (info_tab _ _ _) (tab_one _ _ _) _ _ rfl rfl rfl ?_
              intro w4 hg9 hs9 hb9
              rw [splice_tab] at hb9
              have HBL := Lib.hid (below_grown HBK.out hg9 (by have h2 := HBC.out.size; omega))
              have HNE9 : Hid (∀ ad, A9 = some ad → ad.block ≠ w2.heap.size) := Lib.hid (fun ad e => by first | (have := HLT9.out ad e; omega) | (have := HBA9.out ad e; have h3 := blk_lt HZ9.out; omega))
              replace HO9 := Lib.hid (HO9.out.grown hg9 (fun ad e h => by injection h with h; exact HNE9.out ad e h))
              replace HZ9 := Lib.hid hb9
              clear hg9 hs9 hb9
              refine hK _ _ ⟨HBL.out, ?_⟩
              clear hK K
              iterate 1 (refine wpO_step0 rfl rfl (fun K hK => ?_); go_simp; refine hK _ _ ?_; clear hK K)
              refine wpO_nil ?_
              go_wp2_with fail
              go_meet
              exact ⟨w2.heap.size, A9, n9, c9, rfl, rfl, HZ9.out, HO9.out, HNE9.out, HBL.out⟩
            · refine wpO_step2 rfl rfl (HBD.out) (fun K hK => ?_)
              go_simp
              have hz9 := blk_new w7 (.cells (tabV none 0 0) 39)
              obtain ⟨w2, hw9⟩ : ∃ w9, (World.alloc w7 (.cells (tabV none 0 0) 39)).drew = w9 := ⟨_, rfl⟩
              have ha9 : Below (World.heap w7).size w7 w2 := hw9 ▸ below_step (below_alloc (Below.refl _ _) _) (below_drew1 _)
              have HBC := Lib.hid ha9
              refine kw_cast hw9 ?_
              replace hz9 : (World.heap w2)[(World.heap w7).size]? = some (.cells (tabV none 0 0) 39 (0, 0)) := by rw [← hw9]; exact hz9
              have hzl9 := blk_lt hz9
              have HZ9 := Lib.hid hz9
              clear hw9 hz9 ha9
              refine hK _ _ ⟨HBC.out, ?_⟩
              clear hK K
              refine wpO_nil ?_
              refine wpO_step2 rfl rfl (HBC.out) (fun K hK => ?_)
              go_simp
              refine (tset_any Ak nk ck (bk l k) x.p x.h w2 (HL.out.below (below_step HB7.out HBC.out)) (HS7.out.own.reads.below HBC.out) HXO.out.fits (by omega)).mono ?_
              rw [HZS.out.1, HZS.out.2]
              rintro e w3 ⟨A9, n9, c9, rfl, hO9, hb9⟩
              have HBK := Lib.hid (below_step HBC.out hb9)
              have HLT9 := Lib.hid hO9.lt
              have HBA9 := Lib.hid hO9.base_
              have HO9 := Lib.hid (hO9.lower HBC.out.size)
              try replace HZ9 := Lib.hid (blk_below HZ9.out hb9)
              clear hO9 hb9
              refine hK _ _ ⟨HBK.out, ?_⟩
              clear hK K
              iterate 3 (refine wpO_step0 rfl rfl (fun K hK => ?_); go_simp; refine hK _ _ ?_; clear hK K)
              refine wpO_step2 rfl rfl (HBK.out) (fun K hK => ?_)
              rw [if_pos (show Region.wanted _ _ = true from rfl)]
              refine oper_store_blk HZ9.out 39 0 (tabV A9 n9 c9) (Nat.le_refl _) (info_tab _ _ _) (tab_one _ _ _) _ _ rfl rfl rfl ?_
              intro w4 hg9 hs9 hb9
              rw [splice_tab] at hb9
              have HBL := Lib.hid (below_grown HBK.out hg9 (by have h2 := HBC.out.size; omega))
              have HNE9 : Hid (∀ ad, A9 = some ad → ad.block ≠ w7.heap.size) := Lib.hid (fun ad e => by first | (have := HLT9.out ad e; omega) | (have := HBA9.out ad e; have h3 := blk_lt HZ9.out; omega))
              replace HO9 := Lib.hid (HO9.out.grown hg9 (fun ad e h => by injection h with h; exact HNE9.out ad e h))
              replace HZ9 := Lib.hid hb9
              clear hg9 hs9 hb9
              refine hK _ _ ⟨HBL.out, ?_⟩
              clear hK K
              iterate 1 (refine wpO_step0 rfl rfl (fun K hK => ?_); go_simp; refine hK _ _ ?_; clear hK K)
              refine wpO_nil ?_
              go_wp2_with fail
              go_meet
              exact ⟨w7.heap.size, A9, n9, c9, rfl, rfl, HZ9.out, HO9.out, HNE9.out, HBL.out⟩
          case rest =>
            obtain ⟨g9, A9, n9, c9, rfl, rfl, HC⟩ := hcut
            obtain ⟨w9, rfl⟩ : ∃ w9, w9 = wc := ⟨wc, rfl⟩
            have HB79 := Lib.hid HC.out.2.2.2
            have HC5 := Lib.hid (blk_below HS7.out.cell HC.out.2.2.2)
            have HO9 := Lib.hid HC.out.2.1
            have HG9 := Lib.hid HC.out.1
            have HG5 := Lib.hid (blk_lt HS7.out.cell)
            have HSB9 := Lib.hid (below_step HS7.out.bel HC.out.2.2.2)
            have HGL := Lib.hid HS7.out.gle
            have HSZ := Lib.hid HS7.out.bel.size
            clear HC HZS
            go_wp2_with (first | ((with_reducible show wpList _ _ _ (Oper.mk _ (Op.load _ _) _ _ _ _ :: _) _ _); refine wpList_load_g (load_tab HG9.out) _ rfl rfl (by go_simp) ?_) | ((with_reducible show wpList _ _ _ (Oper.mk _ (Op.store _ _ _) _ _ _ _ :: _) _ _); refine wpList_store_blk HC5.out 39 0 (tabV A9 n9 c9) (Nat.le_refl _) (info_tab _ _ _) (tab_one _ _ _) _ _ rfl rfl rfl rfl ?_; intro w10 hg9 hs9 hb9; rw [splice_tab] at hb9; have H10 := Lib.hid (And.intro hg9 hb9); clear hg9 hs9 hb9))
            go_roundw
            case measure => simp [intOf]; omega
            case rel => exact ⟨k + 1, A9, n9, c9, by go_num, by omega, ⟨(HO9.out.grown H10.out.1 (fun ad e h => by have h1 := HO9.out.base_ ad e; have h2 := HG5.out; injection h with h; omega)).lower HSZ.out, H10.out.2, below_grown HSB9.out H10.out.1 HGL.out, HGL.out⟩⟩
      · have hlt' : decide (k < n) = false := decide_eq_false hlt
        have hkl : k = l.length := by rw [HR.out.len]; have := HI.out.1; omega
        have HN : Hid (bk l k = bestT l) := Lib.hid (by rw [hkl, bk_all])
        clear hlt hkl
        go_wp2_with (first | ((with_reducible show wpList _ _ _ (Oper.mk _ (Op.load _ _) _ _ _ _ :: _) _ _); refine wpList_load_g (load_tab HI.out.2.cell) _ rfl rfl (by go_simp) ?_) | ((with_reducible show wpList _ _ _ (Oper.mk _ (Op.store _ _ _) _ _ _ _ :: _) _ _); refine wpList_store_blk (blk_below HZ2.out HI.out.2.bel) 39 0 (tabV Ak nk ck) (Nat.le_refl _) (info_tab _ _ _) (tab_one _ _ _) _ _ rfl rfl rfl rfl ?_; intro w9 hg9 hs9 hb9; rw [splice_tab] at hb9; have H9 := Lib.hid (And.intro hg9 hb9); clear hg9 hs9 hb9))
        refine bodyPost_ret (results_c2 rfl rfl (load_tab H9.out.2)) rfl ?_
        rw [HE.out.1, HE.out.2, ← HN.out]
        refine ⟨Ak, nk, ck, rfl, (HI.out.2.own.grown H9.out.1 (fun ad e h => ?_)).lower (by have := HS2.out; omega), below_grown (below_step HBE.out HBK.out) H9.out.1 HZL.out⟩
        have h1 := HI.out.2.own.base_ ad e
        have h2 := HS2.out
        injection h with h
        omega
end Go.Proofs.YtnpeedmicjeleaaDoor

/- Layer 11 (route): the law's eight, over, own, wakes. -/
namespace Go.Proofs.YtnpeedmicjeleaaDoor
open Go.RowKit
set_option linter.unusedVariables false
set_option linter.unusedSimpArgs false
set_option maxRecDepth 4000
theorem eight11_any (w : World) : Calls Tryd.prog 40 #[] w fun e w' => e = .returned (.agg (pfxV 4 ten8 8)) ∧ Below w.heap.size w w' := by
  have hz := blk_new w (.cells (pfxV 0 zero16 0) 49)
  go_enter Tryd.func40, Tryd.ntmps40
  go_wp2_with (refine wpList_store_blk hz 49 0 (pfxV 4 ten8 8) (store_pfx_fit rfl rfl) (info_pfx rfl) (pfx_one _ _ _) _ _ rfl rfl rfl rfl ?_; intro w9 hg9 hs9 hb9; rw [splice_pfx _ _ _ ten8 rfl rfl] at hb9; have H9 := Lib.hid (And.intro hg9 hb9); clear hg9 hs9 hb9)
  have hld := ((pfx_at ten8_B H9.out.2).all _ (Below.refl _ _)).2.2.2.2
  refine bodyPost_ret (results_c1 rfl rfl hld) rfl ⟨rfl, below_grown (below_alloc (Below.refl _ _) _) H9.out.1 (Nat.le_refl _)⟩
theorem built_upd (p : Pfx) (s f h : Int) (hl : p.l.length = 16) : Tryd.prog.built 75 [(0, .agg (pfxV p.v p.l p.b)), (1, .int .i64 s), (3, .int .i64 f), (4, .int .i64 h)] = some (updV ⟨p, s, false, f, h⟩) := by
  obtain ⟨a, b, c, d, e, f, g, h1, i, j, k, m, n, o, q, r, hh⟩ := len16 hl
  obtain ⟨v, l, x⟩ := p
  simp only at hh
  subst hh
  kernel_rfl
theorem run_build_upd (w : World) (p : Pfx) (s f h : Int) (hl : p.l.length = 16) : (Instr.build 75 #[(0, .agg (pfxV p.v p.l p.b)), (1, .int .i64 s), (3, .int .i64 f), (4, .int .i64 h)]).run Tryd.prog w = .ok (.agg (updV ⟨p, s, false, f, h⟩)) w := run_build w _ _ _ (built_upd p s f h hl)
theorem built_updg (p : Pfx) (s : Int) (g : Bool) (hl : p.l.length = 16) : Tryd.prog.built 75 [(0, .agg (pfxV p.v p.l p.b)), (1, .int .i64 s), (2, .bool g)] = some (updV ⟨p, s, g, 0, 0⟩) := by
  obtain ⟨a, b, c, d, e, f, g, h1, i, j, k, m, n, o, q, r, hh⟩ := len16 hl
  obtain ⟨v, l, x⟩ := p
  simp only at hh
  subst hh
  kernel_rfl
theorem run_build_updg (w : World) (p : Pfx) (s : Int) (g : Bool) (hl : p.l.length = 16) : (Instr.build 75 #[(0, .agg (pfxV p.v p.l p.b)), (1, .int .i64 s), (2, .bool g)]).run Tryd.prog w = .ok (.agg (updV ⟨p, s, g, 0, 0⟩)) w := run_build w _ _ _ (built_updg p s g hl)
theorem run_build_bat (w : World) (A : Option Addr) (n c : Nat) : (Instr.build 27 #[(0, .slice A n c)]).run Tryd.prog w = .ok (.agg (tabV A n c)) w := run_build w _ _ _ (by kernel_rfl)
def wkP : Pfx := ⟨4, ten8, 8⟩
def wkU1 : Upd := ⟨wkP, 2, false, 5, 7⟩
def wkU2 : Upd := ⟨wkP, 1, false, 5, 9⟩
def wkU3 : Upd := ⟨wkP, 1, true, 0, 0⟩
def wkB1 : List Upd := [wkU1, wkU2]
def wkB2 : List Upd := [wkU3]
def wkR1 : List Rte := appR [] wkB1
def wkR2 : List Rte := appR wkR1 wkB2
theorem wkr1 : appN [] wkB1 = 0 ∧ wkR1.length = 2 ∧ ribE wkR1 = 0 ∧ (bestR wkR1).length = 1 ∧ (rowAt (bestR wkR1) 0).h = 9 := by decide +kernel
theorem wkr2 : appN wkR1 wkB2 = 0 ∧ wkR2.length = 1 ∧ ribE wkR2 = 0 ∧ (bestR wkR2).length = 1 ∧ (rowAt (bestR wkR2) 0).h = 7 := by decide +kernel
theorem wkB1_ok : Oku wkB1 := by
  intro u hu
  simp only [wkB1, List.mem_cons, List.not_mem_nil, or_false] at hu
  rcases hu with rfl | rfl <;> exact ⟨⟨ten8_B, by decide, by decide⟩, by decide, by decide, by decide⟩
theorem wkB2_ok : Oku wkB2 := by
  intro u hu
  simp only [wkB2, List.mem_cons, List.not_mem_nil, or_false] at hu
  subst hu
  exact ⟨⟨ten8_B, by decide, by decide⟩, by decide, by decide, by decide⟩
theorem appR_ok {l : List Rte} {b : List Upd} (ho : Okr l) (hu : Oku b) : Okr (appR l b) := by
  unfold appR
  split
  · rename_i h
    unfold appN at h
    split at h
    · rename_i h1
      split at h
      · split at h
        · rename_i m hm
          rw [hm]
          exact (appL_rok ⟨ho, (rib_to h1).2.1⟩ hu hm).1.ok
        · cases h
      · cases h
    · cases h
  · exact fun r hr => by cases hr
theorem wkR1_ok : Okr wkR1 := appR_ok (fun r hr => by cases hr) wkB1_ok
theorem wkR2_ok : Okr wkR2 := appR_ok wkR1_ok wkB2_ok
set_option maxHeartbeats 4000000 in
set_option maxRecDepth 100000 in
theorem wakes11_any (w : World) (hL : Laid w) : Calls Tryd.prog 10 #[] w fun e w' => e = .returned (.bool true) ∧ Below w.heap.size w w' := by
  have HL := Lib.hid hL
  clear hL
  go_enter Tryd.func10, Tryd.ntmps10
  go_wp2_with (first | ((with_reducible show wpList _ _ _ (Oper.mk _ (Op.build _ _) _ _ _ _ :: _) _ _); refine wpList_exw rfl (exec_build 24 #[] rfl #[] rfl ((run_build_rib_nil _))) ?_))
  refine (eight11_any w).mono ?_
  rintro e w1 ⟨rfl, hb1⟩
  have HB1 := Lib.hid hb1
  clear hb1
  go_wp2_with (first | ((with_reducible show wpList _ _ _ (Oper.mk _ (Op.build 75 _) _ _ _ _ :: _) _ _); refine wpList_exw rfl (exec_build4 rfl rfl rfl rfl rfl (run_build_upd _ wkP 2 5 7 rfl)) ?_))
  refine (eight11_any w1).mono ?_
  rintro e w2 ⟨rfl, hb2⟩
  have HB2 := Lib.hid (below_step HB1.out hb2)
  clear hb2 HB1
  obtain ⟨u1, hu1⟩ : ∃ u : Upd, u = wkU1 := ⟨_, rfl⟩
  obtain ⟨u2, hu2⟩ : ∃ u : Upd, u = wkU2 := ⟨_, rfl⟩
  have HU1 := Lib.hid hu1
  have HU2 := Lib.hid hu2
  have hf1 : u1.fits := by rw [hu1]; exact ten8_B
  have hf2 : u2.fits := by rw [hu2]; exact ten8_B
  clear hu1 hu2
  go_wp2_with (first | ((with_reducible show wpList _ _ _ (Oper.mk _ (Op.build 75 _) _ _ _ _ :: _) _ _); refine wpList_exw rfl (exec_build4 rfl rfl rfl rfl rfl (run_build_upd _ wkP 1 5 9 rfl)) ?_) | ((with_reducible show wpList _ _ _ (Oper.mk _ (Op.buildSlice _ _ _) _ _ _ _ :: _) _ _); refine wpList_exw rfl (exec_lit2 updK (x := .tmp 12) (y := .tmp 14) rfl u1 u2 (by rw [HU1.out]; rfl) (by rw [HU2.out]; rfl) hf1 hf2 (by show 22 ≤ _; omega) _) ?_) | ((with_reducible show wpList _ _ _ (Oper.mk _ (Op.build 27 _) _ _ _ _ :: _) _ _); refine wpList_exw rfl (exec_build1 rfl rfl (run_build_bat _ (some ⟨w2.heap.size, 0, none⟩) 2 2)) ?_))
  obtain ⟨W2, hW2⟩ : ∃ W, w2.alloc (.cells (updK.cells [u1, u2]).toArray updK.t) = W := ⟨_, rfl⟩
  have HV2 : Hid (RS updK W2 (some ⟨w2.heap.size, 0, none⟩) 2 2 wkB1) := Lib.hid (by unfold wkB1; rw [← HU1.out, ← HU2.out]; exact hW2 ▸ (OS.two updK w2 0 u1 u2 (Nat.zero_le _) hf1 hf2).reads)
  have HBW : Hid (Below w.heap.size w W2) := Lib.hid (hW2 ▸ below_alloc HB2.out _)
  rw [hW2]
  clear hW2
  have hcall := rapply_any none 0 0 [] (some ⟨w2.heap.size, 0, none⟩) 2 2 wkB1 W2 (HL.out.below HBW.out) (RS.nil _ _ _ _) (fun r hr => by cases hr) (by omega) HV2.out wkB1_ok (by omega)
  refine hcall.mono ?_
  clear hcall
  rw [wkr1.1]
  rintro e w3 ⟨A3, n3, c3, rfl, hO3, hb3⟩
  obtain rfl : 2 = n3 := by rw [← wkr1.2.1]; exact hO3.len
  have HO3 : Hid (RS rteK w3 A3 2 c3 wkR1) := Lib.hid hO3.reads
  have HB3 := Lib.hid (below_step HBW.out hb3)
  clear hO3 hb3 HB2
  go_wp2_with (first | ((with_reducible show wpList _ _ _ (Oper.mk _ (Op.store _ _ _) _ _ _ _ :: _) _ _); refine wpList_store_blk (blk_new w3 (.cells (tabV none 0 0) 24)) 24 0 (tabV A3 2 c3) (Nat.le_refl _) (info_rib _ _ _) (tab_one _ _ _) _ _ rfl rfl rfl rfl ?_; intro w4 hg9 hs9 hb9; rw [splice_tab] at hb9; have H4 := Lib.hid (And.intro hg9 hb9); clear hg9 hs9 hb9) | ((with_reducible show wpList _ _ _ (Oper.mk _ (Op.load _ _) _ _ _ _ :: _) _ _); refine wpList_load_g (load_rib H4.out.2) _ rfl rfl (by go_simp) ?_))
  have HB34 := Lib.hid (below_grown (below_alloc (Below.refl w3.heap.size w3) (.cells (tabV none 0 0) 24)) H4.out.1 (Nat.le_refl _))
  have HB4 := Lib.hid (below_step HB3.out HB34.out)
  have HO4 := Lib.hid (HO3.out.below HB34.out)
  have HG4 := Lib.hid H4.out.2
  obtain ⟨g1, hg1⟩ : ∃ g, w3.heap.size = g := ⟨_, rfl⟩
  rw [hg1] at HG4 ⊢
  clear H4 HB3 HB34 HO3 hg1
  refine (rbest_any A3 2 c3 wkR1 w4 (HL.out.below HB4.out) HO4.out wkR1_ok (by omega)).mono ?_
  rw [wkr1.2.2.1]
  rintro e w5 ⟨A5, n5, c5, rfl, hO5, hb5⟩
  obtain rfl : 1 = n5 := by rw [← wkr1.2.2.2.1]; exact hO5.len
  have HO5 : Hid (RT w5 A5 1 c5 (bestR wkR1)) := Lib.hid hO5.reads
  have HB5 := Lib.hid (below_step HB4.out hb5)
  have HG5 := Lib.hid (blk_below HG4.out hb5)
  have HR5 := Lib.hid (HO4.out.below hb5)
  clear hO5 hb5 HG4 HO4
  go_upto_region 3 with (first | ((with_reducible show wpList _ _ _ (Oper.mk _ (Op.store _ _ _) _ _ _ _ :: _) _ _); refine wpList_store_blk (blk_new w5 (.cells (tabV none 0 0) 39)) 39 0 (tabV A5 1 c5) (Nat.le_refl _) (info_tab _ _ _) (tab_one _ _ _) _ _ rfl rfl rfl rfl ?_; intro w6 hg9 hs9 hb9; rw [splice_tab] at hb9; have H6 := Lib.hid (And.intro hg9 hb9); clear hg9 hs9 hb9))
  have HB56 := Lib.hid (below_grown (below_alloc (Below.refl w5.heap.size w5) (.cells (tabV none 0 0) 39)) H6.out.1 (Nat.le_refl _))
  have HB6 := Lib.hid (below_step HB5.out HB56.out)
  have HG6 := Lib.hid (blk_below HG5.out HB56.out)
  have HR6 := Lib.hid (HR5.out.below HB56.out)
  have HT6 := Lib.hid (HO5.out.below HB56.out)
  have HQ6 := Lib.hid H6.out.2
  obtain ⟨g3, hg3⟩ : ∃ g, w5.heap.size = g := ⟨_, rfl⟩
  rw [hg3] at HQ6 ⊢
  clear H6 HB56 HG5 HR5 HO5 hg3
  try dsimp only [Act.put]
  try go_simp
  go_cut [5, 6] (fun s5 s6 wx => ∃ (g : Nat) (A7 : Option Addr) (c7 : Nat), s5 = .pointer (some ⟨g, 0, none⟩) ∧ s6 = .int .i64 0 ∧ Hid (wx.heap[g]? = some (.cells (tabV A7 1 c7) 24 (0, 0)) ∧ RS rteK wx A7 1 c7 wkR2 ∧ Below w6.heap.size w6 wx))
  case first =>
    have HBD := Lib.hid (below_drew1 w6)
    refine wp_region_fork ((fun w0 => Below w6.heap.size w6 w0)) (OrdT.fork [0] 1 9 (OrdT.fork [2] 3 9 (OrdT.fork [4] 5 9 (OrdT.lin [6, 7, 8, 9, 10, 11]) (OrdT.lin [5, 6, 7, 8, 10, 11])) (OrdT.lin [3, 4, 5, 6, 7, 8, 10, 11])) (OrdT.lin [1, 2, 3, 4, 5, 6, 7, 8, 10, 11])) [(0, 0), (1, 2), (2, 0), (3, 2), (4, 0), (5, 2), (6, 0), (7, 0), (8, 0), (9, 2), (10, 2), (11, 0)] (by kernel_rfl) (by kernel_rfl) ((below_drew1 _)) ?_
    simp only [wpF]
    refine wpO_loadW (t := 24) (ad := ⟨g1, 0, none⟩) rfl rfl ?hw rfl rfl ((fun w0 hS => load_rib (blk_below HG6.out hS))) ?_
    case hw => go_simp
    refine wpO_nil ⟨?_, ?_⟩
    · refine wpO_step2 rfl rfl (HBD.out) (fun K hK => ?_)
      go_simp
      refine (eight11_any _).mono ?_
      rintro e w21 ⟨rfl, hb9⟩
      have hsz1 := hb9.size
      have HBC := Lib.hid (below_step HBD.out hb9)
      try replace HZ9 := Lib.hid (blk_below HZ9.out hb9)
      clear hb9
      refine hK _ _ ⟨HBC.out, ?_⟩
      clear hK K
      refine wpO_nil ?_
      refine wpO_step0 rfl rfl (fun K hK => ?_)
      rw [if_pos (show Region.wanted _ _ = true from rfl)]
      refine ⟨_, fun w0 => exec_build3 rfl rfl rfl rfl (run_build_updg w0 wkP 1 true rfl), hK _ _ ?_⟩
      clear hK K
      refine wpO_nil ⟨?_, ?_⟩
      · refine wpO_step2 rfl rfl (HBC.out) (fun K hK => ?_)
        rw [if_pos (show Region.wanted _ _ = true from rfl)]
        refine oper_exec (exec_lit1 updK (x := .tmp 28) rfl wkU3 rfl ten8_B (by show 22 ≤ _; omega) _) ?_
        obtain ⟨w22, hw9⟩ : ∃ w9, World.alloc w21 (.cells (updK.enc wkU3).toArray updK.t) = w9 := ⟨_, rfl⟩
        have HLV : Hid (RS updK w22 (some ⟨(World.heap w21).size, 0, none⟩) 1 1 wkB2) := Lib.hid (hw9 ▸ (OS.one updK w21 0 wkU3 (Nat.zero_le _) ten8_B).reads)
        have ha9 : Below (World.heap w21).size w21 w22 := hw9 ▸ below_alloc (Below.refl _ _) _
        have HBK := Lib.hid (below_step HBC.out ha9)
        have hsz2 := ha9.size
        refine kw_cast hw9 ?_
        try replace HZ9 := Lib.hid (blk_below HZ9.out ha9)
        clear hw9 ha9
        refine hK _ _ ⟨HBK.out, ?_⟩
        clear hK K
        obtain ⟨gl, hgl⟩ : ∃ g, (World.heap w21).size = g := ⟨_, rfl⟩
        rw [hgl] at HLV ⊢
        clear hgl
        refine wpO_nil ?_
        refine wpO_step0 rfl rfl (fun K hK => ?_)
        rw [if_pos (show Region.wanted _ _ = true from rfl)]
        refine ⟨_, fun w0 => exec_build1 rfl rfl (run_build_bat w0 (some ⟨gl, 0, none⟩) 1 1), hK _ _ ?_⟩
        clear hK K
        refine wpO_nil ⟨?_, ?_⟩
        · refine wpO_step2 rfl rfl (HBK.out) (fun K hK => ?_)
          go_simp
          refine (rapply_any A3 2 c3 wkR1 (some ⟨gl, 0, none⟩) 1 1 wkB2 w22 (HL.out.below (below_step HB6.out HBK.out)) (HR6.out.below HBK.out) wkR1_ok (by omega) HLV.out wkB2_ok (by omega)).mono ?_
          rw [wkr2.1]
          rintro e w23 ⟨A9, n9, c9, rfl, hO9, hb9⟩
          obtain rfl : 1 = n9 := by rw [← wkr2.2.1]; exact hO9.len
          have HBL := Lib.hid (below_step HBK.out hb9)
          have HLT9 := Lib.hid hO9.lt
          have HBA9 := Lib.hid hO9.base_
          have HO9 : Hid (RS rteK w23 A9 1 c9 wkR2) := Lib.hid hO9.reads
          try replace HZ9 := Lib.hid (blk_below HZ9.out hb9)
          have hszc := hb9.size
          clear hO9 hb9
          refine hK _ _ ⟨HBL.out, ?_⟩
          clear hK K
          refine wpO_nil ?_
          iterate 3 (refine wpO_step0 rfl rfl (fun K hK => ?_); go_simp; refine hK _ _ ?_; clear hK K)
          refine wpO_step2 rfl rfl (HBL.out) (fun K hK => ?_)
          go_simp
          have hz9 := blk_new w23 (.cells (tabV none 0 0) 24)
          obtain ⟨w24, hw9⟩ : ∃ w9, World.alloc w23 (.cells (tabV none 0 0) 24) = w9 := ⟨_, rfl⟩
          have ha9 : Below (World.heap w23).size w23 w24 := hw9 ▸ below_alloc (Below.refl _ _) _
          have HBM := Lib.hid (below_step HBL.out ha9)
          refine kw_cast hw9 ?_
          rw [hw9] at hz9
          have hzl9 := blk_lt hz9
          have HZ9 := Lib.hid hz9
          try replace HCP := Lib.hid (HCP.out.below ha9)
          try replace HO9 := Lib.hid (HO9.out.below ha9)
          try replace HLV := Lib.hid (HLV.out.below ha9)
          clear hw9 hz9 ha9
          refine hK _ _ ⟨HBM.out, ?_⟩
          clear hK K
          refine wpO_step2 rfl rfl (HBM.out) (fun K hK => ?_)
          rw [if_pos (show Region.wanted _ _ = true from rfl)]
          refine oper_store_blk HZ9.out 24 0 (tabV A9 1 c9) (Nat.le_refl _) (info_rib _ _ _) (tab_one _ _ _) _ _ rfl rfl rfl ?_
          intro w25 hg9 hs9 hb9
          rw [splice_tab] at hb9
          have HBN := Lib.hid (below_grown HBM.out hg9 (by have h1 := HBC.out.size; have h2 := HBK.out.size; have h3 := HBL.out.size; omega))
          have HNE9 : Hid (∀ ad, A9 = some ad → ad.block ≠ w23.heap.size) := Lib.hid (fun ad e => by have h1 := HLT9.out ad e; have h2 := HBA9.out ad e; first | omega)
          replace HO9 := Lib.hid (HO9.out.grown hg9 (fun ad e h => by injection h with h; exact HNE9.out ad e h))
          replace HZ9 := Lib.hid hb9
          clear hg9 hs9 hb9
          refine hK _ _ ⟨HBN.out, ?_⟩
          clear hK K
          iterate 1 (refine wpO_step0 rfl rfl (fun K hK => ?_); go_simp; refine hK _ _ ?_; clear hK K)
          refine wpO_nil ?_
          go_wp2_with fail
          go_meet
          exact ⟨w23.heap.size, A9, c9, rfl, rfl, HZ9.out, HO9.out, HBN.out⟩
        · refine wpO_step2 rfl rfl (HBK.out) (fun K hK => ?_)
          go_simp
          have hz9 := blk_new w22 (.cells (tabV none 0 0) 24)
          obtain ⟨w23, hw9⟩ : ∃ w9, World.alloc w22 (.cells (tabV none 0 0) 24) = w9 := ⟨_, rfl⟩
          have ha9 : Below (World.heap w22).size w22 w23 := hw9 ▸ below_alloc (Below.refl _ _) _
          have HBL := Lib.hid (below_step HBK.out ha9)
          refine kw_cast hw9 ?_
          rw [hw9] at hz9
          have hzl9 := blk_lt hz9
          have HZ9 := Lib.hid hz9
          try replace HCP := Lib.hid (HCP.out.below ha9)
          try replace HO9 := Lib.hid (HO9.out.below ha9)
          try replace HLV := Lib.hid (HLV.out.below ha9)
          clear hw9 hz9 ha9
          refine hK _ _ ⟨HBL.out, ?_⟩
          clear hK K
          refine wpO_nil ?_
          refine wpO_step2 rfl rfl (HBL.out) (fun K hK => ?_)
          go_simp
          refine (rapply_any A3 2 c3 wkR1 (some ⟨gl, 0, none⟩) 1 1 wkB2 w23 (HL.out.below (below_step HB6.out HBL.out)) (HR6.out.below HBL.out) wkR1_ok (by omega) HLV.out wkB2_ok (by omega)).mono ?_
          rw [wkr2.1]
          rintro e w24 ⟨A9, n9, c9, rfl, hO9, hb9⟩
          obtain rfl : 1 = n9 := by rw [← wkr2.2.1]; exact hO9.len
          have HBM := Lib.hid (below_step HBL.out hb9)
          have HLT9 := Lib.hid hO9.lt
          have HBA9 := Lib.hid hO9.base_
          have HO9 : Hid (RS rteK w24 A9 1 c9 wkR2) := Lib.hid hO9.reads
          try replace HZ9 := Lib.hid (blk_below HZ9.out hb9)
          have hszc := hb9.size
          clear hO9 hb9
          refine hK _ _ ⟨HBM.out, ?_⟩
          clear hK K
          iterate 3 (refine wpO_step0 rfl rfl (fun K hK => ?_); go_simp; refine hK _ _ ?_; clear hK K)
          refine wpO_step2 rfl rfl (HBM.out) (fun K hK => ?_)
          rw [if_pos (show Region.wanted _ _ = true from rfl)]
          refine oper_store_blk HZ9.out 24 0 (tabV A9 1 c9) (Nat.le_refl _) (info_rib _ _ _) (tab_one _ _ _) _ _ rfl rfl rfl ?_
          intro w25 hg9 hs9 hb9
          rw [splice_tab] at hb9
          have HBN := Lib.hid (below_grown HBM.out hg9 (by have h1 := HBC.out.size; have h2 := HBK.out.size; have h3 := HBL.out.size; omega))
          have HNE9 : Hid (∀ ad, A9 = some ad → ad.block ≠ w22.heap.size) := Lib.hid (fun ad e => by have h1 := HLT9.out ad e; have h2 := HBA9.out ad e; first | omega)
          replace HO9 := Lib.hid (HO9.out.grown hg9 (fun ad e h => by injection h with h; exact HNE9.out ad e h))
          replace HZ9 := Lib.hid hb9
          clear hg9 hs9 hb9
          refine hK _ _ ⟨HBN.out, ?_⟩
          clear hK K
          iterate 1 (refine wpO_step0 rfl rfl (fun K hK => ?_); go_simp; refine hK _ _ ?_; clear hK K)
          refine wpO_nil ?_
          go_wp2_with fail
          go_meet
          exact ⟨w22.heap.size, A9, c9, rfl, rfl, HZ9.out, HO9.out, HBN.out⟩
      · refine wpO_step2 rfl rfl (HBC.out) (fun K hK => ?_)
        go_simp
        have hz9 := blk_new w21 (.cells (tabV none 0 0) 24)
        obtain ⟨w22, hw9⟩ : ∃ w9, World.alloc w21 (.cells (tabV none 0 0) 24) = w9 := ⟨_, rfl⟩
        have ha9 : Below (World.heap w21).size w21 w22 := hw9 ▸ below_alloc (Below.refl _ _) _
        have HBK := Lib.hid (below_step HBC.out ha9)
        refine kw_cast hw9 ?_
        rw [hw9] at hz9
        have hzl9 := blk_lt hz9
        have HZ9 := Lib.hid hz9
        try replace HCP := Lib.hid (HCP.out.below ha9)
        try replace HO9 := Lib.hid (HO9.out.below ha9)
        try replace HLV := Lib.hid (HLV.out.below ha9)
        clear hw9 hz9 ha9
        refine hK _ _ ⟨HBK.out, ?_⟩
        clear hK K
        refine wpO_nil ?_
        refine wpO_step2 rfl rfl (HBK.out) (fun K hK => ?_)
        rw [if_pos (show Region.wanted _ _ = true from rfl)]
        refine oper_exec (exec_lit1 updK (x := .tmp 28) rfl wkU3 rfl ten8_B (by show 22 ≤ _; omega) _) ?_
        obtain ⟨w23, hw9⟩ : ∃ w9, World.alloc w22 (.cells (updK.enc wkU3).toArray updK.t) = w9 := ⟨_, rfl⟩
        have HLV : Hid (RS updK w23 (some ⟨(World.heap w22).size, 0, none⟩) 1 1 wkB2) := Lib.hid (hw9 ▸ (OS.one updK w22 0 wkU3 (Nat.zero_le _) ten8_B).reads)
        have ha9 : Below (World.heap w22).size w22 w23 := hw9 ▸ below_alloc (Below.refl _ _) _
        have HBL := Lib.hid (below_step HBK.out ha9)
        have hsz2 := ha9.size
        refine kw_cast hw9 ?_
        try replace HZ9 := Lib.hid (blk_below HZ9.out ha9)
        clear hw9 ha9
        refine hK _ _ ⟨HBL.out, ?_⟩
        clear hK K
        obtain ⟨gl, hgl⟩ : ∃ g, (World.heap w22).size = g := ⟨_, rfl⟩
        rw [hgl] at HLV ⊢
        clear hgl
        refine wpO_step0 rfl rfl (fun K hK => ?_)
        rw [if_pos (show Region.wanted _ _ = true from rfl)]
        refine ⟨_, fun w0 => exec_build1 rfl rfl (run_build_bat w0 (some ⟨gl, 0, none⟩) 1 1), hK _ _ ?_⟩
        clear hK K
        refine wpO_step2 rfl rfl (HBL.out) (fun K hK => ?_)
        go_simp
        refine (rapply_any A3 2 c3 wkR1 (some ⟨gl, 0, none⟩) 1 1 wkB2 w23 (HL.out.below (below_step HB6.out HBL.out)) (HR6.out.below HBL.out) wkR1_ok (by omega) HLV.out wkB2_ok (by omega)).mono ?_
        rw [wkr2.1]
        rintro e w24 ⟨A9, n9, c9, rfl, hO9, hb9⟩
        obtain rfl : 1 = n9 := by rw [← wkr2.2.1]; exact hO9.len
        have HBM := Lib.hid (below_step HBL.out hb9)
        have HLT9 := Lib.hid hO9.lt
        have HBA9 := Lib.hid hO9.base_
        have HO9 : Hid (RS rteK w24 A9 1 c9 wkR2) := Lib.hid hO9.reads
        try replace HZ9 := Lib.hid (blk_below HZ9.out hb9)
        have hszc := hb9.size
        clear hO9 hb9
        refine hK _ _ ⟨HBM.out, ?_⟩
        clear hK K
        iterate 3 (refine wpO_step0 rfl rfl (fun K hK => ?_); go_simp; refine hK _ _ ?_; clear hK K)
        refine wpO_step2 rfl rfl (HBM.out) (fun K hK => ?_)
        rw [if_pos (show Region.wanted _ _ = true from rfl)]
        refine oper_store_blk HZ9.out 24 0 (tabV A9 1 c9) (Nat.le_refl _) (info_rib _ _ _) (tab_one _ _ _) _ _ rfl rfl rfl ?_
        intro w25 hg9 hs9 hb9
        rw [splice_tab] at hb9
        have HBN := Lib.hid (below_grown HBM.out hg9 (by have h1 := HBC.out.size; have h2 := HBK.out.size; have h3 := HBL.out.size; omega))
        have HNE9 : Hid (∀ ad, A9 = some ad → ad.block ≠ w21.heap.size) := Lib.hid (fun ad e => by have h1 := HLT9.out ad e; have h2 := HBA9.out ad e; first | omega)
        replace HO9 := Lib.hid (HO9.out.grown hg9 (fun ad e h => by injection h with h; exact HNE9.out ad e h))
        replace HZ9 := Lib.hid hb9
        clear hg9 hs9 hb9
        refine hK _ _ ⟨HBN.out, ?_⟩
        clear hK K
        iterate 1 (refine wpO_step0 rfl rfl (fun K hK => ?_); go_simp; refine hK _ _ ?_; clear hK K)
        refine wpO_nil ?_
        go_wp2_with fail
        go_meet
        exact ⟨w21.heap.size, A9, c9, rfl, rfl, HZ9.out, HO9.out, HBN.out⟩
    · refine wpO_step2 rfl rfl (HBD.out) (fun K hK => ?_)
      go_simp
      have hz9 := blk_new w6 (.cells (tabV none 0 0) 24)
      obtain ⟨w21, hw9⟩ : ∃ w9, (World.alloc w6 (.cells (tabV none 0 0) 24)).drew = w9 := ⟨_, rfl⟩
      have ha9 : Below (World.heap w6).size w6 w21 := hw9 ▸ below_step (below_alloc (Below.refl _ _) _) (below_drew1 _)
      have HBC := Lib.hid ha9
      refine kw_cast hw9 ?_
      replace hz9 : (World.heap w21)[(World.heap w6).size]? = some (.cells (tabV none 0 0) 24 (0, 0)) := by rw [← hw9]; exact hz9
      have hzl9 := blk_lt hz9
      have HZ9 := Lib.hid hz9
      clear hw9 hz9 ha9
      refine hK _ _ ⟨HBC.out, ?_⟩
      clear hK K
      refine wpO_nil ?_
      refine wpO_step2 rfl rfl (HBC.out) (fun K hK => ?_)
      go_simp
      refine (eight11_any _).mono ?_
      rintro e w22 ⟨rfl, hb9⟩
      have hsz1 := hb9.size
      have HBK := Lib.hid (below_step HBC.out hb9)
      try replace HZ9 := Lib.hid (blk_below HZ9.out hb9)
      clear hb9
      refine hK _ _ ⟨HBK.out, ?_⟩
      clear hK K
      refine wpO_step0 rfl rfl (fun K hK => ?_)
      rw [if_pos (show Region.wanted _ _ = true from rfl)]
      refine ⟨_, fun w0 => exec_build3 rfl rfl rfl rfl (run_build_updg w0 wkP 1 true rfl), hK _ _ ?_⟩
      clear hK K
      refine wpO_step2 rfl rfl (HBK.out) (fun K hK => ?_)
      rw [if_pos (show Region.wanted _ _ = true from rfl)]
      refine oper_exec (exec_lit1 updK (x := .tmp 28) rfl wkU3 rfl ten8_B (by show 22 ≤ _; omega) _) ?_
      obtain ⟨w23, hw9⟩ : ∃ w9, World.alloc w22 (.cells (updK.enc wkU3).toArray updK.t) = w9 := ⟨_, rfl⟩
      have HLV : Hid (RS updK w23 (some ⟨(World.heap w22).size, 0, none⟩) 1 1 wkB2) := Lib.hid (hw9 ▸ (OS.one updK w22 0 wkU3 (Nat.zero_le _) ten8_B).reads)
      have ha9 : Below (World.heap w22).size w22 w23 := hw9 ▸ below_alloc (Below.refl _ _) _
      have HBL := Lib.hid (below_step HBK.out ha9)
      have hsz2 := ha9.size
      refine kw_cast hw9 ?_
      try replace HZ9 := Lib.hid (blk_below HZ9.out ha9)
      clear hw9 ha9
      refine hK _ _ ⟨HBL.out, ?_⟩
      clear hK K
      obtain ⟨gl, hgl⟩ : ∃ g, (World.heap w22).size = g := ⟨_, rfl⟩
      rw [hgl] at HLV ⊢
      clear hgl
      refine wpO_step0 rfl rfl (fun K hK => ?_)
      rw [if_pos (show Region.wanted _ _ = true from rfl)]
      refine ⟨_, fun w0 => exec_build1 rfl rfl (run_build_bat w0 (some ⟨gl, 0, none⟩) 1 1), hK _ _ ?_⟩
      clear hK K
      refine wpO_step2 rfl rfl (HBL.out) (fun K hK => ?_)
      go_simp
      refine (rapply_any A3 2 c3 wkR1 (some ⟨gl, 0, none⟩) 1 1 wkB2 w23 (HL.out.below (below_step HB6.out HBL.out)) (HR6.out.below HBL.out) wkR1_ok (by omega) HLV.out wkB2_ok (by omega)).mono ?_
      rw [wkr2.1]
      rintro e w24 ⟨A9, n9, c9, rfl, hO9, hb9⟩
      obtain rfl : 1 = n9 := by rw [← wkr2.2.1]; exact hO9.len
      have HBM := Lib.hid (below_step HBL.out hb9)
      have HLT9 := Lib.hid hO9.lt
      have HBA9 := Lib.hid hO9.base_
      have HO9 : Hid (RS rteK w24 A9 1 c9 wkR2) := Lib.hid hO9.reads
      try replace HZ9 := Lib.hid (blk_below HZ9.out hb9)
      have hszc := hb9.size
      clear hO9 hb9
      refine hK _ _ ⟨HBM.out, ?_⟩
      clear hK K
      iterate 3 (refine wpO_step0 rfl rfl (fun K hK => ?_); go_simp; refine hK _ _ ?_; clear hK K)
      refine wpO_step2 rfl rfl (HBM.out) (fun K hK => ?_)
      rw [if_pos (show Region.wanted _ _ = true from rfl)]
      refine oper_store_blk HZ9.out 24 0 (tabV A9 1 c9) (Nat.le_refl _) (info_rib _ _ _) (tab_one _ _ _) _ _ rfl rfl rfl ?_
      intro w25 hg9 hs9 hb9
      rw [splice_tab] at hb9
      have HBN := Lib.hid (below_grown HBM.out hg9 (by have h1 := HBC.out.size; have h2 := HBK.out.size; have h3 := HBL.out.size; omega))
      have HNE9 : Hid (∀ ad, A9 = some ad → ad.block ≠ w6.heap.size) := Lib.hid (fun ad e => by have h1 := HLT9.out ad e; have h2 := HBA9.out ad e; first | omega)
      replace HO9 := Lib.hid (HO9.out.grown hg9 (fun ad e h => by injection h with h; exact HNE9.out ad e h))
      replace HZ9 := Lib.hid hb9
      clear hg9 hs9 hb9
      refine hK _ _ ⟨HBN.out, ?_⟩
      clear hK K
      iterate 1 (refine wpO_step0 rfl rfl (fun K hK => ?_); go_simp; refine hK _ _ ?_; clear hK K)
      refine wpO_nil ?_
      go_wp2_with fail
      go_meet
      exact ⟨w6.heap.size, A9, c9, rfl, rfl, HZ9.out, HO9.out, HBN.out⟩
  case rest =>
    obtain ⟨g5, A7, c7, rfl, rfl, HC⟩ := hcut
    obtain ⟨w7, rfl⟩ : ∃ w7, w7 = wc := ⟨wc, rfl⟩
    have HB67 := Lib.hid HC.out.2.2
    have HB7 := Lib.hid (below_step HB6.out HC.out.2.2)
    have HG7 := Lib.hid HC.out.1
    have HR7 := Lib.hid HC.out.2.1
    have HT7 := Lib.hid (HT6.out.below HB67.out)
    have HQ7 := Lib.hid (blk_below HQ6.out HB67.out)
    clear HC
    go_wp2_with (first | ((with_reducible show wpList _ _ _ (Oper.mk _ (Op.load _ _) _ _ _ _ :: _) _ _); refine wpList_load_g (load_rib HG7.out) _ rfl rfl (by go_simp) ?_))
    refine (rbest_any A7 1 c7 wkR2 w7 (HL.out.below HB7.out) HR7.out wkR2_ok (by omega)).mono ?_
    rw [wkr2.2.2.1]
    rintro e w8 ⟨A8, n8, c8, rfl, hO8, hb8⟩
    obtain rfl : 1 = n8 := by rw [← wkr2.2.2.2.1]; exact hO8.len
    have HO8 : Hid (RT w8 A8 1 c8 (bestR wkR2)) := Lib.hid hO8.reads
    have HB8 := Lib.hid (below_step HB7.out hb8)
    have HT8 := Lib.hid (HT7.out.below hb8)
    have HQ8 := Lib.hid (blk_below HQ7.out hb8)
    clear hO8 hb8
    go_upto_region 5 with (first | ((with_reducible show wpList _ _ _ (Oper.mk _ (Op.store _ _ _) _ _ _ _ :: _) _ _); refine wpList_store_blk (blk_new w8 (.cells (tabV none 0 0) 39)) 39 0 (tabV A8 1 c8) (Nat.le_refl _) (info_tab _ _ _) (tab_one _ _ _) _ _ rfl rfl rfl rfl ?_; intro w9 hg9 hs9 hb9; rw [splice_tab] at hb9; have H9 := Lib.hid (And.intro hg9 hb9); clear hg9 hs9 hb9))
    have HB89 := Lib.hid (below_grown (below_alloc (Below.refl w8.heap.size w8) (.cells (tabV none 0 0) 39)) H9.out.1 (Nat.le_refl _))
    have HT9 := Lib.hid (HT8.out.below HB89.out)
    have HQ9 := Lib.hid (blk_below HQ8.out HB89.out)
    have HO9 := Lib.hid (HO8.out.below HB89.out)
    obtain ⟨b1, o1, rfl, hc1⟩ := RT.at_ HT9.out (by omega)
    obtain ⟨b2, o2, rfl, hc2⟩ := RT.at_ HO9.out (by omega)
    have hl1 := (rowLd_of (RT.fits_at HT9.out (i := 0) (by omega)) (hc1 0 (by omega))).hop
    have hl2 := (rowLd_of (RT.fits_at HO9.out (i := 0) (by omega)) (hc2 0 (by omega))).hop
    rw [wkr1.2.2.2.2] at hl1
    rw [wkr2.2.2.2.2] at hl2
    clear hc1 hc2
    have hq3 := ((tab_at HQ9.out).all _ (Below.refl _ _)).2
    have hq7 := ((tab_at H9.out.2).all _ (Below.refl _ _)).2
    go_wp2_with (first | ((with_reducible show wpList _ _ _ (Oper.mk _ (Op.load _ _) _ _ _ _ :: _) _ _); refine wpList_load_g hq3 _ rfl rfl (by go_simp) ?_) | ((with_reducible show wpList _ _ _ (Oper.mk _ (Op.load _ _) _ _ _ _ :: _) _ _); refine wpList_load_g hq7 _ rfl rfl (by go_simp) ?_) | ((with_reducible show wpList _ _ _ (Oper.mk _ (Op.load _ _) _ _ _ _ :: _) _ _); refine wpList_load_g hl1 _ rfl rfl (by go_simp) ?_) | ((with_reducible show wpList _ _ _ (Oper.mk _ (Op.load _ _) _ _ _ _ :: _) _ _); refine wpList_load_g hl2 _ rfl rfl (by go_simp) ?_))
    go_ret
    exact ⟨rfl, below_step HB8.out HB89.out⟩
end Go.Proofs.YtnpeedmicjeleaaDoor

/- Layer 11 (route): the law's own. -/
namespace Go.Proofs.YtnpeedmicjeleaaDoor
open Go.RowKit
set_option linter.unusedVariables false
set_option linter.unusedSimpArgs false
set_option maxRecDepth 4000
theorem info_bat (A : Option Addr) (n c : Nat) : (Tryd.prog.info? 27).map (·.size) = some (tabV A n c).size := by show _ = some 1; kernel_rfl
theorem load_bat {w : World} {g : Nat} {A : Option Addr} {n c : Nat} (h : w.heap[g]? = some (.cells (tabV A n c) 27 (0, 0))) : (Instr.loadAt 27 (.pointer (some ⟨g, 0, none⟩))).run Tryd.prog w = .ok (.agg (tabV A n c)) w := ((bat_at h).all _ (Below.refl _ _)).1
end Go.Proofs.YtnpeedmicjeleaaDoor

/- Layer 11 (route): DecodeBatch. -/
namespace Go.Proofs.YtnpeedmicjeleaaDoor
open Go.RowKit
set_option linter.unusedVariables false
set_option linter.unusedSimpArgs false
set_option maxRecDepth 4000
def batDE (xs : List Int) : Int := decIE itU 210 batB xs
def batDL (xs : List Int) : List Upd := decIL itU 210 batB xs
theorem itU_okk (ys : List Int) (hy : Bytes ys) (h : (itU ys).1 = 0) : (itU ys).2.1.ok := by
  unfold itU at *
  split at h
  · cases h
  · rename_i h7
    split at h
    · cases h
    · rename_i h0
      have h0' : decPE ys = 0 := by simpa using h0
      split at h
      · cases h
      · rename_i h3
        split at h
        · cases h
        · rename_i h4
          rw [if_neg h7, if_neg h0, if_neg h3, if_neg h4]
          have hb : ∀ i : Int, (Lit.int .i64 (rd ys i)).wf = true := fun i => wf_small (by have := hy.getD i.toNat; show 0 ≤ rd ys i ∧ rd ys i ≤ 1000; unfold rd; omega)
          exact ⟨decP_okk hy h0', hb _, hb _, hb _⟩
theorem batDL_ok {xs : List Int} (hx : Bytes xs) : Oku (batDL xs) := decIL_all itU_okk hx
theorem run_build_bat_nil (w : World) : (Instr.build 27 #[]).run Tryd.prog w = .ok (.agg (tabV none 0 0)) w := run_build w _ _ _ (by kernel_rfl)
set_option maxHeartbeats 4000000 in
theorem rdecodeb_any (A : Option Addr) (n c : Nat) (xs : List Int) (w : World) (hL : Laid w) (hr : RB w A n c xs) (hn : n ≤ 100000) :
    Calls Tryd.prog 37 #[.slice A n c] w fun e w' => ∃ A' n' c', e = .returned (.tuple #[.agg (tabV A' n' c'), .int .i64 (batDE xs)]) ∧ OS updK w' w.heap.size A' n' c' (batDL xs) ∧ Below w.heap.size w w' := by
  have hmf : ∀ (fn : Fn) (first cap : Array Value) (w : World), (Instr.makeFunc fn first cap).run Tryd.prog w = .ok (.func fn first cap) w := fun _ _ _ _ => rfl
  have hs0 : (w.alloc (.cells (tabV none 0 0) 27)).heap.size = w.heap.size + 1 := by simp
  obtain ⟨W1, hW1⟩ : ∃ W1, (w.alloc (.cells #[.slice none 0 0] 27)).alloc (.cells #[.slice none 0 0] 27) = W1 := ⟨_, rfl⟩
  have HB1 : Hid (Below w.heap.size w W1) := Lib.hid (hW1 ▸ below_alloc (below_alloc (Below.refl _ _) _) _)
  have HZ1 : Hid (W1.heap[w.heap.size]? = some (.cells (tabV none 0 0) 27 (0, 0))) := Lib.hid (by rw [← hW1]; exact blk_below (blk_new w _) (below_alloc (Below.refl _ _) _))
  have HT1 : Hid (W1.heap[w.heap.size + 1]? = some (.cells (tabV none 0 0) 27 (0, 0))) := Lib.hid (by rw [← hW1, ← hs0]; exact blk_new _ _)
  have HS1 : Hid (W1.heap.size = w.heap.size + 2) := Lib.hid (by rw [← hW1]; simp)
  have HR1 := Lib.hid (hr.below HB1.out)
  have HR := Lib.hid hr
  have HL := Lib.hid hL
  have HBY := Lib.hid hr.range
  clear hr hL hs0
  go_enter Tryd.func37, Tryd.ntmps37
  go_wp2_with fail
  clear hW1
  refine (read11_any 77 (fun _ _ => by simp [go_sem]) #[.pointer (some ⟨w.heap.size + 1, 0, none⟩)] A n c xs 210 W1 (HL.out.below HB1.out) HR1.out hn (DecP updK 27 itU 210 xs w w.heap.size (w.heap.size + 1) (w.heap.size + 3)) ?_ ?_).mono ?_
  · intro E w1 w2 hsz h hg
    have := HS1.out
    exact h.grow hg (by omega) (by omega) (by omega) (by omega)
  · intro lo g w1 hlo hg hrd hb
    have hs := HS1.out
    have hz := blk_below HZ1.out hb
    refine (dec2_any g (w.heap.size + 1) A n c xs w w1 HL.out HR.out hn (below_step HB1.out hb) hrd (by omega) (by omega) (by omega) (by omega) (blk_below HT1.out hb)).mono ?_
    intro e w2 h
    exact DecP.of hs rfl hg hrd.lt hz h
  · rintro e w2 ⟨E, rfl, hP⟩
    have HP := Lib.hid hP
    clear hP
    by_cases hE : E = 0
    · subst hE
      obtain ⟨hE0, hbel, hz2, hex⟩ := HP.out
      obtain ⟨A2, n2, c2, hn2, ht2, ho2⟩ := hex rfl
      have HE0 : Hid (batDE xs = if batB (decIR itU xs).2.1 then 0 else 210) := Lib.hid (endE_ok (by decide) hE0.symm)
      have HBY1 := Lib.hid (decI_all (P := Upd.ok) itU_okk (rd xs 0).toNat [] (xs.drop 1) (HBY.out.drop 1) (fun a h => by cases h))
      have HDL : Hid (batDE xs = 0 → batDL xs = (decIR itU xs).2.1) := Lib.hid (fun h => if_pos h)
      have HDN : Hid (batDE xs ≠ 0 → batDL xs = []) := Lib.hid (fun h => decIL_no h)
      obtain ⟨acc, hacc⟩ : ∃ acc, (decIR itU xs).2.1 = acc := ⟨_, rfl⟩
      have hok : Oku acc := by rw [← hacc]; exact HBY1.out
      rw [hacc] at ho2 HE0 HDL
      have HB2 := Lib.hid hbel
      have HZ2 := Lib.hid hz2
      have HT2 := Lib.hid ht2
      have HO2 := Lib.hid ho2
      have HOK := Lib.hid hok
      clear hE0 hbel hz2 hex ht2 ho2 HP HBY1 hacc hok
      go_wp2_with (first | ((with_reducible show wpList _ _ _ (Oper.mk _ (Op.load _ _) _ _ _ _ :: _) _ _); refine wpList_load_g (load_bat HT2.out) _ rfl rfl (by go_simp) ?_))
      refine (rcheckb_any A2 n2 c2 acc w2 (HL.out.below HB2.out) HO2.out.reads HOK.out (by omega)).mono ?_
      rintro e w3 ⟨rfl, hb3⟩
      have HB3 := Lib.hid (below_step HB2.out hb3)
      have HZ3 := Lib.hid (blk_below HZ2.out hb3)
      have HT3 := Lib.hid (blk_below HT2.out hb3)
      have HO3 := Lib.hid (HO2.out.below hb3)
      clear hb3 HB2 HZ2 HT2 HO2
      cases hrb : batB acc with
      | true =>
        have hE0 : batDE xs = 0 := by rw [HE0.out, hrb]; rfl
        have HE := Lib.hid (And.intro hE0 (HDL.out hE0))
        rw [show batE acc = 0 by unfold batE; rw [hrb]; rfl]
        clear hrb hE0
        go_wp2_with (first | ((with_reducible show wpList _ _ _ (Oper.mk _ (Op.load _ _) _ _ _ _ :: _) _ _); refine wpList_load_g (load_bat HT3.out) _ rfl rfl (by go_simp) ?_) | ((with_reducible show wpList _ _ _ (Oper.mk _ (Op.store _ _ _) _ _ _ _ :: _) _ _); refine wpList_store_blk HZ3.out 27 0 (tabV A2 n2 c2) (Nat.le_refl _) (info_bat _ _ _) (tab_one _ _ _) _ _ rfl rfl rfl rfl ?_; intro w4 hg9 hs9 hb9; rw [splice_tab] at hb9; have H4 := Lib.hid (And.intro hg9 hb9); clear hg9 hs9 hb9))
        refine bodyPost_ret (results_c2 rfl rfl (load_bat H4.out.2)) rfl ?_
        rw [HE.out.1, HE.out.2]
        exact ⟨A2, n2, c2, rfl, (HO3.out.grown H4.out.1 (fun ad e hh => by have := HO3.out.base_ ad e; injection hh with hh; omega)).lower (by omega), below_grown HB3.out H4.out.1 (Nat.le_refl _)⟩
      | false =>
        have hE0 : batDE xs = 210 := by rw [HE0.out, hrb]; rfl
        have HE := Lib.hid (And.intro hE0 (HDN.out (by rw [hE0]; decide)))
        rw [show batE acc = 210 by unfold batE; rw [hrb]; rfl]
        clear hrb hE0
        go_wp2_with (first | ((with_reducible show wpList _ _ _ (Oper.mk _ (Op.build _ _) _ _ _ _ :: _) _ _); refine wpList_exw rfl (exec_build 27 #[] rfl #[] rfl ((run_build_bat_nil _))) ?_) | ((with_reducible show wpList _ _ _ (Oper.mk _ (Op.store _ _ _) _ _ _ _ :: _) _ _); refine wpList_store_blk HZ3.out 27 0 (tabV none 0 0) (Nat.le_refl _) (info_bat _ _ _) (tab_one _ _ _) _ _ rfl rfl rfl rfl ?_; intro w4 hg9 hs9 hb9; rw [splice_tab] at hb9; have H4 := Lib.hid (And.intro hg9 hb9); clear hg9 hs9 hb9))
        refine bodyPost_ret (results_c2 rfl rfl (load_bat H4.out.2)) rfl ?_
        rw [HE.out.1, HE.out.2]
        exact ⟨none, 0, 0, rfl, OS.nil _ _ _, below_grown HB3.out H4.out.1 (Nat.le_refl _)⟩
    · obtain ⟨hE0, hbel, hz2, -⟩ := HP.out
      have hE1 : batDE xs = E := by rw [hE0]; exact endE_no (by decide) (by rw [← hE0]; exact hE)
      have HE : Hid (batDE xs = E ∧ batDL xs = []) := Lib.hid ⟨hE1, decIL_no (by show batDE xs ≠ 0; rw [hE1]; exact hE)⟩
      have HB2 := Lib.hid hbel
      have HZ2 := Lib.hid hz2
      have hEb : (E == 0) = false := by simpa using hE
      have hEn : (E != 0) = true := by simpa using hE
      clear hE0 hbel hz2 hE1 HP hE
      go_wp2_with (first | ((with_reducible show wpList _ _ _ (Oper.mk _ (Op.build _ _) _ _ _ _ :: _) _ _); refine wpList_exw rfl (exec_build 27 #[] rfl #[] rfl ((run_build_bat_nil _))) ?_) | ((with_reducible show wpList _ _ _ (Oper.mk _ (Op.store _ _ _) _ _ _ _ :: _) _ _); refine wpList_store_blk HZ2.out 27 0 (tabV none 0 0) (Nat.le_refl _) (info_bat _ _ _) (tab_one _ _ _) _ _ rfl rfl rfl rfl ?_; intro w4 hg9 hs9 hb9; rw [splice_tab] at hb9; have H4 := Lib.hid (And.intro hg9 hb9); clear hg9 hs9 hb9))
      refine bodyPost_ret (results_c2 rfl rfl (load_bat H4.out.2)) rfl ?_
      rw [HE.out.1, HE.out.2]
      exact ⟨none, 0, 0, rfl, OS.nil _ _ _, below_grown HB2.out H4.out.1 (Nat.le_refl _)⟩
end Go.Proofs.YtnpeedmicjeleaaDoor
