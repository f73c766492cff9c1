/- Layer 11 (route): DecodeBatch's closure. -/
import Derived.Test.YtnpeedmicjeleaaDoorRouteBackA
import Derived.Test.YtnpeedmicjeleaaDoorRouteBackB
import Derived.Test.YtnpeedmicjeleaaDoorRouteBackC
import Derived.Test.YtnpeedmicjeleaaDoorRouteBackD
namespace Go.Proofs.YtnpeedmicjeleaaDoor
open Go.RowKit
set_option linter.unusedVariables false
set_option linter.unusedSimpArgs false
set_option maxRecDepth 4000
theorem itU_7 {ys : List Int} (h : decPE ys = 7) : (itU ys).1 = 7 := by unfold itU; rw [if_pos h]
theorem itU_bad {ys : List Int} (h : decPE ys ≠ 7) (h0 : decPE ys ≠ 0) : (itU ys).1 = 210 := by unfold itU; rw [if_neg h, if_pos h0]
theorem itU_gone {ys : List Int} {q : Nat} (h0 : decPE ys = 0) (hq : decPN ys = q) (h : q + 2 ≤ ys.length) (hg : 1 < rd ((ys.drop q).drop 1) 0) : (itU ys).1 = 210 := by
  rw [List.drop_drop, rd_drop2] at hg
  unfold itU
  rw [if_neg (by rw [h0]; decide), if_neg (by rw [h0]; simp), if_pos ⟨by rw [hq]; simpa using h, by rw [hq]; exact hg⟩]
theorem itU_s1 {ys : List Int} {q : Nat} (h0 : decPE ys = 0) (hq : decPN ys = q) (h : ys.length < q + 2) : (itU ys).1 = 7 := by
  unfold itU
  rw [if_neg (by rw [h0]; decide), if_neg (by rw [h0]; simp), if_neg (by rw [hq]; simp; omega), if_pos (by rw [hq]; simp; omega)]
theorem itU_s2 {ys : List Int} {q : Nat} (h0 : decPE ys = 0) (hq : decPN ys = q) (h : ys.length < q + 4) (hg : ¬ 1 < rd ((ys.drop q).drop 1) 0) : (itU ys).1 = 7 := by
  rw [List.drop_drop, rd_drop2] at hg
  unfold itU
  rw [if_neg (by rw [h0]; decide), if_neg (by rw [h0]; simp), if_neg (by rw [hq]; rintro ⟨-, h⟩; exact hg h), if_pos (by rw [hq]; simpa using h)]
theorem itU_ok {ys : List Int} {q : Nat} (h0 : decPE ys = 0) (hq : decPN ys = q) (h : q + 4 ≤ ys.length) (hg : ¬ 1 < rd ((ys.drop q).drop 1) 0) :
    itU ys = (0, ⟨decP ys, rd (ys.drop q) 0, (rd ((ys.drop q).drop 1) 0 == 1), rd (((ys.drop q).drop 1).drop 1) 0, rd ((((ys.drop q).drop 1).drop 1).drop 1) 0⟩, q + 4) := by
  rw [List.drop_drop, List.drop_drop, List.drop_drop, rd_drop2, rd_drop2, rd_drop2, rd_drop2] at *
  unfold itU
  rw [if_neg (by rw [h0]; decide), if_neg (by rw [h0]; simp), if_neg (by rw [hq]; rintro ⟨-, h⟩; exact hg h), if_neg (by rw [hq]; simp; omega), hq]
  rfl
theorem built_upd2 (p : Pfx) (s : Int) (hl : p.l.length = 16) : Tryd.prog.built 75 [(0, .agg (pfxV p.v p.l p.b)), (1, .int .i64 s)] = some (updV ⟨p, s, false, 0, 0⟩) := by
  obtain ⟨a, b, c, d, e, f, g, h1, i, j, k, m, n, o, q, r, hh⟩ := len16 hl
  obtain ⟨v, l, x⟩ := p
  simp only at hh
  subst hh
  kernel_rfl
theorem run_build_upd2 (w : World) (p : Pfx) (s : Int) (hl : p.l.length = 16) : (Instr.build 75 #[(0, .agg (pfxV p.v p.l p.b)), (1, .int .i64 s)]).run Tryd.prog w = .ok (.agg (updV ⟨p, s, false, 0, 0⟩)) w := run_build w _ _ _ (built_upd2 p s hl)
theorem updV_set19 (x : Upd) (hx : x.fits) (g : Bool) : (updV x).setIfInBounds 19 (.bool g) = updV { x with g := g } := by
  obtain ⟨⟨v, l, y⟩, s, g0, f, h⟩ := x
  obtain ⟨a, b, c, d, e, f, g, h1, i, j, k, m, n, o, q, r, hh⟩ := len16 (show l.length = 16 from hx.len)
  subst hh
  rfl
theorem updV_set20 (x : Upd) (hx : x.fits) (y : Int) : (updV x).setIfInBounds 20 (.int .i64 y) = updV { x with f := y } := by
  obtain ⟨⟨v, l, y⟩, s, g0, f, h⟩ := x
  obtain ⟨a, b, c, d, e, f, g, h1, i, j, k, m, n, o, q, r, hh⟩ := len16 (show l.length = 16 from hx.len)
  subst hh
  rfl
theorem updV_set21 (x : Upd) (hx : x.fits) (y : Int) : (updV x).setIfInBounds 21 (.int .i64 y) = updV { x with h := y } := by
  obtain ⟨⟨v, l, y⟩, s, g0, f, h⟩ := x
  obtain ⟨a, b, c, d, e, f, g, h1, i, j, k, m, n, o, q, r, hh⟩ := len16 (show l.length = 16 from hx.len)
  subst hh
  rfl
set_option maxHeartbeats 8000000 in
set_option maxRecDepth 100000 in
theorem dec2_any {lo : Nat} (g gt : Nat) (A : Option Addr) (n c : Nat) (xs : List Int) (W0 w : World) (hL0 : Laid W0) (hx : RB W0 A n c xs) (hn : n ≤ 100000) (hB : Below W0.heap.size W0 w) (hr : Rdr w lo g xs 0) (hg : W0.heap.size ≤ g) (hgt : W0.heap.size ≤ gt) (hlo : gt < lo) (hne : gt < g)
    (ht : w.heap[gt]? = some (.cells (tabV none 0 0) 27 (0, 0))) :
    Calls Tryd.prog 77 #[.agg (rd3V g A n c 210), .pointer (some ⟨gt, 0, none⟩)] w fun e w' => DecQ updK 27 itU xs W0 w lo g gt e w' := by
  have hL := hL0.below hB
  have hblk1 := blk_new w (.cells (rd3V g A n c 210) 110)
  have hbel1 : Below w.heap.size w (w.alloc (.cells (rd3V g A n c 210) 110)) := below_alloc (Below.refl _ _) _
  have HP1 := Lib.hid (rd3_at hblk1)
  have HBK1 := Lib.hid hblk1
  have HBE := Lib.hid hbel1
  have HL := Lib.hid (hL.below HBE.out)
  obtain ⟨cs1, hcs1⟩ : ∃ cs, rd3V g A n c 210 = cs := ⟨_, rfl⟩
  simp only [hcs1] at HBE HL HP1 HBK1 ⊢
  have HC1 := Lib.hid hcs1
  clear hL hcs1 hblk1 hbel1
  have HL0 := Lib.hid hL0
  have HX := Lib.hid hx
  have HLEN := Lib.hid hx.len
  have HBY := Lib.hid hr.byte
  have hgw := hr.lt
  have HD := Lib.hid (DecL.start (S := updK) (T := 27) (W0 := W0) (w := w) (g := g) (gt := gt) (cs := cs1) hB ht)
  have HR := Lib.hid (hr.below HBE.out)
  have HBS := Lib.hid hB.size
  clear hL0 hx hr hB ht
  go_enter Tryd.func77, Tryd.ntmps77
  go_wp2_with (first | ((with_reducible show wpList _ _ _ (Oper.mk _ (Op.load _ _) _ _ _ _ :: _) _ _); refine wpList_load_g ((HP1.out.all _ (Below.refl _ _)).all) _ rfl rfl (by go_simp) ?_))
  refine (number11_any g A n c 210 xs _ HR.out).mono ?_
  rintro e w2 ⟨hg2, ⟨hz, rfl⟩ | ⟨hz, rfl, hr2⟩⟩
  · have HD2 := Lib.hid (HD.out.grow hg2 hg hgw (by omega))
    have HZ := Lib.hid hz
    clear hg2 hz
    go_wp2_with fail
    exact ⟨rfl, HD2.out.bel, HD2.out.keep, .inl ⟨7, rfl, by decide, by rw [if_pos HZ.out]⟩⟩
  · have HD2 := Lib.hid (HD.out.grow hg2 hg hgw (by omega))
    have HR2 := Lib.hid hr2
    have HZ := Lib.hid hz
    have hrx := HBY.out.getD 0
    obtain ⟨K, hK⟩ := Int.eq_ofNat_of_zero_le hrx.1
    have hK' : rd xs 0 = K := hK
    have hK1 : K < 256 := by have h1 : rd xs 0 < 256 := hrx.2; omega
    rw [hK']
    have HTR : Hid (decIR itU xs = decI itU K [] (xs.drop 1)) := Lib.hid (by unfold decIR; rw [hK']; rfl)
    have hn1 : 1 ≤ n := by have := HLEN.out; have := HZ.out; omega
    clear hg2 hr2 hz hrx hK hK' HD HR
    go_wp2_with fail
    go_loopw [7] (fun x wr => ∃ (k m : Nat) (A1 : Option Addr) (c1 : Nat) (acc : List Upd), x = .int .i64 k ∧ Hid (k ≤ K ∧ m ≤ n ∧ DecL updK 27 W0 w wr g gt cs1 A1 k c1 acc ∧ Rdr wr lo g (xs.drop m) 0 ∧ decIR itU xs = decI itU (K - k) acc (xs.drop m))) (fun x _ => K - (intOf x).toNat)
    case atStart => exact ⟨0, 1, none, 0, [], rfl, Nat.zero_le _, hn1, HD2.out, HR2.out, HTR.out⟩
    case round =>
      obtain ⟨k, m, A1, c1, acc, rfl, HH⟩ := hrel
      obtain ⟨wk, rfl⟩ : ∃ wk, wk = wr := ⟨wr, rfl⟩
      clear HD2 HR2
      have HD := Lib.hid HH.out.2.2.1
      have HRR := Lib.hid HH.out.2.2.2.1
      by_cases hlt : k < K
      · have hlt' : (k : Int) < K := by omega
        have HLT := Lib.hid hlt
        have hmn := HH.out.2.1
        obtain ⟨ys, hys⟩ : ∃ ys, xs.drop m = ys := ⟨_, rfl⟩
        have HTE := Lib.hid HH.out.2.2.2.2
        rw [hys] at HRR HTE
        have HYS := Lib.hid hys
        have HYB := Lib.hid HRR.out.byte
        have HER : Hid (∀ ch wx, DecC (itU ys).1 W0 w g gt ch wx → DecQ updK 27 itU xs W0 w lo g gt (.panicked ch) wx) := Lib.hid (by
          rintro ch wx ⟨h2, h3, E, rfl, h5, h6⟩
          exact ⟨h2, h3, .inl ⟨E, rfl, h5, by rw [if_neg HZ.out, HTE.out]; exact decI_err (by omega) h6 h5⟩⟩)
        clear hys HH hlt
        go_upto_region 3 with fail
        go_cut [3] (fun s3 wx => ∃ (gu q : Nat) (pp : Pfx) (s : Int), s3 = .pointer (some ⟨gu, 0, none⟩) ∧ Hid (decPE ys = 0 ∧ decPN ys = q ∧ decP ys = pp ∧ rd (ys.drop q) 0 = s ∧ B16 pp.l ∧ q + 1 ≤ ys.length ∧ (g < gu ∧ w.heap.size < gu ∧ ∀ ad, A1 = some ad → ad.block < gu) ∧ wx.heap[gu]? = some (.cells (updV ⟨pp, s, false, 0, 0⟩) 75 (0, 0)) ∧ DecL updK 27 W0 w wx g gt cs1 A1 k c1 acc ∧ Rdr wx lo g ((ys.drop q).drop 1) 0))
        case first =>
          refine wp_region_forkp (fun w0 => w0.heap[w.heap.size]? = some (.cells cs1 110 (0, 0))) [] 0 (some (.agg cs1)) (DecC (itU ys).1 W0 w g gt) (OrdT.fork [0, 2] 1 5 (OrdT.fork [] 3 5 (OrdT.lin [4, 5, 6]) (OrdT.lin [3, 4, 6])) (OrdT.lin [1, 3, 4, 6])) [(0, 0), (1, 2), (2, 0), (3, 2), (4, 0), (5, 2), (6, 2)] (by kernel_rfl) (by kernel_rfl) (by kernel_rfl) HD.out.box ?_ ?_
          · rintro ch a wx ⟨h1, -, h2⟩
            exact ⟨h1, HER.out ch wx h2⟩
          · simp only [wpFp]
            refine wpO_loadW (t := 110) (ad := ⟨w.heap.size, 0, none⟩) rfl rfl ?hw rfl rfl ((fun w0 hS => (rd3_ld (hS.trans (by rw [HC1.out]))).all)) ?_
            case hw => go_simp
            refine wpO_loadW (t := 110) (ad := ⟨w.heap.size, 0, none⟩) rfl rfl ?hw rfl rfl ((fun w0 hS => (rd3_ld (hS.trans (by rw [HC1.out]))).all)) ?_
            case hw => go_simp
            have HD9 := Lib.hid (HD.out.step (below_drew1 wk))
            have HR9 := Lib.hid (HRR.out.below (below_drew1 wk))
            refine wpO_nilp ⟨?_, ?_⟩
            · refine wpO_step2 rfl rfl (HD9.out.box) (fun K hK => ?_)
              go_simp
              refine (prefix11_any g A n c 210 xs ys m wk.drew (HL0.out.below HD9.out.bel) HR9.out (HX.out.below HD9.out.bel) HYS.out hmn hn).mono ?_
              rintro e w3 ⟨hg9, ⟨h7, rfl⟩ | ⟨h7, h0, rfl⟩ | ⟨h0, rfl, hr9⟩⟩
              · exact ⟨rfl, rfl, (HD9.out.grow hg9 hg hgw (by omega)).leave (itU_7 h7) (by decide)⟩
              · exact ⟨rfl, rfl, (HD9.out.grow hg9 hg hgw (by omega)).leave (itU_bad h7 h0) (by decide)⟩
              obtain ⟨q, hq, hql⟩ := dec_nat HYB.out h0
              rw [hq, Int.toNat_natCast] at hr9
              have H0 := Lib.hid h0
              have HQ := Lib.hid hq
              replace HD9 := Lib.hid (HD9.out.grow hg9 hg hgw (by omega))
              replace HR9 := Lib.hid hr9
              try replace HZ9 := Lib.hid (blk_grown HZ9.out hg9 (fun e => by injection e with e; have := HGU.out.1; omega))
              obtain ⟨pp, hpp⟩ : ∃ pp, decP ys = pp := ⟨_, rfl⟩
              have hp16 : B16 pp.l := by rw [← hpp]; exact decP_16 HYB.out
              have hp16l := hp16.len
              have HPP := Lib.hid hpp
              rw [hpp]
              clear hg9 hr9 h0 hq hpp
              refine hK _ _ ⟨HD9.out.box, ?_⟩
              clear hK K
              refine wpO_nilp ?_
              refine wpO_nilp ⟨?_, ?_⟩
              · refine wpO_step2 rfl rfl (HD9.out.box) (fun K hK => ?_)
                go_simp
                refine (number11_any g A n c 210 (ys.drop q) w3 HR9.out).mono ?_
                rintro e w4 ⟨hg9, ⟨hz, rfl⟩ | ⟨hz, rfl, hr9⟩⟩
                · exact ⟨rfl, rfl, (HD9.out.grow hg9 hg hgw (by omega)).leave (itU_s1 H0.out HQ.out (by rw [List.length_drop] at hz; omega)) (by decide)⟩
                have HLQ : Hid (q + 1 ≤ ys.length) := Lib.hid (by rw [List.length_drop] at hz; omega)
                obtain ⟨s, hs⟩ : ∃ s, rd (ys.drop q) 0 = s := ⟨_, rfl⟩
                have HS := Lib.hid hs
                replace HD9 := Lib.hid (HD9.out.grow hg9 hg hgw (by omega))
                replace HR9 := Lib.hid hr9
                try replace HZ9 := Lib.hid (blk_grown HZ9.out hg9 (fun e => by injection e with e; have := HGU.out.1; omega))
                rw [hs]
                clear hg9 hr9 hz hs
                refine hK _ _ ⟨HD9.out.box, ?_⟩
                clear hK K
                refine wpO_nilp ?_
                refine wpO_step0 rfl rfl (fun K hK => ?_)
                rw [if_pos (show Region.wanted _ _ = true from rfl)]
                refine ⟨_, fun w0 => exec_build2 rfl rfl rfl (run_build_upd2 w0 pp s hp16l), hK _ _ ?_⟩
                clear hK K
                refine wpO_step2 rfl rfl (HD9.out.box) (fun K hK => ?_)
                go_simp
                have hz9 := blk_new w4 (.cells (updV updZ) 75)
                obtain ⟨w5, hw9⟩ : ∃ w9, World.alloc w4 (.cells (updV updZ) 75) = w9 := ⟨_, rfl⟩
                have ha9 : Below (World.heap w4).size w4 w5 := hw9 ▸ below_alloc (Below.refl _ _) _
                refine kw_cast hw9 ?_
                rw [hw9] at hz9
                have HZ9 := Lib.hid hz9
                have HGU : Hid (g < (World.heap w4).size ∧ w.heap.size < (World.heap w4).size ∧ ∀ ad, A1 = some ad → ad.block < (World.heap w4).size) := Lib.hid ⟨HR9.out.lt, blk_lt HD9.out.box, HD9.out.own.lt⟩
                replace HD9 := Lib.hid (HD9.out.step ha9)
                replace HR9 := Lib.hid (HR9.out.below ha9)
                clear hw9 hz9 ha9
                refine hK _ _ ⟨HD9.out.box, ?_⟩
                clear hK K
                have HF : Hid ((⟨pp, s, false, 0, 0⟩ : Upd).fits) := Lib.hid hp16
                refine wpO_step2 rfl rfl (HD9.out.box) (fun K hK => ?_)
                rw [if_pos (show Region.wanted _ _ = true from rfl)]
                refine oper_store_blk HZ9.out 75 0 (updV ⟨pp, s, false, 0, 0⟩) (store_upd_fit HF.out rfl) (info_upd HF.out) (updV_one _) _ _ rfl rfl rfl ?_
                intro w6 hg9 hs9 hb9
                rw [splice_upd HF.out rfl] at hb9
                replace HD9 := Lib.hid (HD9.out.growU hg9 HGU.out.2.1 (by omega) HBS.out HGU.out.2.2)
                replace HR9 := Lib.hid (HR9.out.grown hg9 (fun b e => by injection e with e; have := HGU.out.1; omega))
                replace HZ9 := Lib.hid hb9
                clear hg9 hs9 hb9
                refine hK _ _ ⟨HD9.out.box, ?_⟩
                clear hK K
                refine wpO_nilp ?_
                go_wp2_with fail
                go_meet
                exact ⟨w4.heap.size, q, pp, s, rfl, H0.out, HQ.out, HPP.out, HS.out, hp16, HLQ.out, HGU.out, HZ9.out, HD9.out, HR9.out⟩
              · refine wpO_step2 rfl rfl (HD9.out.box) (fun K hK => ?_)
                go_simp
                have hz9 := blk_new w3 (.cells (updV updZ) 75)
                obtain ⟨w4, hw9⟩ : ∃ w9, World.alloc w3 (.cells (updV updZ) 75) = w9 := ⟨_, rfl⟩
                have ha9 : Below (World.heap w3).size w3 w4 := hw9 ▸ below_alloc (Below.refl _ _) _
                refine kw_cast hw9 ?_
                rw [hw9] at hz9
                have HZ9 := Lib.hid hz9
                have HGU : Hid (g < (World.heap w3).size ∧ w.heap.size < (World.heap w3).size ∧ ∀ ad, A1 = some ad → ad.block < (World.heap w3).size) := Lib.hid ⟨HR9.out.lt, blk_lt HD9.out.box, HD9.out.own.lt⟩
                replace HD9 := Lib.hid (HD9.out.step ha9)
                replace HR9 := Lib.hid (HR9.out.below ha9)
                clear hw9 hz9 ha9
                refine hK _ _ ⟨HD9.out.box, ?_⟩
                clear hK K
                refine wpO_nilp ?_
                refine wpO_step2 rfl rfl (HD9.out.box) (fun K hK => ?_)
                go_simp
                refine (number11_any g A n c 210 (ys.drop q) w4 HR9.out).mono ?_
                rintro e w5 ⟨hg9, ⟨hz, rfl⟩ | ⟨hz, rfl, hr9⟩⟩
                · exact ⟨rfl, rfl, (HD9.out.grow hg9 hg hgw (by omega)).leave (itU_s1 H0.out HQ.out (by rw [List.length_drop] at hz; omega)) (by decide)⟩
                have HLQ : Hid (q + 1 ≤ ys.length) := Lib.hid (by rw [List.length_drop] at hz; omega)
                obtain ⟨s, hs⟩ : ∃ s, rd (ys.drop q) 0 = s := ⟨_, rfl⟩
                have HS := Lib.hid hs
                replace HD9 := Lib.hid (HD9.out.grow hg9 hg hgw (by omega))
                replace HR9 := Lib.hid hr9
                try replace HZ9 := Lib.hid (blk_grown HZ9.out hg9 (fun e => by injection e with e; have := HGU.out.1; omega))
                rw [hs]
                clear hg9 hr9 hz hs
                refine hK _ _ ⟨HD9.out.box, ?_⟩
                clear hK K
                refine wpO_step0 rfl rfl (fun K hK => ?_)
                rw [if_pos (show Region.wanted _ _ = true from rfl)]
                refine ⟨_, fun w0 => exec_build2 rfl rfl rfl (run_build_upd2 w0 pp s hp16l), hK _ _ ?_⟩
                clear hK K
                have HF : Hid ((⟨pp, s, false, 0, 0⟩ : Upd).fits) := Lib.hid hp16
                refine wpO_step2 rfl rfl (HD9.out.box) (fun K hK => ?_)
                rw [if_pos (show Region.wanted _ _ = true from rfl)]
                refine oper_store_blk HZ9.out 75 0 (updV ⟨pp, s, false, 0, 0⟩) (store_upd_fit HF.out rfl) (info_upd HF.out) (updV_one _) _ _ rfl rfl rfl ?_
                intro w6 hg9 hs9 hb9
                rw [splice_upd HF.out rfl] at hb9
                replace HD9 := Lib.hid (HD9.out.growU hg9 HGU.out.2.1 (by omega) HBS.out HGU.out.2.2)
                replace HR9 := Lib.hid (HR9.out.grown hg9 (fun b e => by injection e with e; have := HGU.out.1; omega))
                replace HZ9 := Lib.hid hb9
                clear hg9 hs9 hb9
                refine hK _ _ ⟨HD9.out.box, ?_⟩
                clear hK K
                refine wpO_nilp ?_
                go_wp2_with fail
                go_meet
                exact ⟨w3.heap.size, q, pp, s, rfl, H0.out, HQ.out, HPP.out, HS.out, hp16, HLQ.out, HGU.out, HZ9.out, HD9.out, HR9.out⟩
            · refine wpO_step2 rfl rfl (HD9.out.box) (fun K hK => ?_)
              go_simp
              have hz9 := blk_new wk (.cells (updV updZ) 75)
              obtain ⟨w3, hw9⟩ : ∃ w9, (World.alloc wk (.cells (updV updZ) 75)).drew = w9 := ⟨_, rfl⟩
              have ha9 : Below (World.heap wk).size wk w3 := hw9 ▸ below_step (below_alloc (Below.refl _ _) _) (below_drew1 _)
              refine kw_cast hw9 ?_
              replace hz9 : (World.heap w3)[(World.heap wk).size]? = some (.cells (updV updZ) 75 (0, 0)) := by rw [← hw9]; exact hz9
              have HZ9 := Lib.hid hz9
              have HGU : Hid (g < (World.heap wk).size ∧ w.heap.size < (World.heap wk).size ∧ ∀ ad, A1 = some ad → ad.block < (World.heap wk).size) := Lib.hid ⟨HRR.out.lt, blk_lt HD.out.box, HD.out.own.lt⟩
              replace HD9 := Lib.hid (HD.out.step ha9)
              replace HR9 := Lib.hid (HRR.out.below ha9)
              clear hw9 hz9 ha9
              refine hK _ _ ⟨HD9.out.box, ?_⟩
              clear hK K
              refine wpO_nilp ?_
              refine wpO_step2 rfl rfl (HD9.out.box) (fun K hK => ?_)
              go_simp
              refine (prefix11_any g A n c 210 xs ys m w3 (HL0.out.below HD9.out.bel) HR9.out (HX.out.below HD9.out.bel) HYS.out hmn hn).mono ?_
              rintro e w4 ⟨hg9, ⟨h7, rfl⟩ | ⟨h7, h0, rfl⟩ | ⟨h0, rfl, hr9⟩⟩
              · exact ⟨rfl, rfl, (HD9.out.grow hg9 hg hgw (by omega)).leave (itU_7 h7) (by decide)⟩
              · exact ⟨rfl, rfl, (HD9.out.grow hg9 hg hgw (by omega)).leave (itU_bad h7 h0) (by decide)⟩
              obtain ⟨q, hq, hql⟩ := dec_nat HYB.out h0
              rw [hq, Int.toNat_natCast] at hr9
              have H0 := Lib.hid h0
              have HQ := Lib.hid hq
              replace HD9 := Lib.hid (HD9.out.grow hg9 hg hgw (by omega))
              replace HR9 := Lib.hid hr9
              try replace HZ9 := Lib.hid (blk_grown HZ9.out hg9 (fun e => by injection e with e; have := HGU.out.1; omega))
              obtain ⟨pp, hpp⟩ : ∃ pp, decP ys = pp := ⟨_, rfl⟩
              have hp16 : B16 pp.l := by rw [← hpp]; exact decP_16 HYB.out
              have hp16l := hp16.len
              have HPP := Lib.hid hpp
              rw [hpp]
              clear hg9 hr9 h0 hq hpp
              refine hK _ _ ⟨HD9.out.box, ?_⟩
              clear hK K
              refine wpO_step2 rfl rfl (HD9.out.box) (fun K hK => ?_)
              go_simp
              refine (number11_any g A n c 210 (ys.drop q) w4 HR9.out).mono ?_
              rintro e w5 ⟨hg9, ⟨hz, rfl⟩ | ⟨hz, rfl, hr9⟩⟩
              · exact ⟨rfl, rfl, (HD9.out.grow hg9 hg hgw (by omega)).leave (itU_s1 H0.out HQ.out (by rw [List.length_drop] at hz; omega)) (by decide)⟩
              have HLQ : Hid (q + 1 ≤ ys.length) := Lib.hid (by rw [List.length_drop] at hz; omega)
              obtain ⟨s, hs⟩ : ∃ s, rd (ys.drop q) 0 = s := ⟨_, rfl⟩
              have HS := Lib.hid hs
              replace HD9 := Lib.hid (HD9.out.grow hg9 hg hgw (by omega))
              replace HR9 := Lib.hid hr9
              try replace HZ9 := Lib.hid (blk_grown HZ9.out hg9 (fun e => by injection e with e; have := HGU.out.1; omega))
              rw [hs]
              clear hg9 hr9 hz hs
              refine hK _ _ ⟨HD9.out.box, ?_⟩
              clear hK K
              refine wpO_step0 rfl rfl (fun K hK => ?_)
              rw [if_pos (show Region.wanted _ _ = true from rfl)]
              refine ⟨_, fun w0 => exec_build2 rfl rfl rfl (run_build_upd2 w0 pp s hp16l), hK _ _ ?_⟩
              clear hK K
              have HF : Hid ((⟨pp, s, false, 0, 0⟩ : Upd).fits) := Lib.hid hp16
              refine wpO_step2 rfl rfl (HD9.out.box) (fun K hK => ?_)
              rw [if_pos (show Region.wanted _ _ = true from rfl)]
              refine oper_store_blk HZ9.out 75 0 (updV ⟨pp, s, false, 0, 0⟩) (store_upd_fit HF.out rfl) (info_upd HF.out) (updV_one _) _ _ rfl rfl rfl ?_
              intro w6 hg9 hs9 hb9
              rw [splice_upd HF.out rfl] at hb9
              replace HD9 := Lib.hid (HD9.out.growU hg9 HGU.out.2.1 (by omega) HBS.out HGU.out.2.2)
              replace HR9 := Lib.hid (HR9.out.grown hg9 (fun b e => by injection e with e; have := HGU.out.1; omega))
              replace HZ9 := Lib.hid hb9
              clear hg9 hs9 hb9
              refine hK _ _ ⟨HD9.out.box, ?_⟩
              clear hK K
              refine wpO_nilp ?_
              go_wp2_with fail
              go_meet
              exact ⟨wk.heap.size, q, pp, s, rfl, H0.out, HQ.out, HPP.out, HS.out, hp16, HLQ.out, HGU.out, HZ9.out, HD9.out, HR9.out⟩
        case rest =>
          obtain ⟨gu, q, pp, s, rfl, HC⟩ := hcut
          obtain ⟨w3, rfl⟩ : ∃ w3, w3 = wc := ⟨wc, rfl⟩
          have HP16 := Lib.hid HC.out.2.2.2.2.1
          have HGU := Lib.hid HC.out.2.2.2.2.2.2.1
          have HU3 := Lib.hid HC.out.2.2.2.2.2.2.2.1
          have HD3 := Lib.hid HC.out.2.2.2.2.2.2.2.2.1
          have HR3 := Lib.hid HC.out.2.2.2.2.2.2.2.2.2
          have HQS := Lib.hid (show decPE ys = 0 ∧ decPN ys = q ∧ decP ys = pp ∧ rd (ys.drop q) 0 = s ∧ q + 1 ≤ ys.length from ⟨HC.out.1, HC.out.2.1, HC.out.2.2.1, HC.out.2.2.2.1, HC.out.2.2.2.2.2.1⟩)
          clear HC HD HRR
          obtain ⟨zs, hzs⟩ : ∃ zs, (ys.drop q).drop 1 = zs := ⟨_, rfl⟩
          rw [hzs] at HR3
          have HZS := Lib.hid hzs
          have HZL : Hid (zs.length = ys.length - q - 1) := Lib.hid (by rw [← hzs, List.length_drop, List.length_drop])
          clear hzs
          go_wp2_with (first | ((with_reducible show wpList _ _ _ (Oper.mk _ (Op.load _ _) _ _ _ _ :: _) _ _); refine wpList_load_g ((rd3_ld (HD3.out.box.trans (by rw [HC1.out]))).all) _ rfl rfl (by go_simp) ?_))
          refine (number11_any g A n c 210 zs w3 HR3.out).mono ?_
          rintro e w4 ⟨hg4, ⟨hz, rfl⟩ | ⟨hz, rfl, hr4⟩⟩
          · have HD4 := Lib.hid (HD3.out.grow hg4 hg hgw (by omega))
            have HI : Hid ((itU ys).1 = 7) := Lib.hid (itU_s1 HQS.out.1 HQS.out.2.1 (by have := HZL.out; have := HQS.out.2.2.2.2; omega))
            clear hg4 hz
            go_wp2_with fail
            exact ⟨rfl, HER.out _ _ (HD4.out.leave HI.out (by decide))⟩
          · have HD4 := Lib.hid (HD3.out.grow hg4 hg hgw (by omega))
            have HU4 := Lib.hid (blk_grown HU3.out hg4 (fun e => by injection e with e; have := HGU.out.1; omega))
            have HR4 := Lib.hid hr4
            have hy1 : 0 ≤ rd zs 0 ∧ rd zs 0 < 256 := HR3.out.byte.getD 0
            have HL2 : Hid (q + 2 ≤ ys.length) := Lib.hid (by have := HZL.out; have := HQS.out.2.2.2.2; omega)
            obtain ⟨y, hy⟩ : ∃ y, rd zs 0 = y := ⟨_, rfl⟩
            have HYY : Hid (rd ((ys.drop q).drop 1) 0 = y) := Lib.hid (by rw [HZS.out, hy])
            rw [hy] at hy1 ⊢
            clear hg4 hr4 hz hy HD3 HU3 HR3
            by_cases hgo : 1 < y
            · have HI : Hid ((itU ys).1 = 210) := Lib.hid (itU_gone HQS.out.1 HQS.out.2.1 HL2.out (by rw [HYY.out]; exact hgo))
              have hgb : decide (y ≤ 1) = false := decide_eq_false (by omega)
              clear hgo
              go_wp2_with (first | ((with_reducible show wpList _ _ _ (Oper.mk _ (Op.load _ _) _ _ _ _ :: _) _ _); refine wpList_load_g ((rd3_ld (HD4.out.box.trans (by rw [HC1.out]))).all) _ rfl rfl (by go_simp) ?_))
              refine (need11_false g A n c 210 w4).mono ?_
              rintro e w5 ⟨rfl, hb5⟩
              have HD5 := Lib.hid (HD4.out.step hb5)
              clear hb5
              go_wp2_with fail
              exact ⟨rfl, HER.out _ _ (HD5.out.leave HI.out (by decide))⟩
            · have HNG : Hid (¬ 1 < rd ((ys.drop q).drop 1) 0) := Lib.hid (by rw [HYY.out]; exact hgo)
              have hgb : decide (y ≤ 1) = true := decide_eq_true (by omega)
              clear hgo
              go_wp2_with (first | ((with_reducible show wpList _ _ _ (Oper.mk _ (Op.load _ _) _ _ _ _ :: _) _ _); refine wpList_load_g ((rd3_ld (HD4.out.box.trans (by rw [HC1.out]))).all) _ rfl rfl (by go_simp) ?_))
              refine (need11_true g A n c 210 w4).mono ?_
              rintro e w5 ⟨rfl, hb5⟩
              have HD5 := Lib.hid (HD4.out.step hb5)
              have HU5 := Lib.hid (blk_below HU4.out hb5)
              have HR5 := Lib.hid (HR4.out.below hb5)
              clear hb5 HD4 HU4 HR4
              obtain ⟨G, hG⟩ : ∃ G, (y == 1) = G := ⟨_, rfl⟩
              have HGG := Lib.hid hG
              have HF5 : Hid ((⟨pp, s, false, 0, 0⟩ : Upd).fits) := Lib.hid HP16.out
              have HF6 : Hid ((⟨pp, s, G, 0, 0⟩ : Upd).fits) := Lib.hid HP16.out
              go_upto_region 7 with (first | ((with_reducible show wpList _ _ _ (Oper.mk _ (Op.store _ _ _) _ _ _ _ :: _) _ _); refine wpList_store_cell HU5.out 4 19 (.bool G) (by rw [updV_size HF5.out]; decide) (by kernel_rfl) rfl rfl _ _ rfl rfl rfl rfl ?_; intro w6 hg9 hs9 hb9; rw [updV_set19 _ HF5.out] at hb9; have H6 := Lib.hid (And.intro hg9 hb9); clear hg9 hs9 hb9))
              try dsimp only [Act.put]
              clear hG
              have HD6 := Lib.hid (HD5.out.growU H6.out.1 HGU.out.2.1 (by omega) HBS.out HGU.out.2.2)
              have HR6 := Lib.hid (HR5.out.grown H6.out.1 (fun b e => by injection e with e; have := HGU.out.1; omega))
              have HU6 := Lib.hid H6.out.2
              clear H6 HD5 HR5 HU5
              refine wp_region_mixp (fun w0 => w0.heap[w.heap.size]? = some (.cells cs1 110 (0, 0))) [] 0 (some (.agg cs1)) (DecC (itU ys).1 W0 w g gt) [(0, 0), (2, 0), (1, 2), (4, 0), (3, 2), (5, 2), (6, 0), (7, 2)] (by kernel_rfl) (by kernel_rfl) (by kernel_rfl) HD6.out.box ?_ ?_
              · rintro ch a wx ⟨h1, -, h2⟩
                exact ⟨h1, HER.out ch wx h2⟩
              · simp only [List.map_cons, List.map_nil]
                refine wpO_loadW (t := 110) (ad := ⟨w.heap.size, 0, none⟩) rfl rfl ?hw rfl rfl ((fun w0 hS => (rd3_ld (hS.trans (by rw [HC1.out]))).all)) ?_
                case hw => go_simp
                refine wpO_loadW (t := 110) (ad := ⟨w.heap.size, 0, none⟩) rfl rfl ?hw rfl rfl ((fun w0 hS => (rd3_ld (hS.trans (by rw [HC1.out]))).all)) ?_
                case hw => go_simp
                refine wpO_step2 rfl rfl (HD6.out.box) (fun K hK => ?_)
                go_simp
                have HDd := Lib.hid (HD6.out.step (below_drew1 w6))
                have HUd : Hid (w6.drew.heap[gu]? = some (.cells (updV ⟨pp, s, G, 0, 0⟩) 75 (0, 0))) := HU6
                refine (number11_any g A n c 210 (zs.drop 1) w6.drew (HR6.out.below (below_drew1 w6))).mono ?_
                rintro e w7 ⟨hg7, ⟨hz, rfl⟩ | ⟨hz, rfl, hr7⟩⟩
                · exact ⟨rfl, rfl, (HDd.out.grow hg7 hg hgw (by omega)).leave (itU_s2 HQS.out.1 HQS.out.2.1 (by rw [List.length_drop] at hz; have := HZL.out; have := HL2.out; omega) (by have := HNG.out; omega)) (by decide)⟩
                have HD7 := Lib.hid (HDd.out.grow hg7 hg hgw (by omega))
                have HR7 := Lib.hid hr7
                have HU7 := Lib.hid (blk_grown HUd.out hg7 (fun e => by injection e with e; have := HGU.out.1; omega))
                have hf1 : 0 ≤ rd (zs.drop 1) 0 ∧ rd (zs.drop 1) 0 < 256 := HR6.out.byte.getD 0
                have HL3 : Hid (q + 3 ≤ ys.length) := Lib.hid (by rw [List.length_drop] at hz; have := HZL.out; have := HL2.out; omega)
                obtain ⟨f, hf⟩ : ∃ f, rd (zs.drop 1) 0 = f := ⟨_, rfl⟩
                rw [hf] at hf1 ⊢
                have HF := Lib.hid hf
                clear hg7 hr7 hz hf HDd HUd
                refine hK _ _ ⟨HD7.out.box, ?_⟩
                clear hK K
                iterate 1 (refine wpO_step0 rfl rfl (fun K hK => ?_); go_simp; refine hK _ _ ?_; clear hK K)
                refine wpO_step2 rfl rfl (HD7.out.box) (fun K hK => ?_)
                go_simp
                refine (number11_any g A n c 210 ((zs.drop 1).drop 1) w7 HR7.out).mono ?_
                rintro e w8 ⟨hg8, ⟨hz, rfl⟩ | ⟨hz, rfl, hr8⟩⟩
                · exact ⟨rfl, rfl, (HD7.out.grow hg8 hg hgw (by omega)).leave (itU_s2 HQS.out.1 HQS.out.2.1 (by rw [List.length_drop, List.length_drop] at hz; have := HZL.out; have := HL2.out; omega) (by have := HNG.out; omega)) (by decide)⟩
                have HD8 := Lib.hid (HD7.out.grow hg8 hg hgw (by omega))
                have HR8 := Lib.hid hr8
                have HU8 := Lib.hid (blk_grown HU7.out hg8 (fun e => by injection e with e; have := HGU.out.1; omega))
                have hh1 : 0 ≤ rd ((zs.drop 1).drop 1) 0 ∧ rd ((zs.drop 1).drop 1) 0 < 256 := HR7.out.byte.getD 0
                have HL4 : Hid (q + 4 ≤ ys.length) := Lib.hid (by rw [List.length_drop, List.length_drop] at hz; have := HZL.out; have := HL3.out; omega)
                obtain ⟨h, hh⟩ : ∃ h, rd ((zs.drop 1).drop 1) 0 = h := ⟨_, rfl⟩
                rw [hh] at hh1 ⊢
                have HH := Lib.hid hh
                clear hg8 hr8 hz hh HD7 HU7 HR7 HD6 HU6 HR6
                refine hK _ _ ⟨HD8.out.box, ?_⟩
                clear hK K
                have HF7 : Hid ((⟨pp, s, G, f, 0⟩ : Upd).fits) := Lib.hid HP16.out
                have HF8 : Hid ((⟨pp, s, G, f, h⟩ : Upd).fits) := Lib.hid HP16.out
                refine wpO_step2 rfl rfl (HD8.out.box) (fun K hK => ?_)
                rw [if_pos (show Region.wanted _ _ = true from rfl)]
                refine oper_store_cell HU8.out 3 20 (.int .i64 f) (by rw [updV_size HF6.out]; decide) (by kernel_rfl) rfl rfl _ _ rfl rfl rfl ?_
                intro w9 hg9 hs9 hb9
                rw [updV_set20 _ HF6.out] at hb9
                have HD9 := Lib.hid (HD8.out.growU hg9 HGU.out.2.1 (by omega) HBS.out HGU.out.2.2)
                have HR9 := Lib.hid (HR8.out.grown hg9 (fun b e => by injection e with e; have := HGU.out.1; omega))
                have HU9 := Lib.hid hb9
                clear hg9 hs9 hb9 HD8 HR8 HU8
                refine hK _ _ ⟨HD9.out.box, ?_⟩
                clear hK K
                iterate 1 (refine wpO_step0 rfl rfl (fun K hK => ?_); go_simp; refine hK _ _ ?_; clear hK K)
                refine wpO_step2 rfl rfl (HD9.out.box) (fun K hK => ?_)
                rw [if_pos (show Region.wanted _ _ = true from rfl)]
                refine oper_store_cell HU9.out 3 21 (.int .i64 h) (by rw [updV_size HF7.out]; decide) (by kernel_rfl) rfl rfl _ _ rfl rfl rfl ?_
                intro wa hga hsa hba
                rw [updV_set21 _ HF7.out] at hba
                have HDa := Lib.hid (HD9.out.growU hga HGU.out.2.1 (by omega) HBS.out HGU.out.2.2)
                have HRa := Lib.hid (HR9.out.grown hga (fun b e => by injection e with e; have := HGU.out.1; omega))
                have HUa := Lib.hid hba
                clear hga hsa hba HD9 HR9 HU9
                refine hK _ _ ⟨HDa.out.box, ?_⟩
                clear hK K
                refine wpO_nilp ?_
                have hbz := below_alloc (Below.refl wa.heap.size wa) (.cells (updK.enc ⟨pp, s, G, f, h⟩).toArray updK.t)
                have HDb := Lib.hid (HDa.out.step hbz)
                have HRb := Lib.hid (HRa.out.below hbz)
                have hwa : w.heap.size + 1 ≤ wa.heap.size := blk_lt HDa.out.box
                clear hbz
                go_wp2_with (first | ((with_reducible show wpList _ _ _ (Oper.mk _ (Op.load _ _) _ _ _ _ :: _) _ _); refine wpList_load_g (((bat_at HDa.out.tab).all _ (Below.refl _ _)).2) _ rfl rfl (by go_simp) ?_) | ((with_reducible show wpList _ _ _ (Oper.mk _ (Op.load _ _) _ _ _ _ :: _) _ _); refine wpList_load_g (((upd_at HF8.out HUa.out).all _ (Below.refl _ _)).all) _ rfl rfl (by go_simp) ?_) | ((with_reducible show wpList _ _ _ (Oper.mk _ (Op.buildSlice _ _ _) _ _ _ _ :: _) _ _); refine wpList_exw rfl (exec_lit1 updK (x := .tmp 31) rfl ⟨pp, s, G, f, h⟩ rfl HF8.out (by show 22 ≤ _; omega) _) ?_) | (at_builtin; refine wpList_append_shp updK rfl (.tmp 30) (.tmp 32) rfl rfl rfl HDb.out.own (OS.one updK wa 0 ⟨pp, s, G, f, h⟩ (Nat.zero_le _) HF8.out).reads (by simp; omega) (by omega) ?_; intro A9 c9 w9 h1 h2 h3; have HT9 := Lib.hid (blk_own2 HDb.out.tab h2 (fun ad e => by have := HDb.out.own.base_ ad e; omega)); have H9 := Lib.hid (And.intro h1 h2); clear h1 h2 h3) | ((with_reducible show wpList _ _ _ (Oper.mk _ (Op.store _ _ _) _ _ _ _ :: _) _ _); refine wpList_store_cell HT9.out 25 0 (.slice A9 (k + 1) c9) (Nat.le_refl _) (by kernel_rfl) rfl rfl _ _ rfl rfl rfl rfl ?_; intro wc hg9 hs9 hb9; have Hc := Lib.hid (And.intro hg9 (show (World.heap wc)[gt]? = some (.cells (tabV A9 (k + 1) c9) 27 (0, 0)) from hb9)); clear hg9 hs9 hb9))
                have HDc := Lib.hid (HDb.out.push H9.out.2 Hc.out.1 H9.out.1 Hc.out.2 hgt (by omega) HBS.out)
                have HRc := Lib.hid ((HRb.out.grown H9.out.2 (fun b e => by
                  obtain ⟨ad, e1, e2⟩ := own_of e
                  have := HDb.out.own.base_ ad e1
                  omega)).grown Hc.out.1 (fun b e => by injection e with e; omega))
                have hit := itU_ok HQS.out.1 HQS.out.2.1 HL4.out (by have := HNG.out; omega)
                rw [HYY.out, HGG.out, HZS.out, HF.out, HH.out, HQS.out.2.2.1, HQS.out.2.2.2.1] at hit
                have HIT := Lib.hid hit
                have HYN : Hid (ys.length = n - m) := Lib.hid (by rw [← HYS.out, List.length_drop, HLEN.out])
                clear hit HDb HRb H9 HT9 Hc
                go_roundw
                case measure => simp [intOf]; omega
                case rel =>
                  have hst := decI_step HLT.out HIT.out (acc := acc)
                  have hdr : ((zs.drop 1).drop 1).drop 1 = xs.drop (m + (q + 4)) := by rw [← HZS.out, ← HYS.out, List.drop_drop, List.drop_drop, List.drop_drop, List.drop_drop, List.drop_drop]
                  have hdr2 : ys.drop (q + 4) = xs.drop (m + (q + 4)) := by rw [← HYS.out, List.drop_drop]
                  rw [hdr2] at hst
                  have hRc := HRc.out
                  rw [hdr] at hRc
                  have hml : m + (q + 4) ≤ n := by have := HL4.out; have := HYN.out; omega
                  exact ⟨k + 1, m + (q + 4), A9, c9, acc ++ [⟨pp, s, G, f, h⟩], by go_num, HLT.out, hml, HDc.out, hRc, HTE.out.trans hst⟩
      · obtain rfl : k = K := by have := HH.out.1; omega
        have HTE := Lib.hid HH.out.2.2.2.2
        rw [Nat.sub_self, decI] at HTE
        have hlt' : decide (k < k) = false := decide_eq_false hlt
        clear HH hlt
        go_wp2_with fail
        go_end0
        exact ⟨HD.out.bel, HD.out.keep, .inr ⟨rfl, A1, k, c1, acc, xs.drop m, HRR.out, HZ.out, HTE.out, by omega, HD.out.tab, HD.out.own⟩⟩
end Go.Proofs.YtnpeedmicjeleaaDoor

/- The document's answer for layer 5: some. -/
namespace Go.Proofs.YtnpeedmicjeleaaDoor
open Go.RowKit
set_option linter.unusedVariables false
set_option linter.unusedSimpArgs false
set_option maxRecDepth 4000

/-- What the document's reading holds: the result's cell, the bytes read so far. -/
structure RefS (w : World) (l : List Int) (w0 : World) : Prop where
  below : Below w.heap.size w w0
  zero : w0.heap[w.heap.size]? = some (.cells (arrV zero16) 45 (0, 0))
  x : w0.heap[w.heap.size + 1]? = some (.cells (arrV l) 45 (0, 0))
theorem RefS.step {w w0 w1 : World} {l : List Int} (h : RefS w l w0) (hb : Below w0.heap.size w0 w1) : RefS w l w1 := ⟨below_step h.below hb, blk_below h.zero hb, blk_below h.x hb⟩

end Go.Proofs.YtnpeedmicjeleaaDoor

/- The document's answer for layer 5: DecodeAddr, Decode. -/
namespace Go.Proofs.YtnpeedmicjeleaaDoor
open Go.RowKit
set_option linter.unusedVariables false
set_option linter.unusedSimpArgs false
set_option maxRecDepth 4000

structure RefT (w : World) (gb : Nat) (l : List Int) (w0 : World) : Prop where
  below : Below w.heap.size w w0
  arr : w0.heap[gb]? = some (.cells (arrV l) 45 (0, 0))
theorem RefT.step {w w0 w1 : World} {gb : Nat} {l : List Int} (h : RefT w gb l w0) (hb : Below w0.heap.size w0 w1) : RefT w gb l w1 := ⟨below_step h.below hb, blk_below h.arr hb⟩
theorem RefT.grow {w w0 w1 : World} {gb c : Nat} {l : List Int} (h : RefT w gb l w0) (hg : w0.grownBy w1 (some c)) (h1 : w.heap.size ≤ c) (h2 : gb ≠ c) : RefT w gb l w1 :=
  ⟨below_grown h.below hg h1, blk_grown h.arr hg (fun e => by injection e with e; exact h2 e)⟩
theorem RB.first {w : World} {A : Option Addr} {n c : Nat} {xs : List Int} (h : RB w A n c xs) (hn : 0 < n) : ∃ ad, A = some ad ∧ ∀ w0, Below w.heap.size w w0 → w0.cell? ad = some (.int .u8 (rd xs 0)) := by
  obtain ⟨ad, e, -⟩ := h.at_ 0 (by omega) (by omega)
  refine ⟨ad, e, fun w0 hb => ?_⟩
  obtain ⟨ad2, e2, hc⟩ := (h.below hb).at_ 0 (by omega) (by omega)
  rw [e] at e2
  injection e2 with e2
  subst e2
  simpa [Addr.add] using hc

end Go.Proofs.YtnpeedmicjeleaaDoor

/- Layer 9 (table): the document's Decode. -/
namespace Go.Proofs.YtnpeedmicjeleaaDoor
open Go.RowKit
set_option linter.unusedVariables false
set_option linter.unusedSimpArgs false
set_option maxRecDepth 4000
theorem wf_small {x : Int} (h : 0 ≤ x ∧ x ≤ 1000) : (Lit.int .i64 x).wf = true := by
  have h1 : IntKind.i64.min ≤ x := by show (-9223372036854775808 : Int) ≤ x; omega
  have h2 : x ≤ IntKind.i64.max := by show x ≤ (9223372036854775807 : Int); omega
  simp only [Lit.wf, h1, h2, decide_true, Bool.and_self]
theorem decP_okk {xs : List Int} (hx : Bytes xs) (h : decPE xs = 0) : (decP xs).ok := by
  obtain ⟨h1, h2, -⟩ := enc_dec hx h
  obtain ⟨b, hb, -, hb2⟩ := right_b h1
  have hv := right_v h1
  refine ⟨h2, ?_, ?_⟩
  · rcases hv with h | h <;> rw [h] <;> rfl
  · rw [hb]
    have := fullB_le hb2
    exact wf_small (by omega)
end Go.Proofs.YtnpeedmicjeleaaDoor

/- Layer 11 (route): Decode. -/
namespace Go.Proofs.YtnpeedmicjeleaaDoor
open Go.RowKit
set_option linter.unusedVariables false
set_option linter.unusedSimpArgs false
set_option maxRecDepth 4000
def ribDE (xs : List Int) : Int := decIE itR 211 ribB xs
def ribDL (xs : List Int) : List Rte := decIL itR 211 ribB xs
theorem itR_okk (ys : List Int) (hy : Bytes ys) (h : (itR ys).1 = 0) : (itR ys).2.1.ok := by
  unfold itR at *
  split at h
  · cases h
  · rename_i h7
    split at h
    · cases h
    · rename_i h0
      have h0' : decPE ys = 0 := by simpa using h0
      split at h
      · cases h
      · rename_i h3
        rw [if_neg h7, if_neg h0, if_neg h3]
        have hb : ∀ i : Int, (Lit.int .i64 (rd ys i)).wf = true := fun i => wf_small (by have := hy.getD i.toNat; show 0 ≤ rd ys i ∧ rd ys i ≤ 1000; unfold rd; omega)
        exact ⟨decP_okk hy h0', hb _, hb _, hb _⟩
/-- What holds behind read. -/
def DecP {α : Type} (S : Shape α) (T : TypeId) (it : List Int → Int × α × Nat) (bad : Int) (xs : List Int) (W0 : World) (rb gt b : Nat) (E : Int) (w' : World) : Prop :=
  E = endE it bad xs ∧ Below W0.heap.size W0 w' ∧ w'.heap[rb]? = some (.cells (tabV none 0 0) T (0, 0)) ∧ (E = 0 → ∃ A n c, n ≤ 255 ∧ w'.heap[gt]? = some (.cells (tabV A n c) T (0, 0)) ∧ OS S w' b A n c (decIR it xs).2.1)
theorem DecP.grow {α : Type} {S : Shape α} {T : TypeId} {it : List Int → Int × α × Nat} {bad : Int} {xs : List Int} {W0 : World} {rb gt b k : Nat} {E : Int} {w1 w2 : World} (h : DecP S T it bad xs W0 rb gt b E w1) (hg : w1.grownBy w2 (some k)) (h0 : W0.heap.size ≤ k) (h1 : rb ≠ k) (h2 : gt ≠ k) (h3 : k < b) : DecP S T it bad xs W0 rb gt b E w2 := by
  obtain ⟨k1, k2, k3, k4⟩ := h
  refine ⟨k1, below_grown k2 hg h0, blk_grown k3 hg (fun e => by injection e with e; exact h1 e), fun e => ?_⟩
  obtain ⟨A, n, c, hn, ht, ho⟩ := k4 e
  exact ⟨A, n, c, hn, blk_grown ht hg (fun e => by injection e with e; exact h2 e), ho.grown hg (fun ad e hh => by have := ho.base_ ad e; injection hh with hh; omega)⟩
theorem DecP.step {α : Type} {S : Shape α} {T : TypeId} {it : List Int → Int × α × Nat} {bad : Int} {xs : List Int} {W0 : World} {rb gt b : Nat} {E : Int} {w1 w2 : World} (h : DecP S T it bad xs W0 rb gt b E w1) (hb : Below w1.heap.size w1 w2) : DecP S T it bad xs W0 rb gt b E w2 := by
  obtain ⟨k1, k2, k3, k4⟩ := h
  refine ⟨k1, below_step k2 hb, blk_below k3 hb, fun e => ?_⟩
  obtain ⟨A, n, c, hn, ht, ho⟩ := k4 e
  exact ⟨A, n, c, hn, blk_below ht hb, ho.below hb⟩
/-- From the closure's end to read's. -/
theorem DecP.of {α : Type} {S : Shape α} {T : TypeId} {it : List Int → Int × α × Nat} {bad : Int} {xs : List Int} {W0 w w1 w2 : World} {lo g gt : Nat} {e : Ending} (hs : w.heap.size = W0.heap.size + 2) (hgt : gt = W0.heap.size + 1) (hg : w.heap.size < g) (hgw : g < w1.heap.size)
    (hz : w1.heap[W0.heap.size]? = some (.cells (tabV none 0 0) T (0, 0))) (h : DecQ S T it xs W0 w1 lo g gt e w2) :
    Keep11 w.heap.size g w1 w2 ∧ ((∃ E, e = .panicked (wrg E) ∧ DecP S T it bad xs W0 W0.heap.size gt (W0.heap.size + 3) E w2) ∨ (e = .returned (.tuple #[]) ∧ ∃ ys, Rdr w2 lo g ys 0 ∧ DecP S T it bad xs W0 W0.heap.size gt (W0.heap.size + 3) (if ys.length = 0 then 0 else bad) w2)) := by
  obtain ⟨h1, h2, h3⟩ := h
  have hz2 := h2.blk_ hz (Nat.le_refl _) (by omega) (by omega)
  refine ⟨h2.k11 (by omega) (by omega), ?_⟩
  rcases h3 with ⟨E, rfl, hE, he⟩ | ⟨rfl, A, n, c, acc, ys, hr, hx, hd, hn, ht, ho⟩
  · refine .inl ⟨E, rfl, ?_, h1, hz2, fun e => absurd e hE⟩
    by_cases hx : xs.length = 0
    · rw [if_pos hx] at he
      rw [endE_none hx, ← he]
    · rw [if_neg hx] at he
      rw [endE_err hx he hE]
  · refine .inr ⟨rfl, ys, hr, (endE_end hx hd).symm, h1, hz2, fun _ => ⟨A, n, c, hn, ht, ?_⟩⟩
    rw [hd]
    exact ho.lower (by omega)
set_option maxHeartbeats 4000000 in
theorem rdecode_any (A : Option Addr) (n c : Nat) (xs : List Int) (w : World) (hL : Laid w) (hr : RB w A n c xs) (hn : n ≤ 100000) :
    Calls Tryd.prog 35 #[.slice A n c] w fun e w' => ∃ A' n' c', e = .returned (.tuple #[.agg (tabV A' n' c'), .int .i64 (ribDE xs)]) ∧ OS rteK w' w.heap.size A' n' c' (ribDL xs) ∧ Below w.heap.size w w' := by
  have hmf : ∀ (fn : Fn) (first cap : Array Value) (w : World), (Instr.makeFunc fn first cap).run Tryd.prog w = .ok (.func fn first cap) w := fun _ _ _ _ => rfl
  have hs0 : (w.alloc (.cells (tabV none 0 0) 24)).heap.size = w.heap.size + 1 := by simp
  obtain ⟨W1, hW1⟩ : ∃ W1, (w.alloc (.cells #[.slice none 0 0] 24)).alloc (.cells #[.slice none 0 0] 24) = W1 := ⟨_, rfl⟩
  have HB1 : Hid (Below w.heap.size w W1) := Lib.hid (hW1 ▸ below_alloc (below_alloc (Below.refl _ _) _) _)
  have HZ1 : Hid (W1.heap[w.heap.size]? = some (.cells (tabV none 0 0) 24 (0, 0))) := Lib.hid (by rw [← hW1]; exact blk_below (blk_new w _) (below_alloc (Below.refl _ _) _))
  have HT1 : Hid (W1.heap[w.heap.size + 1]? = some (.cells (tabV none 0 0) 24 (0, 0))) := Lib.hid (by rw [← hW1, ← hs0]; exact blk_new _ _)
  have HS1 : Hid (W1.heap.size = w.heap.size + 2) := Lib.hid (by rw [← hW1]; simp)
  have HR1 := Lib.hid (hr.below HB1.out)
  have HR := Lib.hid hr
  have HL := Lib.hid hL
  have HBY := Lib.hid hr.range
  clear hr hL hs0
  go_enter Tryd.func35, Tryd.ntmps35
  go_wp2_with fail
  clear hW1
  refine (read11_any 73 (fun _ _ => by simp [go_sem]) #[.pointer (some ⟨w.heap.size + 1, 0, none⟩)] A n c xs 211 W1 (HL.out.below HB1.out) HR1.out hn (DecP rteK 24 itR 211 xs w w.heap.size (w.heap.size + 1) (w.heap.size + 3)) ?_ ?_).mono ?_
  · intro E w1 w2 hsz h hg
    have := HS1.out
    exact h.grow hg (by omega) (by omega) (by omega) (by omega)
  · intro lo g w1 hlo hg hrd hb
    have hs := HS1.out
    have hz := blk_below HZ1.out hb
    refine (dec1_any g (w.heap.size + 1) A n c xs w w1 HL.out HR.out hn (below_step HB1.out hb) hrd (by omega) (by omega) (by omega) (by omega) (blk_below HT1.out hb)).mono ?_
    intro e w2 h
    exact DecP.of hs rfl hg hrd.lt hz h
  · rintro e w2 ⟨E, rfl, hP⟩
    have HP := Lib.hid hP
    clear hP
    by_cases hE : E = 0
    · subst hE
      obtain ⟨hE0, hbel, hz2, hex⟩ := HP.out
      obtain ⟨A2, n2, c2, hn2, ht2, ho2⟩ := hex rfl
      have HE0 : Hid (ribDE xs = if ribB (decIR itR xs).2.1 then 0 else 211) := Lib.hid (endE_ok (by decide) hE0.symm)
      have HBY1 := Lib.hid (decI_all (P := Rte.ok) itR_okk (rd xs 0).toNat [] (xs.drop 1) (HBY.out.drop 1) (fun a h => by cases h))
      have HDL : Hid (ribDE xs = 0 → ribDL xs = (decIR itR xs).2.1) := Lib.hid (fun h => if_pos h)
      have HDN : Hid (ribDE xs ≠ 0 → ribDL xs = []) := Lib.hid (fun h => decIL_no h)
      obtain ⟨acc, hacc⟩ : ∃ acc, (decIR itR xs).2.1 = acc := ⟨_, rfl⟩
      have hok : Okr acc := by rw [← hacc]; exact HBY1.out
      rw [hacc] at ho2 HE0 HDL
      have HB2 := Lib.hid hbel
      have HZ2 := Lib.hid hz2
      have HT2 := Lib.hid ht2
      have HO2 := Lib.hid ho2
      have HOK := Lib.hid hok
      clear hE0 hbel hz2 hex ht2 ho2 HP HBY1 hacc hok
      go_wp2_with (first | ((with_reducible show wpList _ _ _ (Oper.mk _ (Op.load _ _) _ _ _ _ :: _) _ _); refine wpList_load_g (load_rib HT2.out) _ rfl rfl (by go_simp) ?_))
      refine (rcheck_any A2 n2 c2 acc w2 (HL.out.below HB2.out) HO2.out.reads HOK.out (by omega)).mono ?_
      rintro e w3 ⟨rfl, hb3⟩
      have HB3 := Lib.hid (below_step HB2.out hb3)
      have HZ3 := Lib.hid (blk_below HZ2.out hb3)
      have HT3 := Lib.hid (blk_below HT2.out hb3)
      have HO3 := Lib.hid (HO2.out.below hb3)
      clear hb3 HB2 HZ2 HT2 HO2
      cases hrb : ribB acc with
      | true =>
        have hE0 : ribDE xs = 0 := by rw [HE0.out, hrb]; rfl
        have HE := Lib.hid (And.intro hE0 (HDL.out hE0))
        rw [show ribE acc = 0 by unfold ribE; rw [hrb]; rfl]
        clear hrb hE0
        go_wp2_with (first | ((with_reducible show wpList _ _ _ (Oper.mk _ (Op.load _ _) _ _ _ _ :: _) _ _); refine wpList_load_g (load_rib HT3.out) _ rfl rfl (by go_simp) ?_) | ((with_reducible show wpList _ _ _ (Oper.mk _ (Op.store _ _ _) _ _ _ _ :: _) _ _); refine wpList_store_blk HZ3.out 24 0 (tabV A2 n2 c2) (Nat.le_refl _) (info_rib _ _ _) (tab_one _ _ _) _ _ rfl rfl rfl rfl ?_; intro w4 hg9 hs9 hb9; rw [splice_tab] at hb9; have H4 := Lib.hid (And.intro hg9 hb9); clear hg9 hs9 hb9))
        refine bodyPost_ret (results_c2 rfl rfl (load_rib H4.out.2)) rfl ?_
        rw [HE.out.1, HE.out.2]
        exact ⟨A2, n2, c2, rfl, (HO3.out.grown H4.out.1 (fun ad e hh => by have := HO3.out.base_ ad e; injection hh with hh; omega)).lower (by omega), below_grown HB3.out H4.out.1 (Nat.le_refl _)⟩
      | false =>
        have hE0 : ribDE xs = 211 := by rw [HE0.out, hrb]; rfl
        have HE := Lib.hid (And.intro hE0 (HDN.out (by rw [hE0]; decide)))
        rw [show ribE acc = 211 by unfold ribE; rw [hrb]; rfl]
        clear hrb hE0
        go_wp2_with (first | ((with_reducible show wpList _ _ _ (Oper.mk _ (Op.build _ _) _ _ _ _ :: _) _ _); refine wpList_exw rfl (exec_build 24 #[] rfl #[] rfl ((run_build_rib_nil _))) ?_) | ((with_reducible show wpList _ _ _ (Oper.mk _ (Op.store _ _ _) _ _ _ _ :: _) _ _); refine wpList_store_blk HZ3.out 24 0 (tabV none 0 0) (Nat.le_refl _) (info_rib _ _ _) (tab_one _ _ _) _ _ rfl rfl rfl rfl ?_; intro w4 hg9 hs9 hb9; rw [splice_tab] at hb9; have H4 := Lib.hid (And.intro hg9 hb9); clear hg9 hs9 hb9))
        refine bodyPost_ret (results_c2 rfl rfl (load_rib H4.out.2)) rfl ?_
        rw [HE.out.1, HE.out.2]
        exact ⟨none, 0, 0, rfl, OS.nil _ _ _, below_grown HB3.out H4.out.1 (Nat.le_refl _)⟩
    · obtain ⟨hE0, hbel, hz2, -⟩ := HP.out
      have hE1 : ribDE xs = E := by rw [hE0]; exact endE_no (by decide) (by rw [← hE0]; exact hE)
      have HE : Hid (ribDE xs = E ∧ ribDL xs = []) := Lib.hid ⟨hE1, decIL_no (by show ribDE xs ≠ 0; rw [hE1]; exact hE)⟩
      have HB2 := Lib.hid hbel
      have HZ2 := Lib.hid hz2
      have hEb : (E == 0) = false := by simpa using hE
      have hEn : (E != 0) = true := by simpa using hE
      clear hE0 hbel hz2 hE1 HP hE
      go_wp2_with (first | ((with_reducible show wpList _ _ _ (Oper.mk _ (Op.build _ _) _ _ _ _ :: _) _ _); refine wpList_exw rfl (exec_build 24 #[] rfl #[] rfl ((run_build_rib_nil _))) ?_) | ((with_reducible show wpList _ _ _ (Oper.mk _ (Op.store _ _ _) _ _ _ _ :: _) _ _); refine wpList_store_blk HZ2.out 24 0 (tabV none 0 0) (Nat.le_refl _) (info_rib _ _ _) (tab_one _ _ _) _ _ rfl rfl rfl rfl ?_; intro w4 hg9 hs9 hb9; rw [splice_tab] at hb9; have H4 := Lib.hid (And.intro hg9 hb9); clear hg9 hs9 hb9))
      refine bodyPost_ret (results_c2 rfl rfl (load_rib H4.out.2)) rfl ?_
      rw [HE.out.1, HE.out.2]
      exact ⟨none, 0, 0, rfl, OS.nil _ _ _, below_grown HB2.out H4.out.1 (Nat.le_refl _)⟩
end Go.Proofs.YtnpeedmicjeleaaDoor

/- Layer 11 (route): Best. -/
namespace Go.Proofs.YtnpeedmicjeleaaDoor
open Go.RowKit
set_option linter.unusedVariables false
set_option linter.unusedSimpArgs false
set_option maxRecDepth 4000
/-- What the loop of Best keeps: a table of its own, and the cell that holds it. -/
structure TabS (w0 w : World) (g : Nat) (A : Option Addr) (n c : Nat) (t : List Row) : Prop where
  own : OS rowK w w0.heap.size A n c t
  cell : w.heap[g]? = some (.cells (tabV A n c) 39 (0, 0))
  bel : Below w0.heap.size w0 w
  gle : w0.heap.size ≤ g
theorem TabS.step {w0 w w1 : World} {g : Nat} {A : Option Addr} {n c : Nat} {t : List Row} (h : TabS w0 w g A n c t) (hb : Below w.heap.size w w1) : TabS w0 w1 g A n c t := ⟨h.own.below hb, blk_below h.cell hb, below_step h.bel hb, h.gle⟩
set_option maxHeartbeats 8000000 in
set_option maxRecDepth 100000 in
theorem rbest_any (A : Option Addr) (n c : Nat) (l : List Rte) (w : World) (hL : Laid w) (hr : RS rteK w A n c l) (ok : Okr l) (hn : n ≤ 10000) :
    Calls Tryd.prog 17 #[.agg (tabV A n c)] w fun e w' => ∃ A' n' c', e = .returned (.tuple #[.agg (tabV A' n' c'), .int .i64 (ribE l)]) ∧ OS rowK w' w.heap.size A' n' c' (bestR l) ∧ Below w.heap.size w w' := by
  have hblk1 := blk_new w (.cells (tabV A n c) 24)
  have hbel1 : Below w.heap.size w (w.alloc (.cells (tabV A n c) 24)) := below_alloc (Below.refl _ _) _
  have HP1 := Lib.hid (rib_at hblk1)
  have HBK1 := Lib.hid hblk1
  have HBE := Lib.hid hbel1
  have HL := Lib.hid (hL.below HBE.out)
  obtain ⟨cs1, hcs1⟩ : ∃ cs, tabV A n c = cs := ⟨_, rfl⟩
  simp only [hcs1] at HBE HL HP1 HBK1 ⊢
  have HC1 := Lib.hid hcs1
  clear hL hcs1 hblk1 hbel1
  have HR := Lib.hid (hr.below HBE.out)
  have OK := Lib.hid ok
  have hs0 : (w.alloc (.cells cs1 24)).heap.size = w.heap.size + 1 := by simp
  obtain ⟨W1, hW1⟩ : ∃ W1, (w.alloc (.cells cs1 24)).alloc (.cells #[.slice none 0 0] 39) = W1 := ⟨_, rfl⟩
  have HZ : Hid (W1.heap[w.heap.size + 1]? = some (.cells (tabV none 0 0) 39 (0, 0))) := Lib.hid (by rw [← hW1, ← hs0]; exact blk_new _ _)
  have HB1 : Hid (Below (w.alloc (.cells cs1 24)).heap.size (w.alloc (.cells cs1 24)) W1) := Lib.hid (hW1 ▸ below_alloc (Below.refl _ _) _)
  have HZL : Hid (w.heap.size ≤ w.heap.size + 1) := Lib.hid (by omega)
  have HS1 : Hid (W1.heap.size = w.heap.size + 2) := Lib.hid (by rw [← hW1]; simp)
  clear hr ok hs0
  go_enter Tryd.func17, Tryd.ntmps17
  go_wp2_with (first | ((with_reducible show wpList _ _ _ (Oper.mk _ (Op.load _ _) _ _ _ _ :: _) _ _); refine wpList_load_g ((HP1.out.all _ HB1.out).1) _ rfl rfl (by go_simp) ?_))
  clear hW1
  refine (rcheck_any A n c l W1 (HL.out.below HB1.out) (HR.out.below HB1.out) OK.out (by omega)).mono ?_
  rintro e w2 ⟨rfl, hb2⟩
  have HB2 := Lib.hid (below_step HB1.out hb2)
  have HZ2 := Lib.hid (blk_below HZ.out hb2)
  have HS2 : Hid (w.heap.size + 2 ≤ w2.heap.size) := Lib.hid (by rw [← HS1.out]; exact hb2.size)
  clear hb2 HZ HB1 HS1
  cases hrb : ribB l with
  | false =>
    have HE : Hid (ribE l = 211 ∧ bestR l = []) := Lib.hid ⟨by unfold ribE; rw [hrb]; rfl, by unfold bestR; rw [hrb]; rfl⟩
    rw [HE.out.1]
    clear hrb
    go_wp2_with (first | ((with_reducible show wpList _ _ _ (Oper.mk _ (Op.build _ _) _ _ _ _ :: _) _ _); refine wpList_exw rfl (exec_build 39 #[] rfl #[] rfl ((run_build_tab_nil _))) ?_) | ((with_reducible show wpList _ _ _ (Oper.mk _ (Op.store _ _ _) _ _ _ _ :: _) _ _); refine wpList_store_blk HZ2.out 39 0 (tabV none 0 0) (Nat.le_refl _) (info_tab _ _ _) (tab_one _ _ _) _ _ rfl rfl rfl rfl ?_; intro w9 hg9 hs9 hb9; rw [splice_tab] at hb9; have H9 := Lib.hid (And.intro hg9 hb9); clear hg9 hs9 hb9))
    refine bodyPost_ret (results_c2 rfl rfl (load_tab H9.out.2)) rfl ?_
    rw [HE.out.1, HE.out.2]
    exact ⟨none, 0, 0, rfl, OS.nil _ _ _, below_grown (below_step HBE.out HB2.out) H9.out.1 HZL.out⟩
  | true =>
    have HE : Hid (ribE l = 0 ∧ bestR l = bestT l) := Lib.hid ⟨by unfold ribE; rw [hrb]; rfl, by unfold bestR; rw [hrb]; rfl⟩
    rw [HE.out.1]
    have HRB := Lib.hid hrb
    clear hrb
    have hTS : TabS w2 (w2.alloc (.cells (tabV none 0 0) 39)) w2.heap.size none 0 0 (bk l 0) := ⟨OS.nil _ _ _, blk_new _ _, below_alloc (Below.refl _ _) _, Nat.le_refl _⟩
    have HTS := Lib.hid hTS
    clear hTS
    go_wp2_with (first | ((with_reducible show wpList _ _ _ (Oper.mk _ (Op.load _ _) _ _ _ _ :: _) _ _); refine wpList_load_g ((HP1.out.all _ (below_step HB2.out (below_alloc (Below.refl _ _) _))).2) _ rfl rfl (by go_simp) ?_))
    obtain ⟨g5, hg5⟩ : ∃ g, w2.heap.size = g := ⟨_, rfl⟩
    obtain ⟨w3, hw3⟩ : ∃ W, w2.alloc (.cells (tabV none 0 0) 39) = W := ⟨_, rfl⟩
    rw [hg5, hw3] at HTS
    rw [hg5]
    refine (show ∀ {P : World → Prop}, P w3 → P (w2.alloc (.cells #[.slice none 0 0] 39)) from fun {P} h => hw3 ▸ h) ?_
    clear hg5 hw3
    go_loopw [20] (fun s20 wr => ∃ (k : Nat) (Ak : Option Addr) (nk ck : Nat), s20 = .int .i64 k ∧ Hid (k ≤ n ∧ TabS w2 wr g5 Ak nk ck (bk l k))) (fun x _ => n - (intOf x).toNat)
    case atStart => exact ⟨0, none, 0, 0, rfl, Nat.zero_le _, HTS.out⟩
    case round =>
      obtain ⟨k, Ak, nk, ck, rfl, HI⟩ := hrel
      obtain ⟨wk, rfl⟩ : ∃ wk, wk = wr := ⟨wr, rfl⟩
      have HBK := Lib.hid (below_step HB2.out HI.out.2.bel)
      have hnk : nk ≤ 40 := by
        have h1 := HI.out.2.own.len
        have h2 := rib_to HRB.out
        have h3 := bk_len l k
        have h4 := best_len OK.out.fits h2.2.1
        omega
      by_cases hlt : k < n
      · have hlt' : (k : Int) < n := by omega
        obtain ⟨b, o, hA, hc⟩ := RS.at_ HR.out (by omega)
        have hil : k < l.length := by rw [HR.out.len]; exact hlt
        have HXO := Lib.hid (OK.out.at_ hil)
        have HCX : Hid (CellsAt wk b (o + k * 21) (rteC (rteAt l k))) := Lib.hid ((hc k hlt).below HBK.out)
        have HSB := Lib.hid (fun hu => set_bk OK.out.fits HRB.out hil hu)
        have HBS := Lib.hid (bk_succ l hil)
        obtain ⟨x, hx⟩ : ∃ x, rteAt l k = x := ⟨_, rfl⟩
        rw [hx] at HXO HCX HSB HBS
        have hla := (rteLd_of HXO.out.fits HCX.out).all
        have HB6f := Lib.hid (fun (W : World) (h : (wk.alloc (.cells (rteV rteZ) 51)).grownBy W (some wk.heap.size)) => below_grown (below_alloc (Below.refl wk.heap.size wk) (.cells (rteV rteZ) 51)) h (Nat.le_refl _))
        subst hA
        clear hc hx hil
        go_wp2_with (first | ((with_reducible show wpList _ _ _ (Oper.mk _ (Op.load _ _) _ _ _ _ :: _) _ _); refine wpList_load_g hla _ rfl rfl (by go_simp) ?_) | ((with_reducible show wpList _ _ _ (Oper.mk _ (Op.store _ _ _) _ _ _ _ :: _) _ _); refine wpList_store_blk (blk_new wk _) 51 0 (rteV x) (store_rte_fit HXO.out.fits rfl) (info_rte HXO.out.fits) (rteV_one _) _ _ rfl rfl rfl rfl ?_; intro w6 hg9 hs9 hb9; rw [splice_rte HXO.out.fits rfl] at hb9; have H6 := Lib.hid (And.intro hg9 hb9); clear hg9 hs9 hb9) | ((with_reducible show wpList _ _ _ (Oper.mk _ (Op.load _ _) _ _ _ _ :: _) _ _); refine wpList_load_g ((HP1.out.all _ (below_step HBK.out (HB6f.out _ H6.out.1))).2) _ rfl rfl (by go_simp) ?_))
        have HBR := Lib.hid (HB6f.out _ H6.out.1)
        have HB6 := Lib.hid (below_step HBK.out HBR.out)
        have HG6 := Lib.hid H6.out.2
        obtain ⟨gx, hgx⟩ : ∃ g, wk.heap.size = g := ⟨_, rfl⟩
        rw [hgx] at HG6 ⊢
        clear HB6f H6 hla hgx
        refine (containsQ_any (some ⟨b, o, none⟩) n c l w6 gx (HR.out.below HB6.out) (by omega) (fun y => beats y x) (fun i hi w1 hb => best1_any (rteK.at_ l i) x gx w1 (OK.out.at_ (by rw [HR.out.len]; exact hi)) HXO.out (rte_at HXO.out.fits (blk_below HG6.out hb)))).mono ?_
        rintro e w7 ⟨rfl, hb7⟩
        have HU : Hid (unb l x = !l.any (fun y => beats y x)) := Lib.hid rfl
        obtain ⟨T, hT⟩ : ∃ T, l.any (fun y => beats y x) = T := ⟨_, rfl⟩
        rw [hT] at HU ⊢
        have HS7 := Lib.hid ((HI.out.2.step HBR.out).step hb7)
        have HB7 := Lib.hid (below_step HB6.out hb7)
        have HBR7 := Lib.hid (below_step HBR.out hb7)
        have HX7 := Lib.hid (rte_at HXO.out.fits (blk_below HG6.out hb7))
        clear hb7 hT HG6 HBR HB6
        cases T with
        | true =>
          have HN : Hid (bk l (k + 1) = bk l k) := Lib.hid (by rw [HBS.out, if_neg (by rw [HU.out]; decide), List.append_nil])
          go_wp2_with fail
          go_roundw
          case measure => simp [intOf]; omega
          case rel => exact ⟨k + 1, Ak, nk, ck, by go_num, by omega, by rw [HN.out]; exact HS7.out⟩
        | false =>
          have HZS := Lib.hid (HSB.out HU.out)
          clear HU HSB
          go_upto_region 10 with fail
          go_cut [9, 10] (fun s9 s10 wx => ∃ (g : Nat) (A9 : Option Addr) (n9 c9 : Nat), s9 = .pointer (some ⟨g, 0, none⟩) ∧ s10 = .int .i64 0 ∧ Hid (wx.heap[g]? = some (.cells (tabV A9 n9 c9) 39 (0, 0)) ∧ OS rowK wx w7.heap.size A9 n9 c9 (bk l (k + 1)) ∧ (∀ ad, A9 = some ad → ad.block ≠ g) ∧ Below w7.heap.size w7 wx))
          case first =>
            have HBD := Lib.hid (below_drew1 w7)
            refine wp_region_fork ((fun w0 => Below w7.heap.size w7 w0)) (OrdT.fork [0, 1, 2, 3, 4, 5, 6, 7, 8] 9 13 (OrdT.lin [10, 11, 12, 13, 14, 15]) (OrdT.lin [9, 10, 11, 12, 14, 15])) [(0, 0), (1, 0), (2, 0), (3, 0), (4, 0), (5, 0), (6, 0), (7, 0), (8, 0), (9, 2), (10, 0), (11, 0), (12, 0), (13, 2), (14, 2), (15, 0)] (by kernel_rfl) (by kernel_rfl) ((below_drew1 _)) ?_
            simp only [wpF]
            refine wpO_loadW (t := 39) (ad := ⟨g5, 0, none⟩) rfl rfl ?hw rfl rfl ((fun w0 hS => load_tab (blk_below HS7.out.cell hS))) ?_
            case hw => go_simp
            iterate 1 (refine wpO_step0 rfl rfl (fun K hK => ?_); go_simp; refine hK _ _ ?_; clear hK K)
            refine wpO_loadW (t := 49) (ad := ⟨gx, 0, none⟩) rfl rfl ?hw rfl rfl ((fun w0 hS => (HX7.out.all w0 hS).pfx)) ?_
            case hw => go_simp
            iterate 1 (refine wpO_step0 rfl rfl (fun K hK => ?_); go_simp; refine hK _ _ ?_; clear hK K)
            refine wpO_loadW (t := 22) (ad := ⟨w.heap.size, 0, none⟩) rfl rfl ?hw rfl rfl ((fun w0 hS => (HP1.out.all w0 (below_step HB7.out hS)).2)) ?_
            case hw => go_simp
            iterate 3 (refine wpO_step0 rfl rfl (fun K hK => ?_); go_simp; refine hK _ _ ?_; clear hK K)
            refine wpO_loadW (t := 3) (ad := ⟨b, (o+k*21+20), none⟩) rfl rfl ?hw rfl rfl ((fun w0 hS => (rteLd_of HXO.out.fits (HCX.out.below (below_step HBR7.out hS))).hop)) ?_
            case hw => go_simp
            refine wpO_nil ⟨?_, ?_⟩
            · refine wpO_step2 rfl rfl (HBD.out) (fun K hK => ?_)
              go_simp
              refine (tset_any Ak nk ck (bk l k) x.p x.h w7.drew (HL.out.below (below_step HB7.out HBD.out)) (HS7.out.own.reads.below HBD.out) HXO.out.fits (by omega)).mono ?_
              rw [HZS.out.1, HZS.out.2]
              rintro e w2 ⟨A9, n9, c9, rfl, hO9, hb9⟩
              have HBC := Lib.hid (below_step HBD.out hb9)
              have HLT9 := Lib.hid hO9.lt
              have HBA9 := Lib.hid hO9.base_
              have HO9 := Lib.hid (hO9.lower HBD.out.size)
              try replace HZ9 := Lib.hid (blk_below HZ9.out hb9)
              clear hO9 hb9
              refine hK _ _ ⟨HBC.out, ?_⟩
              clear hK K
              refine wpO_nil ?_
              iterate 3 (refine wpO_step0 rfl rfl (fun K hK => ?_); go_simp; refine hK _ _ ?_; clear hK K)
              refine wpO_step2 rfl rfl (HBC.out) (fun K hK => ?_)
              go_simp
              have hz9 := blk_new w2 (.cells (tabV none 0 0) 39)
              obtain ⟨w3, hw9⟩ : ∃ w9, World.alloc w2 (.cells (tabV none 0 0) 39) = w9 := ⟨_, rfl⟩
              have ha9 : Below (World.heap w2).size w2 w3 := hw9 ▸ below_alloc (Below.refl _ _) _
              have HBK := Lib.hid (below_step HBC.out ha9)
              refine kw_cast hw9 ?_
              rw [hw9] at hz9
              have hzl9 := blk_lt hz9
              have HZ9 := Lib.hid hz9
              try replace HCP := Lib.hid (HCP.out.below ha9)
              try replace HO9 := Lib.hid (HO9.out.below ha9)
              try replace HLV := Lib.hid (HLV.out.below ha9)
              clear hw9 hz9 ha9
              refine hK _ _ ⟨HBK.out, ?_⟩
              clear hK K
              refine wpO_step2 rfl rfl (HBK.out) (fun K hK => ?_)
              rw [if_pos (show Region.wanted _ _ = true from rfl)]
              refine oper_store_blk HZ9.out 39 0 (tabV A9 n9 c9) (Nat.le_refl _) (info_tab _ _ _) (tab_one _ _ _) _ _ rfl rfl rfl ?_
              intro w4 hg9 hs9 hb9
              rw [splice_tab] at hb9
              have HBL := Lib.hid (below_grown HBK.out hg9 (by have h2 := HBC.out.size; omega))
              have HNE9 : Hid (∀ ad, A9 = some ad → ad.block ≠ w2.heap.size) := Lib.hid (fun ad e => by first | (have := HLT9.out ad e; omega) | (have := HBA9.out ad e; have h3 := blk_lt HZ9.out; omega))
              replace HO9 := Lib.hid (HO9.out.grown hg9 (fun ad e h => by injection h with h; exact HNE9.out ad e h))
              replace HZ9 := Lib.hid hb9
              clear hg9 hs9 hb9
              refine hK _ _ ⟨HBL.out, ?_⟩
              clear hK K
              iterate 1 (refine wpO_step0 rfl rfl (fun K hK => ?_); go_simp; refine hK _ _ ?_; clear hK K)
              refine wpO_nil ?_
              go_wp2_with fail
              go_meet
              exact ⟨w2.heap.size, A9, n9, c9, rfl, rfl, HZ9.out, HO9.out, HNE9.out, HBL.out⟩
            · refine wpO_step2 rfl rfl (HBD.out) (fun K hK => ?_)
              go_simp
              have hz9 := blk_new w7 (.cells (tabV none 0 0) 39)
              obtain ⟨w2, hw9⟩ : ∃ w9, (World.alloc w7 (.cells (tabV none 0 0) 39)).drew = w9 := ⟨_, rfl⟩
              have ha9 : Below (World.heap w7).size w7 w2 := hw9 ▸ below_step (below_alloc (Below.refl _ _) _) (below_drew1 _)
              have HBC := Lib.hid ha9
              refine kw_cast hw9 ?_
              replace hz9 : (World.heap w2)[(World.heap w7).size]? = some (.cells (tabV none 0 0) 39 (0, 0)) := by rw [← hw9]; exact hz9
              have hzl9 := blk_lt hz9
              have HZ9 := Lib.hid hz9
              clear hw9 hz9 ha9
              refine hK _ _ ⟨HBC.out, ?_⟩
              clear hK K
              refine wpO_nil ?_
              refine wpO_step2 rfl rfl (HBC.out) (fun K hK => ?_)
              go_simp
              refine (tset_any Ak nk ck (bk l k) x.p x.h w2 (HL.out.below (below_step HB7.out HBC.out)) (HS7.out.own.reads.below HBC.out) HXO.out.fits (by omega)).mono ?_
              rw [HZS.out.1, HZS.out.2]
              rintro e w3 ⟨A9, n9, c9, rfl, hO9, hb9⟩
              have HBK := Lib.hid (below_step HBC.out hb9)
              have HLT9 := Lib.hid hO9.lt
              have HBA9 := Lib.hid hO9.base_
              have HO9 := Lib.hid (hO9.lower HBC.out.size)
              try replace HZ9 := Lib.hid (blk_below HZ9.out hb9)
              clear hO9 hb9
              refine hK _ _ ⟨HBK.out, ?_⟩
              clear hK K
              iterate 3 (refine wpO_step0 rfl rfl (fun K hK => ?_); go_simp; refine hK _ _ ?_; clear hK K)
              refine wpO_step2 rfl rfl (HBK.out) (fun K hK => ?_)
              rw [if_pos (show Region.wanted _ _ = true from rfl)]
              refine oper_store_blk HZ9.out 39 0 (tabV A9 n9 c9) (Nat.le_refl _) (info_tab _ _ _) (tab_one _ _ _) _ _ rfl rfl rfl ?_
              intro w4 hg9 hs9 hb9
              rw [splice_tab] at hb9
              have HBL := Lib.hid (below_grown HBK.out hg9 (by have h2 := HBC.out.size; omega))
              have HNE9 : Hid (∀ ad, A9 = some ad → ad.block ≠ w7.heap.size) := Lib.hid (fun ad e => by first | (have := HLT9.out ad e; omega) | (have := HBA9.out ad e; have h3 := blk_lt HZ9.out; omega))
              replace HO9 := Lib.hid (HO9.out.grown hg9 (fun ad e h => by injection h with h; exact HNE9.out ad e h))
              replace HZ9 := Lib.hid hb9
              clear hg9 hs9 hb9
              refine hK _ _ ⟨HBL.out, ?_⟩
              clear hK K
              iterate 1 (refine wpO_step0 rfl rfl (fun K hK => ?_); go_simp; refine hK _ _ ?_; clear hK K)
              refine wpO_nil ?_
              go_wp2_with fail
              go_meet
              exact ⟨w7.heap.size, A9, n9, c9, rfl, rfl, HZ9.out, HO9.out, HNE9.out, HBL.out⟩
          case rest =>
            obtain ⟨g9, A9, n9, c9, rfl, rfl, HC⟩ := hcut
            obtain ⟨w9, rfl⟩ : ∃ w9, w9 = wc := ⟨wc, rfl⟩
            have HB79 := Lib.hid HC.out.2.2.2
            have HC5 := Lib.hid (blk_below HS7.out.cell HC.out.2.2.2)
            have HO9 := Lib.hid HC.out.2.1
            have HG9 := Lib.hid HC.out.1
            have HG5 := Lib.hid (blk_lt HS7.out.cell)
            have HSB9 := Lib.hid (below_step HS7.out.bel HC.out.2.2.2)
            have HGL := Lib.hid HS7.out.gle
            have HSZ := Lib.hid HS7.out.bel.size
            clear HC HZS
            go_wp2_with (first | ((with_reducible show wpList _ _ _ (Oper.mk _ (Op.load _ _) _ _ _ _ :: _) _ _); refine wpList_load_g (load_tab HG9.out) _ rfl rfl (by go_simp) ?_) | ((with_reducible show wpList _ _ _ (Oper.mk _ (Op.store _ _ _) _ _ _ _ :: _) _ _); refine wpList_store_blk HC5.out 39 0 (tabV A9 n9 c9) (Nat.le_refl _) (info_tab _ _ _) (tab_one _ _ _) _ _ rfl rfl rfl rfl ?_; intro w10 hg9 hs9 hb9; rw [splice_tab] at hb9; have H10 := Lib.hid (And.intro hg9 hb9); clear hg9 hs9 hb9))
            go_roundw
            case measure => simp [intOf]; omega
            case rel => exact ⟨k + 1, A9, n9, c9, by go_num, by omega, ⟨(HO9.out.grown H10.out.1 (fun ad e h => by have h1 := HO9.out.base_ ad e; have h2 := HG5.out; injection h with h; omega)).lower HSZ.out, H10.out.2, below_grown HSB9.out H10.out.1 HGL.out, HGL.out⟩⟩
      · have hlt' : decide (k < n) = false := decide_eq_false hlt
        have hkl : k = l.length := by rw [HR.out.len]; have := HI.out.1; omega
        have HN : Hid (bk l k = bestT l) := Lib.hid (by rw [hkl, bk_all])
        clear hlt hkl
        go_wp2_with (first | ((with_reducible show wpList _ _ _ (Oper.mk _ (Op.load _ _) _ _ _ _ :: _) _ _); refine wpList_load_g (load_tab HI.out.2.cell) _ rfl rfl (by go_simp) ?_) | ((with_reducible show wpList _ _ _ (Oper.mk _ (Op.store _ _ _) _ _ _ _ :: _) _ _); refine wpList_store_blk (blk_below HZ2.out HI.out.2.bel) 39 0 (tabV Ak nk ck) (Nat.le_refl _) (info_tab _ _ _) (tab_one _ _ _) _ _ rfl rfl rfl rfl ?_; intro w9 hg9 hs9 hb9; rw [splice_tab] at hb9; have H9 := Lib.hid (And.intro hg9 hb9); clear hg9 hs9 hb9))
        refine bodyPost_ret (results_c2 rfl rfl (load_tab H9.out.2)) rfl ?_
        rw [HE.out.1, HE.out.2, ← HN.out]
        refine ⟨Ak, nk, ck, rfl, (HI.out.2.own.grown H9.out.1 (fun ad e h => ?_)).lower (by have := HS2.out; omega), below_grown (below_step HBE.out HBK.out) H9.out.1 HZL.out⟩
        have h1 := HI.out.2.own.base_ ad e
        have h2 := HS2.out
        injection h with h
        omega
end Go.Proofs.YtnpeedmicjeleaaDoor

/- Layer 11 (route): the law's eight, over, own, wakes. -/
namespace Go.Proofs.YtnpeedmicjeleaaDoor
open Go.RowKit
set_option linter.unusedVariables false
set_option linter.unusedSimpArgs false
set_option maxRecDepth 4000
theorem eight11_any (w : World) : Calls Tryd.prog 40 #[] w fun e w' => e = .returned (.agg (pfxV 4 ten8 8)) ∧ Below w.heap.size w w' := by
  have hz := blk_new w (.cells (pfxV 0 zero16 0) 49)
  go_enter Tryd.func40, Tryd.ntmps40
  go_wp2_with (refine wpList_store_blk hz 49 0 (pfxV 4 ten8 8) (store_pfx_fit rfl rfl) (info_pfx rfl) (pfx_one _ _ _) _ _ rfl rfl rfl rfl ?_; intro w9 hg9 hs9 hb9; rw [splice_pfx _ _ _ ten8 rfl rfl] at hb9; have H9 := Lib.hid (And.intro hg9 hb9); clear hg9 hs9 hb9)
  have hld := ((pfx_at ten8_B H9.out.2).all _ (Below.refl _ _)).2.2.2.2
  refine bodyPost_ret (results_c1 rfl rfl hld) rfl ⟨rfl, below_grown (below_alloc (Below.refl _ _) _) H9.out.1 (Nat.le_refl _)⟩
theorem built_upd (p : Pfx) (s f h : Int) (hl : p.l.length = 16) : Tryd.prog.built 75 [(0, .agg (pfxV p.v p.l p.b)), (1, .int .i64 s), (3, .int .i64 f), (4, .int .i64 h)] = some (updV ⟨p, s, false, f, h⟩) := by
  obtain ⟨a, b, c, d, e, f, g, h1, i, j, k, m, n, o, q, r, hh⟩ := len16 hl
  obtain ⟨v, l, x⟩ := p
  simp only at hh
  subst hh
  kernel_rfl
theorem run_build_upd (w : World) (p : Pfx) (s f h : Int) (hl : p.l.length = 16) : (Instr.build 75 #[(0, .agg (pfxV p.v p.l p.b)), (1, .int .i64 s), (3, .int .i64 f), (4, .int .i64 h)]).run Tryd.prog w = .ok (.agg (updV ⟨p, s, false, f, h⟩)) w := run_build w _ _ _ (built_upd p s f h hl)
theorem built_updg (p : Pfx) (s : Int) (g : Bool) (hl : p.l.length = 16) : Tryd.prog.built 75 [(0, .agg (pfxV p.v p.l p.b)), (1, .int .i64 s), (2, .bool g)] = some (updV ⟨p, s, g, 0, 0⟩) := by
  obtain ⟨a, b, c, d, e, f, g, h1, i, j, k, m, n, o, q, r, hh⟩ := len16 hl
  obtain ⟨v, l, x⟩ := p
  simp only at hh
  subst hh
  kernel_rfl
theorem run_build_updg (w : World) (p : Pfx) (s : Int) (g : Bool) (hl : p.l.length = 16) : (Instr.build 75 #[(0, .agg (pfxV p.v p.l p.b)), (1, .int .i64 s), (2, .bool g)]).run Tryd.prog w = .ok (.agg (updV ⟨p, s, g, 0, 0⟩)) w := run_build w _ _ _ (built_updg p s g hl)
theorem run_build_bat (w : World) (A : Option Addr) (n c : Nat) : (Instr.build 27 #[(0, .slice A n c)]).run Tryd.prog w = .ok (.agg (tabV A n c)) w := run_build w _ _ _ (by kernel_rfl)
theorem over11_any (A : Option Addr) (n c : Nat) (A2 : Option Addr) (m c2 : Nat) (w : World) : Calls Tryd.prog 11 #[.agg (tabV A n c), .agg (tabV A2 m c2)] w fun e w' => e = .returned (.bool (decide (300 < n) || decide (100 < m))) ∧ Below w.heap.size w w' := by
  have hblk1 := blk_new w (.cells (tabV A n c) 24)
  have hbel1 : Below w.heap.size w (w.alloc (.cells (tabV A n c) 24)) := below_alloc (Below.refl _ _) _
  have hblk2 := blk_new (w.alloc (.cells (tabV A n c) 24)) (.cells (tabV A2 m c2) 27)
  have hbel2 : Below w.heap.size w ((w.alloc (.cells (tabV A n c) 24)).alloc (.cells (tabV A2 m c2) 27)) := below_alloc (hbel1) _
  rw [show (w.alloc (.cells (tabV A n c) 24)).heap.size = w.heap.size + 1 by simp] at hblk2
  replace hblk1 := blk_below hblk1 (below_alloc (Below.refl _ _) (.cells (tabV A2 m c2) 27))
  have HP1 := Lib.hid (rib_at hblk1)
  have HBK1 := Lib.hid hblk1
  have HP2 := Lib.hid (bat_at hblk2)
  have HBK2 := Lib.hid hblk2
  have HBE := Lib.hid hbel2
  obtain ⟨cs1, hcs1⟩ : ∃ cs, tabV A n c = cs := ⟨_, rfl⟩
  obtain ⟨cs2, hcs2⟩ : ∃ cs, tabV A2 m c2 = cs := ⟨_, rfl⟩
  simp only [hcs1, hcs2] at HBE HP1 HP2 HBK1 HBK2 ⊢
  have HC1 := Lib.hid hcs1
  have HC2 := Lib.hid hcs2
  clear hcs1 hblk1 hbel1 hcs2 hblk2 hbel2
  go_enter Tryd.func11, Tryd.ntmps11
  by_cases h : 300 < n
  · have hb : decide ((300 : Int) < n) = true := decide_eq_true (by omega)
    have HE : Hid ((decide (300 < n) || decide (100 < m)) = true) := Lib.hid (by rw [decide_eq_true h]; rfl)
    clear h
    go_wp2_with (first | ((with_reducible show wpList _ _ _ (Oper.mk _ (Op.load _ _) _ _ _ _ :: _) _ _); refine wpList_load_g ((HP1.out.all _ (Below.refl _ _)).2) _ rfl rfl (by go_simp) ?_))
    go_ret
    rw [HE.out]
    exact ⟨rfl, HBE.out⟩
  · have hb : decide ((300 : Int) < n) = false := decide_eq_false (by omega)
    have HE : Hid ((decide (300 < n) || decide (100 < m)) = decide ((100 : Int) < m)) := Lib.hid (by rw [decide_eq_false h, Bool.false_or]; congr 1; rw [eq_iff_iff]; omega)
    clear h
    go_wp2_with (first | ((with_reducible show wpList _ _ _ (Oper.mk _ (Op.load _ _) _ _ _ _ :: _) _ _); refine wpList_load_g ((HP1.out.all _ (Below.refl _ _)).2) _ rfl rfl (by go_simp) ?_) | ((with_reducible show wpList _ _ _ (Oper.mk _ (Op.load _ _) _ _ _ _ :: _) _ _); refine wpList_load_g ((HP2.out.all _ (Below.refl _ _)).2) _ rfl rfl (by go_simp) ?_))
    go_ret
    rw [HE.out]
    exact ⟨rfl, HBE.out⟩
def wkP : Pfx := ⟨4, ten8, 8⟩
def wkU1 : Upd := ⟨wkP, 2, false, 5, 7⟩
def wkU2 : Upd := ⟨wkP, 1, false, 5, 9⟩
def wkU3 : Upd := ⟨wkP, 1, true, 0, 0⟩
def wkB1 : List Upd := [wkU1, wkU2]
def wkB2 : List Upd := [wkU3]
def wkR1 : List Rte := appR [] wkB1
def wkR2 : List Rte := appR wkR1 wkB2
theorem wkr1 : appN [] wkB1 = 0 ∧ wkR1.length = 2 ∧ ribE wkR1 = 0 ∧ (bestR wkR1).length = 1 ∧ (rowAt (bestR wkR1) 0).h = 9 := by decide +kernel
theorem wkr2 : appN wkR1 wkB2 = 0 ∧ wkR2.length = 1 ∧ ribE wkR2 = 0 ∧ (bestR wkR2).length = 1 ∧ (rowAt (bestR wkR2) 0).h = 7 := by decide +kernel
theorem wkB1_ok : Oku wkB1 := by
  intro u hu
  simp only [wkB1, List.mem_cons, List.not_mem_nil, or_false] at hu
  rcases hu with rfl | rfl <;> exact ⟨⟨ten8_B, by decide, by decide⟩, by decide, by decide, by decide⟩
theorem wkB2_ok : Oku wkB2 := by
  intro u hu
  simp only [wkB2, List.mem_cons, List.not_mem_nil, or_false] at hu
  subst hu
  exact ⟨⟨ten8_B, by decide, by decide⟩, by decide, by decide, by decide⟩
theorem appR_ok {l : List Rte} {b : List Upd} (ho : Okr l) (hu : Oku b) : Okr (appR l b) := by
  unfold appR
  split
  · rename_i h
    unfold appN at h
    split at h
    · rename_i h1
      split at h
      · split at h
        · rename_i m hm
          rw [hm]
          exact (appL_rok ⟨ho, (rib_to h1).2.1⟩ hu hm).1.ok
        · cases h
      · cases h
    · cases h
  · exact fun r hr => by cases hr
theorem wkR1_ok : Okr wkR1 := appR_ok (fun r hr => by cases hr) wkB1_ok
theorem wkR2_ok : Okr wkR2 := appR_ok wkR1_ok wkB2_ok
set_option maxHeartbeats 4000000 in
set_option maxRecDepth 100000 in
theorem wakes11_any (w : World) (hL : Laid w) : Calls Tryd.prog 10 #[] w fun e w' => e = .returned (.bool true) ∧ Below w.heap.size w w' := by
  have HL := Lib.hid hL
  clear hL
  go_enter Tryd.func10, Tryd.ntmps10
  go_wp2_with (first | ((with_reducible show wpList _ _ _ (Oper.mk _ (Op.build _ _) _ _ _ _ :: _) _ _); refine wpList_exw rfl (exec_build 24 #[] rfl #[] rfl ((run_build_rib_nil _))) ?_))
  refine (eight11_any w).mono ?_
  rintro e w1 ⟨rfl, hb1⟩
  have HB1 := Lib.hid hb1
  clear hb1
  go_wp2_with (first | ((with_reducible show wpList _ _ _ (Oper.mk _ (Op.build 75 _) _ _ _ _ :: _) _ _); refine wpList_exw rfl (exec_build4 rfl rfl rfl rfl rfl (run_build_upd _ wkP 2 5 7 rfl)) ?_))
  refine (eight11_any w1).mono ?_
  rintro e w2 ⟨rfl, hb2⟩
  have HB2 := Lib.hid (below_step HB1.out hb2)
  clear hb2 HB1
  obtain ⟨u1, hu1⟩ : ∃ u : Upd, u = wkU1 := ⟨_, rfl⟩
  obtain ⟨u2, hu2⟩ : ∃ u : Upd, u = wkU2 := ⟨_, rfl⟩
  have HU1 := Lib.hid hu1
  have HU2 := Lib.hid hu2
  have hf1 : u1.fits := by rw [hu1]; exact ten8_B
  have hf2 : u2.fits := by rw [hu2]; exact ten8_B
  clear hu1 hu2
  go_wp2_with (first | ((with_reducible show wpList _ _ _ (Oper.mk _ (Op.build 75 _) _ _ _ _ :: _) _ _); refine wpList_exw rfl (exec_build4 rfl rfl rfl rfl rfl (run_build_upd _ wkP 1 5 9 rfl)) ?_) | ((with_reducible show wpList _ _ _ (Oper.mk _ (Op.buildSlice _ _ _) _ _ _ _ :: _) _ _); refine wpList_exw rfl (exec_lit2 updK (x := .tmp 12) (y := .tmp 14) rfl u1 u2 (by rw [HU1.out]; rfl) (by rw [HU2.out]; rfl) hf1 hf2 (by show 22 ≤ _; omega) _) ?_) | ((with_reducible show wpList _ _ _ (Oper.mk _ (Op.build 27 _) _ _ _ _ :: _) _ _); refine wpList_exw rfl (exec_build1 rfl rfl (run_build_bat _ (some ⟨w2.heap.size, 0, none⟩) 2 2)) ?_))
  obtain ⟨W2, hW2⟩ : ∃ W, w2.alloc (.cells (updK.cells [u1, u2]).toArray updK.t) = W := ⟨_, rfl⟩
  have HV2 : Hid (RS updK W2 (some ⟨w2.heap.size, 0, none⟩) 2 2 wkB1) := Lib.hid (by unfold wkB1; rw [← HU1.out, ← HU2.out]; exact hW2 ▸ (OS.two updK w2 0 u1 u2 (Nat.zero_le _) hf1 hf2).reads)
  have HBW : Hid (Below w.heap.size w W2) := Lib.hid (hW2 ▸ below_alloc HB2.out _)
  rw [hW2]
  clear hW2
  have hcall := rapply_any none 0 0 [] (some ⟨w2.heap.size, 0, none⟩) 2 2 wkB1 W2 (HL.out.below HBW.out) (RS.nil _ _ _ _) (fun r hr => by cases hr) (by omega) HV2.out wkB1_ok (by omega)
  refine hcall.mono ?_
  clear hcall
  rw [wkr1.1]
  rintro e w3 ⟨A3, n3, c3, rfl, hO3, hb3⟩
  obtain rfl : 2 = n3 := by rw [← wkr1.2.1]; exact hO3.len
  have HO3 : Hid (RS rteK w3 A3 2 c3 wkR1) := Lib.hid hO3.reads
  have HB3 := Lib.hid (below_step HBW.out hb3)
  clear hO3 hb3 HB2
  go_wp2_with (first | ((with_reducible show wpList _ _ _ (Oper.mk _ (Op.store _ _ _) _ _ _ _ :: _) _ _); refine wpList_store_blk (blk_new w3 (.cells (tabV none 0 0) 24)) 24 0 (tabV A3 2 c3) (Nat.le_refl _) (info_rib _ _ _) (tab_one _ _ _) _ _ rfl rfl rfl rfl ?_; intro w4 hg9 hs9 hb9; rw [splice_tab] at hb9; have H4 := Lib.hid (And.intro hg9 hb9); clear hg9 hs9 hb9) | ((with_reducible show wpList _ _ _ (Oper.mk _ (Op.load _ _) _ _ _ _ :: _) _ _); refine wpList_load_g (load_rib H4.out.2) _ rfl rfl (by go_simp) ?_))
  have HB34 := Lib.hid (below_grown (below_alloc (Below.refl w3.heap.size w3) (.cells (tabV none 0 0) 24)) H4.out.1 (Nat.le_refl _))
  have HB4 := Lib.hid (below_step HB3.out HB34.out)
  have HO4 := Lib.hid (HO3.out.below HB34.out)
  have HG4 := Lib.hid H4.out.2
  obtain ⟨g1, hg1⟩ : ∃ g, w3.heap.size = g := ⟨_, rfl⟩
  rw [hg1] at HG4 ⊢
  clear H4 HB3 HB34 HO3 hg1
  refine (rbest_any A3 2 c3 wkR1 w4 (HL.out.below HB4.out) HO4.out wkR1_ok (by omega)).mono ?_
  rw [wkr1.2.2.1]
  rintro e w5 ⟨A5, n5, c5, rfl, hO5, hb5⟩
  obtain rfl : 1 = n5 := by rw [← wkr1.2.2.2.1]; exact hO5.len
  have HO5 : Hid (RT w5 A5 1 c5 (bestR wkR1)) := Lib.hid hO5.reads
  have HB5 := Lib.hid (below_step HB4.out hb5)
  have HG5 := Lib.hid (blk_below HG4.out hb5)
  have HR5 := Lib.hid (HO4.out.below hb5)
  clear hO5 hb5 HG4 HO4
  go_upto_region 3 with (first | ((with_reducible show wpList _ _ _ (Oper.mk _ (Op.store _ _ _) _ _ _ _ :: _) _ _); refine wpList_store_blk (blk_new w5 (.cells (tabV none 0 0) 39)) 39 0 (tabV A5 1 c5) (Nat.le_refl _) (info_tab _ _ _) (tab_one _ _ _) _ _ rfl rfl rfl rfl ?_; intro w6 hg9 hs9 hb9; rw [splice_tab] at hb9; have H6 := Lib.hid (And.intro hg9 hb9); clear hg9 hs9 hb9))
  have HB56 := Lib.hid (below_grown (below_alloc (Below.refl w5.heap.size w5) (.cells (tabV none 0 0) 39)) H6.out.1 (Nat.le_refl _))
  have HB6 := Lib.hid (below_step HB5.out HB56.out)
  have HG6 := Lib.hid (blk_below HG5.out HB56.out)
  have HR6 := Lib.hid (HR5.out.below HB56.out)
  have HT6 := Lib.hid (HO5.out.below HB56.out)
  have HQ6 := Lib.hid H6.out.2
  obtain ⟨g3, hg3⟩ : ∃ g, w5.heap.size = g := ⟨_, rfl⟩
  rw [hg3] at HQ6 ⊢
  clear H6 HB56 HG5 HR5 HO5 hg3
  try dsimp only [Act.put]
  try go_simp
  go_cut [5, 6] (fun s5 s6 wx => ∃ (g : Nat) (A7 : Option Addr) (c7 : Nat), s5 = .pointer (some ⟨g, 0, none⟩) ∧ s6 = .int .i64 0 ∧ Hid (wx.heap[g]? = some (.cells (tabV A7 1 c7) 24 (0, 0)) ∧ RS rteK wx A7 1 c7 wkR2 ∧ Below w6.heap.size w6 wx))
  case first =>
    have HBD := Lib.hid (below_drew1 w6)
    refine wp_region_fork ((fun w0 => Below w6.heap.size w6 w0)) (OrdT.fork [0] 1 9 (OrdT.fork [2] 3 9 (OrdT.fork [4] 5 9 (OrdT.lin [6, 7, 8, 9, 10, 11]) (OrdT.lin [5, 6, 7, 8, 10, 11])) (OrdT.lin [3, 4, 5, 6, 7, 8, 10, 11])) (OrdT.lin [1, 2, 3, 4, 5, 6, 7, 8, 10, 11])) [(0, 0), (1, 2), (2, 0), (3, 2), (4, 0), (5, 2), (6, 0), (7, 0), (8, 0), (9, 2), (10, 2), (11, 0)] (by kernel_rfl) (by kernel_rfl) ((below_drew1 _)) ?_
    simp only [wpF]
    refine wpO_loadW (t := 24) (ad := ⟨g1, 0, none⟩) rfl rfl ?hw rfl rfl ((fun w0 hS => load_rib (blk_below HG6.out hS))) ?_
    case hw => go_simp
    refine wpO_nil ⟨?_, ?_⟩
    · refine wpO_step2 rfl rfl (HBD.out) (fun K hK => ?_)
      go_simp
      refine (eight11_any _).mono ?_
      rintro e w21 ⟨rfl, hb9⟩
      have hsz1 := hb9.size
      have HBC := Lib.hid (below_step HBD.out hb9)
      try replace HZ9 := Lib.hid (blk_below HZ9.out hb9)
      clear hb9
      refine hK _ _ ⟨HBC.out, ?_⟩
      clear hK K
      refine wpO_nil ?_
      refine wpO_step0 rfl rfl (fun K hK => ?_)
      rw [if_pos (show Region.wanted _ _ = true from rfl)]
      refine ⟨_, fun w0 => exec_build3 rfl rfl rfl rfl (run_build_updg w0 wkP 1 true rfl), hK _ _ ?_⟩
      clear hK K
      refine wpO_nil ⟨?_, ?_⟩
      · refine wpO_step2 rfl rfl (HBC.out) (fun K hK => ?_)
        rw [if_pos (show Region.wanted _ _ = true from rfl)]
        refine oper_exec (exec_lit1 updK (x := .tmp 28) rfl wkU3 rfl ten8_B (by show 22 ≤ _; omega) _) ?_
        obtain ⟨w22, hw9⟩ : ∃ w9, World.alloc w21 (.cells (updK.enc wkU3).toArray updK.t) = w9 := ⟨_, rfl⟩
        have HLV : Hid (RS updK w22 (some ⟨(World.heap w21).size, 0, none⟩) 1 1 wkB2) := Lib.hid (hw9 ▸ (OS.one updK w21 0 wkU3 (Nat.zero_le _) ten8_B).reads)
        have ha9 : Below (World.heap w21).size w21 w22 := hw9 ▸ below_alloc (Below.refl _ _) _
        have HBK := Lib.hid (below_step HBC.out ha9)
        have hsz2 := ha9.size
        refine kw_cast hw9 ?_
        try replace HZ9 := Lib.hid (blk_below HZ9.out ha9)
        clear hw9 ha9
        refine hK _ _ ⟨HBK.out, ?_⟩
        clear hK K
        obtain ⟨gl, hgl⟩ : ∃ g, (World.heap w21).size = g := ⟨_, rfl⟩
        rw [hgl] at HLV ⊢
        clear hgl
        refine wpO_nil ?_
        refine wpO_step0 rfl rfl (fun K hK => ?_)
        rw [if_pos (show Region.wanted _ _ = true from rfl)]
        refine ⟨_, fun w0 => exec_build1 rfl rfl (run_build_bat w0 (some ⟨gl, 0, none⟩) 1 1), hK _ _ ?_⟩
        clear hK K
        refine wpO_nil ⟨?_, ?_⟩
        · refine wpO_step2 rfl rfl (HBK.out) (fun K hK => ?_)
          go_simp
          refine (rapply_any A3 2 c3 wkR1 (some ⟨gl, 0, none⟩) 1 1 wkB2 w22 (HL.out.below (below_step HB6.out HBK.out)) (HR6.out.below HBK.out) wkR1_ok (by omega) HLV.out wkB2_ok (by omega)).mono ?_
          rw [wkr2.1]
          rintro e w23 ⟨A9, n9, c9, rfl, hO9, hb9⟩
          obtain rfl : 1 = n9 := by rw [← wkr2.2.1]; exact hO9.len
          have HBL := Lib.hid (below_step HBK.out hb9)
          have HLT9 := Lib.hid hO9.lt
          have HBA9 := Lib.hid hO9.base_
          have HO9 : Hid (RS rteK w23 A9 1 c9 wkR2) := Lib.hid hO9.reads
          try replace HZ9 := Lib.hid (blk_below HZ9.out hb9)
          have hszc := hb9.size
          clear hO9 hb9
          refine hK _ _ ⟨HBL.out, ?_⟩
          clear hK K
          refine wpO_nil ?_
          iterate 3 (refine wpO_step0 rfl rfl (fun K hK => ?_); go_simp; refine hK _ _ ?_; clear hK K)
          refine wpO_step2 rfl rfl (HBL.out) (fun K hK => ?_)
          go_simp
          have hz9 := blk_new w23 (.cells (tabV none 0 0) 24)
          obtain ⟨w24, hw9⟩ : ∃ w9, World.alloc w23 (.cells (tabV none 0 0) 24) = w9 := ⟨_, rfl⟩
          have ha9 : Below (World.heap w23).size w23 w24 := hw9 ▸ below_alloc (Below.refl _ _) _
          have HBM := Lib.hid (below_step HBL.out ha9)
          refine kw_cast hw9 ?_
          rw [hw9] at hz9
          have hzl9 := blk_lt hz9
          have HZ9 := Lib.hid hz9
          try replace HCP := Lib.hid (HCP.out.below ha9)
          try replace HO9 := Lib.hid (HO9.out.below ha9)
          try replace HLV := Lib.hid (HLV.out.below ha9)
          clear hw9 hz9 ha9
          refine hK _ _ ⟨HBM.out, ?_⟩
          clear hK K
          refine wpO_step2 rfl rfl (HBM.out) (fun K hK => ?_)
          rw [if_pos (show Region.wanted _ _ = true from rfl)]
          refine oper_store_blk HZ9.out 24 0 (tabV A9 1 c9) (Nat.le_refl _) (info_rib _ _ _) (tab_one _ _ _) _ _ rfl rfl rfl ?_
          intro w25 hg9 hs9 hb9
          rw [splice_tab] at hb9
          have HBN := Lib.hid (below_grown HBM.out hg9 (by have h1 := HBC.out.size; have h2 := HBK.out.size; have h3 := HBL.out.size; omega))
          have HNE9 : Hid (∀ ad, A9 = some ad → ad.block ≠ w23.heap.size) := Lib.hid (fun ad e => by have h1 := HLT9.out ad e; have h2 := HBA9.out ad e; first | omega)
          replace HO9 := Lib.hid (HO9.out.grown hg9 (fun ad e h => by injection h with h; exact HNE9.out ad e h))
          replace HZ9 := Lib.hid hb9
          clear hg9 hs9 hb9
          refine hK _ _ ⟨HBN.out, ?_⟩
          clear hK K
          iterate 1 (refine wpO_step0 rfl rfl (fun K hK => ?_); go_simp; refine hK _ _ ?_; clear hK K)
          refine wpO_nil ?_
          go_wp2_with fail
          go_meet
          exact ⟨w23.heap.size, A9, c9, rfl, rfl, HZ9.out, HO9.out, HBN.out⟩
        · refine wpO_step2 rfl rfl (HBK.out) (fun K hK => ?_)
          go_simp
          have hz9 := blk_new w22 (.cells (tabV none 0 0) 24)
          obtain ⟨w23, hw9⟩ : ∃ w9, World.alloc w22 (.cells (tabV none 0 0) 24) = w9 := ⟨_, rfl⟩
          have ha9 : Below (World.heap w22).size w22 w23 := hw9 ▸ below_alloc (Below.refl _ _) _
          have HBL := Lib.hid (below_step HBK.out ha9)
          refine kw_cast hw9 ?_
          rw [hw9] at hz9
          have hzl9 := blk_lt hz9
          have HZ9 := Lib.hid hz9
          try replace HCP := Lib.hid (HCP.out.below ha9)
          try replace HO9 := Lib.hid (HO9.out.below ha9)
          try replace HLV := Lib.hid (HLV.out.below ha9)
          clear hw9 hz9 ha9
          refine hK _ _ ⟨HBL.out, ?_⟩
          clear hK K
          refine wpO_nil ?_
          refine wpO_step2 rfl rfl (HBL.out) (fun K hK => ?_)
          go_simp
          refine (rapply_any A3 2 c3 wkR1 (some ⟨gl, 0, none⟩) 1 1 wkB2 w23 (HL.out.below (below_step HB6.out HBL.out)) (HR6.out.below HBL.out) wkR1_ok (by omega) HLV.out wkB2_ok (by omega)).mono ?_
          rw [wkr2.1]
          rintro e w24 ⟨A9, n9, c9, rfl, hO9, hb9⟩
          obtain rfl : 1 = n9 := by rw [← wkr2.2.1]; exact hO9.len
          have HBM := Lib.hid (below_step HBL.out hb9)
          have HLT9 := Lib.hid hO9.lt
          have HBA9 := Lib.hid hO9.base_
          have HO9 : Hid (RS rteK w24 A9 1 c9 wkR2) := Lib.hid hO9.reads
          try replace HZ9 := Lib.hid (blk_below HZ9.out hb9)
          have hszc := hb9.size
          clear hO9 hb9
          refine hK _ _ ⟨HBM.out, ?_⟩
          clear hK K
          iterate 3 (refine wpO_step0 rfl rfl (fun K hK => ?_); go_simp; refine hK _ _ ?_; clear hK K)
          refine wpO_step2 rfl rfl (HBM.out) (fun K hK => ?_)
          rw [if_pos (show Region.wanted _ _ = true from rfl)]
          refine oper_store_blk HZ9.out 24 0 (tabV A9 1 c9) (Nat.le_refl _) (info_rib _ _ _) (tab_one _ _ _) _ _ rfl rfl rfl ?_
          intro w25 hg9 hs9 hb9
          rw [splice_tab] at hb9
          have HBN := Lib.hid (below_grown HBM.out hg9 (by have h1 := HBC.out.size; have h2 := HBK.out.size; have h3 := HBL.out.size; omega))
          have HNE9 : Hid (∀ ad, A9 = some ad → ad.block ≠ w22.heap.size) := Lib.hid (fun ad e => by have h1 := HLT9.out ad e; have h2 := HBA9.out ad e; first | omega)
          replace HO9 := Lib.hid (HO9.out.grown hg9 (fun ad e h => by injection h with h; exact HNE9.out ad e h))
          replace HZ9 := Lib.hid hb9
          clear hg9 hs9 hb9
          refine hK _ _ ⟨HBN.out, ?_⟩
          clear hK K
          iterate 1 (refine wpO_step0 rfl rfl (fun K hK => ?_); go_simp; refine hK _ _ ?_; clear hK K)
          refine wpO_nil ?_
          go_wp2_with fail
          go_meet
          exact ⟨w22.heap.size, A9, c9, rfl, rfl, HZ9.out, HO9.out, HBN.out⟩
      · refine wpO_step2 rfl rfl (HBC.out) (fun K hK => ?_)
        go_simp
        have hz9 := blk_new w21 (.cells (tabV none 0 0) 24)
        obtain ⟨w22, hw9⟩ : ∃ w9, World.alloc w21 (.cells (tabV none 0 0) 24) = w9 := ⟨_, rfl⟩
        have ha9 : Below (World.heap w21).size w21 w22 := hw9 ▸ below_alloc (Below.refl _ _) _
        have HBK := Lib.hid (below_step HBC.out ha9)
        refine kw_cast hw9 ?_
        rw [hw9] at hz9
        have hzl9 := blk_lt hz9
        have HZ9 := Lib.hid hz9
        try replace HCP := Lib.hid (HCP.out.below ha9)
        try replace HO9 := Lib.hid (HO9.out.below ha9)
        try replace HLV := Lib.hid (HLV.out.below ha9)
        clear hw9 hz9 ha9
        refine hK _ _ ⟨HBK.out, ?_⟩
        clear hK K
        refine wpO_nil ?_
        refine wpO_step2 rfl rfl (HBK.out) (fun K hK => ?_)
        rw [if_pos (show Region.wanted _ _ = true from rfl)]
        refine oper_exec (exec_lit1 updK (x := .tmp 28) rfl wkU3 rfl ten8_B (by show 22 ≤ _; omega) _) ?_
        obtain ⟨w23, hw9⟩ : ∃ w9, World.alloc w22 (.cells (updK.enc wkU3).toArray updK.t) = w9 := ⟨_, rfl⟩
        have HLV : Hid (RS updK w23 (some ⟨(World.heap w22).size, 0, none⟩) 1 1 wkB2) := Lib.hid (hw9 ▸ (OS.one updK w22 0 wkU3 (Nat.zero_le _) ten8_B).reads)
        have ha9 : Below (World.heap w22).size w22 w23 := hw9 ▸ below_alloc (Below.refl _ _) _
        have HBL := Lib.hid (below_step HBK.out ha9)
        have hsz2 := ha9.size
        refine kw_cast hw9 ?_
        try replace HZ9 := Lib.hid (blk_below HZ9.out ha9)
        clear hw9 ha9
        refine hK _ _ ⟨HBL.out, ?_⟩
        clear hK K
        obtain ⟨gl, hgl⟩ : ∃ g, (World.heap w22).size = g := ⟨_, rfl⟩
        rw [hgl] at HLV ⊢
        clear hgl
        refine wpO_step0 rfl rfl (fun K hK => ?_)
        rw [if_pos (show Region.wanted _ _ = true from rfl)]
        refine ⟨_, fun w0 => exec_build1 rfl rfl (run_build_bat w0 (some ⟨gl, 0, none⟩) 1 1), hK _ _ ?_⟩
        clear hK K
        refine wpO_step2 rfl rfl (HBL.out) (fun K hK => ?_)
        go_simp
        refine (rapply_any A3 2 c3 wkR1 (some ⟨gl, 0, none⟩) 1 1 wkB2 w23 (HL.out.below (below_step HB6.out HBL.out)) (HR6.out.below HBL.out) wkR1_ok (by omega) HLV.out wkB2_ok (by omega)).mono ?_
        rw [wkr2.1]
        rintro e w24 ⟨A9, n9, c9, rfl, hO9, hb9⟩
        obtain rfl : 1 = n9 := by rw [← wkr2.2.1]; exact hO9.len
        have HBM := Lib.hid (below_step HBL.out hb9)
        have HLT9 := Lib.hid hO9.lt
        have HBA9 := Lib.hid hO9.base_
        have HO9 : Hid (RS rteK w24 A9 1 c9 wkR2) := Lib.hid hO9.reads
        try replace HZ9 := Lib.hid (blk_below HZ9.out hb9)
        have hszc := hb9.size
        clear hO9 hb9
        refine hK _ _ ⟨HBM.out, ?_⟩
        clear hK K
        iterate 3 (refine wpO_step0 rfl rfl (fun K hK => ?_); go_simp; refine hK _ _ ?_; clear hK K)
        refine wpO_step2 rfl rfl (HBM.out) (fun K hK => ?_)
        rw [if_pos (show Region.wanted _ _ = true from rfl)]
        refine oper_store_blk HZ9.out 24 0 (tabV A9 1 c9) (Nat.le_refl _) (info_rib _ _ _) (tab_one _ _ _) _ _ rfl rfl rfl ?_
        intro w25 hg9 hs9 hb9
        rw [splice_tab] at hb9
        have HBN := Lib.hid (below_grown HBM.out hg9 (by have h1 := HBC.out.size; have h2 := HBK.out.size; have h3 := HBL.out.size; omega))
        have HNE9 : Hid (∀ ad, A9 = some ad → ad.block ≠ w21.heap.size) := Lib.hid (fun ad e => by have h1 := HLT9.out ad e; have h2 := HBA9.out ad e; first | omega)
        replace HO9 := Lib.hid (HO9.out.grown hg9 (fun ad e h => by injection h with h; exact HNE9.out ad e h))
        replace HZ9 := Lib.hid hb9
        clear hg9 hs9 hb9
        refine hK _ _ ⟨HBN.out, ?_⟩
        clear hK K
        iterate 1 (refine wpO_step0 rfl rfl (fun K hK => ?_); go_simp; refine hK _ _ ?_; clear hK K)
        refine wpO_nil ?_
        go_wp2_with fail
        go_meet
        exact ⟨w21.heap.size, A9, c9, rfl, rfl, HZ9.out, HO9.out, HBN.out⟩
    · refine wpO_step2 rfl rfl (HBD.out) (fun K hK => ?_)
      go_simp
      have hz9 := blk_new w6 (.cells (tabV none 0 0) 24)
      obtain ⟨w21, hw9⟩ : ∃ w9, (World.alloc w6 (.cells (tabV none 0 0) 24)).drew = w9 := ⟨_, rfl⟩
      have ha9 : Below (World.heap w6).size w6 w21 := hw9 ▸ below_step (below_alloc (Below.refl _ _) _) (below_drew1 _)
      have HBC := Lib.hid ha9
      refine kw_cast hw9 ?_
      replace hz9 : (World.heap w21)[(World.heap w6).size]? = some (.cells (tabV none 0 0) 24 (0, 0)) := by rw [← hw9]; exact hz9
      have hzl9 := blk_lt hz9
      have HZ9 := Lib.hid hz9
      clear hw9 hz9 ha9
      refine hK _ _ ⟨HBC.out, ?_⟩
      clear hK K
      refine wpO_nil ?_
      refine wpO_step2 rfl rfl (HBC.out) (fun K hK => ?_)
      go_simp
      refine (eight11_any _).mono ?_
      rintro e w22 ⟨rfl, hb9⟩
      have hsz1 := hb9.size
      have HBK := Lib.hid (below_step HBC.out hb9)
      try replace HZ9 := Lib.hid (blk_below HZ9.out hb9)
      clear hb9
      refine hK _ _ ⟨HBK.out, ?_⟩
      clear hK K
      refine wpO_step0 rfl rfl (fun K hK => ?_)
      rw [if_pos (show Region.wanted _ _ = true from rfl)]
      refine ⟨_, fun w0 => exec_build3 rfl rfl rfl rfl (run_build_updg w0 wkP 1 true rfl), hK _ _ ?_⟩
      clear hK K
      refine wpO_step2 rfl rfl (HBK.out) (fun K hK => ?_)
      rw [if_pos (show Region.wanted _ _ = true from rfl)]
      refine oper_exec (exec_lit1 updK (x := .tmp 28) rfl wkU3 rfl ten8_B (by show 22 ≤ _; omega) _) ?_
      obtain ⟨w23, hw9⟩ : ∃ w9, World.alloc w22 (.cells (updK.enc wkU3).toArray updK.t) = w9 := ⟨_, rfl⟩
      have HLV : Hid (RS updK w23 (some ⟨(World.heap w22).size, 0, none⟩) 1 1 wkB2) := Lib.hid (hw9 ▸ (OS.one updK w22 0 wkU3 (Nat.zero_le _) ten8_B).reads)
      have ha9 : Below (World.heap w22).size w22 w23 := hw9 ▸ below_alloc (Below.refl _ _) _
      have HBL := Lib.hid (below_step HBK.out ha9)
      have hsz2 := ha9.size
      refine kw_cast hw9 ?_
      try replace HZ9 := Lib.hid (blk_below HZ9.out ha9)
      clear hw9 ha9
      refine hK _ _ ⟨HBL.out, ?_⟩
      clear hK K
      obtain ⟨gl, hgl⟩ : ∃ g, (World.heap w22).size = g := ⟨_, rfl⟩
      rw [hgl] at HLV ⊢
      clear hgl
      refine wpO_step0 rfl rfl (fun K hK => ?_)
      rw [if_pos (show Region.wanted _ _ = true from rfl)]
      refine ⟨_, fun w0 => exec_build1 rfl rfl (run_build_bat w0 (some ⟨gl, 0, none⟩) 1 1), hK _ _ ?_⟩
      clear hK K
      refine wpO_step2 rfl rfl (HBL.out) (fun K hK => ?_)
      go_simp
      refine (rapply_any A3 2 c3 wkR1 (some ⟨gl, 0, none⟩) 1 1 wkB2 w23 (HL.out.below (below_step HB6.out HBL.out)) (HR6.out.below HBL.out) wkR1_ok (by omega) HLV.out wkB2_ok (by omega)).mono ?_
      rw [wkr2.1]
      rintro e w24 ⟨A9, n9, c9, rfl, hO9, hb9⟩
      obtain rfl : 1 = n9 := by rw [← wkr2.2.1]; exact hO9.len
      have HBM := Lib.hid (below_step HBL.out hb9)
      have HLT9 := Lib.hid hO9.lt
      have HBA9 := Lib.hid hO9.base_
      have HO9 : Hid (RS rteK w24 A9 1 c9 wkR2) := Lib.hid hO9.reads
      try replace HZ9 := Lib.hid (blk_below HZ9.out hb9)
      have hszc := hb9.size
      clear hO9 hb9
      refine hK _ _ ⟨HBM.out, ?_⟩
      clear hK K
      iterate 3 (refine wpO_step0 rfl rfl (fun K hK => ?_); go_simp; refine hK _ _ ?_; clear hK K)
      refine wpO_step2 rfl rfl (HBM.out) (fun K hK => ?_)
      rw [if_pos (show Region.wanted _ _ = true from rfl)]
      refine oper_store_blk HZ9.out 24 0 (tabV A9 1 c9) (Nat.le_refl _) (info_rib _ _ _) (tab_one _ _ _) _ _ rfl rfl rfl ?_
      intro w25 hg9 hs9 hb9
      rw [splice_tab] at hb9
      have HBN := Lib.hid (below_grown HBM.out hg9 (by have h1 := HBC.out.size; have h2 := HBK.out.size; have h3 := HBL.out.size; omega))
      have HNE9 : Hid (∀ ad, A9 = some ad → ad.block ≠ w6.heap.size) := Lib.hid (fun ad e => by have h1 := HLT9.out ad e; have h2 := HBA9.out ad e; first | omega)
      replace HO9 := Lib.hid (HO9.out.grown hg9 (fun ad e h => by injection h with h; exact HNE9.out ad e h))
      replace HZ9 := Lib.hid hb9
      clear hg9 hs9 hb9
      refine hK _ _ ⟨HBN.out, ?_⟩
      clear hK K
      iterate 1 (refine wpO_step0 rfl rfl (fun K hK => ?_); go_simp; refine hK _ _ ?_; clear hK K)
      refine wpO_nil ?_
      go_wp2_with fail
      go_meet
      exact ⟨w6.heap.size, A9, c9, rfl, rfl, HZ9.out, HO9.out, HBN.out⟩
  case rest =>
    obtain ⟨g5, A7, c7, rfl, rfl, HC⟩ := hcut
    obtain ⟨w7, rfl⟩ : ∃ w7, w7 = wc := ⟨wc, rfl⟩
    have HB67 := Lib.hid HC.out.2.2
    have HB7 := Lib.hid (below_step HB6.out HC.out.2.2)
    have HG7 := Lib.hid HC.out.1
    have HR7 := Lib.hid HC.out.2.1
    have HT7 := Lib.hid (HT6.out.below HB67.out)
    have HQ7 := Lib.hid (blk_below HQ6.out HB67.out)
    clear HC
    go_wp2_with (first | ((with_reducible show wpList _ _ _ (Oper.mk _ (Op.load _ _) _ _ _ _ :: _) _ _); refine wpList_load_g (load_rib HG7.out) _ rfl rfl (by go_simp) ?_))
    refine (rbest_any A7 1 c7 wkR2 w7 (HL.out.below HB7.out) HR7.out wkR2_ok (by omega)).mono ?_
    rw [wkr2.2.2.1]
    rintro e w8 ⟨A8, n8, c8, rfl, hO8, hb8⟩
    obtain rfl : 1 = n8 := by rw [← wkr2.2.2.2.1]; exact hO8.len
    have HO8 : Hid (RT w8 A8 1 c8 (bestR wkR2)) := Lib.hid hO8.reads
    have HB8 := Lib.hid (below_step HB7.out hb8)
    have HT8 := Lib.hid (HT7.out.below hb8)
    have HQ8 := Lib.hid (blk_below HQ7.out hb8)
    clear hO8 hb8
    go_upto_region 5 with (first | ((with_reducible show wpList _ _ _ (Oper.mk _ (Op.store _ _ _) _ _ _ _ :: _) _ _); refine wpList_store_blk (blk_new w8 (.cells (tabV none 0 0) 39)) 39 0 (tabV A8 1 c8) (Nat.le_refl _) (info_tab _ _ _) (tab_one _ _ _) _ _ rfl rfl rfl rfl ?_; intro w9 hg9 hs9 hb9; rw [splice_tab] at hb9; have H9 := Lib.hid (And.intro hg9 hb9); clear hg9 hs9 hb9))
    have HB89 := Lib.hid (below_grown (below_alloc (Below.refl w8.heap.size w8) (.cells (tabV none 0 0) 39)) H9.out.1 (Nat.le_refl _))
    have HT9 := Lib.hid (HT8.out.below HB89.out)
    have HQ9 := Lib.hid (blk_below HQ8.out HB89.out)
    have HO9 := Lib.hid (HO8.out.below HB89.out)
    obtain ⟨b1, o1, rfl, hc1⟩ := RT.at_ HT9.out (by omega)
    obtain ⟨b2, o2, rfl, hc2⟩ := RT.at_ HO9.out (by omega)
    have hl1 := (rowLd_of (RT.fits_at HT9.out (i := 0) (by omega)) (hc1 0 (by omega))).hop
    have hl2 := (rowLd_of (RT.fits_at HO9.out (i := 0) (by omega)) (hc2 0 (by omega))).hop
    rw [wkr1.2.2.2.2] at hl1
    rw [wkr2.2.2.2.2] at hl2
    clear hc1 hc2
    have hq3 := ((tab_at HQ9.out).all _ (Below.refl _ _)).2
    have hq7 := ((tab_at H9.out.2).all _ (Below.refl _ _)).2
    go_wp2_with (first | ((with_reducible show wpList _ _ _ (Oper.mk _ (Op.load _ _) _ _ _ _ :: _) _ _); refine wpList_load_g hq3 _ rfl rfl (by go_simp) ?_) | ((with_reducible show wpList _ _ _ (Oper.mk _ (Op.load _ _) _ _ _ _ :: _) _ _); refine wpList_load_g hq7 _ rfl rfl (by go_simp) ?_) | ((with_reducible show wpList _ _ _ (Oper.mk _ (Op.load _ _) _ _ _ _ :: _) _ _); refine wpList_load_g hl1 _ rfl rfl (by go_simp) ?_) | ((with_reducible show wpList _ _ _ (Oper.mk _ (Op.load _ _) _ _ _ _ :: _) _ _); refine wpList_load_g hl2 _ rfl rfl (by go_simp) ?_))
    go_ret
    exact ⟨rfl, below_step HB8.out HB89.out⟩
end Go.Proofs.YtnpeedmicjeleaaDoor

/- Layer 11 (route): the law's own. -/
namespace Go.Proofs.YtnpeedmicjeleaaDoor
open Go.RowKit
set_option linter.unusedVariables false
set_option linter.unusedSimpArgs false
set_option maxRecDepth 4000
theorem info_bat (A : Option Addr) (n c : Nat) : (Tryd.prog.info? 27).map (·.size) = some (tabV A n c).size := by show _ = some 1; kernel_rfl
theorem load_bat {w : World} {g : Nat} {A : Option Addr} {n c : Nat} (h : w.heap[g]? = some (.cells (tabV A n c) 27 (0, 0))) : (Instr.loadAt 27 (.pointer (some ⟨g, 0, none⟩))).run Tryd.prog w = .ok (.agg (tabV A n c)) w := ((bat_at h).all _ (Below.refl _ _)).1
end Go.Proofs.YtnpeedmicjeleaaDoor

/- Layer 11 (route): DecodeBatch. -/
namespace Go.Proofs.YtnpeedmicjeleaaDoor
open Go.RowKit
set_option linter.unusedVariables false
set_option linter.unusedSimpArgs false
set_option maxRecDepth 4000
def batDE (xs : List Int) : Int := decIE itU 210 batB xs
def batDL (xs : List Int) : List Upd := decIL itU 210 batB xs
theorem itU_okk (ys : List Int) (hy : Bytes ys) (h : (itU ys).1 = 0) : (itU ys).2.1.ok := by
  unfold itU at *
  split at h
  · cases h
  · rename_i h7
    split at h
    · cases h
    · rename_i h0
      have h0' : decPE ys = 0 := by simpa using h0
      split at h
      · cases h
      · rename_i h3
        split at h
        · cases h
        · rename_i h4
          rw [if_neg h7, if_neg h0, if_neg h3, if_neg h4]
          have hb : ∀ i : Int, (Lit.int .i64 (rd ys i)).wf = true := fun i => wf_small (by have := hy.getD i.toNat; show 0 ≤ rd ys i ∧ rd ys i ≤ 1000; unfold rd; omega)
          exact ⟨decP_okk hy h0', hb _, hb _, hb _⟩
theorem run_build_bat_nil (w : World) : (Instr.build 27 #[]).run Tryd.prog w = .ok (.agg (tabV none 0 0)) w := run_build w _ _ _ (by kernel_rfl)
set_option maxHeartbeats 4000000 in
theorem rdecodeb_any (A : Option Addr) (n c : Nat) (xs : List Int) (w : World) (hL : Laid w) (hr : RB w A n c xs) (hn : n ≤ 100000) :
    Calls Tryd.prog 37 #[.slice A n c] w fun e w' => ∃ A' n' c', e = .returned (.tuple #[.agg (tabV A' n' c'), .int .i64 (batDE xs)]) ∧ OS updK w' w.heap.size A' n' c' (batDL xs) ∧ Below w.heap.size w w' := by
  have hmf : ∀ (fn : Fn) (first cap : Array Value) (w : World), (Instr.makeFunc fn first cap).run Tryd.prog w = .ok (.func fn first cap) w := fun _ _ _ _ => rfl
  have hs0 : (w.alloc (.cells (tabV none 0 0) 27)).heap.size = w.heap.size + 1 := by simp
  obtain ⟨W1, hW1⟩ : ∃ W1, (w.alloc (.cells #[.slice none 0 0] 27)).alloc (.cells #[.slice none 0 0] 27) = W1 := ⟨_, rfl⟩
  have HB1 : Hid (Below w.heap.size w W1) := Lib.hid (hW1 ▸ below_alloc (below_alloc (Below.refl _ _) _) _)
  have HZ1 : Hid (W1.heap[w.heap.size]? = some (.cells (tabV none 0 0) 27 (0, 0))) := Lib.hid (by rw [← hW1]; exact blk_below (blk_new w _) (below_alloc (Below.refl _ _) _))
  have HT1 : Hid (W1.heap[w.heap.size + 1]? = some (.cells (tabV none 0 0) 27 (0, 0))) := Lib.hid (by rw [← hW1, ← hs0]; exact blk_new _ _)
  have HS1 : Hid (W1.heap.size = w.heap.size + 2) := Lib.hid (by rw [← hW1]; simp)
  have HR1 := Lib.hid (hr.below HB1.out)
  have HR := Lib.hid hr
  have HL := Lib.hid hL
  have HBY := Lib.hid hr.range
  clear hr hL hs0
  go_enter Tryd.func37, Tryd.ntmps37
  go_wp2_with fail
  clear hW1
  refine (read11_any 77 (fun _ _ => by simp [go_sem]) #[.pointer (some ⟨w.heap.size + 1, 0, none⟩)] A n c xs 210 W1 (HL.out.below HB1.out) HR1.out hn (DecP updK 27 itU 210 xs w w.heap.size (w.heap.size + 1) (w.heap.size + 3)) ?_ ?_).mono ?_
  · intro E w1 w2 hsz h hg
    have := HS1.out
    exact h.grow hg (by omega) (by omega) (by omega) (by omega)
  · intro lo g w1 hlo hg hrd hb
    have hs := HS1.out
    have hz := blk_below HZ1.out hb
    refine (dec2_any g (w.heap.size + 1) A n c xs w w1 HL.out HR.out hn (below_step HB1.out hb) hrd (by omega) (by omega) (by omega) (by omega) (blk_below HT1.out hb)).mono ?_
    intro e w2 h
    exact DecP.of hs rfl hg hrd.lt hz h
  · rintro e w2 ⟨E, rfl, hP⟩
    have HP := Lib.hid hP
    clear hP
    by_cases hE : E = 0
    · subst hE
      obtain ⟨hE0, hbel, hz2, hex⟩ := HP.out
      obtain ⟨A2, n2, c2, hn2, ht2, ho2⟩ := hex rfl
      have HE0 : Hid (batDE xs = if batB (decIR itU xs).2.1 then 0 else 210) := Lib.hid (endE_ok (by decide) hE0.symm)
      have HBY1 := Lib.hid (decI_all (P := Upd.ok) itU_okk (rd xs 0).toNat [] (xs.drop 1) (HBY.out.drop 1) (fun a h => by cases h))
      have HDL : Hid (batDE xs = 0 → batDL xs = (decIR itU xs).2.1) := Lib.hid (fun h => if_pos h)
      have HDN : Hid (batDE xs ≠ 0 → batDL xs = []) := Lib.hid (fun h => decIL_no h)
      obtain ⟨acc, hacc⟩ : ∃ acc, (decIR itU xs).2.1 = acc := ⟨_, rfl⟩
      have hok : Oku acc := by rw [← hacc]; exact HBY1.out
      rw [hacc] at ho2 HE0 HDL
      have HB2 := Lib.hid hbel
      have HZ2 := Lib.hid hz2
      have HT2 := Lib.hid ht2
      have HO2 := Lib.hid ho2
      have HOK := Lib.hid hok
      clear hE0 hbel hz2 hex ht2 ho2 HP HBY1 hacc hok
      go_wp2_with (first | ((with_reducible show wpList _ _ _ (Oper.mk _ (Op.load _ _) _ _ _ _ :: _) _ _); refine wpList_load_g (load_bat HT2.out) _ rfl rfl (by go_simp) ?_))
      refine (rcheckb_any A2 n2 c2 acc w2 (HL.out.below HB2.out) HO2.out.reads HOK.out (by omega)).mono ?_
      rintro e w3 ⟨rfl, hb3⟩
      have HB3 := Lib.hid (below_step HB2.out hb3)
      have HZ3 := Lib.hid (blk_below HZ2.out hb3)
      have HT3 := Lib.hid (blk_below HT2.out hb3)
      have HO3 := Lib.hid (HO2.out.below hb3)
      clear hb3 HB2 HZ2 HT2 HO2
      cases hrb : batB acc with
      | true =>
        have hE0 : batDE xs = 0 := by rw [HE0.out, hrb]; rfl
        have HE := Lib.hid (And.intro hE0 (HDL.out hE0))
        rw [show batE acc = 0 by unfold batE; rw [hrb]; rfl]
        clear hrb hE0
        go_wp2_with (first | ((with_reducible show wpList _ _ _ (Oper.mk _ (Op.load _ _) _ _ _ _ :: _) _ _); refine wpList_load_g (load_bat HT3.out) _ rfl rfl (by go_simp) ?_) | ((with_reducible show wpList _ _ _ (Oper.mk _ (Op.store _ _ _) _ _ _ _ :: _) _ _); refine wpList_store_blk HZ3.out 27 0 (tabV A2 n2 c2) (Nat.le_refl _) (info_bat _ _ _) (tab_one _ _ _) _ _ rfl rfl rfl rfl ?_; intro w4 hg9 hs9 hb9; rw [splice_tab] at hb9; have H4 := Lib.hid (And.intro hg9 hb9); clear hg9 hs9 hb9))
        refine bodyPost_ret (results_c2 rfl rfl (load_bat H4.out.2)) rfl ?_
        rw [HE.out.1, HE.out.2]
        exact ⟨A2, n2, c2, rfl, (HO3.out.grown H4.out.1 (fun ad e hh => by have := HO3.out.base_ ad e; injection hh with hh; omega)).lower (by omega), below_grown HB3.out H4.out.1 (Nat.le_refl _)⟩
      | false =>
        have hE0 : batDE xs = 210 := by rw [HE0.out, hrb]; rfl
        have HE := Lib.hid (And.intro hE0 (HDN.out (by rw [hE0]; decide)))
        rw [show batE acc = 210 by unfold batE; rw [hrb]; rfl]
        clear hrb hE0
        go_wp2_with (first | ((with_reducible show wpList _ _ _ (Oper.mk _ (Op.build _ _) _ _ _ _ :: _) _ _); refine wpList_exw rfl (exec_build 27 #[] rfl #[] rfl ((run_build_bat_nil _))) ?_) | ((with_reducible show wpList _ _ _ (Oper.mk _ (Op.store _ _ _) _ _ _ _ :: _) _ _); refine wpList_store_blk HZ3.out 27 0 (tabV none 0 0) (Nat.le_refl _) (info_bat _ _ _) (tab_one _ _ _) _ _ rfl rfl rfl rfl ?_; intro w4 hg9 hs9 hb9; rw [splice_tab] at hb9; have H4 := Lib.hid (And.intro hg9 hb9); clear hg9 hs9 hb9))
        refine bodyPost_ret (results_c2 rfl rfl (load_bat H4.out.2)) rfl ?_
        rw [HE.out.1, HE.out.2]
        exact ⟨none, 0, 0, rfl, OS.nil _ _ _, below_grown HB3.out H4.out.1 (Nat.le_refl _)⟩
    · obtain ⟨hE0, hbel, hz2, -⟩ := HP.out
      have hE1 : batDE xs = E := by rw [hE0]; exact endE_no (by decide) (by rw [← hE0]; exact hE)
      have HE : Hid (batDE xs = E ∧ batDL xs = []) := Lib.hid ⟨hE1, decIL_no (by show batDE xs ≠ 0; rw [hE1]; exact hE)⟩
      have HB2 := Lib.hid hbel
      have HZ2 := Lib.hid hz2
      have hEb : (E == 0) = false := by simpa using hE
      have hEn : (E != 0) = true := by simpa using hE
      clear hE0 hbel hz2 hE1 HP hE
      go_wp2_with (first | ((with_reducible show wpList _ _ _ (Oper.mk _ (Op.build _ _) _ _ _ _ :: _) _ _); refine wpList_exw rfl (exec_build 27 #[] rfl #[] rfl ((run_build_bat_nil _))) ?_) | ((with_reducible show wpList _ _ _ (Oper.mk _ (Op.store _ _ _) _ _ _ _ :: _) _ _); refine wpList_store_blk HZ2.out 27 0 (tabV none 0 0) (Nat.le_refl _) (info_bat _ _ _) (tab_one _ _ _) _ _ rfl rfl rfl rfl ?_; intro w4 hg9 hs9 hb9; rw [splice_tab] at hb9; have H4 := Lib.hid (And.intro hg9 hb9); clear hg9 hs9 hb9))
      refine bodyPost_ret (results_c2 rfl rfl (load_bat H4.out.2)) rfl ?_
      rw [HE.out.1, HE.out.2]
      exact ⟨none, 0, 0, rfl, OS.nil _ _ _, below_grown HB2.out H4.out.1 (Nat.le_refl _)⟩
end Go.Proofs.YtnpeedmicjeleaaDoor

/- Layer 11 (route): the document's Apply. -/
namespace Go.Proofs.YtnpeedmicjeleaaDoor
open Go.RowKit
set_option linter.unusedVariables false
set_option linter.unusedSimpArgs false
set_option maxRecDepth 4000
end Go.Proofs.YtnpeedmicjeleaaDoor

/- Layer 11 (route): the law RouteApplies. -/
namespace Go.Proofs.YtnpeedmicjeleaaDoor
open Go.RowKit
set_option linter.unusedVariables false
set_option linter.unusedSimpArgs false
set_option maxRecDepth 4000
theorem eqL_self {α : Type} {S : Shape α} (E : ShapeEq S) (l : List α) : E.eqL l l = true := (ShapeEq.eqL_iff E l l).2 rfl
end Go.Proofs.YtnpeedmicjeleaaDoor

/- Layer 11 (route): lay, and the closures of Encode and EncodeBatch. -/
namespace Go.Proofs.YtnpeedmicjeleaaDoor
open Go.RowKit
set_option linter.unusedVariables false
set_option linter.unusedSimpArgs false
set_option maxRecDepth 4000
/-- What stays where bytes have been put behind a slice of one's own. -/
structure LayK (w w' : World) (A : Option Addr) : Prop where
  bel : ∀ w0, Below w0.heap.size w0 w → (∀ ad, A = some ad → w0.heap.size ≤ ad.block) → Below w0.heap.size w0 w'
  blk : ∀ g o, w.heap[g]? = some o → (∀ ad, A = some ad → ad.block ≠ g) → w'.heap[g]? = some o
  size : w.heap.size ≤ w'.heap.size
theorem LayK.of {w w1 w2 : World} {A : Option Addr} {n c : Nat} (hb : Below w.heap.size w w1) (hg : w1.grownBy w2 ((Value.slice A n c).ownBlock)) : LayK w w2 A :=
  ⟨fun w0 h ha => below_own (below_step h hb) hg ha, fun g o h hne => blk_ownN (blk_below h hb) hg hne, Nat.le_trans hb.size hg.size⟩
theorem rb_blk {w : World} {g : Nat} {t : TypeId} {xs : List Int} (h : w.heap[g]? = some (.cells (nums .u8 xs).toArray t (0, 0))) (hn : xs.length ≤ 1000) (hx : Bytes xs) : RB w (some ⟨g, 0, none⟩) xs.length xs.length xs :=
  ⟨⟨by rw [nums_length]; omega, Nat.le_refl _, by omega, fun _ => ⟨_, rfl, fun j v hj => by
    rw [add_plain, blk_cell h]
    simpa using hj⟩⟩, hx⟩
theorem encPE_len {p : Pfx} (hp : B16 p.l) : (encPE p).length ≤ 18 := by
  unfold encPE
  split
  · rename_i h
    obtain ⟨b, hb, _, h2⟩ := right_b h
    have h1 := fullB_le h2
    rw [encP_len hp h, hb]
    omega
  · simp
set_option maxHeartbeats 1000000 in
theorem lay_any (p : Pfx) (A : Option Addr) (n c : Nat) (xs : List Int) (base : Nat) (w : World) (hL : Laid w) (hp : B16 p.l) (ho : OB w base A n c xs) (hbs : base ≤ w.heap.size) (hn : n ≤ 100000) :
    Calls Tryd.prog 67 #[.slice A n c, .agg (pfxV p.v p.l p.b)] w fun e w' => ∃ A' n' c', e = .returned (.slice A' n' c') ∧ OB w' base A' n' c' (xs ++ encPE p) ∧ n' ≤ n + 18 ∧ (A' = A ∨ ∀ ad, A' = some ad → w.heap.size ≤ ad.block) ∧ LayK w w' A := by
  have hblk1 := blk_new w (.cells (pfxV p.v p.l p.b) 49)
  have hbel1 : Below w.heap.size w (w.alloc (.cells (pfxV p.v p.l p.b) 49)) := below_alloc (Below.refl _ _) _
  have HP1 := Lib.hid (pfx_at hp hblk1)
  have HBK1 := Lib.hid hblk1
  have HBE := Lib.hid hbel1
  have HL := Lib.hid (hL.below HBE.out)
  obtain ⟨cs1, hcs1⟩ : ∃ cs, pfxV p.v p.l p.b = cs := ⟨_, rfl⟩
  simp only [hcs1] at HBE HL HP1 HBK1 ⊢
  have HC1 := Lib.hid hcs1
  clear hL hcs1 hblk1 hbel1
  have HO := Lib.hid (ho.below HBE.out)
  clear ho
  go_enter Tryd.func67, Tryd.ntmps67
  go_wp2_with (first | ((with_reducible show wpList _ _ _ (Oper.mk _ (Op.load _ _) _ _ _ _ :: _) _ _); refine wpList_load_g ((HP1.out.all _ (Below.refl _ _)).2.2.2.2) _ rfl rfl (by go_simp) ?_))
  refine (encode_any p _ HL.out hp).mono ?_
  rintro e w2 ⟨A2, n2, c2, rfl, hO2, hb2⟩
  have hn2 : n2 ≤ 18 := by rw [← hO2.len]; exact encPE_len hp
  have HO2 := Lib.hid hO2.reads
  have HB2 := Lib.hid (below_step HBE.out hb2)
  have HO3 := Lib.hid (HO.out.below hb2)
  have hs2 : base ≤ w2.heap.size := Nat.le_trans hbs HB2.out.size
  clear hO2 hb2 HO
  go_wp2_with (first | (at_builtin; refine wpList_append_bytes rfl (.tmp 12) (.tmp 13) rfl rfl rfl HO3.out HO2.out hs2 (by omega) ?_; intro A3 c3 w3 h1 h2 h3; have H3 := Lib.hid (And.intro h1 (And.intro h2 h3)); clear h1 h2 h3))
  go_ret
  refine ⟨A3, n + n2, c3, rfl, H3.out.1, by omega, ?_, LayK.of HB2.out H3.out.2.1⟩
  rcases H3.out.2.2 with h | h
  · exact .inl h
  · exact .inr (fun ad e => Nat.le_trans HB2.out.size (h ad e))
theorem LayK.step {w w1 w2 : World} {A : Option Addr} (h : LayK w w1 A) (hb : Below w1.heap.size w1 w2) : LayK w w2 A :=
  ⟨fun w0 h0 ha => below_step (h.bel w0 h0 ha) hb, fun g o hg hne => blk_below (h.blk g o hg hne) hb, Nat.le_trans h.size hb.size⟩
theorem LayK.pre {w w1 w2 : World} {A : Option Addr} (hb : Below w.heap.size w w1) (h : LayK w1 w2 A) : LayK w w2 A :=
  ⟨fun w0 h0 ha => h.bel w0 (below_step h0 hb) ha, fun g o hg hne => h.blk g o (blk_below hg hb) hne, Nat.le_trans hb.size h.size⟩
theorem LayK.app {w w1 w2 : World} {A A2 : Option Addr} {n c : Nat} (h : LayK w w1 A) (ha : A2 = A ∨ ∀ ad, A2 = some ad → w.heap.size ≤ ad.block) (hg : w1.grownBy w2 ((Value.slice A2 n c).ownBlock)) : LayK w w2 A := by
  refine ⟨fun w0 h0 hA => below_own (h.bel w0 h0 hA) hg (fun ad e => ?_), fun g o hgo hne => blk_ownN (h.blk g o hgo hne) hg (fun ad e => ?_), Nat.le_trans h.size hg.size⟩
  · rcases ha with k | k
    · exact hA ad (k ▸ e)
    · exact Nat.le_trans h0.size (k ad e)
  · rcases ha with k | k
    · exact hne ad (k ▸ e)
    · have h1 := k ad e
      have h2 := blk_lt hgo
      omega
theorem LayK.refl (w : World) (A : Option Addr) : LayK w w A := ⟨fun _ h _ => h, fun _ _ h _ => h, Nat.le_refl _⟩
def encRt (x : Rte) : List Int := encPE x.p ++ [x.s % 256, x.f % 256, x.h % 256]
theorem u8w (y : Int) : IntKind.u8.wrap y = y % 256 := by simp [IntKind.wrap, IntKind.bits, IntKind.signed]
set_option maxHeartbeats 2000000 in
theorem enc1_any (x : Rte) (A : Option Addr) (n c : Nat) (xs : List Int) (base : Nat) (w : World) (hL : Laid w) (hx : x.fits) (ho : OB w base A n c xs) (hbs : base ≤ w.heap.size) (hn : n ≤ 100000) :
    Calls Tryd.prog 66 #[.slice A n c, .agg (rteV x)] w fun e w' => ∃ A' n' c', e = .returned (.slice A' n' c') ∧ OB w' base A' n' c' (xs ++ encRt x) ∧ n' ≤ n + 21 ∧ (A' = A ∨ ∀ ad, A' = some ad → w.heap.size ≤ ad.block) ∧ LayK w w' A := by
  have HLT := Lib.hid ho.lt
  have hblk1 := blk_new w (.cells (rteV x) 51)
  have hbel1 : Below w.heap.size w (w.alloc (.cells (rteV x) 51)) := below_alloc (Below.refl _ _) _
  have HP1 := Lib.hid (rte_at hx hblk1)
  have HBK1 := Lib.hid hblk1
  have HBE := Lib.hid hbel1
  have HL := Lib.hid (hL.below HBE.out)
  obtain ⟨cs1, hcs1⟩ : ∃ cs, rteV x = cs := ⟨_, rfl⟩
  simp only [hcs1] at HBE HL HP1 HBK1 ⊢
  have HC1 := Lib.hid hcs1
  clear hL hcs1 hblk1 hbel1
  have HO := Lib.hid ((ho.below HBE.out).below (below_drew1 _))
  have HBD := Lib.hid (below_step HBE.out (below_drew1 _))
  have HS := Lib.hid (show ((w.alloc (.cells cs1 51)).drew).heap[w.heap.size]? = some (.cells (rteV x) 51 (0, 0)) by rw [HC1.out]; exact HBK1.out)
  have hsz : ((w.alloc (.cells cs1 51)).drew).heap.size = w.heap.size + 1 := by simp
  have HM : Hid (Bytes [x.s % 256, x.f % 256, x.h % 256]) := Lib.hid (fun y hy => by
    simp only [List.mem_cons, List.not_mem_nil, or_false] at hy
    rcases hy with rfl | rfl | rfl <;> omega)
  clear ho
  go_enter Tryd.func66, Tryd.ntmps66
  go_wp2_with fail
  refine wp_region_fork ((fun w0 => w0.heap[w.heap.size]? = some (.cells (rteV x) 51 (0, 0)))) (OrdT.fork [0, 1, 2, 4, 5, 6, 7, 8, 9, 10, 11, 12] 3 13 (OrdT.lin [13, 14, 15]) (OrdT.lin [3, 14, 15])) [(0, 0), (1, 0), (2, 0), (3, 2), (4, 0), (5, 0), (6, 0), (7, 0), (8, 0), (9, 0), (10, 0), (11, 0), (12, 0), (13, 2), (14, 2), (15, 0)] (by kernel_rfl) (by kernel_rfl) (HS.out) ?_
  simp only [wpF]
  iterate 2 (refine wpO_step0 rfl rfl (fun K hK => ?_); go_simp; refine hK _ _ ?_; clear hK K)
  refine wpO_loadW (t := 49) (ad := ⟨w.heap.size, 0, none⟩) rfl rfl ?hw rfl rfl ((fun w0 hS => ((rte_at hx hS).all _ (Below.refl _ _)).pfx)) ?_
  case hw => go_simp
  iterate 1 (refine wpO_step0 rfl rfl (fun K hK => ?_); go_simp; refine hK _ _ ?_; clear hK K)
  refine wpO_loadW (t := 3) (ad := ⟨w.heap.size, 18, none⟩) rfl rfl ?hw rfl rfl ((fun w0 hS => ((rte_at hx hS).all _ (Below.refl _ _)).src)) ?_
  case hw => go_simp
  iterate 2 (refine wpO_step0 rfl rfl (fun K hK => ?_); go_simp; refine hK _ _ ?_; clear hK K)
  refine wpO_loadW (t := 3) (ad := ⟨w.heap.size, 19, none⟩) rfl rfl ?hw rfl rfl ((fun w0 hS => ((rte_at hx hS).all _ (Below.refl _ _)).prf)) ?_
  case hw => go_simp
  iterate 2 (refine wpO_step0 rfl rfl (fun K hK => ?_); go_simp; refine hK _ _ ?_; clear hK K)
  refine wpO_loadW (t := 3) (ad := ⟨w.heap.size, 20, none⟩) rfl rfl ?hw rfl rfl ((fun w0 hS => ((rte_at hx hS).all _ (Below.refl _ _)).hop)) ?_
  case hw => go_simp
  iterate 1 (refine wpO_step0 rfl rfl (fun K hK => ?_); go_simp; refine hK _ _ ?_; clear hK K)
  refine wpO_nil ⟨?_, ?_⟩
  · refine wpO_step2 rfl rfl (HS.out) (fun K hK => ?_)
    go_simp
    refine (lay_any x.p A n c xs base _ (HL.out.below (below_drew1 _)) hx HO.out (by omega) hn).mono ?_
    rintro e w2 ⟨A2, n2, c2, rfl, hO2, hn2, hA2, hK2⟩
    have HO2 := Lib.hid hO2
    have HA2 : Hid (A2 = A ∨ ∀ ad, A2 = some ad → w.heap.size + 1 ≤ ad.block) := Lib.hid (hA2.imp id (fun k ad e => Nat.le_trans (by omega) (k ad e)))
    have HK2 := Lib.hid (LayK.pre HBD.out hK2)
    have HS2 := Lib.hid (hK2.blk _ _ HS.out (fun ad e => by have := HLT.out ad e; omega))
    try replace HLB := Lib.hid (hK2.blk _ _ HLB.out (fun ad e => by have := HLT.out ad e; omega))
    have hz2 := hK2.size
    clear hO2 hA2 hK2
    refine hK _ _ ⟨HS2.out, ?_⟩
    clear hK K
    refine wpO_nil ?_
    rw [u8w x.s, u8w x.f, u8w x.h]
    refine wpO_step2 rfl rfl (HS2.out) (fun K hK => ?_)
    go_simp
    obtain ⟨w3, hw9⟩ : ∃ w9, World.alloc w2 (.cells (nums .u8 [x.s % 256, x.f % 256, x.h % 256]).toArray 5) = w9 := ⟨_, rfl⟩
    have HLB := Lib.hid (show (World.heap w3)[(World.heap w2).size]? = some (.cells (nums .u8 [x.s % 256, x.f % 256, x.h % 256]).toArray 5 (0, 0)) from hw9 ▸ blk_new _ _)
    have ha9 : Below (World.heap w2).size w2 w3 := hw9 ▸ below_alloc (Below.refl _ _) _
    have HS3 := Lib.hid (blk_below HS2.out ha9)
    have HB9 := Lib.hid ha9
    refine kw_cast hw9 ?_
    have hz9 := ha9.size
    clear hw9 ha9
    refine hK _ _ ⟨HS3.out, ?_⟩
    clear hK K
    have HO3 := Lib.hid (HO2.out.below HB9.out)
    have HK3 := Lib.hid (LayK.step HK2.out HB9.out)
    refine wpO_step2 rfl rfl (HS3.out) (fun K hK => ?_)
    rw [if_pos (show Region.wanted _ _ = true from rfl)]
    refine oper_append_bytes (.tmp 8) (.tmp 18) rfl rfl rfl HO3.out (rb_blk HLB.out (by simp) HM.out) (by omega) (by simp; omega) ?_
    intro A5 c5 w5 h1 h2 h3
    have HS5 := Lib.hid (blk_ownN HS3.out h2 (fun ad e => by
      rcases HA2.out with k | k
      · have := HLT.out ad (k ▸ e); omega
      · have := k ad e; omega))
    have HK5 := Lib.hid (LayK.app HK3.out (HA2.out.imp id (fun k ad e => Nat.le_of_succ_le (k ad e))) h2)
    have H5 := Lib.hid (And.intro h1 h3)
    clear h1 h2 h3
    refine hK _ _ ⟨HS5.out, ?_⟩
    clear hK K
    iterate 1 (refine wpO_step0 rfl rfl (fun K hK => ?_); go_simp; refine hK _ _ ?_; clear hK K)
    refine wpO_nil ?_
    go_wp2_with fail
    go_ret
    refine ⟨A5, _, c5, rfl, by unfold encRt; rw [← List.append_assoc]; exact H5.out.1, by simp; omega, ?_, HK5.out⟩
    rcases H5.out.2 with h | h
    · rcases HA2.out with k | k
      · exact .inl (h.trans k)
      · exact .inr (fun ad e => by have := k ad (h ▸ e); omega)
    · exact .inr (fun ad e => by have := h ad e; omega)
  · rw [u8w x.s, u8w x.f, u8w x.h]
    refine wpO_step2 rfl rfl (HS.out) (fun K hK => ?_)
    go_simp
    obtain ⟨w2, hw9⟩ : ∃ w9, World.alloc (w.alloc (.cells cs1 51)).drew (.cells (nums .u8 [x.s % 256, x.f % 256, x.h % 256]).toArray 5) = w9 := ⟨_, rfl⟩
    have HLB := Lib.hid (show (World.heap w2)[(World.heap (w.alloc (.cells cs1 51)).drew).size]? = some (.cells (nums .u8 [x.s % 256, x.f % 256, x.h % 256]).toArray 5 (0, 0)) from hw9 ▸ blk_new _ _)
    have ha9 : Below (World.heap (w.alloc (.cells cs1 51)).drew).size (w.alloc (.cells cs1 51)).drew w2 := hw9 ▸ below_alloc (Below.refl _ _) _
    have HS2 := Lib.hid (blk_below HS.out ha9)
    have HB9 := Lib.hid ha9
    refine kw_cast hw9 ?_
    have hz9 := ha9.size
    clear hw9 ha9
    refine hK _ _ ⟨HS2.out, ?_⟩
    clear hK K
    refine wpO_nil ?_
    rw [hsz] at HLB
    have HO3 := Lib.hid (HO.out.below HB9.out)
    have HB2 := Lib.hid (below_step HBD.out HB9.out)
    have HL2 := Lib.hid ((HL.out.below (below_drew1 _)).below HB9.out)
    refine wpO_step2 rfl rfl (HS2.out) (fun K hK => ?_)
    go_simp
    refine (lay_any x.p A n c xs base _ (HL2.out) hx HO3.out (by omega) hn).mono ?_
    rintro e w3 ⟨A2, n2, c2, rfl, hO2, hn2, hA2, hK2⟩
    have HO2 := Lib.hid hO2
    have HA2 : Hid (A2 = A ∨ ∀ ad, A2 = some ad → w.heap.size + 1 ≤ ad.block) := Lib.hid (hA2.imp id (fun k ad e => Nat.le_trans (by omega) (k ad e)))
    have HK3 := Lib.hid (LayK.pre HB2.out hK2)
    have HS3 := Lib.hid (hK2.blk _ _ HS2.out (fun ad e => by have := HLT.out ad e; omega))
    try replace HLB := Lib.hid (hK2.blk _ _ HLB.out (fun ad e => by have := HLT.out ad e; omega))
    have hz2 := hK2.size
    clear hO2 hA2 hK2
    refine hK _ _ ⟨HS3.out, ?_⟩
    clear hK K
    refine wpO_step2 rfl rfl (HS3.out) (fun K hK => ?_)
    rw [if_pos (show Region.wanted _ _ = true from rfl)]
    refine oper_append_bytes (.tmp 8) (.tmp 18) rfl rfl rfl HO2.out (rb_blk HLB.out (by simp) HM.out) (by omega) (by simp; omega) ?_
    intro A5 c5 w5 h1 h2 h3
    have HS5 := Lib.hid (blk_ownN HS3.out h2 (fun ad e => by
      rcases HA2.out with k | k
      · have := HLT.out ad (k ▸ e); omega
      · have := k ad e; omega))
    have HK5 := Lib.hid (LayK.app HK3.out (HA2.out.imp id (fun k ad e => Nat.le_of_succ_le (k ad e))) h2)
    have H5 := Lib.hid (And.intro h1 h3)
    clear h1 h2 h3
    refine hK _ _ ⟨HS5.out, ?_⟩
    clear hK K
    iterate 1 (refine wpO_step0 rfl rfl (fun K hK => ?_); go_simp; refine hK _ _ ?_; clear hK K)
    refine wpO_nil ?_
    go_wp2_with fail
    go_ret
    refine ⟨A5, _, c5, rfl, by unfold encRt; rw [← List.append_assoc]; exact H5.out.1, by simp; omega, ?_, HK5.out⟩
    rcases H5.out.2 with h | h
    · rcases HA2.out with k | k
      · exact .inl (h.trans k)
      · exact .inr (fun ad e => by have := k ad (h ▸ e); omega)
    · exact .inr (fun ad e => by have := h ad e; omega)
def goneB (g : Bool) : Int := if g then 1 else 0
def encUp (x : Upd) : List Int := encPE x.p ++ [x.s % 256, goneB x.g, x.f % 256, x.h % 256]
set_option maxHeartbeats 4000000 in
theorem enc2_any (x : Upd) (A : Option Addr) (n c : Nat) (xs : List Int) (base : Nat) (w : World) (hL : Laid w) (hx : x.fits) (ho : OB w base A n c xs) (hbs : base ≤ w.heap.size) (hn : n ≤ 100000) :
    Calls Tryd.prog 69 #[.slice A n c, .agg (updV x)] w fun e w' => ∃ A' n' c', e = .returned (.slice A' n' c') ∧ OB w' base A' n' c' (xs ++ encUp x) ∧ n' ≤ n + 22 ∧ (A' = A ∨ ∀ ad, A' = some ad → w.heap.size ≤ ad.block) ∧ LayK w w' A := by
  have HLT := Lib.hid ho.lt
  have hblk1 := blk_new w (.cells (updV x) 75)
  have hbel1 : Below w.heap.size w (w.alloc (.cells (updV x) 75)) := below_alloc (Below.refl _ _) _
  have HP1 := Lib.hid (upd_at hx hblk1)
  have HBK1 := Lib.hid hblk1
  have HBE := Lib.hid hbel1
  have HL := Lib.hid (hL.below HBE.out)
  obtain ⟨cs1, hcs1⟩ : ∃ cs, updV x = cs := ⟨_, rfl⟩
  simp only [hcs1] at HBE HL HP1 HBK1 ⊢
  have HC1 := Lib.hid hcs1
  clear hL hcs1 hblk1 hbel1
  have HO := Lib.hid ((ho.below HBE.out).below (below_drew1 _))
  have HBD := Lib.hid (below_step HBE.out (below_drew1 _))
  have HS := Lib.hid (show ((w.alloc (.cells cs1 75)).drew).heap[w.heap.size]? = some (.cells (updV x) 75 (0, 0)) by rw [HC1.out]; exact HBK1.out)
  have hsz : ((w.alloc (.cells cs1 75)).drew).heap.size = w.heap.size + 1 := by simp
  clear ho
  go_enter Tryd.func69, Tryd.ntmps69
  cases hg : x.g with
  | true =>
    have HGB : Hid (goneB x.g = 1) := Lib.hid (by rw [hg]; rfl)
    have HM : Hid (Bytes [x.s % 256, 1, x.f % 256, x.h % 256]) := Lib.hid (fun y hy => by
      simp only [List.mem_cons, List.not_mem_nil, or_false] at hy
      rcases hy with rfl | rfl | rfl | rfl <;> omega)
    have hgl := (HP1.out.all _ (Below.refl _ _)).gon
    rw [hg] at hgl
    clear hg
    go_upto_region 4 with (first | ((with_reducible show wpList _ _ _ (Oper.mk _ (Op.load _ _) _ _ _ _ :: _) _ _); refine wpList_load_g hgl _ rfl rfl (by go_simp) ?_))
    clear hgl
    refine wp_region_fork ((fun w0 => w0.heap[w.heap.size]? = some (.cells (updV x) 75 (0, 0)))) (OrdT.fork [0, 1, 2, 4, 5, 6, 7, 8, 9, 10, 11, 12, 13] 3 14 (OrdT.lin [14, 15, 16]) (OrdT.lin [3, 15, 16])) [(0, 0), (1, 0), (2, 0), (3, 2), (4, 0), (5, 0), (6, 0), (7, 0), (8, 0), (9, 0), (10, 0), (11, 0), (12, 0), (13, 0), (14, 2), (15, 2), (16, 0)] (by kernel_rfl) (by kernel_rfl) (HS.out) ?_
    simp only [wpF]
    iterate 2 (refine wpO_step0 rfl rfl (fun K hK => ?_); go_simp; refine hK _ _ ?_; clear hK K)
    refine wpO_loadW (t := 49) (ad := ⟨w.heap.size, 0, none⟩) rfl rfl ?hw rfl rfl ((fun w0 hS => ((upd_at hx hS).all _ (Below.refl _ _)).pfx)) ?_
    case hw => go_simp
    iterate 1 (refine wpO_step0 rfl rfl (fun K hK => ?_); go_simp; refine hK _ _ ?_; clear hK K)
    refine wpO_loadW (t := 3) (ad := ⟨w.heap.size, 18, none⟩) rfl rfl ?hw rfl rfl ((fun w0 hS => ((upd_at hx hS).all _ (Below.refl _ _)).src)) ?_
    case hw => go_simp
    iterate 3 (refine wpO_step0 rfl rfl (fun K hK => ?_); go_simp; refine hK _ _ ?_; clear hK K)
    refine wpO_loadW (t := 3) (ad := ⟨w.heap.size, 20, none⟩) rfl rfl ?hw rfl rfl ((fun w0 hS => ((upd_at hx hS).all _ (Below.refl _ _)).prf)) ?_
    case hw => go_simp
    iterate 2 (refine wpO_step0 rfl rfl (fun K hK => ?_); go_simp; refine hK _ _ ?_; clear hK K)
    refine wpO_loadW (t := 3) (ad := ⟨w.heap.size, 21, none⟩) rfl rfl ?hw rfl rfl ((fun w0 hS => ((upd_at hx hS).all _ (Below.refl _ _)).hop)) ?_
    case hw => go_simp
    iterate 1 (refine wpO_step0 rfl rfl (fun K hK => ?_); go_simp; refine hK _ _ ?_; clear hK K)
    refine wpO_nil ⟨?_, ?_⟩
    · refine wpO_step2 rfl rfl (HS.out) (fun K hK => ?_)
      go_simp
      refine (lay_any x.p A n c xs base _ (HL.out.below (below_drew1 _)) hx HO.out (by omega) hn).mono ?_
      rintro e w2 ⟨A2, n2, c2, rfl, hO2, hn2, hA2, hK2⟩
      have HO2 := Lib.hid hO2
      have HA2 : Hid (A2 = A ∨ ∀ ad, A2 = some ad → w.heap.size + 1 ≤ ad.block) := Lib.hid (hA2.imp id (fun k ad e => Nat.le_trans (by omega) (k ad e)))
      have HK2 := Lib.hid (LayK.pre HBD.out hK2)
      have HS2 := Lib.hid (hK2.blk _ _ HS.out (fun ad e => by have := HLT.out ad e; omega))
      try replace HLB := Lib.hid (hK2.blk _ _ HLB.out (fun ad e => by have := HLT.out ad e; omega))
      have hz2 := hK2.size
      clear hO2 hA2 hK2
      refine hK _ _ ⟨HS2.out, ?_⟩
      clear hK K
      refine wpO_nil ?_
      rw [u8w x.s, u8w x.f, u8w x.h]
      refine wpO_step2 rfl rfl (HS2.out) (fun K hK => ?_)
      go_simp
      obtain ⟨w3, hw9⟩ : ∃ w9, World.alloc w2 (.cells (nums .u8 [x.s % 256, 1, x.f % 256, x.h % 256]).toArray 5) = w9 := ⟨_, rfl⟩
      have HLB := Lib.hid (show (World.heap w3)[(World.heap w2).size]? = some (.cells (nums .u8 [x.s % 256, 1, x.f % 256, x.h % 256]).toArray 5 (0, 0)) from hw9 ▸ blk_new _ _)
      have ha9 : Below (World.heap w2).size w2 w3 := hw9 ▸ below_alloc (Below.refl _ _) _
      have HS3 := Lib.hid (blk_below HS2.out ha9)
      have HB9 := Lib.hid ha9
      refine kw_cast hw9 ?_
      have hz9 := ha9.size
      clear hw9 ha9
      refine hK _ _ ⟨HS3.out, ?_⟩
      clear hK K
      have HO3 := Lib.hid (HO2.out.below HB9.out)
      have HK3 := Lib.hid (LayK.step HK2.out HB9.out)
      refine wpO_step2 rfl rfl (HS3.out) (fun K hK => ?_)
      rw [if_pos (show Region.wanted _ _ = true from rfl)]
      refine oper_append_bytes (.tmp 11) (.tmp 22) rfl rfl rfl HO3.out (rb_blk HLB.out (by simp) HM.out) (by omega) (by simp; omega) ?_
      intro A5 c5 w5 h1 h2 h3
      have HS5 := Lib.hid (blk_ownN HS3.out h2 (fun ad e => by
        rcases HA2.out with k | k
        · have := HLT.out ad (k ▸ e); omega
        · have := k ad e; omega))
      have HK5 := Lib.hid (LayK.app HK3.out (HA2.out.imp id (fun k ad e => Nat.le_of_succ_le (k ad e))) h2)
      have H5 := Lib.hid (And.intro h1 h3)
      clear h1 h2 h3
      refine hK _ _ ⟨HS5.out, ?_⟩
      clear hK K
      iterate 1 (refine wpO_step0 rfl rfl (fun K hK => ?_); go_simp; refine hK _ _ ?_; clear hK K)
      refine wpO_nil ?_
      go_wp2_with fail
      go_ret
      refine ⟨A5, _, c5, rfl, by unfold encUp; rw [show goneB x.g = 1 from HGB.out]; rw [← List.append_assoc]; exact H5.out.1, by simp; omega, ?_, HK5.out⟩
      rcases H5.out.2 with h | h
      · rcases HA2.out with k | k
        · exact .inl (h.trans k)
        · exact .inr (fun ad e => by have := k ad (h ▸ e); omega)
      · exact .inr (fun ad e => by have := h ad e; omega)
    · rw [u8w x.s, u8w x.f, u8w x.h]
      refine wpO_step2 rfl rfl (HS.out) (fun K hK => ?_)
      go_simp
      obtain ⟨w2, hw9⟩ : ∃ w9, World.alloc (w.alloc (.cells cs1 75)).drew (.cells (nums .u8 [x.s % 256, 1, x.f % 256, x.h % 256]).toArray 5) = w9 := ⟨_, rfl⟩
      have HLB := Lib.hid (show (World.heap w2)[(World.heap (w.alloc (.cells cs1 75)).drew).size]? = some (.cells (nums .u8 [x.s % 256, 1, x.f % 256, x.h % 256]).toArray 5 (0, 0)) from hw9 ▸ blk_new _ _)
      have ha9 : Below (World.heap (w.alloc (.cells cs1 75)).drew).size (w.alloc (.cells cs1 75)).drew w2 := hw9 ▸ below_alloc (Below.refl _ _) _
      have HS2 := Lib.hid (blk_below HS.out ha9)
      have HB9 := Lib.hid ha9
      refine kw_cast hw9 ?_
      have hz9 := ha9.size
      clear hw9 ha9
      refine hK _ _ ⟨HS2.out, ?_⟩
      clear hK K
      refine wpO_nil ?_
      rw [hsz] at HLB
      have HO3 := Lib.hid (HO.out.below HB9.out)
      have HB2 := Lib.hid (below_step HBD.out HB9.out)
      have HL2 := Lib.hid ((HL.out.below (below_drew1 _)).below HB9.out)
      refine wpO_step2 rfl rfl (HS2.out) (fun K hK => ?_)
      go_simp
      refine (lay_any x.p A n c xs base _ (HL2.out) hx HO3.out (by omega) hn).mono ?_
      rintro e w3 ⟨A2, n2, c2, rfl, hO2, hn2, hA2, hK2⟩
      have HO2 := Lib.hid hO2
      have HA2 : Hid (A2 = A ∨ ∀ ad, A2 = some ad → w.heap.size + 1 ≤ ad.block) := Lib.hid (hA2.imp id (fun k ad e => Nat.le_trans (by omega) (k ad e)))
      have HK3 := Lib.hid (LayK.pre HB2.out hK2)
      have HS3 := Lib.hid (hK2.blk _ _ HS2.out (fun ad e => by have := HLT.out ad e; omega))
      try replace HLB := Lib.hid (hK2.blk _ _ HLB.out (fun ad e => by have := HLT.out ad e; omega))
      have hz2 := hK2.size
      clear hO2 hA2 hK2
      refine hK _ _ ⟨HS3.out, ?_⟩
      clear hK K
      refine wpO_step2 rfl rfl (HS3.out) (fun K hK => ?_)
      rw [if_pos (show Region.wanted _ _ = true from rfl)]
      refine oper_append_bytes (.tmp 11) (.tmp 22) rfl rfl rfl HO2.out (rb_blk HLB.out (by simp) HM.out) (by omega) (by simp; omega) ?_
      intro A5 c5 w5 h1 h2 h3
      have HS5 := Lib.hid (blk_ownN HS3.out h2 (fun ad e => by
        rcases HA2.out with k | k
        · have := HLT.out ad (k ▸ e); omega
        · have := k ad e; omega))
      have HK5 := Lib.hid (LayK.app HK3.out (HA2.out.imp id (fun k ad e => Nat.le_of_succ_le (k ad e))) h2)
      have H5 := Lib.hid (And.intro h1 h3)
      clear h1 h2 h3
      refine hK _ _ ⟨HS5.out, ?_⟩
      clear hK K
      iterate 1 (refine wpO_step0 rfl rfl (fun K hK => ?_); go_simp; refine hK _ _ ?_; clear hK K)
      refine wpO_nil ?_
      go_wp2_with fail
      go_ret
      refine ⟨A5, _, c5, rfl, by unfold encUp; rw [show goneB x.g = 1 from HGB.out]; rw [← List.append_assoc]; exact H5.out.1, by simp; omega, ?_, HK5.out⟩
      rcases H5.out.2 with h | h
      · rcases HA2.out with k | k
        · exact .inl (h.trans k)
        · exact .inr (fun ad e => by have := k ad (h ▸ e); omega)
      · exact .inr (fun ad e => by have := h ad e; omega)
  | false =>
    have HGB : Hid (goneB x.g = 0) := Lib.hid (by rw [hg]; rfl)
    have HM : Hid (Bytes [x.s % 256, 0, x.f % 256, x.h % 256]) := Lib.hid (fun y hy => by
      simp only [List.mem_cons, List.not_mem_nil, or_false] at hy
      rcases hy with rfl | rfl | rfl | rfl <;> omega)
    have hgl := (HP1.out.all _ (Below.refl _ _)).gon
    rw [hg] at hgl
    clear hg
    go_upto_region 4 with (first | ((with_reducible show wpList _ _ _ (Oper.mk _ (Op.load _ _) _ _ _ _ :: _) _ _); refine wpList_load_g hgl _ rfl rfl (by go_simp) ?_))
    clear hgl
    refine wp_region_fork ((fun w0 => w0.heap[w.heap.size]? = some (.cells (updV x) 75 (0, 0)))) (OrdT.fork [0, 1, 2, 4, 5, 6, 7, 8, 9, 10, 11, 12, 13] 3 14 (OrdT.lin [14, 15, 16]) (OrdT.lin [3, 15, 16])) [(0, 0), (1, 0), (2, 0), (3, 2), (4, 0), (5, 0), (6, 0), (7, 0), (8, 0), (9, 0), (10, 0), (11, 0), (12, 0), (13, 0), (14, 2), (15, 2), (16, 0)] (by kernel_rfl) (by kernel_rfl) (HS.out) ?_
    simp only [wpF]
    iterate 2 (refine wpO_step0 rfl rfl (fun K hK => ?_); go_simp; refine hK _ _ ?_; clear hK K)
    refine wpO_loadW (t := 49) (ad := ⟨w.heap.size, 0, none⟩) rfl rfl ?hw rfl rfl ((fun w0 hS => ((upd_at hx hS).all _ (Below.refl _ _)).pfx)) ?_
    case hw => go_simp
    iterate 1 (refine wpO_step0 rfl rfl (fun K hK => ?_); go_simp; refine hK _ _ ?_; clear hK K)
    refine wpO_loadW (t := 3) (ad := ⟨w.heap.size, 18, none⟩) rfl rfl ?hw rfl rfl ((fun w0 hS => ((upd_at hx hS).all _ (Below.refl _ _)).src)) ?_
    case hw => go_simp
    iterate 3 (refine wpO_step0 rfl rfl (fun K hK => ?_); go_simp; refine hK _ _ ?_; clear hK K)
    refine wpO_loadW (t := 3) (ad := ⟨w.heap.size, 20, none⟩) rfl rfl ?hw rfl rfl ((fun w0 hS => ((upd_at hx hS).all _ (Below.refl _ _)).prf)) ?_
    case hw => go_simp
    iterate 2 (refine wpO_step0 rfl rfl (fun K hK => ?_); go_simp; refine hK _ _ ?_; clear hK K)
    refine wpO_loadW (t := 3) (ad := ⟨w.heap.size, 21, none⟩) rfl rfl ?hw rfl rfl ((fun w0 hS => ((upd_at hx hS).all _ (Below.refl _ _)).hop)) ?_
    case hw => go_simp
    iterate 1 (refine wpO_step0 rfl rfl (fun K hK => ?_); go_simp; refine hK _ _ ?_; clear hK K)
    refine wpO_nil ⟨?_, ?_⟩
    · refine wpO_step2 rfl rfl (HS.out) (fun K hK => ?_)
      go_simp
      refine (lay_any x.p A n c xs base _ (HL.out.below (below_drew1 _)) hx HO.out (by omega) hn).mono ?_
      rintro e w2 ⟨A2, n2, c2, rfl, hO2, hn2, hA2, hK2⟩
      have HO2 := Lib.hid hO2
      have HA2 : Hid (A2 = A ∨ ∀ ad, A2 = some ad → w.heap.size + 1 ≤ ad.block) := Lib.hid (hA2.imp id (fun k ad e => Nat.le_trans (by omega) (k ad e)))
      have HK2 := Lib.hid (LayK.pre HBD.out hK2)
      have HS2 := Lib.hid (hK2.blk _ _ HS.out (fun ad e => by have := HLT.out ad e; omega))
      try replace HLB := Lib.hid (hK2.blk _ _ HLB.out (fun ad e => by have := HLT.out ad e; omega))
      have hz2 := hK2.size
      clear hO2 hA2 hK2
      refine hK _ _ ⟨HS2.out, ?_⟩
      clear hK K
      refine wpO_nil ?_
      rw [u8w x.s, u8w x.f, u8w x.h]
      refine wpO_step2 rfl rfl (HS2.out) (fun K hK => ?_)
      go_simp
      obtain ⟨w3, hw9⟩ : ∃ w9, World.alloc w2 (.cells (nums .u8 [x.s % 256, 0, x.f % 256, x.h % 256]).toArray 5) = w9 := ⟨_, rfl⟩
      have HLB := Lib.hid (show (World.heap w3)[(World.heap w2).size]? = some (.cells (nums .u8 [x.s % 256, 0, x.f % 256, x.h % 256]).toArray 5 (0, 0)) from hw9 ▸ blk_new _ _)
      have ha9 : Below (World.heap w2).size w2 w3 := hw9 ▸ below_alloc (Below.refl _ _) _
      have HS3 := Lib.hid (blk_below HS2.out ha9)
      have HB9 := Lib.hid ha9
      refine kw_cast hw9 ?_
      have hz9 := ha9.size
      clear hw9 ha9
      refine hK _ _ ⟨HS3.out, ?_⟩
      clear hK K
      have HO3 := Lib.hid (HO2.out.below HB9.out)
      have HK3 := Lib.hid (LayK.step HK2.out HB9.out)
      refine wpO_step2 rfl rfl (HS3.out) (fun K hK => ?_)
      rw [if_pos (show Region.wanted _ _ = true from rfl)]
      refine oper_append_bytes (.tmp 11) (.tmp 22) rfl rfl rfl HO3.out (rb_blk HLB.out (by simp) HM.out) (by omega) (by simp; omega) ?_
      intro A5 c5 w5 h1 h2 h3
      have HS5 := Lib.hid (blk_ownN HS3.out h2 (fun ad e => by
        rcases HA2.out with k | k
        · have := HLT.out ad (k ▸ e); omega
        · have := k ad e; omega))
      have HK5 := Lib.hid (LayK.app HK3.out (HA2.out.imp id (fun k ad e => Nat.le_of_succ_le (k ad e))) h2)
      have H5 := Lib.hid (And.intro h1 h3)
      clear h1 h2 h3
      refine hK _ _ ⟨HS5.out, ?_⟩
      clear hK K
      iterate 1 (refine wpO_step0 rfl rfl (fun K hK => ?_); go_simp; refine hK _ _ ?_; clear hK K)
      refine wpO_nil ?_
      go_wp2_with fail
      go_ret
      refine ⟨A5, _, c5, rfl, by unfold encUp; rw [show goneB x.g = 0 from HGB.out]; rw [← List.append_assoc]; exact H5.out.1, by simp; omega, ?_, HK5.out⟩
      rcases H5.out.2 with h | h
      · rcases HA2.out with k | k
        · exact .inl (h.trans k)
        · exact .inr (fun ad e => by have := k ad (h ▸ e); omega)
      · exact .inr (fun ad e => by have := h ad e; omega)
    · rw [u8w x.s, u8w x.f, u8w x.h]
      refine wpO_step2 rfl rfl (HS.out) (fun K hK => ?_)
      go_simp
      obtain ⟨w2, hw9⟩ : ∃ w9, World.alloc (w.alloc (.cells cs1 75)).drew (.cells (nums .u8 [x.s % 256, 0, x.f % 256, x.h % 256]).toArray 5) = w9 := ⟨_, rfl⟩
      have HLB := Lib.hid (show (World.heap w2)[(World.heap (w.alloc (.cells cs1 75)).drew).size]? = some (.cells (nums .u8 [x.s % 256, 0, x.f % 256, x.h % 256]).toArray 5 (0, 0)) from hw9 ▸ blk_new _ _)
      have ha9 : Below (World.heap (w.alloc (.cells cs1 75)).drew).size (w.alloc (.cells cs1 75)).drew w2 := hw9 ▸ below_alloc (Below.refl _ _) _
      have HS2 := Lib.hid (blk_below HS.out ha9)
      have HB9 := Lib.hid ha9
      refine kw_cast hw9 ?_
      have hz9 := ha9.size
      clear hw9 ha9
      refine hK _ _ ⟨HS2.out, ?_⟩
      clear hK K
      refine wpO_nil ?_
      rw [hsz] at HLB
      have HO3 := Lib.hid (HO.out.below HB9.out)
      have HB2 := Lib.hid (below_step HBD.out HB9.out)
      have HL2 := Lib.hid ((HL.out.below (below_drew1 _)).below HB9.out)
      refine wpO_step2 rfl rfl (HS2.out) (fun K hK => ?_)
      go_simp
      refine (lay_any x.p A n c xs base _ (HL2.out) hx HO3.out (by omega) hn).mono ?_
      rintro e w3 ⟨A2, n2, c2, rfl, hO2, hn2, hA2, hK2⟩
      have HO2 := Lib.hid hO2
      have HA2 : Hid (A2 = A ∨ ∀ ad, A2 = some ad → w.heap.size + 1 ≤ ad.block) := Lib.hid (hA2.imp id (fun k ad e => Nat.le_trans (by omega) (k ad e)))
      have HK3 := Lib.hid (LayK.pre HB2.out hK2)
      have HS3 := Lib.hid (hK2.blk _ _ HS2.out (fun ad e => by have := HLT.out ad e; omega))
      try replace HLB := Lib.hid (hK2.blk _ _ HLB.out (fun ad e => by have := HLT.out ad e; omega))
      have hz2 := hK2.size
      clear hO2 hA2 hK2
      refine hK _ _ ⟨HS3.out, ?_⟩
      clear hK K
      refine wpO_step2 rfl rfl (HS3.out) (fun K hK => ?_)
      rw [if_pos (show Region.wanted _ _ = true from rfl)]
      refine oper_append_bytes (.tmp 11) (.tmp 22) rfl rfl rfl HO2.out (rb_blk HLB.out (by simp) HM.out) (by omega) (by simp; omega) ?_
      intro A5 c5 w5 h1 h2 h3
      have HS5 := Lib.hid (blk_ownN HS3.out h2 (fun ad e => by
        rcases HA2.out with k | k
        · have := HLT.out ad (k ▸ e); omega
        · have := k ad e; omega))
      have HK5 := Lib.hid (LayK.app HK3.out (HA2.out.imp id (fun k ad e => Nat.le_of_succ_le (k ad e))) h2)
      have H5 := Lib.hid (And.intro h1 h3)
      clear h1 h2 h3
      refine hK _ _ ⟨HS5.out, ?_⟩
      clear hK K
      iterate 1 (refine wpO_step0 rfl rfl (fun K hK => ?_); go_simp; refine hK _ _ ?_; clear hK K)
      refine wpO_nil ?_
      go_wp2_with fail
      go_ret
      refine ⟨A5, _, c5, rfl, by unfold encUp; rw [show goneB x.g = 0 from HGB.out]; rw [← List.append_assoc]; exact H5.out.1, by simp; omega, ?_, HK5.out⟩
      rcases H5.out.2 with h | h
      · rcases HA2.out with k | k
        · exact .inl (h.trans k)
        · exact .inr (fun ad e => by have := k ad (h ▸ e); omega)
      · exact .inr (fun ad e => by have := h ad e; omega)
end Go.Proofs.YtnpeedmicjeleaaDoor

/- Layer 11 (route): list, Encode, EncodeBatch. -/
namespace Go.Proofs.YtnpeedmicjeleaaDoor
open Go.RowKit
set_option linter.unusedVariables false
set_option linter.unusedSimpArgs false
set_option maxRecDepth 4000
set_option maxHeartbeats 2000000 in
theorem listq_any (A : Option Addr) (n c : Nat) (l : List Rte) (w : World) (hL : Laid w) (hr : RS rteK w A n c l) (ok : ∀ a ∈ l, a.ok) (hn : n ≤ 200) :
    Calls Tryd.prog 65 #[.slice A n c, .func (Fn.func 66) #[] #[]] w fun e w' => ∃ A' n' c', e = .returned (.slice A' n' c') ∧ OB w' w.heap.size A' n' c' ((n : Int) :: l.flatMap encRt) ∧ n' ≤ 5000 ∧ 1 ≤ n' ∧ Below w.heap.size w w' := by
  have HR := Lib.hid hr
  have OK := Lib.hid ok
  have HL := Lib.hid hL
  have hw8 : IntKind.u8.wrap (n : Int) = n := by rw [u8w]; omega
  have HO0 := Lib.hid (OB.one w (n : Int) (by omega) w.heap.size (Nat.le_refl _))
  clear hr ok hL
  go_enter Tryd.func65, Tryd.ntmps65
  go_wp2_with fail
  go_loopw [5, 14] (fun s5 s14 wr => ∃ (i : Nat) (A1 : Option Addr) (n1 c1 : Nat), s14 = .int .i64 i ∧ s5 = .slice A1 n1 c1 ∧ Hid (i ≤ n ∧ n1 ≤ 1 + 22 * i ∧ 1 ≤ n1 ∧ OB wr w.heap.size A1 n1 c1 ((n : Int) :: (l.take i).flatMap encRt) ∧ Below w.heap.size w wr)) (fun _ y _ => n - (intOf y).toNat)
  case atStart => exact ⟨0, _, 1, 1, rfl, rfl, Nat.zero_le _, by omega, by omega, HO0.out, below_alloc (Below.refl _ _) _⟩
  case round =>
    obtain ⟨i, A1, n1, c1, rfl, rfl, HI⟩ := hrel
    obtain ⟨wk, rfl⟩ : ∃ wk, wk = wr := ⟨wr, rfl⟩
    have hn1 := HI.out.2.1
    by_cases hlt : i < n
    · have hlt' : (i : Int) < n := by omega
      obtain ⟨b, o, rfl, hc⟩ := RS.at_ HR.out (by omega)
      have hil : i < l.length := by rw [HR.out.len]; exact hlt
      have HXO := Lib.hid (OK.out _ (getD_mem (z := (rteK).z) hil))
      have hla := Shape.ld rteK wk b _ _ (RS.fits_at HR.out hlt) ((hc i hlt).below HI.out.2.2.2.2)
      have hla : (Instr.loadAt 51 (.pointer (some ⟨b, o + i * 21, none⟩))).run Tryd.prog wk = .ok (.agg (rteV (l.getD i (rteK).z))) wk := hla
      have HTS : Hid ((l.take (i + 1)).flatMap encRt = (l.take i).flatMap encRt ++ encRt (l.getD i (rteK).z)) := Lib.hid (by rw [take_getD (rteK).z hil]; simp)
      obtain ⟨x, hx⟩ : ∃ x, l.getD i (rteK).z = x := ⟨_, rfl⟩
      rw [hx] at hla HXO HTS
      have HB2f := Lib.hid (fun (W : World) (h : (wk.alloc (.cells (rteV rteZ) 51)).grownBy W (some wk.heap.size)) => below_grown (below_alloc (Below.refl wk.heap.size wk) (.cells (rteV rteZ) 51)) h (Nat.le_refl _))
      clear hc hil hx
      go_wp2_with (first | ((with_reducible show wpList _ _ _ (Oper.mk _ (Op.load _ _) _ _ _ _ :: _) _ _); refine wpList_load_g hla _ rfl rfl (by go_simp) ?_) | ((with_reducible show wpList _ _ _ (Oper.mk _ (Op.store _ _ _) _ _ _ _ :: _) _ _); refine wpList_store_blk (blk_new wk _) 51 0 (rteV x) (store_rte_fit HXO.out.fits rfl) (info_rte HXO.out.fits) (rteV_one _) _ _ rfl rfl rfl rfl ?_; intro w2 hg9 hs9 hb9; rw [splice_rte HXO.out.fits rfl] at hb9; have H2 := Lib.hid (And.intro hg9 hb9); clear hg9 hs9 hb9) | ((with_reducible show wpList _ _ _ (Oper.mk _ (Op.load _ _) _ _ _ _ :: _) _ _); refine wpList_load_g (((rte_at HXO.out.fits H2.out.2).all _ (Below.refl _ _)).all) _ rfl rfl (by go_simp) ?_))
      have HB2 := Lib.hid (HB2f.out _ H2.out.1)
      have HBW := Lib.hid (below_step HI.out.2.2.2.2 HB2.out)
      refine (enc1_any x A1 n1 c1 _ w.heap.size w2 (HL.out.below HBW.out) HXO.out.fits (HI.out.2.2.2.1.below HB2.out) HBW.out.size (by omega)).mono ?_
      rintro e w3 ⟨A3, n3, c3, rfl, hO3, hn3, hA3, hK3⟩
      have HO3 := Lib.hid hO3
      have HB3 := Lib.hid (hK3.bel w HBW.out HI.out.2.2.2.1.base_)
      have HN3 : Hid (n1 ≤ n3) := Lib.hid (by
        have h1 := hO3.len
        have h2 := HI.out.2.2.2.1.len
        rw [List.length_append, h2] at h1
        omega)
      clear hO3 hA3 hK3 hla HB2f H2
      go_wp2_with fail
      go_roundw
      case measure => simp [intOf]; omega
      case rel => exact ⟨i + 1, A3, n3, c3, by go_num, rfl, by omega, by omega, by have h1 := HN3.out; have h2 := HI.out.2.2.1; omega, by rw [HTS.out]; exact HO3.out, HB3.out⟩
    · have hlt' : decide (i < n) = false := decide_eq_false hlt
      have hi : i = l.length := by rw [HR.out.len]; have := HI.out.1; omega
      have HT : Hid (l.take i = l) := Lib.hid (by rw [hi, List.take_length])
      clear hlt hi
      go_wp2_with fail
      go_ret
      refine ⟨A1, n1, c1, rfl, ?_, by have := HI.out.1; omega, HI.out.2.2.1, HI.out.2.2.2.2⟩
      have h := HI.out.2.2.2.1
      rwa [HT.out] at h
set_option maxHeartbeats 2000000 in
theorem listu_any (A : Option Addr) (n c : Nat) (l : List Upd) (w : World) (hL : Laid w) (hr : RS updK w A n c l) (ok : ∀ a ∈ l, a.ok) (hn : n ≤ 200) :
    Calls Tryd.prog 68 #[.slice A n c, .func (Fn.func 69) #[] #[]] w fun e w' => ∃ A' n' c', e = .returned (.slice A' n' c') ∧ OB w' w.heap.size A' n' c' ((n : Int) :: l.flatMap encUp) ∧ n' ≤ 5000 ∧ 1 ≤ n' ∧ Below w.heap.size w w' := by
  have HR := Lib.hid hr
  have OK := Lib.hid ok
  have HL := Lib.hid hL
  have hw8 : IntKind.u8.wrap (n : Int) = n := by rw [u8w]; omega
  have HO0 := Lib.hid (OB.one w (n : Int) (by omega) w.heap.size (Nat.le_refl _))
  clear hr ok hL
  go_enter Tryd.func68, Tryd.ntmps68
  go_wp2_with fail
  go_loopw [5, 14] (fun s5 s14 wr => ∃ (i : Nat) (A1 : Option Addr) (n1 c1 : Nat), s14 = .int .i64 i ∧ s5 = .slice A1 n1 c1 ∧ Hid (i ≤ n ∧ n1 ≤ 1 + 22 * i ∧ 1 ≤ n1 ∧ OB wr w.heap.size A1 n1 c1 ((n : Int) :: (l.take i).flatMap encUp) ∧ Below w.heap.size w wr)) (fun _ y _ => n - (intOf y).toNat)
  case atStart => exact ⟨0, _, 1, 1, rfl, rfl, Nat.zero_le _, by omega, by omega, HO0.out, below_alloc (Below.refl _ _) _⟩
  case round =>
    obtain ⟨i, A1, n1, c1, rfl, rfl, HI⟩ := hrel
    obtain ⟨wk, rfl⟩ : ∃ wk, wk = wr := ⟨wr, rfl⟩
    have hn1 := HI.out.2.1
    by_cases hlt : i < n
    · have hlt' : (i : Int) < n := by omega
      obtain ⟨b, o, rfl, hc⟩ := RS.at_ HR.out (by omega)
      have hil : i < l.length := by rw [HR.out.len]; exact hlt
      have HXO := Lib.hid (OK.out _ (getD_mem (z := (updK).z) hil))
      have hla := Shape.ld updK wk b _ _ (RS.fits_at HR.out hlt) ((hc i hlt).below HI.out.2.2.2.2)
      have hla : (Instr.loadAt 75 (.pointer (some ⟨b, o + i * 22, none⟩))).run Tryd.prog wk = .ok (.agg (updV (l.getD i (updK).z))) wk := hla
      have HTS : Hid ((l.take (i + 1)).flatMap encUp = (l.take i).flatMap encUp ++ encUp (l.getD i (updK).z)) := Lib.hid (by rw [take_getD (updK).z hil]; simp)
      obtain ⟨x, hx⟩ : ∃ x, l.getD i (updK).z = x := ⟨_, rfl⟩
      rw [hx] at hla HXO HTS
      have HB2f := Lib.hid (fun (W : World) (h : (wk.alloc (.cells (updV updZ) 75)).grownBy W (some wk.heap.size)) => below_grown (below_alloc (Below.refl wk.heap.size wk) (.cells (updV updZ) 75)) h (Nat.le_refl _))
      clear hc hil hx
      go_wp2_with (first | ((with_reducible show wpList _ _ _ (Oper.mk _ (Op.load _ _) _ _ _ _ :: _) _ _); refine wpList_load_g hla _ rfl rfl (by go_simp) ?_) | ((with_reducible show wpList _ _ _ (Oper.mk _ (Op.store _ _ _) _ _ _ _ :: _) _ _); refine wpList_store_blk (blk_new wk _) 75 0 (updV x) (store_upd_fit HXO.out.fits rfl) (info_upd HXO.out.fits) (updV_one _) _ _ rfl rfl rfl rfl ?_; intro w2 hg9 hs9 hb9; rw [splice_upd HXO.out.fits rfl] at hb9; have H2 := Lib.hid (And.intro hg9 hb9); clear hg9 hs9 hb9) | ((with_reducible show wpList _ _ _ (Oper.mk _ (Op.load _ _) _ _ _ _ :: _) _ _); refine wpList_load_g (((upd_at HXO.out.fits H2.out.2).all _ (Below.refl _ _)).all) _ rfl rfl (by go_simp) ?_))
      have HB2 := Lib.hid (HB2f.out _ H2.out.1)
      have HBW := Lib.hid (below_step HI.out.2.2.2.2 HB2.out)
      refine (enc2_any x A1 n1 c1 _ w.heap.size w2 (HL.out.below HBW.out) HXO.out.fits (HI.out.2.2.2.1.below HB2.out) HBW.out.size (by omega)).mono ?_
      rintro e w3 ⟨A3, n3, c3, rfl, hO3, hn3, hA3, hK3⟩
      have HO3 := Lib.hid hO3
      have HB3 := Lib.hid (hK3.bel w HBW.out HI.out.2.2.2.1.base_)
      have HN3 : Hid (n1 ≤ n3) := Lib.hid (by
        have h1 := hO3.len
        have h2 := HI.out.2.2.2.1.len
        rw [List.length_append, h2] at h1
        omega)
      clear hO3 hA3 hK3 hla HB2f H2
      go_wp2_with fail
      go_roundw
      case measure => simp [intOf]; omega
      case rel => exact ⟨i + 1, A3, n3, c3, by go_num, rfl, by omega, by omega, by have h1 := HN3.out; have h2 := HI.out.2.2.1; omega, by rw [HTS.out]; exact HO3.out, HB3.out⟩
    · have hlt' : decide (i < n) = false := decide_eq_false hlt
      have hi : i = l.length := by rw [HR.out.len]; have := HI.out.1; omega
      have HT : Hid (l.take i = l) := Lib.hid (by rw [hi, List.take_length])
      clear hlt hi
      go_wp2_with fail
      go_ret
      refine ⟨A1, n1, c1, rfl, ?_, by have := HI.out.1; omega, HI.out.2.2.1, HI.out.2.2.2.2⟩
      have h := HI.out.2.2.2.1
      rwa [HT.out] at h
def encRib (l : List Rte) : List Int := if ribB l then (l.length : Int) :: l.flatMap encRt else []
def encBat (l : List Upd) : List Int := if batB l then (l.length : Int) :: l.flatMap encUp else []
set_option maxHeartbeats 2000000 in
theorem rencode_any (A : Option Addr) (n c : Nat) (l : List Rte) (w : World) (hL : Laid w) (hr : RS rteK w A n c l) (ok : Okr l) (hn : n ≤ 10000) :
    Calls Tryd.prog 30 #[.agg (tabV A n c)] w fun e w' => ∃ A' n' c', e = .returned (.tuple #[.slice A' n' c', .int .i64 (ribE l)]) ∧ OB w' w.heap.size A' n' c' (encRib l) ∧ n' ≤ 5000 ∧ Below w.heap.size w w' := by
  have hblk1 := blk_new w (.cells (tabV A n c) 24)
  have hbel1 : Below w.heap.size w (w.alloc (.cells (tabV A n c) 24)) := below_alloc (Below.refl _ _) _
  have HP1 := Lib.hid (rib_at hblk1)
  have HBK1 := Lib.hid hblk1
  have HBE := Lib.hid hbel1
  have HL := Lib.hid (hL.below HBE.out)
  obtain ⟨cs1, hcs1⟩ : ∃ cs, tabV A n c = cs := ⟨_, rfl⟩
  simp only [hcs1] at HBE HL HP1 HBK1 ⊢
  have HC1 := Lib.hid hcs1
  clear hL hcs1 hblk1 hbel1
  have HR := Lib.hid (hr.below HBE.out)
  have OK := Lib.hid ok
  clear hr ok
  go_enter Tryd.func30, Tryd.ntmps30
  go_wp2_with (first | ((with_reducible show wpList _ _ _ (Oper.mk _ (Op.load _ _) _ _ _ _ :: _) _ _); refine wpList_load_g ((HP1.out.all _ (Below.refl _ _)).1) _ rfl rfl (by go_simp) ?_))
  refine (rcheck_any A n c l _ HL.out HR.out OK.out (by omega)).mono ?_
  rintro e w1 ⟨rfl, hb1⟩
  have HB1 := Lib.hid hb1
  clear hb1
  cases hrb : ribB l with
  | false =>
    have HE : Hid (ribE l = 211 ∧ encRib l = []) := Lib.hid ⟨by unfold ribE; rw [hrb]; rfl, by unfold encRib; rw [hrb]; rfl⟩
    rw [HE.out.1]
    clear hrb
    go_wp2
    go_ret2
    rw [HE.out.1, HE.out.2]
    exact ⟨_, _, _, rfl, OB.nil _ _, by omega, below_step HBE.out HB1.out⟩
  | true =>
    have HE : Hid (ribE l = 0 ∧ encRib l = (n : Int) :: l.flatMap encRt) := Lib.hid ⟨by unfold ribE; rw [hrb]; rfl, by unfold encRib; rw [hrb, if_pos rfl, HR.out.len]⟩
    have hn160 : n ≤ 160 := by
      rw [← HR.out.len]
      unfold ribB ribsB at hrb
      simp only [Bool.and_eq_true, decide_eq_true_eq] at hrb
      exact hrb.1.1.1
    rw [HE.out.1]
    clear hrb
    go_wp2_with (first | ((with_reducible show wpList _ _ _ (Oper.mk _ (Op.load _ _) _ _ _ _ :: _) _ _); refine wpList_load_g ((HP1.out.all _ HB1.out).2) _ rfl rfl (by go_simp) ?_))
    refine (listq_any A n c l w1 (HL.out.below HB1.out) (HR.out.below HB1.out) OK.out (by omega)).mono ?_
    rintro e w2 ⟨A2, n2, c2, rfl, hO2, hn2, _, hb2⟩
    have HO2 := Lib.hid (hO2.lower (below_step HBE.out HB1.out).size)
    have HB2 := Lib.hid (below_step HBE.out (below_step HB1.out hb2))
    clear hO2 hb2
    go_wp2
    go_ret2
    rw [HE.out.1, HE.out.2]
    exact ⟨A2, n2, c2, rfl, HO2.out, hn2, HB2.out⟩
set_option maxHeartbeats 2000000 in
theorem rencodeb_any (A : Option Addr) (n c : Nat) (l : List Upd) (w : World) (hL : Laid w) (hr : RS updK w A n c l) (ok : Oku l) (hn : n ≤ 10000) :
    Calls Tryd.prog 31 #[.agg (tabV A n c)] w fun e w' => ∃ A' n' c', e = .returned (.tuple #[.slice A' n' c', .int .i64 (batE l)]) ∧ OB w' w.heap.size A' n' c' (encBat l) ∧ n' ≤ 5000 ∧ Below w.heap.size w w' := by
  have hblk1 := blk_new w (.cells (tabV A n c) 27)
  have hbel1 : Below w.heap.size w (w.alloc (.cells (tabV A n c) 27)) := below_alloc (Below.refl _ _) _
  have HP1 := Lib.hid (bat_at hblk1)
  have HBK1 := Lib.hid hblk1
  have HBE := Lib.hid hbel1
  have HL := Lib.hid (hL.below HBE.out)
  obtain ⟨cs1, hcs1⟩ : ∃ cs, tabV A n c = cs := ⟨_, rfl⟩
  simp only [hcs1] at HBE HL HP1 HBK1 ⊢
  have HC1 := Lib.hid hcs1
  clear hL hcs1 hblk1 hbel1
  have HR := Lib.hid (hr.below HBE.out)
  have OK := Lib.hid ok
  clear hr ok
  go_enter Tryd.func31, Tryd.ntmps31
  go_wp2_with (first | ((with_reducible show wpList _ _ _ (Oper.mk _ (Op.load _ _) _ _ _ _ :: _) _ _); refine wpList_load_g ((HP1.out.all _ (Below.refl _ _)).1) _ rfl rfl (by go_simp) ?_))
  refine (rcheckb_any A n c l _ HL.out HR.out OK.out (by omega)).mono ?_
  rintro e w1 ⟨rfl, hb1⟩
  have HB1 := Lib.hid hb1
  clear hb1
  cases hrb : batB l with
  | false =>
    have HE : Hid (batE l = 210 ∧ encBat l = []) := Lib.hid ⟨by unfold batE; rw [hrb]; rfl, by unfold encBat; rw [hrb]; rfl⟩
    rw [HE.out.1]
    clear hrb
    go_wp2
    go_ret2
    rw [HE.out.1, HE.out.2]
    exact ⟨_, _, _, rfl, OB.nil _ _, by omega, below_step HBE.out HB1.out⟩
  | true =>
    have HE : Hid (batE l = 0 ∧ encBat l = (n : Int) :: l.flatMap encUp) := Lib.hid ⟨by unfold batE; rw [hrb]; rfl, by unfold encBat; rw [hrb, if_pos rfl, HR.out.len]⟩
    have hn8 : n ≤ 8 := by
      rw [← HR.out.len]
      unfold batB at hrb
      simp only [Bool.and_eq_true, decide_eq_true_eq] at hrb
      exact hrb.1.2
    rw [HE.out.1]
    clear hrb
    go_wp2_with (first | ((with_reducible show wpList _ _ _ (Oper.mk _ (Op.load _ _) _ _ _ _ :: _) _ _); refine wpList_load_g ((HP1.out.all _ HB1.out).2) _ rfl rfl (by go_simp) ?_))
    refine (listu_any A n c l w1 (HL.out.below HB1.out) (HR.out.below HB1.out) OK.out (by omega)).mono ?_
    rintro e w2 ⟨A2, n2, c2, rfl, hO2, hn2, _, hb2⟩
    have HO2 := Lib.hid (hO2.lower (below_step HBE.out HB1.out).size)
    have HB2 := Lib.hid (below_step HBE.out (below_step HB1.out hb2))
    clear hO2 hb2
    go_wp2
    go_ret2
    rw [HE.out.1, HE.out.2]
    exact ⟨A2, n2, c2, rfl, HO2.out, hn2, HB2.out⟩
end Go.Proofs.YtnpeedmicjeleaaDoor

/- Plain laws of layer 11 (route): a batch that takes back what another one brought. -/
namespace Go.Proofs.YtnpeedmicjeleaaDoor
set_option linter.unusedVariables false
set_option linter.unusedSimpArgs false
set_option maxRecDepth 4000
set_option maxRecDepth 4000
theorem fit_src {x : Rte} (h : x.fit = true) : 1 ≤ x.s ∧ x.s ≤ 4 := by
  unfold Rte.fit fitB at h
  simp only [Bool.and_eq_true, decide_eq_true_eq] at h
  exact ⟨h.1.1.1.1.1.2, h.1.1.1.1.2⟩
theorem cmp_self (p : Pfx) : p.cmp p = 0 := cmpI_refl _
/-- At most four candidates of a prefix. -/
theorem four_cnt {l : List Rte} (hf : ∀ r ∈ l, r.fits) (hs : ∀ r ∈ l, r.fit = true) (hr : risK Rte.key l = true) : ∀ k, k < l.length → (k : Int) + 5 - (rteAt l k).s ≤ 4 * (cntP l (k + 1) : Int)
  | 0, h => by
    have h1 := fit_src (hs _ (getD_mem (z := rteZ) h))
    have h2 : cntP l 1 = 1 := by rw [cntP_succ]; simp [cntP, newP]
    have h3 : (rteAt l 0).s = (l.getD 0 rteZ).s := rfl
    rw [h2]
    omega
  | k + 1, h => by
    have ih := four_cnt hf hs hr k (by omega)
    have h1 := fit_src (hs _ (getD_mem (z := rteZ) h))
    have h0 := fit_src (hs _ (getD_mem (z := rteZ) (show k < l.length by omega)))
    have e1 : (rteAt l (k + 1)).s = (l.getD (k + 1) rteZ).s := rfl
    have e0 : (rteAt l k).s = (l.getD k rteZ).s := rfl
    rw [cntP_succ l (k + 1)]
    cases hn : newP l (k + 1) with
    | true =>
      rw [if_pos rfl]
      omega
    | false =>
      rw [if_neg (by simp)]
      unfold newP at hn
      simp only [Bool.or_eq_false_iff, Bool.not_eq_false', Nat.add_sub_cancel] at hn
      have hp := (Pfx.eqB_iff _ _).1 hn.2
      have hlt := (risK_iff (K := Rte.key) rteZ l).1 hr k h
      have hlt2 : cR (rteAt l k) (rteAt l (k + 1)) < 0 := hlt
      rw [cR_eq _ _ (hf _ (getD_mem (show k < l.length by omega))) (hf _ (getD_mem h)), hp, cmp_self, if_neg (by simp)] at hlt2
      have : (rteAt l k).s < (rteAt l (k + 1)).s := by
        unfold cmpN at hlt2
        split at hlt2
        · assumption
        · split at hlt2 <;> omega
      push_cast
      omega
theorem len_four {l : List Rte} (hf : ∀ r ∈ l, r.fits) (hs : ∀ r ∈ l, r.fit = true) (hr : risK Rte.key l = true) : l.length ≤ 4 * pfxsN l := by
  cases hl : l.length with
  | zero => omega
  | succ k =>
    have h := four_cnt hf hs hr k (by omega)
    have h1 := fit_src (hs _ (getD_mem (z := rteZ) (show k < l.length by omega)))
    have e1 : (rteAt l k).s = (l.getD k rteZ).s := rfl
    unfold pfxsN
    rw [hl]
    omega
def goneU (u : Upd) : Upd := ⟨u.p, u.s, true, 0, 0⟩
theorem gone_key (u : Upd) : (goneU u).rte.key = u.rte.key := rfl
theorem mem_appL : ∀ {b : List Upd} {l m : List Rte}, Rok l → Oku b → (∀ u ∈ b, u.g = false) → (∀ u ∈ b, ∀ r ∈ l, r.key ≠ u.rte.key) → b.Pairwise (fun u v => u.rte.key ≠ v.rte.key) → appL l b = some m → ∀ x, x ∈ m ↔ x ∈ l ∨ ∃ u ∈ b, x = u.rte
  | [], l, m, _, _, _, _, _, hs, x => by
    injection hs with hs
    subst hs
    simp
  | u :: b, l, m, hr, hu, hg, hk, hp, hs, x => by
    have hu0 := hu u (by simp)
    have hs1 : appS l u = some (setK Rte.key l u.rte) := by unfold appS; rw [hg u (by simp)]; rfl
    simp only [appL, hs1] at hs
    have hr1 := appS_rok hr hu0 hs1
    have hm := fun y => mem_setK (x := y) (p := u.rte) (keyZ _ _ _) hr.ris
    rw [List.pairwise_cons] at hp
    have ih := mem_appL hr1 (fun v hv => hu v (by simp [hv])) (fun v hv => hg v (by simp [hv])) (fun v hv r hrm => by
      rcases (hm r).1 hrm with rfl | ⟨h1, _⟩
      · exact hp.1 v hv
      · exact hk v (by simp [hv]) r h1) hp.2 hs x
    rw [ih, hm x]
    constructor
    · rintro ((rfl | ⟨h1, _⟩) | ⟨v, hv, rfl⟩)
      · exact .inr ⟨u, by simp, rfl⟩
      · exact .inl h1
      · exact .inr ⟨v, by simp [hv], rfl⟩
    · rintro (h1 | ⟨v, hv, rfl⟩)
      · exact .inl (.inr ⟨h1, hk u (by simp) x h1⟩)
      · rcases List.mem_cons.1 hv with rfl | hv
        · exact .inl (.inl rfl)
        · exact .inr ⟨v, hv, rfl⟩
theorem goneU_ok {u : Upd} (h : u.ok) : (goneU u).ok := ⟨h.p, h.s, (show (Lit.int .i64 0).wf = true by decide), (show (Lit.int .i64 0).wf = true by decide)⟩
theorem appL_back : ∀ {b : List Upd} {l m : List Rte}, Rok m → Rok l → Oku b → (∀ u ∈ b, ∀ r ∈ l, r.key ≠ u.rte.key) → b.Pairwise (fun u v => u.rte.key ≠ v.rte.key) → (∀ x, x ∈ m ↔ x ∈ l ∨ ∃ u ∈ b, x = u.rte) → appL m (b.map goneU) = some l
  | [], l, m, hm, hl, _, _, _, h => by
    show some m = some l
    rw [risK_ext hm.ris hl.ris (fun x => (h x).trans (by simp))]
  | u :: b, l, m, hm, hl, hu, hk, hp, h => by
    have hu0 := hu u (by simp)
    have hth : thereK Rte.key m (goneU u).rte = true := (thereK_iff (keyZ _ _ _) hm.ris).2 ⟨u.rte, (h u.rte).2 (.inr ⟨u, by simp, rfl⟩), (gone_key u).symm⟩
    have hs1 : appS m (goneU u) = some (dropK Rte.key m (goneU u).rte) := by
      unfold appS
      rw [show (goneU u).g = true from rfl, if_pos rfl, hth, if_pos rfl]
    have hr1 := appS_rok hm (goneU_ok hu0) hs1
    have hd := fun y => mem_dropK (x := y) (p := (goneU u).rte) (keyZ _ _ _) hm.ris hth
    rw [List.pairwise_cons] at hp
    show appL m (goneU u :: b.map goneU) = some l
    simp only [appL, hs1]
    refine appL_back hr1 hl (fun v hv => hu v (by simp [hv])) (fun v hv => hk v (by simp [hv])) hp.2 (fun x => ?_)
    rw [hd x, h x, gone_key]
    constructor
    · rintro ⟨h1 | ⟨v, hv, rfl⟩, h2⟩
      · exact .inl h1
      · rcases List.mem_cons.1 hv with rfl | hv
        · exact absurd rfl h2
        · exact .inr ⟨v, hv, rfl⟩
    · rintro (h1 | ⟨v, hv, rfl⟩)
      · exact ⟨.inl h1, hk u (by simp) x h1⟩
      · exact ⟨.inr ⟨v, by simp [hv], rfl⟩, fun e => hp.1 v hv e.symm⟩
theorem updAt_map {b : List Upd} {j : Nat} (h : j < b.length) : updAt (b.map goneU) j = goneU (updAt b j) := by
  unfold updAt
  rw [List.getD_eq_getElem?_getD, List.getElem?_map, List.getElem?_eq_getElem h, List.getD_eq_getElem?_getD, List.getElem?_eq_getElem h]
  rfl
theorem updB_fit {u : Upd} (h : updB u = true) : fitB u.p u.s 0 1 = true := by
  unfold updB at h
  split at h
  · simp only [Bool.and_eq_true] at h
    exact h.2
  · unfold fitB at h ⊢
    simp only [Bool.and_eq_true, decide_eq_true_eq] at h ⊢
    obtain ⟨⟨⟨⟨⟨⟨h1, h2⟩, h3⟩, h4⟩, h5⟩, h6⟩, h7⟩ := h
    exact ⟨⟨⟨⟨⟨⟨h1, h2⟩, h3⟩, by omega⟩, by omega⟩, by omega⟩, by omega⟩
theorem bat_to {b : List Upd} (h : batB b = true) : 1 ≤ b.length ∧ b.length ≤ 8 ∧ batsB b = true := by
  unfold batB at h
  simp only [Bool.and_eq_true, decide_eq_true_eq] at h
  exact ⟨h.1.1, h.1.2, h.2⟩
theorem bat_upd {b : List Upd} (h : batB b = true) {u : Upd} (hu : u ∈ b) : updB u = true := by
  obtain ⟨j, hj, hx⟩ := mem_getD (z := updZ) hu
  have := ((batsB_iff b).1 (bat_to h).2.2 j hj).1
  unfold updAt at this
  rw [hx] at this
  exact this
theorem bat_gone {b : List Upd} (h : batB b = true) : batB (b.map goneU) = true := by
  obtain ⟨h1, h2, h3⟩ := bat_to h
  unfold batB
  rw [List.length_map, decide_eq_true h1, decide_eq_true h2]
  simp only [Bool.and_true, Bool.true_and]
  rw [batsB_iff]
  intro j hj
  rw [List.length_map] at hj
  have hb := (batsB_iff b).1 h3 j hj
  rw [updAt_map hj]
  refine ⟨?_, fun k hk => ?_⟩
  · have := updB_fit hb.1
    unfold updB
    rw [if_pos (show (goneU (updAt b j)).g = true from rfl)]
    show (decide ((0 : Int) = 0) && decide ((0 : Int) = 0) && fitB (updAt b j).p (updAt b j).s 0 1) = true
    rw [this]
    rfl
  · rw [updAt_map (by omega)]
    exact hb.2 k hk
theorem bat_pw {b : List Upd} (h : batB b = true) (ok : Oku b) : b.Pairwise (fun u v => u.rte.key ≠ v.rte.key) := by
  rw [List.pairwise_iff_getElem]
  intro i j hi hj hij e
  have hb := ((batsB_iff b).1 (bat_to h).2.2 j hj).2 i hij
  have e1 : updAt b i = b[i] := by unfold updAt; rw [List.getD_eq_getElem?_getD, List.getElem?_eq_getElem hi]; rfl
  have e2 : updAt b j = b[j] := by unfold updAt; rw [List.getD_eq_getElem?_getD, List.getElem?_eq_getElem hj]; rfl
  rw [e1, e2] at hb
  have h1 := (key_iff _ _ (ok _ (List.getElem_mem hi)).rte.fits (ok _ (List.getElem_mem hj)).rte.fits).1 e
  unfold twin at hb
  rw [show (b[i]).p = (b[j]).p from h1.1, show (b[i]).s = (b[j]).s from h1.2, (Pfx.eqB_iff _ _).2 rfl] at hb
  simp at hb
theorem back_apply {l : List Rte} {b : List Upd} (hr : ribB l = true) (hb : batB b = true) (ok : Okr l) (oku : Oku b) (h0 : appN l b = 0) (hg : ∀ u ∈ b, u.g = false) (hk : ∀ u ∈ b, ∀ r ∈ l, ¬ (r.p = u.p ∧ r.s = u.s)) :
    appN (appR l b) (b.map goneU) = 0 ∧ appR (appR l b) (b.map goneU) = l ∧ Oku (b.map goneU) := by
  have h1 := rib_to hr
  have hl : Rok l := ⟨ok, h1.2.1⟩
  have hku : ∀ u ∈ b, ∀ r ∈ l, r.key ≠ u.rte.key := fun u hu r hm e => hk u hu r hm ((key_iff _ _ (ok r hm).fits (oku u hu).rte.fits).1 e)
  have hpw := bat_pw hb oku
  have h0' := h0
  unfold appN at h0'
  rw [if_pos hr, if_pos hb] at h0'
  cases hm : appL l b with
  | none => rw [hm] at h0'; cases h0'
  | some m =>
    rw [hm] at h0'
    have hp40 : pfxsN m ≤ 40 := by
      by_cases hp : pfxsN m ≤ 40
      · exact hp
      · simp only [if_neg hp] at h0'; cases h0'
    have hR : appR l b = m := by unfold appR; rw [if_pos h0, hm]; rfl
    have hmr := (appL_rok hl oku hm).1
    have hmem := mem_appL hl oku hg hku hpw hm
    have hfit : ∀ r ∈ m, r.fit = true := fun r hrm => by
      rcases (hmem r).1 hrm with h2 | ⟨u, hu, rfl⟩
      · exact rib_fit hr h2
      · have h3 := bat_upd hb hu
        unfold updB at h3
        rw [hg u hu, if_neg (by simp)] at h3
        exact h3
    have hlen := len_four (fun r h => (hmr.ok r h).fits) hfit hmr.ris
    have hrm : ribB m = true := by
      unfold ribB ribsB
      rw [decide_eq_true (show m.length ≤ 160 by omega), decide_eq_true hp40, hmr.ris, List.all_eq_true.2 hfit]
      rfl
    have hback := appL_back hmr hl oku hku hpw hmem
    rw [hR]
    have hN : appN m (b.map goneU) = 0 := by
      unfold appN
      rw [if_pos hrm, if_pos (bat_gone hb), hback]
      simp only
      rw [if_pos h1.2.2]
    refine ⟨hN, ?_, fun u hu => ?_⟩
    · unfold appR
      rw [if_pos hN, hback]
      rfl
    · obtain ⟨v, hv, rfl⟩ := List.mem_map.1 hu
      exact goneU_ok (oku v hv)
theorem encRt_fit {x : Rte} (h : x.fit = true) : encRt x = encRp x := by
  have h1 : x.p.right = true := by
    unfold Rte.fit fitB at h
    simp only [Bool.and_eq_true] at h
    exact h.1.1.1.1.1.1
  unfold encRt encRp encPE
  rw [if_pos h1]
theorem encUp_fit {x : Upd} (h : updB x = true) : encUp x = encUq x := by
  have h1 : x.p.right = true := by
    have := updB_fit h
    unfold fitB at this
    simp only [Bool.and_eq_true] at this
    exact this.1.1.1.1.1.1
  unfold encUp encUq encPE
  rw [if_pos h1]
  rfl
theorem flat_congr {α : Type} {f g : α → List Int} : ∀ {l : List α}, (∀ a ∈ l, f a = g a) → l.flatMap f = l.flatMap g
  | [], _ => rfl
  | a :: l, h => by
    rw [List.flatMap_cons, List.flatMap_cons, h a (by simp), flat_congr (fun x hx => h x (by simp [hx]))]
theorem encRib_eq {l : List Rte} (h : ribB l = true) : encRib l = (l.length : Int) :: l.flatMap encRp := by
  unfold encRib
  rw [if_pos h, flat_congr (fun x hx => encRt_fit (rib_fit h hx))]
theorem encBat_eq {b : List Upd} (h : batB b = true) : encBat b = (b.length : Int) :: b.flatMap encUq := by
  unfold encBat
  rw [if_pos h, flat_congr (fun x hx => encUp_fit (bat_upd h hx))]
end Go.Proofs.YtnpeedmicjeleaaDoor

/- Plain laws of tables (layer 9), sixth part: set, dropped, set again. -/
namespace Go.Proofs.YtnpeedmicjeleaaDoor
open Go.RowKit
set_option linter.unusedVariables false
set_option linter.unusedSimpArgs false
set_option maxRecDepth 4000
end Go.Proofs.YtnpeedmicjeleaaDoor

/- Layer 9 (table): the walk of TableSets. -/
namespace Go.Proofs.YtnpeedmicjeleaaDoor
open Go.RowKit
set_option linter.unusedVariables false
set_option linter.unusedSimpArgs false
set_option maxRecDepth 4000
end Go.Proofs.YtnpeedmicjeleaaDoor

/- Layer 9 (table): the walk of TableBack. -/
namespace Go.Proofs.YtnpeedmicjeleaaDoor
open Go.RowKit
set_option linter.unusedVariables false
set_option linter.unusedSimpArgs false
set_option maxRecDepth 4000
theorem cut_uptoT (A : Option Addr) (n c j : Nat) (h : j ≤ c) : ∀ W : World, (Instr.slice 63 (.slice A n c) none (some (.int .i64 (j : Int))) none).run Tryd.prog W = .ok (.slice A j c) W := by
  intro W
  have hj : (j : Int) ≤ (c : Int) := by omega
  have h0 : (0 : Int) ≤ (j : Int) := by omega
  go_simp
end Go.Proofs.YtnpeedmicjeleaaDoor
