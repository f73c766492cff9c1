/- Arguments that are slices of deeds, opened. -/
import Derived.Test.YtihfaknflfmohaaDoorCacheTrueC
import Derived.Test.YtihfaknflfmohaaDoorCacheTrueD
namespace Go.Proofs.YtihfaknflfmohaaDoor
open Go.ChangeShapes Go.WideShapes Go.ChangeAt Go.RowKit
set_option linter.unusedVariables false
set_option linter.unusedSimpArgs false
set_option maxRecDepth 4000
theorem four_parts {α : Type} (l : List α) (a b c : Nat) : l = l.take a ++ ((l.drop a).take b ++ ((l.drop (a + b)).take c ++ l.drop (a + b + c))) := by
  have h1 : l.drop a = (l.drop a).take b ++ l.drop (a + b) := by
    conv => lhs; rw [← List.take_append_drop b (l.drop a)]
    rw [List.drop_drop]
  have h2 : l.drop (a + b) = (l.drop (a + b)).take c ++ l.drop (a + b + c) := by
    conv => lhs; rw [← List.take_append_drop c (l.drop (a + b))]
    rw [List.drop_drop]
  rw [← h2, ← h1, List.take_append_drop]
section
variable {H : Type} {enc : TypeId × Value → H} {W : World} {base : Nat} {spare : Nat → Bool} {held : Bool}
theorem open_deed_cells {fuel : Nat} {cs : List Value} {x : DataW H × List MemPlace} (h : DataW.trod enc Tryd.prog W base spare held fuel 100 cs = some x) : ∃ d : Deed, cs = deedC d ∧ d.ok := by
  obtain ⟨xs, m, -, -, hlen, hxl, hg⟩ := DataW.trod_struct Tryd.underlying100 h
  have c0 : Tryd.prog.cellsOf 3 = 1 := by kernel_rfl
  have c1 : Tryd.prog.cellsOf 31 = 17 := by kernel_rfl
  have c2 : Tryd.prog.cellsOf 36 = 18 := by kernel_rfl
  have c3 : Tryd.prog.cellsOf 100 = 37 := by kernel_rfl
  have h0 : DataW.trod enc Tryd.prog W base spare held m 3 ((cs.drop 0).take (Tryd.prog.cellsOf 3)) = xs[0]? := hg 0 _ rfl
  have h1 : DataW.trod enc Tryd.prog W base spare held m 31 ((cs.drop 1).take (Tryd.prog.cellsOf 31)) = xs[1]? := hg 1 _ rfl
  have h2 : DataW.trod enc Tryd.prog W base spare held m 36 ((cs.drop 18).take (Tryd.prog.cellsOf 36)) = xs[2]? := hg 2 _ rfl
  have h3 : DataW.trod enc Tryd.prog W base spare held m 3 ((cs.drop 36).take (Tryd.prog.cellsOf 3)) = xs[3]? := hg 3 _ rfl
  rw [c3] at hlen
  rw [c0, List.drop_zero] at h0
  rw [c1] at h1
  rw [c2] at h2
  rw [c0] at h3
  have hx4 : xs.length = 4 := hxl
  match xs, hx4 with
  | [x0, x1, x2, x3], _ =>
    obtain ⟨k, hk, -, hwk⟩ := DataW.trod_int Tryd.underlying3 (show DataW.trod enc Tryd.prog W base spare held m 3 (cs.take 1) = some x0 from h0)
    obtain ⟨v, l, hvl, hb, hw⟩ := open_adr_cells (show DataW.trod enc Tryd.prog W base spare held m 31 ((cs.drop 1).take 17) = some x1 from h1)
    obtain ⟨pv, pl, pb, hp, hpb, hpw, hpw2⟩ := open_pfx_cells (show DataW.trod enc Tryd.prog W base spare held m 36 ((cs.drop 18).take 18) = some x2 from h2)
    obtain ⟨hh, hhv, -, hhw⟩ := DataW.trod_int Tryd.underlying3 (show DataW.trod enc Tryd.prog W base spare held m 3 ((cs.drop 36).take 1) = some x3 from h3)
    rw [List.take_of_length_le (by rw [List.length_drop]; omega)] at hhv
    refine ⟨⟨k, v, l, ⟨pv, pl, pb⟩, hh⟩, ?_, hwk, hb, hw, ⟨hpb, hpw, hpw2⟩, hhw⟩
    rw [four_parts cs 1 17 18, hk, hvl, hp, hhv]
    rfl
end
theorem open_deeds {H : Type} {enc : TypeId × Value → H} {W : World} {base b0 : Nat} {spare : Nat → Bool} {held : Bool} {v : Value} {d : DataW H} {p : List MemPlace} (hv : Value.okWide Tryd.prog W .any b0 98 v)
    (h : DataW.Trod enc Tryd.prog W base spare held 98 v d p) (hl : Light Tryd.prog 98 d) : ∃ A n c l, v = .slice A n c ∧ RS deedK W A n c l ∧ (∀ a ∈ l, a.ok) ∧ n * 72 ≤ 140737488351232 := by
  obtain ⟨a, len, cap, rfl⟩ := okWide_slice Tryd.underlying98 hv
  obtain ⟨fuel, hf⟩ := h
  obtain ⟨A, n, c, t, e1, e2, e3, e4⟩ := open_shp deedK Deed.ok (by show Tryd.prog.cellsOf 100 = 37; kernel_rfl) (by show 0 < Tryd.prog.bytesOf 100; exact of_decide_eq_true (by kernel_rfl)) (fun fuel cs y hy _ => by
    obtain ⟨r, e, hr⟩ := open_deed_cells hy
    exact ⟨r, e, hr.fits, hr⟩) (show DataW.trod enc Tryd.prog W base spare held fuel 98 [.slice a len cap] = some _ from hf) hl
  have hb : Tryd.prog.bytesOf deedK.t = 72 := by show Tryd.prog.bytesOf 100 = 72; kernel_rfl
  rw [hb] at e4
  refine ⟨A, n, c, t, ?_, e2, e3, e4⟩
  injection e1
end Go.Proofs.YtihfaknflfmohaaDoor

/- Layer 27 (cache): the law CacheLately. -/
namespace Go.Proofs.YtihfaknflfmohaaDoor
open Go.RowKit
set_option linter.unusedVariables false
set_option linter.unusedSimpArgs false
set_option maxRecDepth 4000
def roomOf (r : Int) : Int := (max r 0) % 16 + 1
theorem roomOf_in (r : Int) : 1 ≤ roomOf r ∧ roomOf r ≤ 16 := by unfold roomOf; omega
/-- The law's round: what was looked up, and the cache. -/
structure LatS (W wr : World) (R : Int) (i na ca : Nat) (Aa : Option Addr) (all : List Ad) (y : Cac) (es : List Ent) : Prop where
  ile : i ≤ 60
  all_ : RS adrK wr Aa na ca all
  allb : ∀ ad, Aa = some ad → W.heap.size < ad.block
  allok : ∀ a ∈ all, a.ok
  alln : na ≤ i
  cb : wr.heap[W.heap.size]? = some (.cells y.vv 25 (0, 0))
  ce : RE wr y.A y.n y.c es
  ceb : ∀ ad, y.A = some ad → W.heap.size < ad.block
  oe : Oke es
  yo : y.ok
  room : y.room = R
  yn : y.n ≤ 1000
  eq : es.map Ent.a = all.take R.toNat
  bel : Below W.heap.size W wr
theorem LatS.step {W wr w1 : World} {R : Int} {i na ca : Nat} {Aa : Option Addr} {all : List Ad} {y : Cac} {es : List Ent} (h : LatS W wr R i na ca Aa all y es) (hb : Below wr.heap.size wr w1) : LatS W w1 R i na ca Aa all y es :=
  ⟨h.ile, h.all_.below hb, h.allb, h.allok, h.alln, blk_below h.cb hb, h.ce.below hb, h.ceb, h.oe, h.yo, h.room, h.yn, h.eq, below_step h.bel hb⟩
theorem LatS.more {W wr : World} {R : Int} {i na ca : Nat} {Aa : Option Addr} {all : List Ad} {y : Cac} {es : List Ent} (h : LatS W wr R i na ca Aa all y es) (hi : i < 60) : LatS W wr R (i + 1) na ca Aa all y es :=
  ⟨hi, h.all_, h.allb, h.allok, Nat.le_succ_of_le h.alln, h.cb, h.ce, h.ceb, h.oe, h.yo, h.room, h.yn, h.eq, h.bel⟩
end Go.Proofs.YtihfaknflfmohaaDoor

/- Layer 27 (cache): the law CacheTrue. -/
namespace Go.Proofs.YtihfaknflfmohaaDoor
open Go.RowKit
set_option linter.unusedVariables false
set_option linter.unusedSimpArgs false
set_option maxRecDepth 4000
/-- The law's round: the cache in W's next block, the table in block g. -/
structure TruM (W wr : World) (g : Nat) (looks : Int) (i : Nat) (x : Cac) (es : List Ent) (A : Option Addr) (n c : Nat) (t : List Row) : Prop where
  cb : wr.heap[W.heap.size]? = some (.cells x.vv 25 (0, 0))
  ce : RE wr x.A x.n x.c es
  ceb : ∀ ad, x.A = some ad → g < ad.block
  oe : Oke es
  xo : x.ok
  tb : wr.heap[g]? = some (.cells (tabV A n c) 28 (0, 0))
  te : RT wr A n c t
  teb : ∀ ad, A = some ad → g < ad.block
  ot : Oks t
  tr : TrueS x es t looks
  l0 : 0 ≤ looks
  li : looks ≤ i
  v0 : 0 ≤ x.ver
  vi : x.ver ≤ i
  i60 : i ≤ 60
  gW : W.heap.size < g
  bel : Below W.heap.size W wr
theorem TruM.step {W wr w1 : World} {g : Nat} {looks : Int} {i : Nat} {x : Cac} {es : List Ent} {A : Option Addr} {n c : Nat} {t : List Row} (h : TruM W wr g looks i x es A n c t) (hb : Below wr.heap.size wr w1) : TruM W w1 g looks i x es A n c t :=
  ⟨blk_below h.cb hb, h.ce.below hb, h.ceb, h.oe, h.xo, blk_below h.tb hb, h.te.below hb, h.teb, h.ot, h.tr, h.l0, h.li, h.v0, h.vi, h.i60, h.gW, below_step h.bel hb⟩
theorem TruM.more {W wr : World} {g : Nat} {looks : Int} {i : Nat} {x : Cac} {es : List Ent} {A : Option Addr} {n c : Nat} {t : List Row} (h : TruM W wr g looks i x es A n c t) (hi : i < 60) : TruM W wr g looks (i + 1) x es A n c t :=
  ⟨h.cb, h.ce, h.ceb, h.oe, h.xo, h.tb, h.te, h.teb, h.ot, h.tr, h.l0, by have := h.li; omega, h.v0, by have := h.vi; omega, hi, h.gW, h.bel⟩
theorem TruM.xn {W wr : World} {g : Nat} {looks : Int} {i : Nat} {x : Cac} {es : List Ent} {A : Option Addr} {n c : Nat} {t : List Row} (h : TruM W wr g looks i x es A n c t) : x.n ≤ 16 := by
  have h1 := h.tr.ok
  unfold cacB headB at h1
  simp at h1
  omega
theorem TruM.tn {W wr : World} {g : Nat} {looks : Int} {i : Nat} {x : Cac} {es : List Ent} {A : Option Addr} {n c : Nat} {t : List Row} (h : TruM W wr g looks i x es A n c t) : n ≤ 40 := by
  rw [← h.te.len]
  exact (tabB_to h.tr.tab).1
theorem kind3 (k : Int) : (-3 < k.tmod 3 ∧ k.tmod 3 < 3) ∧ ((k.tmod 3 + 3).tmod 3 = 0 ∨ (k.tmod 3 + 3).tmod 3 = 1 ∨ (k.tmod 3 + 3).tmod 3 = 2) := by
  have h1 := Int.lt_tmod_of_pos k (b := 3) (by omega)
  have h2 := Int.tmod_lt_of_pos k (b := 3) (by omega)
  refine ⟨⟨h1, h2⟩, ?_⟩
  rw [Int.tmod_eq_emod_of_nonneg (by omega)]
  omega
theorem move_yok {x y : Cac} {es fs : List Ent} {a b : List Row} {ver k : Int} (hx : x.ok) (h0 : moveN x es a b ver = 0) (hv : (Lit.int .u64 ver).wf = true) (h : MoveIs x es a b ver y fs k) : y.ok := by
  unfold MoveIs at h
  rw [if_pos h0] at h
  obtain ⟨q1, q2, _, q4, q5, _⟩ := h
  exact ⟨by rw [q1]; exact hx.room, by rw [q2]; exact hv, by rw [q4]; exact hx.hits, by rw [q5]; exact hx.misses⟩
theorem roomOf_new0 (r : Int) : newE (roomOf r) 0 = 0 ∧ newC (roomOf r) 0 = ⟨roomOf r, 0, none, 0, 0, 0, 0⟩ := by
  have h := roomOf_in r
  have h1 : newE (roomOf r) 0 = 0 := by unfold newE; rw [if_neg (by omega)]
  exact ⟨h1, by unfold newC; rw [if_pos h1]⟩
theorem true_start {R : Int} (h : 1 ≤ R ∧ R ≤ 16) : TrueS ⟨R, 0, none, 0, 0, 0, 0⟩ [] [] 0 := by
  refine ⟨?_, rfl, fun e he => (by cases he), rfl, Int.le_refl _, Int.le_refl _⟩
  unfold cacB headB
  have : entsB [] = true := rfl
  rw [this]
  simp
  omega
set_option maxRecDepth 100000 in
set_option maxHeartbeats 8000000 in
theorem true27_any (room : Int) (B : Option Addr) (m d : Nat) (l : List Deed) (w : World) (hL : Laid w) (hrw : (Lit.int .i64 room).wf = true) (hl : RS deedK w B m d l) (ol : ∀ a ∈ l, a.ok) (hm : m * 72 ≤ 140737488351232) :
    Calls Tryd.prog 14 #[.int .i64 room, .slice B m d] w fun r w' => r = .returned (.bool true) ∧ Below w.heap.size w w' := by
  have HL := Lib.hid hL
  have HA := Lib.hid hl
  have OL := Lib.hid ol
  clear hL hl ol
  go_enter Tryd.func14, Tryd.ntmps14
  go_wp2_with fail
  refine (wakes27_any _ HL.out).mono ?_
  rintro e w1 ⟨rfl, hb1⟩
  have HB1 := Lib.hid hb1
  clear hb1
  go_wp2_with fail
  have HRI := Lib.hid (roomOf_in room)
  have HRN := Lib.hid (roomOf_new0 room)
  rw [show max room 0 % 16 + 1 = roomOf room from rfl]
  obtain ⟨R, hR⟩ : ∃ R, roomOf room = R := ⟨_, rfl⟩
  rw [hR] at HRI HRN ⊢
  clear hR
  refine (cnew_any R 0 w1).mono ?_
  rintro e w2 ⟨rfl, hb2⟩
  rw [HRN.out.1, HRN.out.2]
  have HB2 := Lib.hid (below_step HB1.out hb2)
  clear hb2 HB1
  go_wp2_with (first | ((with_reducible show wpList _ _ _ (Oper.mk _ (Op.store _ _ _) _ _ _ _ :: _) _ _); refine wpList_store_blk (blk_new w2 (.cells cacZ.vv 25)) 25 0 (Cac.mk R 0 none 0 0 0 0).vv (Nat.le_refl _) (info_cac _) (cac_one _) _ _ rfl rfl rfl rfl ?_; intro w3 hg9 hs9 hb9; rw [splice_cac] at hb9; have H3 := Lib.hid (And.intro hg9 hb9); clear hg9 hs9 hb9))
  have HG0 := Lib.hid (blk_lt H3.out.2)
  have hl3 : TruM w2 (w3.alloc (.cells (tabV none 0 0) 28)) w3.heap.size 0 0 ⟨R, 0, none, 0, 0, 0, 0⟩ [] none 0 0 [] :=
    ⟨blk_below H3.out.2 (below_alloc (Below.refl _ _) _), RS.nil _ _ _ _, fun ad e => (by cases e), fun a h => (by cases h), ⟨by have := HRI.out; simp [Lit.wf, IntKind.min, IntKind.max, IntKind.bits, IntKind.signed]; omega, (show (Lit.int .u64 0).wf = true by decide), (show (Lit.int .u64 0).wf = true by decide), (show (Lit.int .u64 0).wf = true by decide)⟩, blk_new _ _, RS.nil _ _ _ _, fun ad e => (by cases e), fun a h => (by cases h), true_start HRI.out, Int.le_refl _, Int.le_refl _, Int.le_refl _, Int.le_refl _, by omega, HG0.out, below_alloc (below_grown (below_alloc (Below.refl w2.heap.size w2) (.cells cacZ.vv 25)) H3.out.1 (Nat.le_refl _)) _⟩
  have HL3 := Lib.hid hl3
  clear hl3 H3 HG0
  go_loopw [8, 39] (fun s8 s39 wr => ∃ (i : Nat) (looks : Int) (x : Cac) (es : List Ent) (A : Option Addr) (n c : Nat) (t : List Row), s39 = .int .i64 i ∧ s8 = .int .u64 looks ∧ Hid (i ≤ m ∧ TruM w2 wr w3.heap.size looks i x es A n c t)) (fun _ y _ => m - (intOf y).toNat)
  case atStart => exact ⟨0, 0, _, [], none, 0, 0, [], rfl, rfl, Nat.zero_le _, HL3.out⟩
  case round =>
    obtain ⟨i, looks, x, es, A, n, c, t, rfl, rfl, HI⟩ := hrel
    have HBI := Lib.hid (below_step HB2.out HI.out.2.bel)
    by_cases hlt : i < m
    · have hlt' : (i : Int) < m := by omega
      obtain ⟨b, o, rfl, hc⟩ := RS.at_ HA.out (by omega)
      have HF := Lib.hid (RS.fits_at HA.out hlt)
      have hla := Shape.ld deedK wr b _ _ (RS.fits_at HA.out hlt) ((hc i hlt).below HBI.out)
      have hao : (deedK.at_ l i).ok := OL.out _ (List.mem_of_getElem? (Shape.at_get (S := deedK) (by rw [HA.out.len]; exact hlt)))
      obtain ⟨dd, hdd⟩ : ∃ dd, deedK.at_ l i = dd := ⟨_, rfl⟩
      rw [hdd] at hla HF hao
      have hla : (Instr.loadAt 100 (.pointer (some ⟨b, o + i * 37, none⟩))).run Tryd.prog wr = .ok (.agg (deedV dd)) wr := hla
      have HAO := Lib.hid hao
      clear hc hdd hao
      by_cases h60 : i = 60
      · subst h60
        have hsum := HI.out.2.tr.sum
        have hl0 := HI.out.2.l0
        have hli := HI.out.2.li
        have hw9 : IntKind.u64.wrap (x.hits + x.misses) = looks := by rw [hsum]; exact IntWalk.u64_in _ (by omega)
        have HB4f := Lib.hid (fun (W : World) (h : (wr.alloc (.cells (deedV deedZ) 100)).grownBy W (some wr.heap.size)) => below_grown (below_alloc (Below.refl wr.heap.size wr) (.cells (deedV deedZ) 100)) h (Nat.le_refl _))
        go_wp2_with (first | ((with_reducible show wpList _ _ _ (Oper.mk _ (Op.load _ _) _ _ _ _ :: _) _ _); refine wpList_load_g hla _ rfl rfl (by go_simp) ?_) | ((with_reducible show wpList _ _ _ (Oper.mk _ (Op.store _ _ _) _ _ _ _ :: _) _ _); refine wpList_store_blk (blk_new wr _) 100 0 (deedV dd) (store_deed_fit HF.out rfl) (info_deed HF.out) (deedV_one _) _ _ rfl rfl rfl rfl ?_; intro w4 hg9 hs9 hb9; rw [splice_deed HF.out rfl] at hb9; have H4 := Lib.hid (And.intro hg9 hb9); clear hg9 hs9 hb9) | ((with_reducible show wpList _ _ _ (Oper.mk _ (Op.load _ _) _ _ _ _ :: _) _ _); refine wpList_load_g (((cac_at (blk_below HI.out.2.cb (HB4f.out _ H4.out.1))).all _ (Below.refl _ _)).hits) _ rfl rfl (by go_simp) ?_) | ((with_reducible show wpList _ _ _ (Oper.mk _ (Op.load _ _) _ _ _ _ :: _) _ _); refine wpList_load_g (((cac_at (blk_below HI.out.2.cb (HB4f.out _ H4.out.1))).all _ (Below.refl _ _)).misses) _ rfl rfl (by go_simp) ?_) | ((with_reducible show wpList _ _ _ (Oper.mk _ (Op.load _ _) _ _ _ _ :: _) _ _); refine wpList_load_g (load_cac (blk_below HI.out.2.cb (HB4f.out _ H4.out.1))) _ rfl rfl (by go_simp) ?_))
        have HS4 := Lib.hid (HI.out.2.step (HB4f.out _ H4.out.1))
        have HB4 := Lib.hid (below_step HBI.out (HB4f.out _ H4.out.1))
        have hxn := HS4.out.xn
        refine (ccheck_any x es w4 (HL.out.below HB4.out) HS4.out.ce HS4.out.oe (by omega)).mono ?_
        rintro e w5 ⟨rfl, hb5⟩
        rw [cacE_true HS4.out.tr.ok]
        have HB5 := Lib.hid (below_step HB4.out hb5)
        clear hb5
        go_wp2
        go_ret
        exact ⟨rfl, HB5.out⟩
      · have hi60 : i < 60 := by have := HI.out.2.i60; omega
        have h60b : ((i : Int) == 60) = false := by simp; omega
        have hg0 := blk_lt HI.out.2.tb
        have hg1 := HI.out.2.gW
        have HG := Lib.hid (And.intro hg1 hg0)
        clear hg0 hg1
        go_upto_region 13 with (first | ((with_reducible show wpList _ _ _ (Oper.mk _ (Op.load _ _) _ _ _ _ :: _) _ _); refine wpList_load_g hla _ rfl rfl (by go_simp) ?_) | ((with_reducible show wpList _ _ _ (Oper.mk _ (Op.store _ _ _) _ _ _ _ :: _) _ _); refine wpList_store_blk (blk_new wr _) 100 0 (deedV dd) (store_deed_fit HF.out rfl) (info_deed HF.out) (deedV_one _) _ _ rfl rfl rfl rfl ?_; intro w4 hg9 hs9 hb9; rw [splice_deed HF.out rfl] at hb9; have H4 := Lib.hid (And.intro hg9 hb9); clear hg9 hs9 hb9) | ((with_reducible show wpList _ _ _ (Oper.mk _ (Op.load _ _) _ _ _ _ :: _) _ _); refine wpList_load_g (load_tab (blk_below HI.out.2.tb (below_grown (below_alloc (Below.refl wr.heap.size wr) (.cells (deedV deedZ) 100)) H4.out.1 (Nat.le_refl _)))) _ rfl rfl (by go_simp) ?_) | ((with_reducible show wpList _ _ _ (Oper.mk _ (Op.store _ _ _) _ _ _ _ :: _) _ _); refine wpList_store_blk (blk_new w4 (.cells (tabV none 0 0) 28)) 28 0 (tabV A n c) (Nat.le_refl _) (info_tab _ _ _) (tab_one _ _ _) _ _ rfl rfl rfl rfl ?_; intro w5 hg9 hs9 hb9; rw [splice_tab] at hb9; have H5 := Lib.hid (And.intro hg9 hb9); clear hg9 hs9 hb9))
        have HB4 := Lib.hid (below_grown (below_alloc (Below.refl wr.heap.size wr) (.cells (deedV deedZ) 100)) H4.out.1 (Nat.le_refl _))
        have HS4 := Lib.hid (HB4.out.size)
        have hlt4 := blk_lt H4.out.2
        have HD5 := Lib.hid (blk_grown (blk_below H4.out.2 (below_alloc (Below.refl _ _) (.cells (tabV none 0 0) 28))) H5.out.1 (fun e => by injection e with e; omega))
        have HB5 := Lib.hid (below_step HB4.out (below_grown (below_alloc (Below.refl w4.heap.size w4) (.cells (tabV none 0 0) 28)) H5.out.1 (Nat.le_refl _)))
        have HT5 := Lib.hid H5.out.2
        have HS5 := Lib.hid (HI.out.2.step HB5.out)
        have HBI5 := Lib.hid (below_step HBI.out HB5.out)
        have HL4 := Lib.hid hlt4
        have HL5 := Lib.hid (blk_lt H5.out.2)
        have HIM := Lib.hid HI.out.1
        clear hla hlt4 H4 H5 HB4 HS4 h60 h60b
        have hk3 := kind3 dd.k
        have hw1 : IntKind.i64.wrap (dd.k.tmod 3 + 3) = dd.k.tmod 3 + 3 := IntWalk.i64_in _ (by omega)
        obtain ⟨K, hK⟩ : ∃ K, (dd.k.tmod 3 + 3).tmod 3 = K := ⟨_, rfl⟩
        rw [hK] at hk3
        have hkl := (deed_ld HF.out HD5.out).kind
        go_upto_region 14 with (first | ((with_reducible show wpList _ _ _ (Oper.mk _ (Op.load _ _) _ _ _ _ :: _) _ _); refine wpList_load_g hkl _ rfl rfl (by go_simp) ?_))
        have hK3 := hk3.2
        clear hk3 hw1 hK hkl
        rcases hK3 with rfl | rfl | rfl
        · go_wp2_with (first | ((with_reducible show wpList _ _ _ (Oper.mk _ (Op.load _ _) _ _ _ _ :: _) _ _); refine wpList_load_g (load_cac HS5.out.cb) _ rfl rfl (by go_simp) ?_) | ((with_reducible show wpList _ _ _ (Oper.mk _ (Op.load _ _) _ _ _ _ :: _) _ _); refine wpList_load_g (load_tab HS5.out.tb) _ rfl rfl (by go_simp) ?_) | ((with_reducible show wpList _ _ _ (Oper.mk _ (Op.load _ _) _ _ _ _ :: _) _ _); refine wpList_load_g ((deed_ld HF.out HD5.out).adr) _ rfl rfl (by go_simp) ?_))
          have hxn := HS5.out.xn
          have htn := HS5.out.tn
          refine (clook_any x es A n c t dd.v dd.l w5 (HL.out.below HBI5.out) HS5.out.ce HS5.out.oe (by omega) HS5.out.te (by omega) HF.out.l HAO.out.v HS5.out.xo).mono ?_
          rintro e w6 ⟨y2, fs, ro, fo, rfl, hO6, hF6, hI6, hb6⟩
          obtain ⟨k1, k2, k3⟩ := look_ok HS5.out.oe HS5.out.ot HF.out.l HAO.out.v hI6
          have HI6 := Lib.hid hI6
          have HFO := Lib.hid (And.intro k1 k2)
          have HO6 := Lib.hid hO6
          have HF6 := Lib.hid hF6
          have HS6 := Lib.hid (HS5.out.step hb6)
          have HD6 := Lib.hid (blk_below HD5.out hb6)
          have HBI6 := Lib.hid (below_step HBI5.out hb6)
          have HBS := Lib.hid hb6.size
          have HNX := Lib.hid (And.intro hxn htn)
          obtain ⟨N, hN⟩ : ∃ N, lookN x es t dd.v dd.l = N := ⟨_, rfl⟩
          have HNN := Lib.hid hN
          rw [hN]
          clear hO6 hF6 hI6 hb6 k1 k2 k3 hN HS5 HD5 HT5 HB5 hxn htn
          have hbz := blk_new (w6.alloc (.cells cacZ.vv 25)) (.cells (rowV rowZ) 38)
          rw [show (w6.alloc (.cells cacZ.vv 25)).heap.size = w6.heap.size + 1 by simp] at hbz
          have hbc := blk_below (blk_new w6 (.cells cacZ.vv 25)) (below_alloc (Below.refl _ _) (.cells (rowV rowZ) 38))
          have HB8f := Lib.hid (fun (W U : World) (h : ((w6.alloc (.cells cacZ.vv 25)).alloc (.cells (rowV rowZ) 38)).grownBy W (some w6.heap.size)) (h2 : W.grownBy U (some (w6.heap.size + 1))) => below_grown (below_grown (below_alloc (below_alloc (Below.refl w6.heap.size w6) (.cells cacZ.vv 25)) (.cells (rowV rowZ) 38)) h (Nat.le_refl _)) h2 (Nat.le_succ _))
          by_cases hN0 : N = 0
          · subst hN0
            go_upto_region 17 with (first | ((with_reducible show wpList _ _ _ (Oper.mk _ (Op.store _ _ _) _ _ _ _ :: _) _ _); refine wpList_store_blk hbc 25 0 y2.vv (Nat.le_refl _) (info_cac _) (cac_one _) _ _ rfl rfl rfl rfl ?_; intro w7 hg9 hs9 hb9; rw [splice_cac] at hb9; have H7 := Lib.hid (And.intro hg9 hb9); clear hg9 hs9 hb9) | ((with_reducible show wpList _ _ _ (Oper.mk _ (Op.store _ _ _) _ _ _ _ :: _) _ _); refine wpList_store_blk (blk_grown hbz H7.out.1 (fun e => by injection e with e; omega)) 38 0 (rowV ro) (store_row_fit HFO.out.2.fits (rowV_size rowZ_fits)) (info_row HFO.out.2.fits) (rowV_one _) _ _ rfl rfl rfl rfl ?_; intro w8 hg9 hs9 hb9; rw [splice_row HFO.out.2.fits (rowV_size rowZ_fits)] at hb9; have H8 := Lib.hid (And.intro hg9 hb9); clear hg9 hs9 hb9))
            have hli := HS6.out.li
            obtain ⟨k1, k2, k3, k4, k5, k6, k7, k8, k9, k10⟩ := true_look HS6.out.tr HS6.out.xo (by omega) HS6.out.ce.len.symm HO6.out.len.symm HNN.out HI6.out
            have hlz := long_zero HS6.out.tr.tab (look_zero HNN.out).2.2
            rw [← k2, ← k3] at hlz
            have HYO := Lib.hid (look_yok HS6.out.xo HNN.out HI6.out).1
            have HTR := Lib.hid k1
            have HYN := Lib.hid (And.intro k4 (And.intro k5 k6))
            have HYA := Lib.hid (And.intro k7 k8)
            have HYV := Lib.hid k9
            have HLZ := Lib.hid hlz
            have HB8 := Lib.hid (HB8f.out _ _ H7.out.1 H8.out.1)
            have HX8 := Lib.hid (blk_grown H7.out.2 H8.out.1 (fun e => by injection e with e; omega))
            have HR8 := Lib.hid H8.out.2
            have HS8 := Lib.hid (HS6.out.step HB8.out)
            have HD8 := Lib.hid (blk_below HD6.out HB8.out)
            have HY8 := Lib.hid (HO6.out.below HB8.out)
            have HBI8 := Lib.hid (below_step HBI6.out HB8.out)
            have HL8 := Lib.hid (blk_lt H8.out.2)
            clear k1 k2 k3 k4 k5 k6 k7 k8 k9 k10 hlz hli hbz hbc H7 H8 HS6 HD6 HO6 HB8f HBI6
            go_wp2_with (first | ((with_reducible show wpList _ _ _ (Oper.mk _ (Op.load _ _) _ _ _ _ :: _) _ _); refine wpList_load_g (load_tab HS8.out.tb) _ rfl rfl (by go_simp) ?_) | ((with_reducible show wpList _ _ _ (Oper.mk _ (Op.load _ _) _ _ _ _ :: _) _ _); refine wpList_load_g ((deed_ld HF.out HD8.out).adr) _ rfl rfl (by go_simp) ?_))
            have hnx := HNX.out
            refine (tlongest_any A n c t dd.v dd.l w8 (HL.out.below HBI8.out) HS8.out.te HF.out.l (by omega)).mono ?_
            rintro e w9 ⟨rfl, hb9⟩
            rw [HLZ.out.1, HLZ.out.2.1, HLZ.out.2.2]
            have HB9 := Lib.hid hb9
            have HSZ9 := Lib.hid hb9.size
            clear hb9
            have HB10f := Lib.hid (fun (W : World) (h : (w9.alloc (.cells (rowV rowZ) 38)).grownBy W (some w9.heap.size)) => below_step HB9.out (below_grown (below_alloc (Below.refl w9.heap.size w9) (.cells (rowV rowZ) 38)) h (Nat.le_refl _)))
            have hff : (fo != fo) = false := by simp
            have hlk : IntKind.u64.wrap (looks + 1) = looks + 1 := by
              have h1 := HS8.out.l0
              have h2 := HS8.out.li
              exact IntWalk.u64_in _ (by omega)
            go_upto_region 23 with (first | ((with_reducible show wpList _ _ _ (Oper.mk _ (Op.store _ _ _) _ _ _ _ :: _) _ _); refine wpList_store_blk (blk_new w9 _) 38 0 (rowV ro) (store_row_fit HFO.out.2.fits rfl) (info_row HFO.out.2.fits) (rowV_one _) _ _ rfl rfl rfl rfl ?_; intro w10 hg9 hs9 hb9; rw [splice_row HFO.out.2.fits rfl] at hb9; have H10 := Lib.hid (And.intro hg9 hb9); clear hg9 hs9 hb9) | ((with_reducible show wpList _ _ _ (Oper.mk _ (Op.load _ _) _ _ _ _ :: _) _ _); refine wpList_load_g (((row_at HFO.out.2.fits (blk_below HR8.out (HB10f.out _ H10.out.1))).all _ (Below.refl _ _)).row) _ rfl rfl (by go_simp) ?_) | ((with_reducible show wpList _ _ _ (Oper.mk _ (Op.load _ _) _ _ _ _ :: _) _ _); refine wpList_load_g (((row_at HFO.out.2.fits H10.out.2).all _ (Below.refl _ _)).row) _ rfl rfl (by go_simp) ?_) | ((with_reducible show wpList _ _ _ (Oper.mk _ (Op.binOp _ _ _ _ _) _ _ _ _ :: _) _ _); refine wpList_exw rfl (row_self_nexec rfl ro rfl rfl HFO.out.2 _) ?_) | ((with_reducible show wpList _ _ _ (Oper.mk _ (Op.load _ _) _ _ _ _ :: _) _ _); refine wpList_load_g (((cac_at (blk_below HS8.out.cb (HB10f.out _ H10.out.1))).all _ (Below.refl _ _)).ents) _ rfl rfl (by go_simp) ?_) | ((with_reducible show wpList _ _ _ (Oper.mk _ (Op.load _ _) _ _ _ _ :: _) _ _); refine wpList_load_g (load_cac (blk_below HX8.out (HB10f.out _ H10.out.1))) _ rfl rfl (by go_simp) ?_) | ((with_reducible show wpList _ _ _ (Oper.mk _ (Op.store _ _ _) _ _ _ _ :: _) _ _); refine wpList_store_blk (blk_below HS8.out.cb (HB10f.out _ H10.out.1)) 25 0 y2.vv (Nat.le_refl _) (info_cac _) (cac_one _) _ _ rfl rfl rfl rfl ?_; intro w11 hg9 hs9 hb9; rw [splice_cac] at hb9; have H11 := Lib.hid (And.intro hg9 hb9); clear hg9 hs9 hb9))
            have HB10 := Lib.hid (HB10f.out _ H10.out.1)
            have HSZ10 := Lib.hid (HB10.out.size)
            have hg := HG.out
            have hbs := HBS.out
            have hl4 := HL4.out
            have hl5 := HL5.out
            have HD11 := Lib.hid (blk_grown (blk_below HD8.out HB10.out) H11.out.1 (fun e => by injection e with e; omega))
            have HY11 := Lib.hid ((HY8.out.below HB10.out).grown H11.out.1 (fun ad e h => by injection h with h; have := HF6.out ad e; omega))
            have HX11 := Lib.hid H11.out.2
            have HTE11 := Lib.hid ((HS8.out.te.below HB10.out).grown H11.out.1 (fun ad e h => by injection h with h; have := HS8.out.teb ad e; omega))
            have HTB11 := Lib.hid (blk_grown (blk_below HS8.out.tb HB10.out) H11.out.1 (fun e => by injection e with e; omega))
            have HBL11 := Lib.hid (below_grown (below_step HS8.out.bel HB10.out) H11.out.1 (Nat.le_refl _))
            have HFB := Lib.hid (fun ad (e : y2.A = some ad) => (show w3.heap.size < ad.block by have := HF6.out ad e; omega))
            have hyn := HYN.out
            obtain ⟨b3, o3, hA3, hc3⟩ := RS.at_ HY11.out hyn.2.2
            have HENT : Hid (∀ w0, Below w11.heap.size w11 w0 → (Instr.loadAt 23 (.pointer (some ⟨w2.heap.size, 2, none⟩))).run Tryd.prog w0 = .ok (.slice (some ⟨b3, o3, none⟩) y2.n y2.c) w0) := Lib.hid (fun w0 hS => by
              have h := ((cac_at HX11.out).all w0 hS).ents
              rwa [hA3] at h)
            have HC3 := Lib.hid (hc3 0 hyn.2.2)
            have HE3 := Lib.hid (RS.fits_at HY11.out hyn.2.2)
            have HXO := Lib.hid (HFO.out.1.at_ (i := 0) (by rw [HY11.out.len]; exact hyn.2.2))
            have HSA : Hid (sA (entAt fs 0).v (entAt fs 0).l dd.v dd.l = true) := Lib.hid (sA_true.2 HYA.out)
            have hxw : IntKind.i64.wrap ((x.n : Int) + 1) = (x.n : Int) + 1 := IntWalk.i64_in _ (by omega)
            have hq1 : decide (y2.n < x.n) = false := decide_eq_false (by omega)
            have hq2 : decide ((x.n : Int) + 1 < y2.n) = false := decide_eq_false (by omega)
            have hq2b : decide (x.n + 1 < y2.n) = false := decide_eq_false (by omega)
            have hq3 : ((y2.n : Int) == 0) = false := by simp; omega
            have hq3b : (y2.n == 0) = false := by simp; omega
            have hq4 : (0 : Int) < y2.n := by omega
            have hq5 : 0 < y2.n := by omega
            clear hA3 hc3 hnx hyn hg hbs hl4 hl5 HB10f hff H10
            refine wp_region_mix (fun w0 => Below (w11).heap.size (w11) w0) [(0, 0), (1, 0), (2, 0), (3, 0), (4, 0), (5, 0), (6, 0), (7, 0), (8, 0), (9, 0), (10, 0), (11, 0), (12, 0), (13, 0), (14, 0), (15, 0), (16, 0), (17, 0), (18, 0), (19, 0), (20, 0), (21, 0), (22, 0), (23, 0), (24, 0), (25, 0), (26, 0), (27, 0), (28, 0)] (by kernel_rfl) (by kernel_rfl) (below_drew1 _) ?_
            simp only [List.map_cons, List.map_nil]
            iterate 1 (refine wpO_step0 rfl rfl (fun K hK => ?_); go_simp; refine hK _ _ ?_; clear hK K)
            refine wpO_loadW (t := 23) (ad := ⟨w2.heap.size, 2, none⟩) rfl rfl ?hw rfl rfl (HENT.out) ?_
            case hw => go_simp
            iterate 5 (refine wpO_step0 rfl rfl (fun K hK => ?_); go_simp; refine hK _ _ ?_; clear hK K)
            refine wpO_loadW (t := 23) (ad := ⟨w2.heap.size, 2, none⟩) rfl rfl ?hw rfl rfl (HENT.out) ?_
            case hw => go_simp
            iterate 7 (refine wpO_step0 rfl rfl (fun K hK => ?_); go_simp; refine hK _ _ ?_; clear hK K)
            refine wpO_loadW (t := 23) (ad := ⟨w2.heap.size, 2, none⟩) rfl rfl ?hw rfl rfl (HENT.out) ?_
            case hw => go_simp
            iterate 5 (refine wpO_step0 rfl rfl (fun K hK => ?_); go_simp; refine hK _ _ ?_; clear hK K)
            refine wpO_loadW (t := 23) (ad := ⟨w2.heap.size, 2, none⟩) rfl rfl ?hw rfl rfl (HENT.out) ?_
            case hw => go_simp
            iterate 2 (refine wpO_step0 rfl rfl (fun K hK => ?_); go_simp; refine hK _ _ ?_; clear hK K)
            refine wpO_loadW (t := 31) (ad := ⟨b3, o3, none⟩) rfl rfl ?hw rfl rfl ((fun w0 hS => (entLd_of HE3.out (HC3.out.below hS)).adr)) ?_
            case hw => go_simp
            iterate 1 (refine wpO_step0 rfl rfl (fun K hK => ?_); go_simp; refine hK _ _ ?_; clear hK K)
            refine wpO_loadW (t := 31) (ad := ⟨wr.heap.size, 1, none⟩) rfl rfl ?hw rfl rfl ((fun w0 hS => (deed_ld HF.out (blk_below HD11.out hS)).adr)) ?_
            case hw => go_simp
            refine wpO_step0 rfl rfl (fun K hK => ?_)
            rw [if_pos (show Region.wanted _ _ = true from rfl)]
            refine ⟨_, fun w0 => sA_nexec rfl (entAt fs 0).v (entAt fs 0).l dd.v dd.l rfl rfl HE3.out.l HF.out.l HXO.out.v HAO.out.v w0, hK _ _ ?_⟩
            clear hK K
            iterate 1 (refine wpO_step0 rfl rfl (fun K hK => ?_); go_simp; refine hK _ _ ?_; clear hK K)
            refine wpO_nil ?_
            rw [HSA.out]
            go_wp2_with fail
            go_roundw
            case measure => simp [intOf]; omega
            case rel => exact ⟨i + 1, looks + 1, y2, fs, A, n, c, t, by go_num, rfl, by omega, ⟨blk_below HX11.out (below_drew1 _), HY11.out.below (below_drew1 _), HFB.out, HFO.out.1, HYO.out, blk_below HTB11.out (below_drew1 _), HTE11.out.below (below_drew1 _), HS8.out.teb, HS8.out.ot, HTR.out, by have := HS8.out.l0; omega, by have := HS8.out.li; omega, by rw [HYV.out]; exact HS8.out.v0, by rw [HYV.out]; have := HS8.out.vi; omega, by omega, HG.out.1, below_step HBL11.out (below_drew1 _)⟩⟩
          · have hN0b : (N == 0) = false := by simpa using hN0
            clear hN0
            go_wp2_with (first | ((with_reducible show wpList _ _ _ (Oper.mk _ (Op.store _ _ _) _ _ _ _ :: _) _ _); refine wpList_store_blk hbc 25 0 y2.vv (Nat.le_refl _) (info_cac _) (cac_one _) _ _ rfl rfl rfl rfl ?_; intro w7 hg9 hs9 hb9; rw [splice_cac] at hb9; have H7 := Lib.hid (And.intro hg9 hb9); clear hg9 hs9 hb9) | ((with_reducible show wpList _ _ _ (Oper.mk _ (Op.store _ _ _) _ _ _ _ :: _) _ _); refine wpList_store_blk (blk_grown hbz H7.out.1 (fun e => by injection e with e; omega)) 38 0 (rowV ro) (store_row_fit HFO.out.2.fits (rowV_size rowZ_fits)) (info_row HFO.out.2.fits) (rowV_one _) _ _ rfl rfl rfl rfl ?_; intro w8 hg9 hs9 hb9; rw [splice_row HFO.out.2.fits (rowV_size rowZ_fits)] at hb9; have H8 := Lib.hid (And.intro hg9 hb9); clear hg9 hs9 hb9))
            go_roundw
            case measure => simp [intOf]; omega
            case rel =>
              have hB := HB8f.out _ _ H7.out.1 H8.out.1
              exact ⟨i + 1, looks, x, es, A, n, c, t, by go_num, rfl, by omega, (HS6.out.step hB).more hi60⟩
        · have htn := HS5.out.tn
          go_wp2_with (first | ((with_reducible show wpList _ _ _ (Oper.mk _ (Op.load _ _) _ _ _ _ :: _) _ _); refine wpList_load_g (load_tab HS5.out.tb) _ rfl rfl (by go_simp) ?_) | ((with_reducible show wpList _ _ _ (Oper.mk _ (Op.load _ _) _ _ _ _ :: _) _ _); refine wpList_load_g ((deed_ld HF.out HD5.out).pfx) _ rfl rfl (by go_simp) ?_) | ((with_reducible show wpList _ _ _ (Oper.mk _ (Op.load _ _) _ _ _ _ :: _) _ _); refine wpList_load_g ((deed_ld HF.out HD5.out).hop) _ rfl rfl (by go_simp) ?_))
          refine (tset_any A n c t dd.p dd.h w5 (HL.out.below HBI5.out) HS5.out.te HF.out.p (by omega)).mono ?_
          rintro e w6 ⟨A6, n6, c6, rfl, hO6, hb6⟩
          have HO6 := Lib.hid hO6
          have HS6 := Lib.hid (HS5.out.step hb6)
          have HT6 := Lib.hid (blk_below HT5.out hb6)
          have HB6 := Lib.hid (below_step HB5.out hb6)
          have HBS := Lib.hid hb6.size
          have HOK := Lib.hid (oks_set27 (h := dd.h) HS5.out.ot HAO.out.p HS5.out.te.fits)
          have HTAB := Lib.hid (fun h => set_ok27 (h := dd.h) HS5.out.te.fits HF.out.p h)
          obtain ⟨u, hu⟩ : ∃ u, setL t dd.p dd.h = u := ⟨_, rfl⟩
          obtain ⟨N, hN⟩ : ∃ N, setE t dd.p dd.h = N := ⟨_, rfl⟩
          rw [hu] at HO6 HOK HTAB
          rw [hN] at HTAB ⊢
          clear hO6 hb6 htn HS5 HT5 HD5 HB5 hu hN
          by_cases hN0 : N = 0
          · subst hN0
            go_upto_region 30 with (first | ((with_reducible show wpList _ _ _ (Oper.mk _ (Op.store _ _ _) _ _ _ _ :: _) _ _); refine wpList_store_blk HT6.out 28 0 (tabV A6 n6 c6) (Nat.le_refl _) (info_tab _ _ _) (tab_one _ _ _) _ _ rfl rfl rfl rfl ?_; intro w7 hg9 hs9 hb9; rw [splice_tab] at hb9; have H7 := Lib.hid (And.intro hg9 hb9); clear hg9 hs9 hb9))
            have HB7 := Lib.hid (below_grown HB6.out H7.out.1 (Nat.le_of_lt HL4.out))
            have HS7 := Lib.hid (HI.out.2.step HB7.out)
            have HBI7 := Lib.hid (below_step HBI.out HB7.out)
            have HU7 := Lib.hid (HO6.out.reads.grown H7.out.1 (fun ad e h => by injection h with h; have := HO6.out.base_ ad e; have := HL5.out; omega))
            have HUB := Lib.hid HO6.out.base_
            have HT7 := Lib.hid H7.out.2
            have HZ7 := Lib.hid H7.out.1.size
            have HTU := Lib.hid (HTAB.out (by first | exact trivial | rfl))
            have hul := (tabB_to HTU.out).1
            rw [HU7.out.len] at hul
            have HUL := Lib.hid hul
            have hv0 := HS7.out.v0
            have hvi := HS7.out.vi
            have hvw : IntKind.u64.wrap (x.ver + 1) = x.ver + 1 := IntWalk.u64_in _ (by omega)
            have HWF : Hid ((Lit.int .u64 (x.ver + 1)).wf = true ∧ x.ver + 1 ≤ 4611686018427387904) := Lib.hid (by
              simp [Lit.wf, IntKind.min, IntKind.max, IntKind.bits, IntKind.signed]
              omega)
            clear HO6 HTAB HT6 HS6 HB6 H7 hul hv0 hvi
            go_wp2_with (first | ((with_reducible show wpList _ _ _ (Oper.mk _ (Op.load _ _) _ _ _ _ :: _) _ _); refine wpList_load_g (load_cac HS7.out.cb) _ rfl rfl (by go_simp) ?_) | ((with_reducible show wpList _ _ _ (Oper.mk _ (Op.load _ _) _ _ _ _ :: _) _ _); refine wpList_load_g (load_tab HS7.out.tb) _ rfl rfl (by go_simp) ?_) | ((with_reducible show wpList _ _ _ (Oper.mk _ (Op.load _ _) _ _ _ _ :: _) _ _); refine wpList_load_g (load_tab HT7.out) _ rfl rfl (by go_simp) ?_) | ((with_reducible show wpList _ _ _ (Oper.mk _ (Op.load _ _) _ _ _ _ :: _) _ _); refine wpList_load_g (((cac_at HS7.out.cb).all _ (Below.refl _ _)).ver) _ rfl rfl (by go_simp) ?_))
            clear hvw
            have hxn := HS7.out.xn
            have htn := HS7.out.tn
            have hul := HUL.out
            refine (cmove_any x es A n c t A6 n6 c6 u (x.ver + 1) w7 (HL.out.below HBI7.out) HS7.out.ce HS7.out.oe (by omega) HS7.out.xo HS7.out.te HS7.out.ot (by omega) HU7.out HOK.out (by omega) HWF.out.1).mono ?_
            rintro e w8 ⟨y2, fs, kk, rfl, hO8, hF8, hI8, hb8⟩
            obtain ⟨m0, m1, m2, m3, m4⟩ := true_move HS7.out.tr HS7.out.ce.len.symm hO8.len.symm HS7.out.te.fits HU7.out.fits HTU.out HWF.out.2 hI8
            rw [m0]
            have HYO := Lib.hid (move_yok HS7.out.xo m0 HWF.out.1 hI8)
            have HTR := Lib.hid m1
            have HYV := Lib.hid m2
            have HOF := Lib.hid (move_ok HS7.out.oe hI8).1
            have HY8 := Lib.hid hO8
            have HF8 := Lib.hid hF8
            have HB8 := Lib.hid hb8
            have HZ8 := Lib.hid hb8.size
            have HYN : Hid (y2.n ≤ 16) := Lib.hid (by rw [← hO8.len]; have := HS7.out.ce.len; omega)
            clear m0 m1 m2 m3 m4 hO8 hF8 hI8 hb8
            go_upto_region 33 with (first | ((with_reducible show wpList _ _ _ (Oper.mk _ (Op.store _ _ _) _ _ _ _ :: _) _ _); refine wpList_store_blk (blk_new w8 (.cells cacZ.vv 25)) 25 0 y2.vv (Nat.le_refl _) (info_cac _) (cac_one _) _ _ rfl rfl rfl rfl ?_; intro w9 hg9 hs9 hb9; rw [splice_cac] at hb9; have H9 := Lib.hid (And.intro hg9 hb9); clear hg9 hs9 hb9))
            have hg := HG.out
            have hbs := HBS.out
            have hl4 := HL4.out
            have hl5 := HL5.out
            have hz7 := HZ7.out
            have hz8 := HZ8.out
            have HB9 := Lib.hid (below_step (below_step HB8.out (below_grown (below_alloc (Below.refl w8.heap.size w8) (.cells cacZ.vv 25)) H9.out.1 (Nat.le_refl _))) (below_drew1 w9))
            have HS9 := Lib.hid (HS7.out.step HB9.out)
            have HT9 := Lib.hid (blk_below HT7.out HB9.out)
            have HX9 := Lib.hid (blk_below H9.out.2 (below_drew1 w9))
            have HU9 := Lib.hid (HU7.out.below HB9.out)
            have HY9 := Lib.hid ((HY8.out.below (below_grown (below_alloc (Below.refl w8.heap.size w8) (.cells cacZ.vv 25)) H9.out.1 (Nat.le_refl _))).below (below_drew1 w9))
            clear HB7 HS7 HBI7 HU7 HT7 HY8 HB8 HB9 H9
            refine wp_region_mix ((fun w0 => w0.heap[w8.heap.size]? = some (.cells y2.vv 25 (0, 0)) ∧ w0.heap[w4.heap.size]? = some (.cells (tabV A6 n6 c6) 28 (0, 0)))) [(0, 0), (1, 0), (2, 2), (3, 2)] (by kernel_rfl) (by kernel_rfl) (⟨HX9.out, HT9.out⟩) ?_
            simp only [List.map_cons, List.map_nil]
            refine wpO_loadW (t := 25) (ad := ⟨w8.heap.size, 0, none⟩) rfl rfl ?hw rfl rfl ((fun w0 hS => load_cac hS.1)) ?_
            case hw => go_simp
            refine wpO_loadW (t := 28) (ad := ⟨w4.heap.size, 0, none⟩) rfl rfl ?hw rfl rfl ((fun w0 hS => load_tab hS.2)) ?_
            case hw => go_simp
            refine wpO_step2 rfl rfl (⟨HX9.out, HT9.out⟩) (fun K hK => ?_)
            rw [if_pos (show Region.wanted _ _ = true from rfl)]
            refine oper_store_blk HS9.out.cb 25 0 y2.vv (Nat.le_refl _) (info_cac _) (cac_one _) _ _ rfl rfl rfl ?_
            intro w10 hg8 hs8 hb8
            rw [splice_cac] at hb8
            have H10 := Lib.hid (And.intro hg8 hb8)
            clear hg8 hs8 hb8
            have HX10 := Lib.hid (blk_grown HX9.out H10.out.1 (fun e => by injection e with e; omega))
            have HT10 := Lib.hid (blk_grown HT9.out H10.out.1 (fun e => by injection e with e; omega))
            have HG10 := Lib.hid (blk_grown HS9.out.tb H10.out.1 (fun e => by injection e with e; omega))
            refine hK _ _ ⟨⟨HX10.out, HT10.out⟩, ?_⟩
            clear hK K
            refine wpO_step2 rfl rfl (⟨HX10.out, HT10.out⟩) (fun K hK => ?_)
            rw [if_pos (show Region.wanted _ _ = true from rfl)]
            refine oper_store_blk HG10.out 28 0 (tabV A6 n6 c6) (Nat.le_refl _) (info_tab _ _ _) (tab_one _ _ _) _ _ rfl rfl rfl ?_
            intro w11 hg8 hs8 hb8
            rw [splice_tab] at hb8
            have H11 := Lib.hid (And.intro hg8 hb8)
            clear hg8 hs8 hb8
            refine hK _ _ ⟨⟨blk_grown HX10.out H11.out.1 (fun e => by injection e with e; omega), blk_grown HT10.out H11.out.1 (fun e => by injection e with e; omega)⟩, ?_⟩
            clear hK K
            refine wpO_nil ?_
            have HC11 := Lib.hid (blk_grown H10.out.2 H11.out.1 (fun e => by injection e with e; omega))
            have HT11 := Lib.hid H11.out.2
            have HBL11 := Lib.hid (below_grown (below_grown HS9.out.bel H10.out.1 (Nat.le_refl _)) H11.out.1 (Nat.le_of_lt HG.out.1))
            have HFB := Lib.hid (fun ad (e : y2.A = some ad) => (show w3.heap.size < ad.block by have := HF8.out ad e; omega))
            have HFU := Lib.hid (fun ad (e : A6 = some ad) => (show w3.heap.size < ad.block by have := HUB.out ad e; omega))
            have HY11 := Lib.hid ((HY9.out.grown H10.out.1 (fun ad e h => by injection h with h; have := HFB.out ad e; omega)).grown H11.out.1 (fun ad e h => by injection h with h; have := HFB.out ad e; omega))
            have HU11 := Lib.hid ((HU9.out.grown H10.out.1 (fun ad e h => by injection h with h; have := HFU.out ad e; omega)).grown H11.out.1 (fun ad e h => by injection h with h; have := HFU.out ad e; omega))
            clear HX9 HT9 HX10 HT10 HG10 H10 H11 HY9 HU9 hg hbs hl4 hl5 hz7 hz8
            go_wp2_with (first | ((with_reducible show wpList _ _ _ (Oper.mk _ (Op.load _ _) _ _ _ _ :: _) _ _); refine wpList_load_g (load_cac HC11.out) _ rfl rfl (by go_simp) ?_) | ((with_reducible show wpList _ _ _ (Oper.mk _ (Op.load _ _) _ _ _ _ :: _) _ _); refine wpList_load_g (load_tab HT11.out) _ rfl rfl (by go_simp) ?_))
            have hyn := HYN.out
            have hul := HUL.out
            refine (cright_any y2 fs A6 n6 c6 u w11 (HL.out.below (below_step HB2.out HBL11.out)) HY11.out HOF.out (by omega) HU11.out HOK.out (by omega)).mono ?_
            rintro e w12 ⟨rfl, hb12⟩
            rw [(true_right HTR.out).1, (true_right HTR.out).2]
            have HB12 := Lib.hid hb12
            clear hb12
            go_wp2_with fail
            go_roundw
            case measure => simp [intOf]; omega
            case rel => exact ⟨i + 1, looks, y2, fs, A6, n6, c6, u, by go_num, rfl, by omega, ⟨blk_below HC11.out HB12.out, HY11.out.below HB12.out, HFB.out, HOF.out, HYO.out, blk_below HT11.out HB12.out, HU11.out.below HB12.out, HFU.out, HOK.out, HTR.out, HS9.out.l0, by have := HS9.out.li; omega, by rw [HYV.out]; have := HS9.out.v0; omega, by rw [HYV.out]; have := HS9.out.vi; omega, by omega, HG.out.1, below_step HBL11.out HB12.out⟩⟩
          · have hN0b : (N == 0) = false := by simpa using hN0
            clear hN0
            go_wp2_with (first | ((with_reducible show wpList _ _ _ (Oper.mk _ (Op.store _ _ _) _ _ _ _ :: _) _ _); refine wpList_store_blk HT6.out 28 0 (tabV A6 n6 c6) (Nat.le_refl _) (info_tab _ _ _) (tab_one _ _ _) _ _ rfl rfl rfl rfl ?_; intro w7 hg9 hs9 hb9; rw [splice_tab] at hb9; have H7 := Lib.hid (And.intro hg9 hb9); clear hg9 hs9 hb9))
            go_roundw
            case measure => simp [intOf]; omega
            case rel =>
              exact ⟨i + 1, looks, x, es, A, n, c, t, by go_num, rfl, by omega, (HI.out.2.step (below_grown HB6.out H7.out.1 (Nat.le_of_lt HL4.out))).more hi60⟩
        · have htn := HS5.out.tn
          go_wp2_with (first | ((with_reducible show wpList _ _ _ (Oper.mk _ (Op.load _ _) _ _ _ _ :: _) _ _); refine wpList_load_g (load_tab HS5.out.tb) _ rfl rfl (by go_simp) ?_) | ((with_reducible show wpList _ _ _ (Oper.mk _ (Op.load _ _) _ _ _ _ :: _) _ _); refine wpList_load_g ((deed_ld HF.out HD5.out).pfx) _ rfl rfl (by go_simp) ?_))
          refine (tdrop_any A n c t dd.p w5 (HL.out.below HBI5.out) HS5.out.te HF.out.p (by omega)).mono ?_
          rintro e w6 ⟨A6, n6, c6, rfl, hO6, hb6⟩
          have HO6 := Lib.hid hO6
          have HS6 := Lib.hid (HS5.out.step hb6)
          have HT6 := Lib.hid (blk_below HT5.out hb6)
          have HB6 := Lib.hid (below_step HB5.out hb6)
          have HBS := Lib.hid hb6.size
          have HOK := Lib.hid (drop_oks (t := t) (p := dd.p) HS5.out.ot)
          have HTAB := Lib.hid (fun h => drop_ok27 (t := t) (p := dd.p) h)
          obtain ⟨u, hu⟩ : ∃ u, dropL t dd.p = u := ⟨_, rfl⟩
          obtain ⟨N, hN⟩ : ∃ N, dropE t dd.p = N := ⟨_, rfl⟩
          rw [hu] at HO6 HOK HTAB
          rw [hN] at HTAB ⊢
          clear hO6 hb6 htn HS5 HT5 HD5 HB5 hu hN
          by_cases hN0 : N = 0
          · subst hN0
            go_upto_region 30 with (first | ((with_reducible show wpList _ _ _ (Oper.mk _ (Op.store _ _ _) _ _ _ _ :: _) _ _); refine wpList_store_blk HT6.out 28 0 (tabV A6 n6 c6) (Nat.le_refl _) (info_tab _ _ _) (tab_one _ _ _) _ _ rfl rfl rfl rfl ?_; intro w7 hg9 hs9 hb9; rw [splice_tab] at hb9; have H7 := Lib.hid (And.intro hg9 hb9); clear hg9 hs9 hb9))
            have HB7 := Lib.hid (below_grown HB6.out H7.out.1 (Nat.le_of_lt HL4.out))
            have HS7 := Lib.hid (HI.out.2.step HB7.out)
            have HBI7 := Lib.hid (below_step HBI.out HB7.out)
            have HU7 := Lib.hid (HO6.out.reads.grown H7.out.1 (fun ad e h => by injection h with h; have := HO6.out.base_ ad e; have := HL5.out; omega))
            have HUB := Lib.hid HO6.out.base_
            have HT7 := Lib.hid H7.out.2
            have HZ7 := Lib.hid H7.out.1.size
            have HTU := Lib.hid (HTAB.out (by first | exact trivial | rfl))
            have hul := (tabB_to HTU.out).1
            rw [HU7.out.len] at hul
            have HUL := Lib.hid hul
            have hv0 := HS7.out.v0
            have hvi := HS7.out.vi
            have hvw : IntKind.u64.wrap (x.ver + 1) = x.ver + 1 := IntWalk.u64_in _ (by omega)
            have HWF : Hid ((Lit.int .u64 (x.ver + 1)).wf = true ∧ x.ver + 1 ≤ 4611686018427387904) := Lib.hid (by
              simp [Lit.wf, IntKind.min, IntKind.max, IntKind.bits, IntKind.signed]
              omega)
            clear HO6 HTAB HT6 HS6 HB6 H7 hul hv0 hvi
            go_wp2_with (first | ((with_reducible show wpList _ _ _ (Oper.mk _ (Op.load _ _) _ _ _ _ :: _) _ _); refine wpList_load_g (load_cac HS7.out.cb) _ rfl rfl (by go_simp) ?_) | ((with_reducible show wpList _ _ _ (Oper.mk _ (Op.load _ _) _ _ _ _ :: _) _ _); refine wpList_load_g (load_tab HS7.out.tb) _ rfl rfl (by go_simp) ?_) | ((with_reducible show wpList _ _ _ (Oper.mk _ (Op.load _ _) _ _ _ _ :: _) _ _); refine wpList_load_g (load_tab HT7.out) _ rfl rfl (by go_simp) ?_) | ((with_reducible show wpList _ _ _ (Oper.mk _ (Op.load _ _) _ _ _ _ :: _) _ _); refine wpList_load_g (((cac_at HS7.out.cb).all _ (Below.refl _ _)).ver) _ rfl rfl (by go_simp) ?_))
            clear hvw
            have hxn := HS7.out.xn
            have htn := HS7.out.tn
            have hul := HUL.out
            refine (cmove_any x es A n c t A6 n6 c6 u (x.ver + 1) w7 (HL.out.below HBI7.out) HS7.out.ce HS7.out.oe (by omega) HS7.out.xo HS7.out.te HS7.out.ot (by omega) HU7.out HOK.out (by omega) HWF.out.1).mono ?_
            rintro e w8 ⟨y2, fs, kk, rfl, hO8, hF8, hI8, hb8⟩
            obtain ⟨m0, m1, m2, m3, m4⟩ := true_move HS7.out.tr HS7.out.ce.len.symm hO8.len.symm HS7.out.te.fits HU7.out.fits HTU.out HWF.out.2 hI8
            rw [m0]
            have HYO := Lib.hid (move_yok HS7.out.xo m0 HWF.out.1 hI8)
            have HTR := Lib.hid m1
            have HYV := Lib.hid m2
            have HOF := Lib.hid (move_ok HS7.out.oe hI8).1
            have HY8 := Lib.hid hO8
            have HF8 := Lib.hid hF8
            have HB8 := Lib.hid hb8
            have HZ8 := Lib.hid hb8.size
            have HYN : Hid (y2.n ≤ 16) := Lib.hid (by rw [← hO8.len]; have := HS7.out.ce.len; omega)
            clear m0 m1 m2 m3 m4 hO8 hF8 hI8 hb8
            go_upto_region 33 with (first | ((with_reducible show wpList _ _ _ (Oper.mk _ (Op.store _ _ _) _ _ _ _ :: _) _ _); refine wpList_store_blk (blk_new w8 (.cells cacZ.vv 25)) 25 0 y2.vv (Nat.le_refl _) (info_cac _) (cac_one _) _ _ rfl rfl rfl rfl ?_; intro w9 hg9 hs9 hb9; rw [splice_cac] at hb9; have H9 := Lib.hid (And.intro hg9 hb9); clear hg9 hs9 hb9))
            have hg := HG.out
            have hbs := HBS.out
            have hl4 := HL4.out
            have hl5 := HL5.out
            have hz7 := HZ7.out
            have hz8 := HZ8.out
            have HB9 := Lib.hid (below_step (below_step HB8.out (below_grown (below_alloc (Below.refl w8.heap.size w8) (.cells cacZ.vv 25)) H9.out.1 (Nat.le_refl _))) (below_drew1 w9))
            have HS9 := Lib.hid (HS7.out.step HB9.out)
            have HT9 := Lib.hid (blk_below HT7.out HB9.out)
            have HX9 := Lib.hid (blk_below H9.out.2 (below_drew1 w9))
            have HU9 := Lib.hid (HU7.out.below HB9.out)
            have HY9 := Lib.hid ((HY8.out.below (below_grown (below_alloc (Below.refl w8.heap.size w8) (.cells cacZ.vv 25)) H9.out.1 (Nat.le_refl _))).below (below_drew1 w9))
            clear HB7 HS7 HBI7 HU7 HT7 HY8 HB8 HB9 H9
            refine wp_region_mix ((fun w0 => w0.heap[w8.heap.size]? = some (.cells y2.vv 25 (0, 0)) ∧ w0.heap[w4.heap.size]? = some (.cells (tabV A6 n6 c6) 28 (0, 0)))) [(0, 0), (1, 0), (2, 2), (3, 2)] (by kernel_rfl) (by kernel_rfl) (⟨HX9.out, HT9.out⟩) ?_
            simp only [List.map_cons, List.map_nil]
            refine wpO_loadW (t := 25) (ad := ⟨w8.heap.size, 0, none⟩) rfl rfl ?hw rfl rfl ((fun w0 hS => load_cac hS.1)) ?_
            case hw => go_simp
            refine wpO_loadW (t := 28) (ad := ⟨w4.heap.size, 0, none⟩) rfl rfl ?hw rfl rfl ((fun w0 hS => load_tab hS.2)) ?_
            case hw => go_simp
            refine wpO_step2 rfl rfl (⟨HX9.out, HT9.out⟩) (fun K hK => ?_)
            rw [if_pos (show Region.wanted _ _ = true from rfl)]
            refine oper_store_blk HS9.out.cb 25 0 y2.vv (Nat.le_refl _) (info_cac _) (cac_one _) _ _ rfl rfl rfl ?_
            intro w10 hg8 hs8 hb8
            rw [splice_cac] at hb8
            have H10 := Lib.hid (And.intro hg8 hb8)
            clear hg8 hs8 hb8
            have HX10 := Lib.hid (blk_grown HX9.out H10.out.1 (fun e => by injection e with e; omega))
            have HT10 := Lib.hid (blk_grown HT9.out H10.out.1 (fun e => by injection e with e; omega))
            have HG10 := Lib.hid (blk_grown HS9.out.tb H10.out.1 (fun e => by injection e with e; omega))
            refine hK _ _ ⟨⟨HX10.out, HT10.out⟩, ?_⟩
            clear hK K
            refine wpO_step2 rfl rfl (⟨HX10.out, HT10.out⟩) (fun K hK => ?_)
            rw [if_pos (show Region.wanted _ _ = true from rfl)]
            refine oper_store_blk HG10.out 28 0 (tabV A6 n6 c6) (Nat.le_refl _) (info_tab _ _ _) (tab_one _ _ _) _ _ rfl rfl rfl ?_
            intro w11 hg8 hs8 hb8
            rw [splice_tab] at hb8
            have H11 := Lib.hid (And.intro hg8 hb8)
            clear hg8 hs8 hb8
            refine hK _ _ ⟨⟨blk_grown HX10.out H11.out.1 (fun e => by injection e with e; omega), blk_grown HT10.out H11.out.1 (fun e => by injection e with e; omega)⟩, ?_⟩
            clear hK K
            refine wpO_nil ?_
            have HC11 := Lib.hid (blk_grown H10.out.2 H11.out.1 (fun e => by injection e with e; omega))
            have HT11 := Lib.hid H11.out.2
            have HBL11 := Lib.hid (below_grown (below_grown HS9.out.bel H10.out.1 (Nat.le_refl _)) H11.out.1 (Nat.le_of_lt HG.out.1))
            have HFB := Lib.hid (fun ad (e : y2.A = some ad) => (show w3.heap.size < ad.block by have := HF8.out ad e; omega))
            have HFU := Lib.hid (fun ad (e : A6 = some ad) => (show w3.heap.size < ad.block by have := HUB.out ad e; omega))
            have HY11 := Lib.hid ((HY9.out.grown H10.out.1 (fun ad e h => by injection h with h; have := HFB.out ad e; omega)).grown H11.out.1 (fun ad e h => by injection h with h; have := HFB.out ad e; omega))
            have HU11 := Lib.hid ((HU9.out.grown H10.out.1 (fun ad e h => by injection h with h; have := HFU.out ad e; omega)).grown H11.out.1 (fun ad e h => by injection h with h; have := HFU.out ad e; omega))
            clear HX9 HT9 HX10 HT10 HG10 H10 H11 HY9 HU9 hg hbs hl4 hl5 hz7 hz8
            go_wp2_with (first | ((with_reducible show wpList _ _ _ (Oper.mk _ (Op.load _ _) _ _ _ _ :: _) _ _); refine wpList_load_g (load_cac HC11.out) _ rfl rfl (by go_simp) ?_) | ((with_reducible show wpList _ _ _ (Oper.mk _ (Op.load _ _) _ _ _ _ :: _) _ _); refine wpList_load_g (load_tab HT11.out) _ rfl rfl (by go_simp) ?_))
            have hyn := HYN.out
            have hul := HUL.out
            refine (cright_any y2 fs A6 n6 c6 u w11 (HL.out.below (below_step HB2.out HBL11.out)) HY11.out HOF.out (by omega) HU11.out HOK.out (by omega)).mono ?_
            rintro e w12 ⟨rfl, hb12⟩
            rw [(true_right HTR.out).1, (true_right HTR.out).2]
            have HB12 := Lib.hid hb12
            clear hb12
            go_wp2_with fail
            go_roundw
            case measure => simp [intOf]; omega
            case rel => exact ⟨i + 1, looks, y2, fs, A6, n6, c6, u, by go_num, rfl, by omega, ⟨blk_below HC11.out HB12.out, HY11.out.below HB12.out, HFB.out, HOF.out, HYO.out, blk_below HT11.out HB12.out, HU11.out.below HB12.out, HFU.out, HOK.out, HTR.out, HS9.out.l0, by have := HS9.out.li; omega, by rw [HYV.out]; have := HS9.out.v0; omega, by rw [HYV.out]; have := HS9.out.vi; omega, by omega, HG.out.1, below_step HBL11.out HB12.out⟩⟩
          · have hN0b : (N == 0) = false := by simpa using hN0
            clear hN0
            go_wp2_with (first | ((with_reducible show wpList _ _ _ (Oper.mk _ (Op.store _ _ _) _ _ _ _ :: _) _ _); refine wpList_store_blk HT6.out 28 0 (tabV A6 n6 c6) (Nat.le_refl _) (info_tab _ _ _) (tab_one _ _ _) _ _ rfl rfl rfl rfl ?_; intro w7 hg9 hs9 hb9; rw [splice_tab] at hb9; have H7 := Lib.hid (And.intro hg9 hb9); clear hg9 hs9 hb9))
            go_roundw
            case measure => simp [intOf]; omega
            case rel =>
              exact ⟨i + 1, looks, x, es, A, n, c, t, by go_num, rfl, by omega, (HI.out.2.step (below_grown HB6.out H7.out.1 (Nat.le_of_lt HL4.out))).more hi60⟩
    · have hlt' : decide (i < m) = false := decide_eq_false hlt
      have hsum := HI.out.2.tr.sum
      have hl0 := HI.out.2.l0
      have hli := HI.out.2.li
      have hi60 := HI.out.2.i60
      have hw9 : IntKind.u64.wrap (x.hits + x.misses) = looks := by rw [hsum]; exact IntWalk.u64_in _ (by omega)
      go_wp2_with (first | ((with_reducible show wpList _ _ _ (Oper.mk _ (Op.load _ _) _ _ _ _ :: _) _ _); refine wpList_load_g (((cac_at HI.out.2.cb).all _ (Below.refl _ _)).hits) _ rfl rfl (by go_simp) ?_) | ((with_reducible show wpList _ _ _ (Oper.mk _ (Op.load _ _) _ _ _ _ :: _) _ _); refine wpList_load_g (((cac_at HI.out.2.cb).all _ (Below.refl _ _)).misses) _ rfl rfl (by go_simp) ?_) | ((with_reducible show wpList _ _ _ (Oper.mk _ (Op.load _ _) _ _ _ _ :: _) _ _); refine wpList_load_g (load_cac HI.out.2.cb) _ rfl rfl (by go_simp) ?_))
      have hxn := HI.out.2.xn
      refine (ccheck_any x es wr (HL.out.below HBI.out) HI.out.2.ce HI.out.2.oe (by omega)).mono ?_
      rintro e w5 ⟨rfl, hb5⟩
      rw [cacE_true HI.out.2.tr.ok]
      have HB5 := Lib.hid (below_step HBI.out hb5)
      clear hb5
      go_wp2
      go_ret
      exact ⟨rfl, HB5.out⟩
end Go.Proofs.YtihfaknflfmohaaDoor

/- The walk of CacheTrue, as the row asks it. -/
namespace Go.Proofs.YtihfaknflfmohaaDoor
open Go.RowKit
set_option linter.unusedVariables false
set_option linter.unusedSimpArgs false
set_option maxRecDepth 4000
theorem cacheTrue_walk (room : Int) (B : Option Addr) (m d : Nat) (l : List Deed) (w : World) (hL : Laid w) (hrw : (Lit.int .i64 room).wf = true) (hl : RS deedK w B m d l) (ol : ∀ a ∈ l, a.ok) (hm : m * 72 ≤ 140737488351232) : Calls Tryd.prog 14 #[.int .i64 room, .slice B m d] w fun e w' => e = .returned (.bool true) ∧ Below w.heap.size w w' := true27_any room B m d l w hL hrw hl ol hm
end Go.Proofs.YtihfaknflfmohaaDoor
