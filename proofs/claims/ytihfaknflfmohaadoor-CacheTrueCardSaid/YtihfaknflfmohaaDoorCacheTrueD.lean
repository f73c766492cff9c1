/- Layer 27 (cache): the law's wakes. -/
import Derived.LoopIn
import Derived.LoopNIn
import Derived.OwnWalkIn
import Derived.RangeFuncBound
import Derived.RangeFuncCalls
import Derived.RangeFuncFrom
import Derived.RangeFuncLeaves
import Derived.RangeFuncNested
import Derived.Shelf.Abstract
import Derived.Shelf.RegionOpen
import Derived.TacticsInMore
import Derived.WalkKit
import Derived.Test.YtihfaknflfmohaaDoorCacheTrueA
import Derived.Test.YtihfaknflfmohaaDoorCacheTrueB
import Derived.Test.YtihfaknflfmohaaDoorCacheTrueC
namespace Go.Proofs.YtihfaknflfmohaaDoor
open Go.RowKit
set_option linter.unusedVariables false
set_option linter.unusedSimpArgs false
set_option maxRecDepth 4000
theorem new21 : newC 2 1 = ⟨2, 1, none, 0, 0, 0, 0⟩ ∧ newE 2 1 = 0 := by
  have h : newE 2 1 = 0 := by unfold newE; rw [if_neg (by decide)]
  exact ⟨by unfold newC; rw [if_pos h], h⟩
def wkC : Cac := ⟨2, 1, none, 0, 0, 0, 0⟩
theorem wkC_ok : wkC.ok := ⟨by decide, by decide, by decide, by decide⟩
def wkE : Ent := ⟨4, tenB, ⟨⟨4, ten8, 8⟩, 1⟩, true⟩
theorem wkE_ok : wkE.ok := ⟨tenB_B, by decide, ⟨⟨ten8_B, by decide, by decide⟩, by decide⟩⟩
theorem wk27_look1 : lookN wkC [] tenT 4 tenB = 0 := by decide +kernel
theorem wk27_hit1 : hitN [] 4 tenB = -1 := by decide +kernel
theorem wk27_told1 : told [] tenT 4 tenB = wkE := by
  unfold told
  rw [if_neg (by rw [wk27_hit1]; decide)]
  have h1 : longR tenT 4 tenB = ⟨⟨4, ten8, 8⟩, 1⟩ := (Row.eqB_iff _ _).1 (by decide +kernel)
  have h2 : longB tenT 4 tenB = true := by decide +kernel
  rw [h1, h2]
  rfl
theorem wk27_l1 {y : Cac} {fs : List Ent} {ro : Row} {fo : Bool} (h : LookIs wkC [] tenT 4 tenB y fs ro fo) : y.room = 2 ∧ y.ver = 1 ∧ fs = [wkE] ∧ y.hits = 0 ∧ y.misses = 1 ∧ ro = ⟨⟨4, ten8, 8⟩, 1⟩ ∧ fo = true := by
  unfold LookIs at h
  rw [if_pos wk27_look1, wk27_told1, wk27_hit1] at h
  obtain ⟨h1, h2, h3, h4, h5, h6, h7⟩ := h
  refine ⟨h1, h2, ?_, h4, h5, h6, h7⟩
  rw [h3]
  unfold lookL
  rw [wk27_hit1, wk27_told1]
  rfl
theorem wk27_look2 (y : Cac) (h1 : y.room = 2) (h2 : y.ver = 1) (h3 : y.n = 1) (h4 : y.hits = 0) (h5 : y.misses = 1) : lookN y [wkE] [] 4 tenB = 0 := by
  have hc : cacB y [wkE] = true := by
    unfold cacB headB
    rw [h1, h2, h3, h4, h5]
    decide +kernel
  unfold lookN
  rw [hc]
  decide +kernel
theorem wk27_hit2 : hitN [wkE] 4 tenB = 0 := by decide +kernel
theorem wk27_l2 {x y : Cac} {fs : List Ent} {ro : Row} {fo : Bool} (h1 : x.room = 2) (h2 : x.ver = 1) (h3 : x.n = 1) (h4 : x.hits = 0) (h5 : x.misses = 1) (h : LookIs x [wkE] [] 4 tenB y fs ro fo) : y.hits = 1 ∧ y.misses = 1 ∧ ro = ⟨⟨4, ten8, 8⟩, 1⟩ ∧ fo = true := by
  unfold LookIs at h
  rw [if_pos (wk27_look2 x h1 h2 h3 h4 h5), wk27_hit2] at h
  obtain ⟨_, _, _, k4, k5, k6, k7⟩ := h
  have ht : told [wkE] [] 4 tenB = wkE := by
    unfold told
    rw [wk27_hit2]
    rfl
  rw [ht] at k6 k7
  refine ⟨by rw [k4, h4]; rfl, by rw [k5, h5]; rfl, k6, k7⟩
theorem RS.blkLt {α : Type} {S : Shape α} {w : World} {A : Option Addr} {n c : Nat} {l : List α} (h : RS S w A n c l) (hn : 0 < n) : ∀ ad, A = some ad → ad.block < w.heap.size := by
  intro ad e
  obtain ⟨ad', e', hc⟩ := h.rv.cells hn
  rw [e] at e'
  injection e' with e'
  subst e'
  have hl := h.rv.len
  have hp : 0 < n * S.sz := Nat.mul_pos hn S.pos
  obtain ⟨v, hv⟩ : ∃ v, (Shape.cells S l)[0]? = some v := ⟨_, List.getElem?_eq_getElem (by omega)⟩
  exact World.block_lt_of_cell? _ _ (hc 0 v hv)
theorem RS.grownN {α : Type} {S : Shape α} {w0 w w1 : World} {A : Option Addr} {n c g : Nat} {l : List α} (h0 : RS S w0 A n c l) (h : RS S w A n c l) (hg : w.grownBy w1 (some g)) (hle : w0.heap.size ≤ g) : RS S w1 A n c l := by
  refine ⟨⟨h.rv.len, h.rv.cap, h.rv.small, fun hn => ?_⟩, h.fits⟩
  obtain ⟨ad, e, hc⟩ := h.rv.cells hn
  refine ⟨ad, e, fun j v hj => hg.cell (hc j v hj) (fun e2 => ?_)⟩
  rw [add_block] at e2
  injection e2 with e2
  have := RS.blkLt h0 hn ad e
  omega
theorem row_self_exec {r : Operand → Value} {o : Oper} {x y : Operand} {ty : TypeId} (ho : o.op = .binOp .eql 38 x y ty) (p : Row) (hx : r x = .agg (rowV p)) (hy : r y = .agg (rowV p)) (hp : p.ok) (w : World) : (execOp r o).run Tryd.prog w = .ok (.value (.bool true)) w := by
  rw [row_eql_exec ho p p hx hy hp hp w, (Row.eqB_iff p p).2 rfl]
set_option maxHeartbeats 4000000 in
theorem wakes27_any (w : World) (hL : Laid w) : Calls Tryd.prog 15 #[] w fun e w' => e = .returned (.bool true) ∧ Below w.heap.size w w' := by
  have HL := Lib.hid hL
  clear hL
  have hz := blk_new w (.cells (adrV 0 zero16) 31)
  go_enter Tryd.func15, Tryd.ntmps15
  go_wp2_with (((with_reducible show wpList _ _ _ (Oper.mk _ (Op.store _ _ _) _ _ _ _ :: _) _ _); refine wpList_store_blk hz 31 0 (adrV 4 tenB) (by decide) (info_adr rfl) (adr_one _ _) _ _ rfl rfl rfl rfl ?_; intro w1 hg9 hs9 hb9; rw [splice_adr0 _ 4 tenB rfl rfl] at hb9; have H1 := Lib.hid (And.intro hg9 hb9); clear hg9 hs9 hb9))
  have HB1 := Lib.hid (below_grown (below_alloc (Below.refl w.heap.size w) (.cells (adrV 0 zero16) 31)) H1.out.1 (Nat.le_refl _))
  clear hz
  refine (cnew_any 2 1 w1).mono ?_
  rintro e w2 ⟨rfl, hb2⟩
  rw [new21.1, new21.2]
  have HB2 := Lib.hid (below_step HB1.out hb2)
  have HA2 := Lib.hid (blk_below H1.out.2 hb2)
  clear hb2 H1 HB1
  go_upto_region 3 with (first | ((with_reducible show wpList _ _ _ (Oper.mk _ (Op.store _ _ _) _ _ _ _ :: _) _ _); refine wpList_store_blk (blk_new w2 (.cells cacZ.vv 25)) 25 0 wkC.vv (Nat.le_refl _) (info_cac _) (cac_one _) _ _ rfl rfl rfl rfl ?_; intro w3 hg9 hs9 hb9; rw [splice_cac] at hb9; have H3 := Lib.hid (And.intro hg9 hb9); clear hg9 hs9 hb9))
  have HB3 := Lib.hid (below_grown (below_alloc HB2.out (.cells cacZ.vv 25)) H3.out.1 HB2.out.size)
  have HA3 := Lib.hid (blk_grown (blk_below HA2.out (below_alloc (Below.refl _ _) (.cells cacZ.vv 25))) H3.out.1 (fun e => by injection e with e; have := blk_lt HA2.out; omega))
  have hg2 := blk_lt H3.out.2
  have hga := blk_lt HA2.out
  have hs2 := HB2.out.size
  have HG := Lib.hid (show w.heap.size < w2.heap.size ∧ w2.heap.size < w3.heap.size from ⟨hga, hg2⟩)
  have HW := Lib.hid hs2
  clear hg2 hga hs2
  have HBD := Lib.hid (below_drew1 w3)
  go_cut [4, 5, 6] (fun s4 s5 s6 wx => ∃ (g4 : Nat) (y : Cac), s4 = .pointer (some ⟨g4, 0, none⟩) ∧ s5 = .bool true ∧ s6 = .int .i64 0 ∧ Hid (wx.heap[w2.heap.size]? = some (.cells y.vv 25 (0, 0)) ∧ wx.heap[g4]? = some (.cells (rowV ⟨⟨4, ten8, 8⟩, 1⟩) 38 (0, 0)) ∧ w2.heap.size < g4 ∧ wx.heap[w.heap.size]? = some (.cells (adrV 4 tenB) 31 (0, 0)) ∧ y.room = 2 ∧ y.ver = 1 ∧ y.n = 1 ∧ y.hits = 0 ∧ y.misses = 1 ∧ RE wx y.A y.n y.c [wkE] ∧ Below w.heap.size w wx))
  case first =>
    refine wp_region_fork ((fun w0 => Below w3.heap.size w3 w0)) (OrdT.fork [0, 2] 1 9 (OrdT.fork [] 3 9 (OrdT.lin [4, 5, 6, 7, 8, 9, 10, 11, 12, 13]) (OrdT.lin [3, 4, 5, 6, 7, 8, 10, 11, 12, 13])) (OrdT.lin [1, 3, 4, 5, 6, 7, 8, 10, 11, 12, 13])) [(0, 0), (1, 2), (2, 0), (3, 2), (4, 4), (5, 4), (6, 4), (7, 4), (8, 4), (9, 2), (10, 3), (11, 3), (12, 3), (13, 3)] (by kernel_rfl) (by kernel_rfl) (HBD.out) ?_
    simp only [wpF]
    refine wpO_loadW (t := 25) (ad := ⟨w2.heap.size, 0, none⟩) rfl rfl ?hw rfl rfl ((fun w0 hS => load_cac (blk_below H3.out.2 hS))) ?_
    case hw => go_simp
    refine wpO_loadW (t := 31) (ad := ⟨w.heap.size, 0, none⟩) rfl rfl ?hw rfl rfl ((fun w0 hS => load_adr0 tenB_B (blk_below HA3.out hS))) ?_
    case hw => go_simp
    refine wpO_nil ⟨?_, ?_⟩
    · refine wpO_step2 rfl rfl (HBD.out) (fun K hK => ?_)
      go_simp
      refine (ten27_any _).mono ?_
      rintro e w4 ⟨Ac, cc, rfl, hO9, hb9⟩
      have HBC := Lib.hid (below_step HBD.out hb9)
      have HCP := Lib.hid hO9
      have hszc := hb9.size
      try replace HZ9 := Lib.hid (blk_below HZ9.out hb9)
      clear hO9 hb9
      refine hK _ _ ⟨HBC.out, ?_⟩
      clear hK K
      refine wpO_nil (wpO_nil ⟨?_, ?_⟩)
      · refine wpO_step2 rfl rfl (HBC.out) (fun K hK => ?_)
        go_simp
        refine (clook_any wkC [] Ac 1 cc tenT 4 tenB _ (HL.out.below (below_step HB3.out HBC.out)) (RS.nil _ _ _ _) (fun e he => by cases he) (by decide) HCP.out (by omega) tenB_B (by decide) wkC_ok).mono ?_
        rintro e w5 ⟨y, fs, ro, fo, rfl, hO9, hF9, hI9, hb9⟩
        obtain ⟨k1, k2, k3, k4, k5, k6, k7⟩ := wk27_l1 hI9
        subst k3 k6 k7
        rw [wk27_look1]
        have HBK := Lib.hid (below_step HBC.out hb9)
        have HYN := Lib.hid hO9.len.symm
        have HY := Lib.hid (And.intro k1 (And.intro k2 (And.intro k4 k5)))
        have HO9 := Lib.hid hO9
        have HFR := Lib.hid (fun ad e => Nat.lt_of_lt_of_le (Nat.lt_of_lt_of_le HG.out.2 HBC.out.size) (hF9 ad e))
        try have HFZ := Lib.hid (fun ad e => Nat.lt_of_lt_of_le (blk_lt HZ9.out) (hF9 ad e))
        try replace HZ9 := Lib.hid (blk_below HZ9.out hb9)
        clear hO9 hb9 hF9 hI9 k1 k2 k4 k5
        refine hK _ _ ⟨HBK.out, ?_⟩
        clear hK K
        refine wpO_nil ?_
        iterate 5 (refine wpO_step4 rfl rfl (fun K hK => ?_); go_simp; refine hK _ _ ?_; clear hK K)
        have HFL := Lib.hid (fun ad e => RS.blkLt HO9.out (by rw [HYN.out]; decide) ad e)
        refine wpO_step2 rfl rfl (HBK.out) (fun K hK => ?_)
        go_simp
        have hz9 := blk_new w5 (.cells (rowV rowZ) 38)
        obtain ⟨w6, hw9⟩ : ∃ w9, World.alloc w5 (.cells (rowV rowZ) 38) = w9 := ⟨_, rfl⟩
        have ha9 : Below (World.heap w5).size w5 w6 := hw9 ▸ below_alloc (Below.refl _ _) _
        have HBL := Lib.hid (below_step HBK.out ha9)
        rw [show World.alloc w5 (.cells #[.int .i64 0, .int .u8 0, .int .u8 0, .int .u8 0, .int .u8 0, .int .u8 0, .int .u8 0, .int .u8 0, .int .u8 0, .int .u8 0, .int .u8 0, .int .u8 0, .int .u8 0, .int .u8 0, .int .u8 0, .int .u8 0, .int .u8 0, .int .i64 0, .int .i64 0] 38) = w6 from hw9]
        rw [hw9] at hz9
        have hzl9 := blk_lt hz9
        have HZ9 := Lib.hid hz9
        try replace HCP := Lib.hid (HCP.out.below ha9)
        try replace HO9 := Lib.hid (HO9.out.below ha9)
        clear hw9 hz9 ha9
        refine hK _ _ ⟨HBL.out, ?_⟩
        clear hK K
        refine wpO_step3 rfl rfl (fun K hK => ?_)
        rw [if_pos (show Region.wanted _ _ = true from rfl)]
        refine oper_store_blk (blk_below H3.out.2 HBL.out) 25 0 y.vv (Nat.le_refl _) (info_cac _) (cac_one _) _ _ rfl rfl rfl ?_
        intro u1 hg8 hs8 hb8
        rw [splice_cac] at hb8
        have U1 := Lib.hid (And.intro hg8 hb8)
        clear hg8 hs8 hb8
        refine hK _ _ ?_
        clear hK K
        refine wpO_step3 rfl rfl (fun K hK => ?_)
        rw [if_pos (show Region.wanted _ _ = true from rfl)]
        refine oper_store_blk (blk_grown HZ9.out U1.out.1 (fun e => by injection e with e; have := (Nat.lt_of_lt_of_le HG.out.2 HBK.out.size); omega)) 38 0 (rowV ⟨⟨4, ten8, 8⟩, 1⟩) (store_row_fit (r := ⟨⟨4, ten8, 8⟩, 1⟩) ten8_B (rowV_size rowZ_fits)) (info_row (r := ⟨⟨4, ten8, 8⟩, 1⟩) ten8_B) (rowV_one _) _ _ rfl rfl rfl ?_
        intro u2 hg9 hs9 hb9
        rw [splice_row (r := ⟨⟨4, ten8, 8⟩, 1⟩) ten8_B (rowV_size rowZ_fits)] at hb9
        have U2 := Lib.hid (And.intro hg9 hb9)
        clear hg9 hs9 hb9
        refine hK _ _ ?_
        clear hK K
        refine wpO_step3 rfl rfl (fun K hK => ?_); go_simp; refine hK _ _ ?_; clear hK K
        refine wpO_step3 rfl rfl (fun K hK => ?_); go_simp; refine hK _ _ ?_; clear hK K
        refine wpO_nil ?_
        go_wp2_with fail
        go_meet
        have hq := (Nat.lt_of_lt_of_le HG.out.2 HBK.out.size)
        have hg := HG.out
        exact ⟨w5.heap.size, y, rfl, rfl, rfl, blk_grown U1.out.2 U2.out.1 (fun e => by injection e with e; omega), U2.out.2, hq, blk_grown (blk_grown (blk_below HA3.out HBL.out) U1.out.1 (fun e => by injection e with e; omega)) U2.out.1 (fun e => by injection e with e; omega), HY.out.1, HY.out.2.1, HYN.out, HY.out.2.2.1, HY.out.2.2.2, ((HO9.out.grown U1.out.1 (fun ad e h => by injection h with h; have := HFR.out ad e; omega)).grown U2.out.1 (fun ad e h => by injection h with h; have := HFL.out ad e; omega)), below_grown (below_grown (below_step HB3.out HBL.out) U1.out.1 (by omega)) U2.out.1 (by omega)⟩
      · refine wpO_step2 rfl rfl (HBC.out) (fun K hK => ?_)
        go_simp
        have hz9 := blk_new w4 (.cells (rowV rowZ) 38)
        obtain ⟨w5, hw9⟩ : ∃ w9, World.alloc w4 (.cells (rowV rowZ) 38) = w9 := ⟨_, rfl⟩
        have ha9 : Below (World.heap w4).size w4 w5 := hw9 ▸ below_alloc (Below.refl _ _) _
        have HBK := Lib.hid (below_step HBC.out ha9)
        rw [show World.alloc w4 (.cells #[.int .i64 0, .int .u8 0, .int .u8 0, .int .u8 0, .int .u8 0, .int .u8 0, .int .u8 0, .int .u8 0, .int .u8 0, .int .u8 0, .int .u8 0, .int .u8 0, .int .u8 0, .int .u8 0, .int .u8 0, .int .u8 0, .int .u8 0, .int .i64 0, .int .i64 0] 38) = w5 from hw9]
        rw [hw9] at hz9
        have hzl9 := blk_lt hz9
        have HZ9 := Lib.hid hz9
        try replace HCP := Lib.hid (HCP.out.below ha9)
        try replace HO9 := Lib.hid (HO9.out.below ha9)
        clear hw9 hz9 ha9
        refine hK _ _ ⟨HBK.out, ?_⟩
        clear hK K
        refine wpO_nil ?_
        refine wpO_step2 rfl rfl (HBK.out) (fun K hK => ?_)
        go_simp
        refine (clook_any wkC [] Ac 1 cc tenT 4 tenB _ (HL.out.below (below_step HB3.out HBK.out)) (RS.nil _ _ _ _) (fun e he => by cases he) (by decide) HCP.out (by omega) tenB_B (by decide) wkC_ok).mono ?_
        rintro e w6 ⟨y, fs, ro, fo, rfl, hO9, hF9, hI9, hb9⟩
        obtain ⟨k1, k2, k3, k4, k5, k6, k7⟩ := wk27_l1 hI9
        subst k3 k6 k7
        rw [wk27_look1]
        have HBL := Lib.hid (below_step HBK.out hb9)
        have HYN := Lib.hid hO9.len.symm
        have HY := Lib.hid (And.intro k1 (And.intro k2 (And.intro k4 k5)))
        have HO9 := Lib.hid hO9
        have HFR := Lib.hid (fun ad e => Nat.lt_of_lt_of_le (Nat.lt_of_lt_of_le HG.out.2 HBK.out.size) (hF9 ad e))
        try have HFZ := Lib.hid (fun ad e => Nat.lt_of_lt_of_le (blk_lt HZ9.out) (hF9 ad e))
        try replace HZ9 := Lib.hid (blk_below HZ9.out hb9)
        clear hO9 hb9 hF9 hI9 k1 k2 k4 k5
        refine hK _ _ ⟨HBL.out, ?_⟩
        clear hK K
        iterate 5 (refine wpO_step4 rfl rfl (fun K hK => ?_); go_simp; refine hK _ _ ?_; clear hK K)
        refine wpO_step3 rfl rfl (fun K hK => ?_)
        rw [if_pos (show Region.wanted _ _ = true from rfl)]
        refine oper_store_blk (blk_below H3.out.2 HBL.out) 25 0 y.vv (Nat.le_refl _) (info_cac _) (cac_one _) _ _ rfl rfl rfl ?_
        intro u1 hg8 hs8 hb8
        rw [splice_cac] at hb8
        have U1 := Lib.hid (And.intro hg8 hb8)
        clear hg8 hs8 hb8
        refine hK _ _ ?_
        clear hK K
        refine wpO_step3 rfl rfl (fun K hK => ?_)
        rw [if_pos (show Region.wanted _ _ = true from rfl)]
        refine oper_store_blk (blk_grown HZ9.out U1.out.1 (fun e => by injection e with e; have := (Nat.lt_of_lt_of_le HG.out.2 HBC.out.size); omega)) 38 0 (rowV ⟨⟨4, ten8, 8⟩, 1⟩) (store_row_fit (r := ⟨⟨4, ten8, 8⟩, 1⟩) ten8_B (rowV_size rowZ_fits)) (info_row (r := ⟨⟨4, ten8, 8⟩, 1⟩) ten8_B) (rowV_one _) _ _ rfl rfl rfl ?_
        intro u2 hg9 hs9 hb9
        rw [splice_row (r := ⟨⟨4, ten8, 8⟩, 1⟩) ten8_B (rowV_size rowZ_fits)] at hb9
        have U2 := Lib.hid (And.intro hg9 hb9)
        clear hg9 hs9 hb9
        refine hK _ _ ?_
        clear hK K
        refine wpO_step3 rfl rfl (fun K hK => ?_); go_simp; refine hK _ _ ?_; clear hK K
        refine wpO_step3 rfl rfl (fun K hK => ?_); go_simp; refine hK _ _ ?_; clear hK K
        refine wpO_nil ?_
        go_wp2_with fail
        go_meet
        have hq := (Nat.lt_of_lt_of_le HG.out.2 HBC.out.size)
        have hg := HG.out
        exact ⟨w4.heap.size, y, rfl, rfl, rfl, blk_grown U1.out.2 U2.out.1 (fun e => by injection e with e; omega), U2.out.2, hq, blk_grown (blk_grown (blk_below HA3.out HBL.out) U1.out.1 (fun e => by injection e with e; omega)) U2.out.1 (fun e => by injection e with e; omega), HY.out.1, HY.out.2.1, HYN.out, HY.out.2.2.1, HY.out.2.2.2, ((HO9.out.grown U1.out.1 (fun ad e h => by injection h with h; have := HFR.out ad e; omega)).grown U2.out.1 (fun ad e h => by injection h with h; have := HFZ.out ad e; omega)), below_grown (below_grown (below_step HB3.out HBL.out) U1.out.1 (by omega)) U2.out.1 (by omega)⟩
    · refine wpO_step2 rfl rfl (HBD.out) (fun K hK => ?_)
      go_simp
      have hz9 := blk_new w3 (.cells (rowV rowZ) 38)
      obtain ⟨w4, hw9⟩ : ∃ w9, (World.alloc w3 (.cells (rowV rowZ) 38)).drew = w9 := ⟨_, rfl⟩
      have ha9 : Below (World.heap w3).size w3 w4 := hw9 ▸ below_step (below_alloc (Below.refl _ _) _) (below_drew1 _)
      have HBC := Lib.hid ha9
      rw [show (World.alloc w3 (.cells #[.int .i64 0, .int .u8 0, .int .u8 0, .int .u8 0, .int .u8 0, .int .u8 0, .int .u8 0, .int .u8 0, .int .u8 0, .int .u8 0, .int .u8 0, .int .u8 0, .int .u8 0, .int .u8 0, .int .u8 0, .int .u8 0, .int .u8 0, .int .i64 0, .int .i64 0] 38)).drew = w4 from hw9]
      replace hz9 : (World.heap w4)[(World.heap w3).size]? = some (.cells (rowV rowZ) 38 (0, 0)) := by rw [← hw9]; exact hz9
      have hzl9 := blk_lt hz9
      have HZ9 := Lib.hid hz9
      clear hw9 hz9 ha9
      refine hK _ _ ⟨HBC.out, ?_⟩
      clear hK K
      refine wpO_nil ?_
      refine wpO_step2 rfl rfl (HBC.out) (fun K hK => ?_)
      go_simp
      refine (ten27_any _).mono ?_
      rintro e w5 ⟨Ac, cc, rfl, hO9, hb9⟩
      have HBK := Lib.hid (below_step HBC.out hb9)
      have HCP := Lib.hid hO9
      have hszc := hb9.size
      try replace HZ9 := Lib.hid (blk_below HZ9.out hb9)
      clear hO9 hb9
      refine hK _ _ ⟨HBK.out, ?_⟩
      clear hK K
      refine wpO_step2 rfl rfl (HBK.out) (fun K hK => ?_)
      go_simp
      refine (clook_any wkC [] Ac 1 cc tenT 4 tenB _ (HL.out.below (below_step HB3.out HBK.out)) (RS.nil _ _ _ _) (fun e he => by cases he) (by decide) HCP.out (by omega) tenB_B (by decide) wkC_ok).mono ?_
      rintro e w6 ⟨y, fs, ro, fo, rfl, hO9, hF9, hI9, hb9⟩
      obtain ⟨k1, k2, k3, k4, k5, k6, k7⟩ := wk27_l1 hI9
      subst k3 k6 k7
      rw [wk27_look1]
      have HBL := Lib.hid (below_step HBK.out hb9)
      have HYN := Lib.hid hO9.len.symm
      have HY := Lib.hid (And.intro k1 (And.intro k2 (And.intro k4 k5)))
      have HO9 := Lib.hid hO9
      have HFR := Lib.hid (fun ad e => Nat.lt_of_lt_of_le (Nat.lt_of_lt_of_le HG.out.2 HBK.out.size) (hF9 ad e))
      try have HFZ := Lib.hid (fun ad e => Nat.lt_of_lt_of_le (blk_lt HZ9.out) (hF9 ad e))
      try replace HZ9 := Lib.hid (blk_below HZ9.out hb9)
      clear hO9 hb9 hF9 hI9 k1 k2 k4 k5
      refine hK _ _ ⟨HBL.out, ?_⟩
      clear hK K
      iterate 5 (refine wpO_step4 rfl rfl (fun K hK => ?_); go_simp; refine hK _ _ ?_; clear hK K)
      refine wpO_step3 rfl rfl (fun K hK => ?_)
      rw [if_pos (show Region.wanted _ _ = true from rfl)]
      refine oper_store_blk (blk_below H3.out.2 HBL.out) 25 0 y.vv (Nat.le_refl _) (info_cac _) (cac_one _) _ _ rfl rfl rfl ?_
      intro u1 hg8 hs8 hb8
      rw [splice_cac] at hb8
      have U1 := Lib.hid (And.intro hg8 hb8)
      clear hg8 hs8 hb8
      refine hK _ _ ?_
      clear hK K
      refine wpO_step3 rfl rfl (fun K hK => ?_)
      rw [if_pos (show Region.wanted _ _ = true from rfl)]
      refine oper_store_blk (blk_grown HZ9.out U1.out.1 (fun e => by injection e with e; have := HG.out.2; omega)) 38 0 (rowV ⟨⟨4, ten8, 8⟩, 1⟩) (store_row_fit (r := ⟨⟨4, ten8, 8⟩, 1⟩) ten8_B (rowV_size rowZ_fits)) (info_row (r := ⟨⟨4, ten8, 8⟩, 1⟩) ten8_B) (rowV_one _) _ _ rfl rfl rfl ?_
      intro u2 hg9 hs9 hb9
      rw [splice_row (r := ⟨⟨4, ten8, 8⟩, 1⟩) ten8_B (rowV_size rowZ_fits)] at hb9
      have U2 := Lib.hid (And.intro hg9 hb9)
      clear hg9 hs9 hb9
      refine hK _ _ ?_
      clear hK K
      refine wpO_step3 rfl rfl (fun K hK => ?_); go_simp; refine hK _ _ ?_; clear hK K
      refine wpO_step3 rfl rfl (fun K hK => ?_); go_simp; refine hK _ _ ?_; clear hK K
      refine wpO_nil ?_
      go_wp2_with fail
      go_meet
      have hq := HG.out.2
      have hg := HG.out
      exact ⟨w3.heap.size, y, rfl, rfl, rfl, blk_grown U1.out.2 U2.out.1 (fun e => by injection e with e; omega), U2.out.2, hq, blk_grown (blk_grown (blk_below HA3.out HBL.out) U1.out.1 (fun e => by injection e with e; omega)) U2.out.1 (fun e => by injection e with e; omega), HY.out.1, HY.out.2.1, HYN.out, HY.out.2.2.1, HY.out.2.2.2, ((HO9.out.grown U1.out.1 (fun ad e h => by injection h with h; have := HFR.out ad e; omega)).grown U2.out.1 (fun ad e h => by injection h with h; have := HFZ.out ad e; omega)), below_grown (below_grown (below_step HB3.out HBL.out) U1.out.1 (by omega)) U2.out.1 (by omega)⟩
  case rest =>
    obtain ⟨g4, y, rfl, rfl, rfl, HC⟩ := hcut
    obtain ⟨hq1, hq2, hq3, hq4, hq5, hq6, hq7, hq8, hq9, hq10, hq11⟩ := HC.out
    have HQ := Lib.hid (And.intro hq5 (And.intro hq6 (And.intro hq7 (And.intro hq8 hq9))))
    have HCB := Lib.hid hq1
    have HRB := Lib.hid hq2
    have HG4 := Lib.hid hq3
    have HAB := Lib.hid hq4
    have HRE := Lib.hid hq10
    have HBC := Lib.hid hq11
    have HYO : Hid y.ok := Lib.hid ⟨by rw [hq5]; decide, by rw [hq6]; decide, by rw [hq8]; decide, by rw [hq9]; decide⟩
    have hyn : y.n ≤ 100000 := by rw [hq7]; decide
    have hbt := run_build_tab_nil
    clear hq1 hq2 hq3 hq4 hq5 hq6 hq7 hq8 hq9 hq10 hq11
    obtain ⟨v1, rfl⟩ : ∃ v1, v1 = wc := ⟨wc, rfl⟩
    go_wp2_with (first | ((with_reducible show wpList _ _ _ (Oper.mk _ (Op.load _ _) _ _ _ _ :: _) _ _); refine wpList_load_g (load_cac HCB.out) _ rfl rfl (by go_simp) ?_) | ((with_reducible show wpList _ _ _ (Oper.mk _ (Op.build _ _) _ _ _ _ :: _) _ _); refine wpList_exw rfl (exec_build 28 #[] rfl #[] rfl (hbt _)) ?_) | ((with_reducible show wpList _ _ _ (Oper.mk _ (Op.load _ _) _ _ _ _ :: _) _ _); refine wpList_load_g (load_adr0 tenB_B HAB.out) _ rfl rfl (by go_simp) ?_))
    refine (clook_any y [wkE] none 0 0 [] 4 tenB v1 (HL.out.below HBC.out) HRE.out (fun e he => by rw [List.mem_singleton] at he; subst he; exact wkE_ok) hyn (RS.nil _ _ _ _) (by decide) tenB_B (by decide) HYO.out).mono ?_
    rintro e v2 ⟨y2, fs2, ro2, fo2, rfl, hO2, hF2, hI2, hb2⟩
    rw [wk27_look2 y HQ.out.1 HQ.out.2.1 HQ.out.2.2.1 HQ.out.2.2.2.1 HQ.out.2.2.2.2]
    obtain ⟨k1, k2, k3, k4⟩ := wk27_l2 HQ.out.1 HQ.out.2.1 HQ.out.2.2.1 HQ.out.2.2.2.1 HQ.out.2.2.2.2 hI2
    subst k3 k4
    have HK := Lib.hid (And.intro k1 k2)
    have HB2' := Lib.hid (below_step HBC.out hb2)
    have HC2 := Lib.hid (blk_below HCB.out hb2)
    have HR2 := Lib.hid (blk_below HRB.out hb2)
    have hg4 := blk_lt HR2.out
    have hgg := HG4.out
    have hW2 := HW.out
    clear k1 k2 hI2 hF2 hO2 hb2
    have hrf : (⟨⟨4, ten8, 8⟩, 1⟩ : Row).fits := ten8_B
    go_upto_region 5 with (first | ((with_reducible show wpList _ _ _ (Oper.mk _ (Op.store _ _ _) _ _ _ _ :: _) _ _); refine wpList_store_blk (blk_below HC2.out (below_alloc (Below.refl _ _) (.cells (rowV rowZ) 38))) 25 0 y2.vv (Nat.le_refl _) (info_cac _) (cac_one _) _ _ rfl rfl rfl rfl ?_; intro v3 hg9 hs9 hb9; rw [splice_cac] at hb9; have H9 := Lib.hid (And.intro hg9 hb9); clear hg9 hs9 hb9) | ((with_reducible show wpList _ _ _ (Oper.mk _ (Op.store _ _ _) _ _ _ _ :: _) _ _); refine wpList_store_blk (blk_grown (blk_new v2 (.cells (rowV rowZ) 38)) H9.out.1 (fun e => by injection e with e; omega)) 38 0 (rowV (Row.mk ⟨4, ten8, 8⟩ 1)) (store_row_fit hrf (rowV_size rowZ_fits)) (info_row hrf) (rowV_one _) _ _ rfl rfl rfl rfl ?_; intro v4 hg9 hs9 hb9; rw [splice_row hrf (rowV_size rowZ_fits)] at hb9; have H10 := Lib.hid (And.intro hg9 hb9); clear hg9 hs9 hb9))
    have hlr1 := (row_at hrf (blk_grown (blk_grown (blk_below HR2.out (below_alloc (Below.refl _ _) (.cells (rowV rowZ) 38))) H9.out.1 (fun e => by injection e with e; omega)) H10.out.1 (fun e => by injection e with e; omega))).all v4 (Below.refl _ _)
    have hlr2 := (row_at hrf H10.out.2).all v4 (Below.refl _ _)
    have hlc := (cac_at (blk_grown H9.out.2 H10.out.1 (fun e => by injection e with e; omega))).all v4 (Below.refl _ _)
    have hlch := hlc.hits
    have hlcm := hlc.misses
    rw [HK.out.1] at hlch
    rw [HK.out.2] at hlcm
    have hlh := hlr1.hop
    have hlr1' := hlr1.row
    have hlr2' := hlr2.row
    have hro : (⟨⟨4, ten8, 8⟩, 1⟩ : Row).ok := wkE_ok.r
    clear hlr1 hlr2 hlc
    have HBF := Lib.hid (below_grown (below_grown (below_alloc HB2'.out (.cells (rowV rowZ) 38)) H9.out.1 (by omega)) H10.out.1 (by omega))
    go_wp2_with (first | ((with_reducible show wpList _ _ _ (Oper.mk _ (Op.load _ _) _ _ _ _ :: _) _ _); refine wpList_load_g hlh _ rfl rfl (by go_simp) ?_) | ((with_reducible show wpList _ _ _ (Oper.mk _ (Op.load _ _) _ _ _ _ :: _) _ _); refine wpList_load_g hlr1' _ rfl rfl (by go_simp) ?_) | ((with_reducible show wpList _ _ _ (Oper.mk _ (Op.load _ _) _ _ _ _ :: _) _ _); refine wpList_load_g hlr2' _ rfl rfl (by go_simp) ?_) | ((with_reducible show wpList _ _ _ (Oper.mk _ (Op.load _ _) _ _ _ _ :: _) _ _); refine wpList_load_g hlch _ rfl rfl (by go_simp) ?_) | ((with_reducible show wpList _ _ _ (Oper.mk _ (Op.load _ _) _ _ _ _ :: _) _ _); refine wpList_load_g hlcm _ rfl rfl (by go_simp) ?_) | ((with_reducible show wpList _ _ _ (Oper.mk _ (Op.binOp _ _ _ _ _) _ _ _ _ :: _) _ _); refine wpList_exw rfl (row_self_exec rfl (Row.mk ⟨4, ten8, 8⟩ 1) rfl rfl hro _) ?_))
    go_ret
    exact ⟨rfl, HBF.out⟩
end Go.Proofs.YtihfaknflfmohaaDoor

/- Layer 27 (cache): the law CacheLooks. -/
namespace Go.Proofs.YtihfaknflfmohaaDoor
open Go.RowKit
set_option linter.unusedVariables false
set_option linter.unusedSimpArgs false
set_option maxRecDepth 4000
theorem longR_okk {t : List Row} (h : Oks t) (v : Int) (l : List Int) : (longR t v l).ok := by
  unfold longR
  rcases longest_spec v l t with ⟨h1, _⟩ | ⟨i, r, h1, h2⟩
  · rw [h1]; exact rowZ_okk
  · rw [h1]
    exact h r (List.mem_of_getElem? h2.at_)
theorem told_ok {es : List Ent} {t : List Row} {v : Int} {l : List Int} (oe : Oke es) (ot : Oks t) (hl : B16 l) (hv : (Lit.int .i64 v).wf = true) : (told es t v l).ok := by
  unfold told
  split
  · rename_i h
    rcases hit_cases es v l with hm | ⟨j, hj, hm⟩
    · omega
    · rw [show (hitN es v l).toNat = j by omega]
      exact oe.at_ hj
  · exact ⟨hl, hv, longR_okk ot v l⟩
theorem look_ok {x y : Cac} {es fs : List Ent} {t : List Row} {v : Int} {l : List Int} {ro : Row} {fo : Bool} (oe : Oke es) (ot : Oks t) (hl : B16 l) (hv : (Lit.int .i64 v).wf = true) (h : LookIs x es t v l y fs ro fo) : Oke fs ∧ ro.ok ∧ fs.length ≤ es.length + 1 := by
  unfold LookIs at h
  split at h
  · obtain ⟨_, _, h3, _, _, h6, _⟩ := h
    have ht := told_ok oe ot hl hv
    refine ⟨?_, by rw [h6]; exact ht.r, ?_⟩
    · rw [h3]
      unfold lookL
      split
      · intro e he
        rcases List.mem_cons.1 he with rfl | he
        · exact ht
        · rcases List.mem_append.1 he with he | he
          · exact oe e (List.mem_of_mem_take he)
          · exact oe e (List.mem_of_mem_drop he)
      · intro e he
        rcases List.mem_cons.1 (List.mem_of_mem_take he) with rfl | he
        · exact ht
        · exact oe e he
    · rw [h3]
      unfold lookL
      split
      · simp only [List.length_cons, List.length_append, List.length_take, List.length_drop]
        omega
      · simp only [List.length_take, List.length_cons]
        omega
  · obtain ⟨_, h2, h3, _⟩ := h
    rw [h2, h3]
    exact ⟨fun e he => (by cases he), rowZ_okk, by simp⟩
end Go.Proofs.YtihfaknflfmohaaDoor

/- Layer 27 (cache): Clear (and without, with its closure). -/
namespace Go.Proofs.YtihfaknflfmohaaDoor
open Go.RowKit
set_option linter.unusedVariables false
set_option linter.unusedSimpArgs false
set_option maxRecDepth 4000
theorem idx_cases {α : Type} (q : α → Bool) (t : List α) : (idxE q t = -1 ∧ (t.filter fun e => !q e) = t) ∨ ∃ i, i < t.length ∧ idxE q t = ((i : Nat) : Int) ∧ (t.take (i + 1)).filter (fun e => !q e) = t.take i := by
  unfold idxE
  cases h : t.findIdx? q with
  | none =>
    rw [List.findIdx?_eq_none_iff] at h
    refine .inl ⟨rfl, ?_⟩
    rw [List.filter_eq_self]
    intro e he
    rw [h e he]
    rfl
  | some i =>
    rw [List.findIdx?_eq_some_iff_getElem] at h
    obtain ⟨hi, h1, h2⟩ := h
    refine .inr ⟨i, hi, rfl, ?_⟩
    rw [List.take_add_one, List.getElem?_eq_getElem hi, List.filter_append]
    have e1 : (t.take i).filter (fun e => !q e) = t.take i := by
      rw [List.filter_eq_self]
      intro e he
      obtain ⟨k, hk, rfl⟩ := List.getElem_of_mem he
      rw [List.length_take] at hk
      rw [List.getElem_take]
      have := h2 k (by omega)
      simpa using this
    rw [e1]
    simp [h1]
theorem at_drop_eq {α : Type} {S : Shape α} {cur t : List α} {j : Nat} (h : cur.drop j = t.drop j) (h1 : j < cur.length) (h2 : j < t.length) : S.at_ cur j = S.at_ t j := by
  have e := congrArg (fun z => z[0]?) h
  simp only [List.getElem?_drop, Nat.add_zero] at e
  rw [Shape.at_get (S := S) h1, Shape.at_get (S := S) h2] at e
  exact Option.some.inj e
theorem filter_step {α : Type} {S : Shape α} {p : α → Bool} {t : List α} {j : Nat} (h : j < t.length) : (t.take (j + 1)).filter p = (t.take j).filter p ++ (if p (S.at_ t j) = true then [S.at_ t j] else []) := by
  rw [Shape.take_succ (S := S) h, List.filter_append]
  congr 1
  by_cases hp : p (S.at_ t j) = true
  · rw [if_pos hp, List.filter_cons_of_pos hp]
    rfl
  · rw [if_neg hp, List.filter_cons_of_neg hp]
    rfl
theorem drop_more {α : Type} {cur t : List α} {j : Nat} (h : cur.drop j = t.drop j) : cur.drop (j + 1) = t.drop (j + 1) := by
  have e1 : cur.drop (j + 1) = (cur.drop j).drop 1 := by rw [List.drop_drop]
  have e2 : t.drop (j + 1) = (t.drop j).drop 1 := by rw [List.drop_drop]
  rw [e1, e2, h]
theorem put_take {α : Type} {cur : List α} {v : α} {i : Nat} (h : i ≤ cur.length) : (cur.take i ++ [v] ++ cur.drop (i + 1)).take (i + 1) = cur.take i ++ [v] :=
  List.take_left' (by rw [List.length_append, List.length_take, List.length_singleton]; omega)
theorem put_drop {α : Type} {cur t : List α} {v : α} {i j : Nat} (h : cur.drop j = t.drop j) (hij : i < j) (hj : i ≤ cur.length) : (cur.take i ++ [v] ++ cur.drop (i + 1)).drop (j + 1) = t.drop (j + 1) := by
  have hl : (cur.take i ++ [v]).length = i + 1 := by rw [List.length_append, List.length_take, List.length_singleton]; omega
  rw [List.drop_append, List.drop_of_length_le (by omega), hl, List.nil_append, List.drop_drop]
  rw [show i + 1 + (j + 1 - (i + 1)) = j + 1 by omega]
  exact drop_more h
end Go.Proofs.YtihfaknflfmohaaDoor

/- Prefixes as elements of a slice (18 cells). -/
namespace Go.Proofs.YtihfaknflfmohaaDoor
open Go.RowKit
set_option linter.unusedVariables false
set_option linter.unusedSimpArgs false
set_option maxRecDepth 4000
def pfxC (p : Pfx) : List Value := .int .i64 p.v :: (nums .u8 p.l ++ [.int .i64 p.b])
theorem pfxC_len {p : Pfx} (h : B16 p.l) : (pfxC p).length = 18 := by simp [pfxC, nums, h.len]
theorem pfxC_one (p : Pfx) : ∀ u ∈ pfxC p, u.oneCell' = true := by
  intro u hu
  simp only [pfxC, List.mem_cons, List.mem_append, List.not_mem_nil, or_false] at hu
  rcases hu with rfl | hu | rfl
  · rfl
  · exact nums_one _ _ u hu
  · rfl
def pfxZ : Pfx := ⟨0, zero16, 0⟩
theorem zero_pfx : (Tryd.prog.info? 36).map (fun i => (i.zero, i.size, i.bytes)) = some (some (.agg (pfxV 0 zero16 0)), 18, 32) := by kernel_rfl
def pfxK : Shape Pfx where
  t := 36
  ts := 86
  sz := 18
  bytes := 32
  z := pfxZ
  ok := fun p => B16 p.l
  enc := pfxC
  val := fun p => .agg (pfxV p.v p.l p.b)
  len := fun _ h => pfxC_len h
  one := pfxC_one
  okz := zero16_B
  pos := by omega
  bpos := by omega
  blt := by omega
  und := Tryd.underlying86
  info := zero_pfx
  venc := fun _ => rfl
  ld := fun _ _ _ r hr h => load_cells (cs := pfxV r.v r.l r.b) h Tryd.underlying36 rfl (info_pfx hr.len)
end Go.Proofs.YtihfaknflfmohaaDoor

/- Layer 27 (cache): Move's closures. -/
namespace Go.Proofs.YtihfaknflfmohaaDoor
open Go.RowKit
set_option linter.unusedVariables false
set_option linter.unusedSimpArgs false
set_option maxRecDepth 4000
theorem cmove11_any (p : Pfx) (e : Ent) (g : Nat) (w : World) (hL : Laid w) (hp : B16 p.l) (heo : e.fits) (ha : EntAt w g e) : Calls Tryd.prog 83 #[.agg (pfxV p.v p.l p.b), .pointer (some ⟨g, 0, none⟩)] w fun x w' => x = .returned (.bool (p.has e.v e.l)) ∧ Below w.heap.size w w' := by
  have HA := Lib.hid ((ha.all (w.alloc (.cells (pfxV p.v p.l p.b) 36)) (below_alloc (Below.refl _ _) _)).adr)
  have HPE := Lib.hid heo
  have hblk1 := blk_new w (.cells (pfxV p.v p.l p.b) 36)
  have hbel1 : Below w.heap.size w (w.alloc (.cells (pfxV p.v p.l p.b) 36)) := below_alloc (Below.refl _ _) _
  have HP1 := Lib.hid (pfx_at hp hblk1)
  have HBK1 := Lib.hid hblk1
  have HBE := Lib.hid hbel1
  have HL := Lib.hid (hL.below HBE.out)
  obtain ⟨cs1, hcs1⟩ : ∃ cs, pfxV p.v p.l p.b = cs := ⟨_, rfl⟩
  simp only [hcs1] at HBE HL HP1 HBK1 ⊢
  have HC1 := Lib.hid hcs1
  clear hL hcs1 hblk1 hbel1
  have hl1 := (HP1.out.all _ (Below.refl _ _)).2.2.2.2
  have hl2 := HA.out
  rw [HC1.out] at hl2
  clear ha HA
  go_enter Tryd.func83, Tryd.ntmps83
  go_wp2_with (first | ((with_reducible show wpList _ _ _ (Oper.mk _ (Op.load _ _) _ _ _ _ :: _) _ _); refine wpList_load_g hl1 _ rfl rfl (by go_simp) ?_) | ((with_reducible show wpList _ _ _ (Oper.mk _ (Op.load _ _) _ _ _ _ :: _) _ _); refine wpList_load_g hl2 _ rfl rfl (by go_simp) ?_))
  refine (has_any p e.v e.l _ HL.out hp HPE.out.l).mono ?_
  rintro x w1 ⟨rfl, hb1⟩
  have HB1 := Lib.hid (below_step HBE.out hb1)
  clear hb1
  go_wp2
  go_ret
  exact ⟨rfl, HB1.out⟩
set_option maxHeartbeats 1000000 in
theorem indexfV_any (A : Option Addr) (n c : Nat) (t : List Pfx) (w : World) (g : Nat) (hr : RS pfxK w A n c t) (hn : n ≤ 1000000) (q : Pfx → Bool)
    (hq : ∀ i, i < n → ∀ w1, Below w.heap.size w w1 → Calls Tryd.prog 83 #[pfxK.val (pfxK.at_ t i), .pointer (some ⟨g, 0, none⟩)] w1 fun e w2 => e = .returned (.bool (q (pfxK.at_ t i))) ∧ Below w1.heap.size w1 w2) :
    Calls Tryd.prog 110 #[.slice A n c, .func (Fn.func 83) #[] #[.pointer (some ⟨g, 0, none⟩)]] w fun e w' => e = .returned (.int .i64 (idxE q t)) ∧ Below w.heap.size w w' := by
  have HR := Lib.hid hr
  have HQ := Lib.hid hq
  clear hr hq
  go_enter Tryd.func110, Tryd.ntmps110
  go_wp2_with fail
  go_loopw [8] (fun x wr => ∃ i : Nat, x = .int .i64 i ∧ Hid (i ≤ n ∧ (∀ k, k < i → q (pfxK.at_ t k) = false) ∧ Below w.heap.size w wr)) (fun x _ => n - (intOf x).toNat)
  case atStart => exact ⟨0, rfl, Nat.zero_le _, fun k h => by omega, Below.refl _ _⟩
  case round =>
    obtain ⟨i, rfl, HH⟩ := hrel
    by_cases hlt : i < n
    · have hlt' : (i : Int) < n := by omega
      obtain ⟨b, o, rfl, hc⟩ := RS.at_ HR.out (by omega)
      have hld := Shape.ld pfxK wr b _ _ (RS.fits_at HR.out hlt) ((hc i hlt).below HH.out.2.2)
      have HIL := Lib.hid (show i < t.length by rw [HR.out.len]; exact hlt)
      clear hc
      go_wp2_with (first | ((with_reducible show wpList _ _ _ (Oper.mk _ (Op.load _ _) _ _ _ _ :: _) _ _); refine wpList_load_g hld _ rfl rfl (by go_simp) ?_))
      refine (HQ.out i hlt wr HH.out.2.2).mono ?_
      rintro e w2 ⟨rfl, hb2⟩
      have HB2 := Lib.hid (below_step HH.out.2.2 hb2)
      clear hb2 hld
      cases hqq : q (pfxK.at_ t i) with
      | true =>
        have HE : Hid (idxE q t = (i : Int)) := Lib.hid (idxE_at (S := pfxK) HIL.out hqq HH.out.2.1)
        clear hqq
        go_wp2
        go_ret
        rw [HE.out]
        exact ⟨rfl, HB2.out⟩
      | false =>
        have HN := Lib.hid hqq
        clear hqq
        go_wp2_with fail
        go_roundw
        case measure => simp [intOf]; omega
        case rel =>
          refine ⟨i + 1, by go_num, by omega, fun k hk => ?_, HB2.out⟩
          by_cases hki : k < i
          · exact HH.out.2.1 k hki
          · rw [show k = i by omega]; exact HN.out
    · have hlt' : decide (i < n) = false := decide_eq_false hlt
      have HE : Hid (idxE q t = -1) := Lib.hid (idxE_none (S := pfxK) (fun k hk => HH.out.2.1 k (by rw [HR.out.len] at hk; omega)))
      clear hlt
      go_wp2
      go_ret
      rw [HE.out]
      exact ⟨rfl, HH.out.2.2⟩
theorem idxE_any {α : Type} (q : α → Bool) (t : List α) : decide (0 ≤ idxE q t) = t.any q := by
  unfold idxE
  cases h : t.findIdx? q with
  | none =>
    rw [List.findIdx?_eq_none_iff] at h
    have : t.any q = false := by
      rw [List.any_eq_false]
      intro x hx
      rw [h x hx]
      decide
    rw [this]
    decide
  | some i =>
    rw [List.findIdx?_eq_some_iff_getElem] at h
    obtain ⟨hi, h1, _⟩ := h
    have : t.any q = true := by
      rw [List.any_eq_true]
      exact ⟨_, List.getElem_mem hi, h1⟩
    rw [this]
    exact decide_eq_true (Int.natCast_nonneg i)
theorem containsV_any (A : Option Addr) (n c : Nat) (t : List Pfx) (w : World) (g : Nat) (hr : RS pfxK w A n c t) (hn : n ≤ 1000000) (q : Pfx → Bool)
    (hq : ∀ i, i < n → ∀ w1, Below w.heap.size w w1 → Calls Tryd.prog 83 #[pfxK.val (pfxK.at_ t i), .pointer (some ⟨g, 0, none⟩)] w1 fun e w2 => e = .returned (.bool (q (pfxK.at_ t i))) ∧ Below w1.heap.size w1 w2) :
    Calls Tryd.prog 82 #[.slice A n c, .func (Fn.func 83) #[] #[.pointer (some ⟨g, 0, none⟩)]] w fun e w' => e = .returned (.bool (t.any q)) ∧ Below w.heap.size w w' := by
  have HI := Lib.hid (indexfV_any A n c t w g hr hn q hq)
  clear hq hr
  go_enter Tryd.func82, Tryd.ntmps82
  go_wp2_with fail
  refine HI.out.mono ?_
  rintro e w1 ⟨rfl, hb1⟩
  have HB1 := Lib.hid hb1
  clear hb1
  go_wp2
  go_ret
  rw [idxE_any]
  exact ⟨rfl, HB1.out⟩
end Go.Proofs.YtihfaknflfmohaaDoor

/- From the plain walk to the fenced one (in a loop's round, or at the wide fence): a list of operations, none of which defers, walked plainly serves there too. -/
namespace Go.Proofs.YtihfaknflfmohaaDoor
open Go.RowKit
set_option linter.unusedVariables false
set_option linter.unusedSimpArgs false
set_option maxRecDepth 4000
/-- A fence that shuts nothing out: the wide one, or the wide one in a round. -/
structure Open (F : Fence) : Prop where
  fn : ∀ f, F.fn f
  depth : F.depth = none
  calls : ∀ {n : Nat} {P : Program} {f : FuncId} {args : Array Value} {w : World} {R : Ending → World → Prop}, Calls P f args w R → CallsIn F n P f args w R
  rows : ∀ {n : Nat} {P : Program} {row : String} {args : Array Value} {w : World} {R : Value → World → Prop}, Rows P row args w R → RowsIn F n P row args w R
theorem open_wide : Open Fence.wide := ⟨fun _ => trivial, rfl, fun h => callsIn_wide.2 h, fun h c cs _ => let ⟨v, w', r, s⟩ := h c cs; ⟨v, w', r, stepsIn_wide.2 s⟩⟩
theorem open_round (l : Nat) : Open (Fence.wide.inRound l) := ⟨fun _ => trivial, rfl, fun h => CallsIn.inRound l (callsIn_wide.2 h), fun h c cs _ => let ⟨v, w', r, s⟩ := h c cs; ⟨v, w', r, stepsIn_wide.2 s⟩⟩
def noDefer (o : Oper) : Bool := match o.op with
  | .defer _ => false
  | _ => true
theorem noDefer_ne {o : Oper} (h : noDefer o = true) : ∀ c, o.op ≠ .defer c := by
  intro c e
  unfold noDefer at h
  rw [e] at h
  cases h
theorem listIn_of_list {F : Fence} (hF : Open F) {n : Nat} {P : Program} {ops : Array Oper} {Q : Exit → Act → World → Prop} {rest : List Oper} :
    ∀ (l : List Oper) (a : Act) (w : World), l.all noDefer = true → wpList P ops (onlyNormal (wpListIn F n P ops Q rest)) l a w → wpListIn F n P ops Q (l ++ rest) a w
  | [], a, w, _, h => h
  | o :: l, a, w, hd, h => by
    simp only [List.all_cons, Bool.and_eq_true] at hd
    have hne := noDefer_ne hd.1
    have ih := fun a w => listIn_of_list (P := P) (ops := ops) hF (n := n) (Q := Q) (rest := rest) l a w hd.2
    simp only [List.cons_append, wpListIn]
    unfold wpList at h
    split
    · rename_i hw
      rw [if_pos hw] at h
      rcases h with h | ⟨_, h⟩
      · refine ⟨fun f _ => hF.fn f, ?_⟩
        rw [Oper.semAt_eq _ _ _ hne]
        unfold Oper.wp at h
        generalize (execOp a.eval o).run P w = r at *
        cases r with
        | ok nx w' =>
          cases nx <;> simp only [Oper.upon, Oper.uponIn] at h ⊢
          case value u => exact ih _ _ h
          case skip => exact ih _ _ h
          case defer d => exact ih _ _ h
          case enter f args =>
            refine ⟨fun hs => (by rw [hF.depth] at hs; cases hs), hF.calls (Calls.mono h fun e w'' he => ?_)⟩
            cases e with
            | returned u => exact ih _ _ he
            | panicked c => exact he.elim
            | outgrown => exact (notOut _ he).elim
          case row row args => exact ⟨fun hs => (by rw [hF.depth] at hs; cases hs), hF.rows (Rows.mono h fun v w'' he => ih _ _ he)⟩
        | halt x w' =>
          cases x <;> simp only [Oper.upon, Oper.uponIn] at h ⊢
          case panic u => exact h.elim
      · exact (notOut _ h).elim
    · rename_i hw
      rw [if_neg hw] at h
      exact ⟨fun f _ => hF.fn f, ih _ _ h⟩
theorem regionIn_of_take {F : Fence} (hF : Open F) (k : Nat) {n : Nat} {P : Program} {Q : Exit → Act → World → Prop} {id : Nat} {ops : Array Oper} {a : Act} {w : World} (hd : (ops.toList.take k).all noDefer = true) (h : wpList P ops (onlyNormal (wpListIn F n P ops Q (ops.toList.drop k))) (ops.toList.take k) a w) : (Code.region id ops false).wpIn F n P Q a w := by
  refine wpIn_region_list ?_
  have := listIn_of_list hF (n := n) (Q := Q) (rest := ops.toList.drop k) (ops.toList.take k) a w hd h
  rwa [List.take_append_drop] at this
theorem regionIn_of_all {F : Fence} (hF : Open F) {n : Nat} {P : Program} {Q : Exit → Act → World → Prop} {id : Nat} {ops : Array Oper} {a : Act} {w : World} (hd : ops.toList.all noDefer = true) (h : wpList P ops (onlyNormal (Q .normal)) ops.toList a w) : (Code.region id ops false).wpIn F n P Q a w := by
  refine wpIn_region_list ?_
  have := listIn_of_list hF (n := n) (Q := Q) (rest := []) (ops := ops) ops.toList a w hd h
  rwa [List.append_nil] at this
theorem onlyNormal_in {K : Act → World → Prop} {a : Act} {w : World} (h : K a w) : onlyNormal K .normal a w := h
end Go.Proofs.YtihfaknflfmohaaDoor

/- Plain laws of tables (layer 9), seventh part: the rows of two tables in pairs. -/
namespace Go.Proofs.YtihfaknflfmohaaDoor
set_option linter.unusedVariables false
set_option linter.unusedSimpArgs false
set_option maxRecDepth 4000
def mrgP : List Row → List Row → List (Row × Row)
  | [], [] => []
  | a :: t, [] => (a, rowZ) :: mrgP t []
  | [], b :: u => (rowZ, b) :: mrgP [] u
  | a :: t, b :: u => if a.p.cmp b.p < 0 then (a, rowZ) :: mrgP t (b :: u) else if a.p.cmp b.p = 0 then (a, b) :: mrgP t u else (rowZ, b) :: mrgP (a :: t) u
termination_by t u => t.length + u.length
def difOf (x : Row × Row) : List Pfx := if x.1.eqB x.2 then [] else if 0 < x.1.h then [x.1.p] else [x.2.p]
def difsOf (l : List (Row × Row)) : List Pfx := l.flatMap difOf
theorem difsOf_snoc (l : List (Row × Row)) (x : Row × Row) : difsOf (l ++ [x]) = difsOf l ++ difOf x := by simp [difsOf]
theorem difOf_a {a : Row} (h : 1 ≤ a.h) : difOf (a, rowZ) = [a.p] := by
  unfold difOf
  rw [if_neg, if_pos (by show 0 < a.h; omega)]
  rw [Row.eqB_iff]
  intro e
  simp only at e
  rw [e] at h
  exact absurd h (by decide)
theorem difOf_b {b : Row} (h : 1 ≤ b.h) : difOf (rowZ, b) = [b.p] := by
  unfold difOf
  rw [if_neg, if_neg (by show ¬ 0 < rowZ.h; decide)]
  rw [Row.eqB_iff]
  intro e
  simp only at e
  rw [← e] at h
  exact absurd h (by decide)
theorem difOf_ab {a b : Row} (h : 1 ≤ a.h) (hp : a.p = b.p) : difOf (a, b) = if a.h = b.h then [] else [a.p] := by
  unfold difOf
  by_cases he : a.h = b.h
  · rw [if_pos he, if_pos]
    rw [Row.eqB_iff]
    cases a; cases b
    simp only at hp he
    rw [hp, he]
  · rw [if_neg he, if_neg, if_pos (by show 0 < a.h; omega)]
    rw [Row.eqB_iff]
    intro e
    exact he (congrArg Row.h e)
theorem mrgP_dif : ∀ t u : List Row, Tab t → Tab u → difsOf (mrgP t u) = mrg t u
  | [], [], _, _ => by rw [mrgP, mrg]; rfl
  | a :: t, [], ht, hu => by
    rw [mrgP, mrg, ← mrgP_dif t [] ht.tail hu]
    show difOf (a, rowZ) ++ _ = _
    rw [difOf_a (ht.hop a (by simp))]
    rfl
  | [], b :: u, ht, hu => by
    rw [mrgP, mrg, ← mrgP_dif [] u ht hu.tail]
    show difOf (rowZ, b) ++ _ = _
    rw [difOf_b (hu.hop b (by simp))]
    rfl
  | a :: t, b :: u, ht, hu => by
    rw [mrgP, mrg]
    by_cases h1 : a.p.cmp b.p < 0
    · rw [if_pos h1, if_pos h1, ← mrgP_dif t (b :: u) ht.tail hu]
      show difOf (a, rowZ) ++ _ = _
      rw [difOf_a (ht.hop a (by simp))]
      rfl
    · rw [if_neg h1, if_neg h1]
      by_cases h2 : a.p.cmp b.p = 0
      · rw [if_pos h2, if_pos h2, ← mrgP_dif t u ht.tail hu.tail]
        show difOf (a, b) ++ _ = _
        rw [difOf_ab (ht.hop a (by simp)) (eq_of_cmp (ht.fits a (by simp)) (hu.fits b (by simp)) h2)]
        by_cases h3 : a.h = b.h
        · rw [if_pos h3, if_pos h3]; rfl
        · rw [if_neg h3, if_neg h3]; rfl
      · rw [if_neg h2, if_neg h2, ← mrgP_dif (a :: t) u ht hu.tail]
        show difOf (rowZ, b) ++ _ = _
        rw [difOf_b (hu.hop b (by simp))]
        rfl
termination_by t u => t.length + u.length
theorem mrgP_len : ∀ t u : List Row, (mrgP t u).length ≤ t.length + u.length
  | [], [] => by rw [mrgP]; simp
  | a :: t, [] => by have := mrgP_len t []; rw [mrgP]; simp only [List.length_cons, List.length_nil] at *; omega
  | [], b :: u => by have := mrgP_len [] u; rw [mrgP]; simp only [List.length_cons, List.length_nil] at *; omega
  | a :: t, b :: u => by
    have h1 := mrgP_len t (b :: u)
    have h2 := mrgP_len t u
    have h3 := mrgP_len (a :: t) u
    rw [mrgP]
    split
    · simp only [List.length_cons] at *; omega
    · split
      · simp only [List.length_cons] at *; omega
      · simp only [List.length_cons] at *; omega
termination_by t u => t.length + u.length
/-! One step, by indices. -/
section
variable {a b : List Row} {i k : Nat}
theorem mrgP_end (hi : a.length ≤ i) (hk : b.length ≤ k) : mrgP (a.drop i) (b.drop k) = [] := by
  rw [List.drop_eq_nil_of_le hi, List.drop_eq_nil_of_le hk, mrgP]
theorem drop_row (hi : i < a.length) : a.drop i = rowAt a i :: a.drop (i + 1) := by
  rw [List.drop_eq_getElem_cons hi]
  congr 1
  have := rowAt_get hi
  rw [List.getElem?_eq_getElem hi] at this
  exact Option.some.inj this
theorem mrgP_left (hi : i < a.length) (hk : b.length ≤ k) : mrgP (a.drop i) (b.drop k) = (rowAt a i, rowZ) :: mrgP (a.drop (i + 1)) (b.drop k) := by
  rw [drop_row hi, List.drop_eq_nil_of_le hk, mrgP]
theorem mrgP_right (hi : a.length ≤ i) (hk : k < b.length) : mrgP (a.drop i) (b.drop k) = (rowZ, rowAt b k) :: mrgP (a.drop i) (b.drop (k + 1)) := by
  rw [drop_row hk, List.drop_eq_nil_of_le hi, mrgP]
theorem mrgP_lt (hi : i < a.length) (hk : k < b.length) (h : (rowAt a i).p.cmp (rowAt b k).p < 0) : mrgP (a.drop i) (b.drop k) = (rowAt a i, rowZ) :: mrgP (a.drop (i + 1)) (b.drop k) := by
  rw [drop_row hi, drop_row hk, mrgP, if_pos h]
theorem mrgP_eq (hi : i < a.length) (hk : k < b.length) (h : (rowAt a i).p.cmp (rowAt b k).p = 0) : mrgP (a.drop i) (b.drop k) = (rowAt a i, rowAt b k) :: mrgP (a.drop (i + 1)) (b.drop (k + 1)) := by
  rw [drop_row hi, drop_row hk, mrgP, if_neg (by omega), if_pos h]
theorem mrgP_gt (hi : i < a.length) (hk : k < b.length) (h : 0 < (rowAt a i).p.cmp (rowAt b k).p) : mrgP (a.drop i) (b.drop k) = (rowZ, rowAt b k) :: mrgP (a.drop i) (b.drop (k + 1)) := by
  rw [drop_row hi, drop_row hk, mrgP, if_neg (by omega), if_neg (by omega)]
end
end Go.Proofs.YtihfaknflfmohaaDoor

/- Layer 9 (table): both, the rows of two tables in pairs, as an iterator. -/
namespace Go.Proofs.YtihfaknflfmohaaDoor
open Go.RowKit
set_option linter.unusedVariables false
set_option linter.unusedSimpArgs false
set_option maxRecDepth 4000
theorem RS.keptB {α : Type} {S : Shape α} {w w1 : World} {A : Option Addr} {n c : Nat} {l : List α} {g b : Nat} (h : RS S w A n c l) (hk : KeptB w w1 g b) (ha : 0 < n → ∀ ad, A = some ad → ad.block < b ∧ ad.block ≠ g) : RS S w1 A n c l :=
  ⟨⟨h.rv.len, h.rv.cap, h.rv.small, fun hn => by
    obtain ⟨ad, e, hc⟩ := h.rv.cells hn
    obtain ⟨h1, h2⟩ := ha hn ad e
    exact ⟨ad, e, fun j v hj => (World.cell?_of_block (a := ad.add j) (by rw [add_block]; exact hk.block ad.block h1 h2)).trans (hc j v hj)⟩⟩, h.fits⟩
theorem RS.blk_lt {α : Type} {S : Shape α} {w : World} {A : Option Addr} {n c : Nat} {l : List α} (h : RS S w A n c l) (hn : 0 < n) : ∀ ad, A = some ad → ad.block < w.heap.size := fun ad e => by
  obtain ⟨ad', e', hc⟩ := h.rv.cells hn
  rw [e] at e'
  injection e' with e'
  subst e'
  have hl := h.rv.len
  have hp : 0 < n * S.sz := Nat.mul_pos hn S.pos
  obtain ⟨v, hv⟩ : ∃ v, (Shape.cells S l)[0]? = some v := ⟨_, List.getElem?_eq_getElem (by omega)⟩
  exact World.block_lt_of_cell? _ _ (hc 0 v hv)
/-- A pair of rows, as both yields it. -/
abbrev RR := { x : Row × Row // x.1.ok ∧ x.2.ok }
def rrV (x : RR) : Array Value := #[.agg (rowV x.1.1), .agg (rowV x.1.2)]
/-- What both reads, round after round. -/
structure BothR (W : World) (B1 B2 : Nat) (A : Option Addr) (n c : Nat) (a : List Row) (A2 : Option Addr) (m c2 : Nat) (b : List Row) : Prop where
  t1 : W.heap[B1]? = some (.cells (tabV A n c) 28 (0, 0))
  t2 : W.heap[B2]? = some (.cells (tabV A2 m c2) 28 (0, 0))
  r1 : RT W A n c a
  r2 : RT W A2 m c2 b
theorem BothR.below {W W' : World} {B1 B2 : Nat} {A : Option Addr} {n c : Nat} {a : List Row} {A2 : Option Addr} {m c2 : Nat} {b : List Row} (h : BothR W B1 B2 A n c a A2 m c2 b) (hb : Below W.heap.size W W') : BothR W' B1 B2 A n c a A2 m c2 b :=
  ⟨blk_below h.t1 hb, blk_below h.t2 hb, h.r1.below hb, h.r2.below hb⟩
/-- What the rows' blocks are: below n₀, and none of them bo. -/
structure BothB (n₀ bo B1 B2 : Nat) (A : Option Addr) (n : Nat) (A2 : Option Addr) (m : Nat) : Prop where
  b1 : B1 < n₀ ∧ B1 ≠ bo
  b2 : B2 < n₀ ∧ B2 ≠ bo
  a1 : 0 < n → ∀ ad, A = some ad → ad.block < n₀ ∧ ad.block ≠ bo
  a2 : 0 < m → ∀ ad, A2 = some ad → ad.block < n₀ ∧ ad.block ≠ bo
theorem BothR.kept {W W' : World} {n₀ bo B1 B2 : Nat} {A : Option Addr} {n c : Nat} {a : List Row} {A2 : Option Addr} {m c2 : Nat} {b : List Row} (h : BothR W B1 B2 A n c a A2 m c2 b) (hb : BothB n₀ bo B1 B2 A n A2 m) (hk : KeptB W W' bo n₀) : BothR W' B1 B2 A n c a A2 m c2 b :=
  ⟨(hk.block _ hb.b1.1 hb.b1.2).trans h.t1, (hk.block _ hb.b2.1 hb.b2.2).trans h.t2, h.r1.keptB hk hb.a1, h.r2.keptB hk hb.a2⟩
theorem load_row {w : World} {g : Nat} {r : Row} (hf : r.fits) (h : w.heap[g]? = some (.cells (rowV r) 38 (0, 0))) : (Instr.loadAt 38 (.pointer (some ⟨g, 0, none⟩))).run Tryd.prog w = .ok (.agg (rowV r)) w := (rowLd_of hf (cells_blk h)).row
theorem rowZ_ok : rowZ.ok := ⟨⟨zero16_B, by decide, by decide⟩, by decide⟩
set_option maxRecDepth 100000 in
set_option maxHeartbeats 8000000 in
theorem both1_any (nn l B1 B2 n₀ bo : Nat) (A : Option Addr) (n c : Nat) (a : List Row) (A2 : Option Addr) (m c2 : Nat) (b : List Row) (oa : Oks a) (ob : Oks b) (hn : n ≤ 100000) (hm : m ≤ 100000) (hBB : BothB n₀ bo B1 B2 A n A2 m)
    (J Jx : List RR → World → Prop) (W : World) (hW : n₀ ≤ W.heap.size) (hJ : AbidesFrom W.heap.size J)
    (hY : ∀ pre x W1, J pre W1 → pre.length < (mrgP a b).length → YieldAt Fence.wide (nn - 1) Tryd.prog l (rrV x) W1 fun e W' =>
      (e = .returned (.bool true) ∧ J (pre ++ [x]) W' ∧ KeptB W1 W' bo n₀) ∨ (e = .returned (.bool false) ∧ Jx (pre ++ [x]) W'))
    (hR : BothR W B1 B2 A n c a A2 m c2 b) (h0 : J [] W) :
    Calls Tryd.prog 111 #[.func (.yield l) #[] #[], .pointer (some ⟨B1, 0, none⟩), .pointer (some ⟨B2, 0, none⟩)] W fun e W' => (∃ v, e = .returned v) ∧ ((∃ xs : List RR, xs.map (·.1) = mrgP a b ∧ J xs W') ∨ (∃ pre, True ∧ Jx pre W')) := by
  have HR := Lib.hid hR
  have HY := Lib.hid hY
  have H0 := Lib.hid h0
  have HJ := Lib.hid hJ
  have OA := Lib.hid oa
  have OB2 := Lib.hid ob
  have hla := hR.r1.len
  have hlb := hR.r2.len
  have HBB := Lib.hid hBB
  clear hR hY h0 hJ oa ob hBB
  go_enter Tryd.func111, Tryd.ntmps111
  go_wp2_with fail
  go_loopw [4, 5] (fun s4 s5 wr => ∃ (i k : Nat) (pre : List RR), s4 = .int .i64 i ∧ s5 = .int .i64 k ∧ Hid (i ≤ n ∧ k ≤ m ∧ J pre wr ∧ pre.map (·.1) ++ mrgP (a.drop i) (b.drop k) = mrgP a b ∧ BothR wr B1 B2 A n c a A2 m c2 b ∧ W.heap.size ≤ wr.heap.size)) (fun s4 s5 _ => n + m - ((intOf s4).toNat + (intOf s5).toNat))
  case atStart => exact ⟨0, 0, [], rfl, rfl, Nat.zero_le _, Nat.zero_le _, H0.out, rfl, HR.out, Nat.le_refl _⟩
  case round =>
    obtain ⟨i, k, pre, rfl, rfl, HH⟩ := hrel
    have hl1 := ((tab_at HH.out.2.2.2.2.1.t1).all wr (Below.refl _ _)).2
    have hl2 := ((tab_at HH.out.2.2.2.2.1.t2).all wr (Below.refl _ _)).2
    have hin := HH.out.1
    have hkm := HH.out.2.1
    by_cases hi : i < n
    · have hi' : (i : Int) < n := by omega
      obtain ⟨ba, oa, rfl, hca⟩ := RT.at_ HH.out.2.2.2.2.1.r1 (by omega)
      have hfa := HH.out.2.2.2.2.1.r1.fits_at hi
      have HLA : Hid (∀ w0, Below wr.heap.size wr w0 → RowLd w0 ba (oa + i * 19) (rowAt a i)) := Lib.hid (fun w0 h0 => rowLd_of hfa ((hca i hi).below h0))
      clear hca
      by_cases hk : k < m
      · have hk' : (k : Int) < m := by omega
        obtain ⟨bb, o, rfl, hc⟩ := RT.at_ HH.out.2.2.2.2.1.r2 (by omega)
        have hfb := HH.out.2.2.2.2.1.r2.fits_at hk
        have HLB : Hid (∀ w0, Below wr.heap.size wr w0 → RowLd w0 bb (o + k * 19) (rowAt b k)) := Lib.hid (fun w0 h0 => rowLd_of hfb ((hc k hk).below h0))
        clear hc
        have hni : ((i : Int) == n) = false := by simp; omega
        have hnk : ((k : Int) == m) = false := by simp; omega
        go_upto_region 3 with (first | ((with_reducible show wpList _ _ _ (Oper.mk _ (Op.load _ _) _ _ _ _ :: _) _ _); refine wpList_load_g hl1 _ rfl rfl (by go_simp) ?_) | ((with_reducible show wpList _ _ _ (Oper.mk _ (Op.load _ _) _ _ _ _ :: _) _ _); refine wpList_load_g hl2 _ rfl rfl (by go_simp) ?_))
        have hz1 := blk_below (blk_new wr (.cells (rowV rowZ) 38)) (below_alloc (Below.refl _ _) (.cells (rowV rowZ) 38))
        have hz2 := blk_new (wr.alloc (.cells (rowV rowZ) 38)) (.cells (rowV rowZ) 38)
        rw [show (wr.alloc (.cells (rowV rowZ) 38)).heap.size = wr.heap.size + 1 by simp] at hz2
        have hb5 : Below wr.heap.size wr ((wr.alloc (.cells (rowV rowZ) 38)).alloc (.cells (rowV rowZ) 38)) := below_alloc (below_alloc (Below.refl _ _) _) _
        obtain ⟨w5, hw5⟩ : ∃ w5, ((wr.alloc (.cells (rowV rowZ) 38)).alloc (.cells (rowV rowZ) 38)) = w5 := ⟨_, rfl⟩
        rw [show ((wr.alloc (.cells #[.int .i64 0, .int .u8 0, .int .u8 0, .int .u8 0, .int .u8 0, .int .u8 0, .int .u8 0, .int .u8 0, .int .u8 0, .int .u8 0, .int .u8 0, .int .u8 0, .int .u8 0, .int .u8 0, .int .u8 0, .int .u8 0, .int .u8 0, .int .i64 0, .int .i64 0] 38)).alloc (.cells #[.int .i64 0, .int .u8 0, .int .u8 0, .int .u8 0, .int .u8 0, .int .u8 0, .int .u8 0, .int .u8 0, .int .u8 0, .int .u8 0, .int .u8 0, .int .u8 0, .int .u8 0, .int .u8 0, .int .u8 0, .int .u8 0, .int .u8 0, .int .i64 0, .int .i64 0] 38)) = w5 from hw5]
        rw [hw5] at hz1 hz2 hb5
        have HZ1 := Lib.hid hz1
        have HZ2 := Lib.hid hz2
        have HB5 := Lib.hid hb5
        have HR5 := Lib.hid (HH.out.2.2.2.2.1.below hb5)
        have hl1 := ((tab_at HR5.out.t1).all w5 (Below.refl _ _)).2
        have hl2 := ((tab_at HR5.out.t2).all w5 (Below.refl _ _)).2
        clear hz1 hz2 hb5 hw5
        go_wp2_with (first | ((with_reducible show wpList _ _ _ (Oper.mk _ (Op.load _ _) _ _ _ _ :: _) _ _); refine wpList_load_g hl1 _ rfl rfl (by go_simp) ?_) | ((with_reducible show wpList _ _ _ (Oper.mk _ (Op.load _ _) _ _ _ _ :: _) _ _); refine wpList_load_g hl2 _ rfl rfl (by go_simp) ?_))
        clear hl1 hl2
        refine wp_region_mix (fun w0 => Below (w5).heap.size (w5) w0) [(0, 0), (1, 0), (2, 0), (3, 0), (4, 0), (5, 0), (6, 0), (7, 0), (8, 0), (9, 0), (10, 0), (11, 0), (12, 2), (13, 0)] (by kernel_rfl) (by kernel_rfl) (below_drew1 _) ?_
        simp only [List.map_cons, List.map_nil]
        iterate 1 (refine wpO_step0 rfl rfl (fun K hK => ?_); go_simp; refine hK _ _ ?_; clear hK K)
        refine wpO_loadW (t := 26) (ad := ⟨B1, 0, none⟩) rfl rfl ?hw rfl rfl ((fun w0 hS => ((tab_at (HR5.out.below hS).t1).all w0 (Below.refl _ _)).2)) ?_
        case hw => go_simp
        iterate 3 (refine wpO_step0 rfl rfl (fun K hK => ?_); go_simp; refine hK _ _ ?_; clear hK K)
        refine wpO_loadW (t := 36) (ad := ⟨ba, (oa+i*19), none⟩) rfl rfl ?hw rfl rfl ((fun w0 hS => (HLA.out w0 (below_step HB5.out hS)).pfx)) ?_
        case hw => go_simp
        iterate 1 (refine wpO_step0 rfl rfl (fun K hK => ?_); go_simp; refine hK _ _ ?_; clear hK K)
        refine wpO_loadW (t := 26) (ad := ⟨B2, 0, none⟩) rfl rfl ?hw rfl rfl ((fun w0 hS => ((tab_at (HR5.out.below hS).t2).all w0 (Below.refl _ _)).2)) ?_
        case hw => go_simp
        iterate 3 (refine wpO_step0 rfl rfl (fun K hK => ?_); go_simp; refine hK _ _ ?_; clear hK K)
        refine wpO_loadW (t := 36) (ad := ⟨bb, (o+k*19), none⟩) rfl rfl ?hw rfl rfl ((fun w0 hS => (HLB.out w0 (below_step HB5.out hS)).pfx)) ?_
        case hw => go_simp
        refine wpO_step2 rfl rfl (below_drew1 _) (fun K hK => ?_)
        go_simp
        refine (compare_any (rowAt a i).p (rowAt b k).p _ hfa hfb).mono ?_
        rintro e w7 ⟨rfl, hb7⟩
        have HB57 := Lib.hid (below_step (below_drew1 w5) hb7)
        clear hb7
        refine hK _ _ ⟨HB57.out, ?_⟩
        clear hK K
        iterate 1 (refine wpO_step0 rfl rfl (fun K hK => ?_); go_simp; refine hK _ _ ?_; clear hK K)
        refine wpO_nil ?_
        have HB7 := Lib.hid (below_step HB5.out HB57.out)
        have HY1 := Lib.hid (blk_below HZ1.out HB57.out)
        have HY2 := Lib.hid (blk_below HZ2.out HB57.out)
        have HR7 := Lib.hid (HR5.out.below HB57.out)
        have hl1 := ((tab_at HR7.out.t1).all w7 (Below.refl _ _)).2
        have hl2 := ((tab_at HR7.out.t2).all w7 (Below.refl _ _)).2
        have hrowa := (HLA.out w7 HB7.out).row
        have hrowb := (HLB.out w7 HB7.out).row
        clear HZ1 HZ2 HB5 HR5 HB57
        obtain ⟨C, hC⟩ : ∃ C, (rowAt a i).p.cmp (rowAt b k).p = C := ⟨_, rfl⟩
        rw [hC]
        rcases Int.lt_trichotomy C 0 with h | h | h
        · have hs := mrgP_lt (a := a) (b := b) (i := i) (k := k) (by omega) (by omega) (by rw [hC]; exact h)
          have hc1 : decide (C ≤ 0) = true := decide_eq_true (by omega)
          have hc2 : decide (0 ≤ C) = false := decide_eq_false (by omega)
          clear hC h
          go_upto_region 15 with (first | ((with_reducible show wpList _ _ _ (Oper.mk _ (Op.load _ _) _ _ _ _ :: _) _ _); refine wpList_load_g hl1 _ rfl rfl (by go_simp) ?_) | ((with_reducible show wpList _ _ _ (Oper.mk _ (Op.load _ _) _ _ _ _ :: _) _ _); refine wpList_load_g hl2 _ rfl rfl (by go_simp) ?_) | ((with_reducible show wpList _ _ _ (Oper.mk _ (Op.load _ _) _ _ _ _ :: _) _ _); refine wpList_load_g hrowa _ rfl rfl (by go_simp) ?_) | ((with_reducible show wpList _ _ _ (Oper.mk _ (Op.store _ _ _) _ _ _ _ :: _) _ _); refine wpList_store_blk HY1.out 38 0 (rowV (rowAt a i)) (store_row_fit hfa rfl) (info_row hfa) (rowV_one _) _ _ rfl rfl rfl rfl ?_; intro w6 hg9 hs9 hb9; rw [splice_row hfa rfl] at hb9; have H6 := Lib.hid (And.intro hg9 hb9); clear hg9 hs9 hb9))
          have HB6 := Lib.hid (below_grown HB7.out H6.out.1 (Nat.le_refl _))
          have hYY := load_row rowZ_fits (blk_grown HY2.out H6.out.1 (fun e => by injection e with e; omega))
          have hX := load_row hfa H6.out.2
          have HJ6 := Lib.hid (HJ.out pre wr w6 none HH.out.2.2.1 (grown_of_below HB6.out none) (fun r e => by cases e))
          refine (wpIn_wide (n := nn)).1 ?_
          refine regionIn_of_take open_wide 3 (by rfl) ?_
          simp only [List.take_succ_cons, List.take_zero, List.drop_succ_cons, List.drop_zero]
          go_wp2_with (first | ((with_reducible show wpList _ _ _ (Oper.mk _ (Op.load _ _) _ _ _ _ :: _) _ _); refine wpList_load_g hX _ rfl rfl (by go_simp) ?_) | ((with_reducible show wpList _ _ _ (Oper.mk _ (Op.load _ _) _ _ _ _ :: _) _ _); refine wpList_load_g hYY _ rfl rfl (by go_simp) ?_))
          refine onlyNormal_in ?_
          have hpl := congrArg List.length HH.out.2.2.2.1
          rw [hs, List.length_append, List.length_map, List.length_cons] at hpl
          obtain ⟨fn, tmps, assign, body, hy, hR⟩ := HY.out pre ⟨((rowAt a i), rowZ), OA.out.at_ (by omega), rowZ_ok⟩ w6 HJ6.out (by omega)
          have HRD := Lib.hid hR
          simp only [rrV] at hy
          clear hR hX hYY hpl
          gi_wp2
          refine ⟨fun hd => (by cases hd), HRD.out.mono ?_⟩
          rintro e W3 (⟨rfl, hJ3, hk3⟩ | ⟨rfl, hJx3⟩)
          · have H3 := Lib.hid (And.intro hJ3 hk3)
            clear hJ3 hk3 hy
            gi_wp2
            go_wp2
            go_roundw
            case measure => simp [intOf]; omega
            case rel => exact ⟨i+1, k, pre ++ [⟨((rowAt a i), rowZ), OA.out.at_ (by omega), rowZ_ok⟩], by go_num, by go_num, by omega, by omega, H3.out.1, by rw [List.map_append, List.append_assoc]; rw [← HH.out.2.2.2.1, hs]; rfl, (HH.out.2.2.2.2.1.below HB6.out).kept HBB.out H3.out.2, Nat.le_trans HH.out.2.2.2.2.2 (Nat.le_trans HB6.out.size H3.out.2.size)⟩
          · have H3 := Lib.hid hJx3
            clear hJx3 hy
            gi_wp2
            go_wp2
            refine bodyPost_ret (results_none rfl _ _ _) rfl ?_
            exact ⟨⟨_, rfl⟩, .inr ⟨_, trivial, H3.out⟩⟩
        · have hs := mrgP_eq (a := a) (b := b) (i := i) (k := k) (by omega) (by omega) (by rw [hC]; exact h)
          subst h
          clear hC
          go_upto_region 12 with (first | ((with_reducible show wpList _ _ _ (Oper.mk _ (Op.load _ _) _ _ _ _ :: _) _ _); refine wpList_load_g hl1 _ rfl rfl (by go_simp) ?_) | ((with_reducible show wpList _ _ _ (Oper.mk _ (Op.load _ _) _ _ _ _ :: _) _ _); refine wpList_load_g hl2 _ rfl rfl (by go_simp) ?_) | ((with_reducible show wpList _ _ _ (Oper.mk _ (Op.load _ _) _ _ _ _ :: _) _ _); refine wpList_load_g hrowa _ rfl rfl (by go_simp) ?_) | ((with_reducible show wpList _ _ _ (Oper.mk _ (Op.store _ _ _) _ _ _ _ :: _) _ _); refine wpList_store_blk HY1.out 38 0 (rowV (rowAt a i)) (store_row_fit hfa rfl) (info_row hfa) (rowV_one _) _ _ rfl rfl rfl rfl ?_; intro w8 hg9 hs9 hb9; rw [splice_row hfa rfl] at hb9; have H8 := Lib.hid (And.intro hg9 hb9); clear hg9 hs9 hb9))
          have HB8 := Lib.hid (below_grown HB7.out H8.out.1 (Nat.le_refl _))
          have hz2 := blk_grown HY2.out H8.out.1 (fun e => by injection e with e; omega)
          have hl2 := ((tab_at (HH.out.2.2.2.2.1.below HB8.out).t2).all w8 (Below.refl _ _)).2
          have hrowb := (HLB.out w8 HB8.out).row
          go_upto_region 15 with (first | ((with_reducible show wpList _ _ _ (Oper.mk _ (Op.load _ _) _ _ _ _ :: _) _ _); refine wpList_load_g hl2 _ rfl rfl (by go_simp) ?_) | ((with_reducible show wpList _ _ _ (Oper.mk _ (Op.load _ _) _ _ _ _ :: _) _ _); refine wpList_load_g hrowb _ rfl rfl (by go_simp) ?_) | ((with_reducible show wpList _ _ _ (Oper.mk _ (Op.store _ _ _) _ _ _ _ :: _) _ _); refine wpList_store_blk hz2 38 0 (rowV (rowAt b k)) (store_row_fit hfb rfl) (info_row hfb) (rowV_one _) _ _ rfl rfl rfl rfl ?_; intro w6 hg9 hs9 hb9; rw [splice_row hfb rfl] at hb9; have H6 := Lib.hid (And.intro hg9 hb9); clear hg9 hs9 hb9))
          have HB6 := Lib.hid (below_grown HB8.out H6.out.1 (by omega))
          have hX := load_row hfa (blk_grown H8.out.2 H6.out.1 (fun e => by injection e with e; omega))
          have hYY := load_row hfb H6.out.2
          clear hz2
          have HJ6 := Lib.hid (HJ.out pre wr w6 none HH.out.2.2.1 (grown_of_below HB6.out none) (fun r e => by cases e))
          refine (wpIn_wide (n := nn)).1 ?_
          refine regionIn_of_take open_wide 3 (by rfl) ?_
          simp only [List.take_succ_cons, List.take_zero, List.drop_succ_cons, List.drop_zero]
          go_wp2_with (first | ((with_reducible show wpList _ _ _ (Oper.mk _ (Op.load _ _) _ _ _ _ :: _) _ _); refine wpList_load_g hX _ rfl rfl (by go_simp) ?_) | ((with_reducible show wpList _ _ _ (Oper.mk _ (Op.load _ _) _ _ _ _ :: _) _ _); refine wpList_load_g hYY _ rfl rfl (by go_simp) ?_))
          refine onlyNormal_in ?_
          have hpl := congrArg List.length HH.out.2.2.2.1
          rw [hs, List.length_append, List.length_map, List.length_cons] at hpl
          obtain ⟨fn, tmps, assign, body, hy, hR⟩ := HY.out pre ⟨((rowAt a i), (rowAt b k)), OA.out.at_ (by omega), OB2.out.at_ (by omega)⟩ w6 HJ6.out (by omega)
          have HRD := Lib.hid hR
          simp only [rrV] at hy
          clear hR hX hYY hpl
          gi_wp2
          refine ⟨fun hd => (by cases hd), HRD.out.mono ?_⟩
          rintro e W3 (⟨rfl, hJ3, hk3⟩ | ⟨rfl, hJx3⟩)
          · have H3 := Lib.hid (And.intro hJ3 hk3)
            clear hJ3 hk3 hy
            gi_wp2
            go_wp2
            go_roundw
            case measure => simp [intOf]; omega
            case rel => exact ⟨i+1, k+1, pre ++ [⟨((rowAt a i), (rowAt b k)), OA.out.at_ (by omega), OB2.out.at_ (by omega)⟩], by go_num, by go_num, by omega, by omega, H3.out.1, by rw [List.map_append, List.append_assoc]; rw [← HH.out.2.2.2.1, hs]; rfl, (HH.out.2.2.2.2.1.below HB6.out).kept HBB.out H3.out.2, Nat.le_trans HH.out.2.2.2.2.2 (Nat.le_trans HB6.out.size H3.out.2.size)⟩
          · have H3 := Lib.hid hJx3
            clear hJx3 hy
            gi_wp2
            go_wp2
            refine bodyPost_ret (results_none rfl _ _ _) rfl ?_
            exact ⟨⟨_, rfl⟩, .inr ⟨_, trivial, H3.out⟩⟩
        · have hs := mrgP_gt (a := a) (b := b) (i := i) (k := k) (by omega) (by omega) (by rw [hC]; exact h)
          have hc1 : decide (C ≤ 0) = false := decide_eq_false (by omega)
          have hc2 : decide (0 ≤ C) = true := decide_eq_true (by omega)
          clear hC h
          go_upto_region 15 with (first | ((with_reducible show wpList _ _ _ (Oper.mk _ (Op.load _ _) _ _ _ _ :: _) _ _); refine wpList_load_g hl1 _ rfl rfl (by go_simp) ?_) | ((with_reducible show wpList _ _ _ (Oper.mk _ (Op.load _ _) _ _ _ _ :: _) _ _); refine wpList_load_g hl2 _ rfl rfl (by go_simp) ?_) | ((with_reducible show wpList _ _ _ (Oper.mk _ (Op.load _ _) _ _ _ _ :: _) _ _); refine wpList_load_g hrowb _ rfl rfl (by go_simp) ?_) | ((with_reducible show wpList _ _ _ (Oper.mk _ (Op.store _ _ _) _ _ _ _ :: _) _ _); refine wpList_store_blk HY2.out 38 0 (rowV (rowAt b k)) (store_row_fit hfb rfl) (info_row hfb) (rowV_one _) _ _ rfl rfl rfl rfl ?_; intro w6 hg9 hs9 hb9; rw [splice_row hfb rfl] at hb9; have H6 := Lib.hid (And.intro hg9 hb9); clear hg9 hs9 hb9))
          have HB6 := Lib.hid (below_grown HB7.out H6.out.1 (by omega))
          have hX := load_row rowZ_fits (blk_grown HY1.out H6.out.1 (fun e => by injection e with e; omega))
          have hYY := load_row hfb H6.out.2
          have HJ6 := Lib.hid (HJ.out pre wr w6 none HH.out.2.2.1 (grown_of_below HB6.out none) (fun r e => by cases e))
          refine (wpIn_wide (n := nn)).1 ?_
          refine regionIn_of_take open_wide 3 (by rfl) ?_
          simp only [List.take_succ_cons, List.take_zero, List.drop_succ_cons, List.drop_zero]
          go_wp2_with (first | ((with_reducible show wpList _ _ _ (Oper.mk _ (Op.load _ _) _ _ _ _ :: _) _ _); refine wpList_load_g hX _ rfl rfl (by go_simp) ?_) | ((with_reducible show wpList _ _ _ (Oper.mk _ (Op.load _ _) _ _ _ _ :: _) _ _); refine wpList_load_g hYY _ rfl rfl (by go_simp) ?_))
          refine onlyNormal_in ?_
          have hpl := congrArg List.length HH.out.2.2.2.1
          rw [hs, List.length_append, List.length_map, List.length_cons] at hpl
          obtain ⟨fn, tmps, assign, body, hy, hR⟩ := HY.out pre ⟨(rowZ, (rowAt b k)), rowZ_ok, OB2.out.at_ (by omega)⟩ w6 HJ6.out (by omega)
          have HRD := Lib.hid hR
          simp only [rrV] at hy
          clear hR hX hYY hpl
          gi_wp2
          refine ⟨fun hd => (by cases hd), HRD.out.mono ?_⟩
          rintro e W3 (⟨rfl, hJ3, hk3⟩ | ⟨rfl, hJx3⟩)
          · have H3 := Lib.hid (And.intro hJ3 hk3)
            clear hJ3 hk3 hy
            gi_wp2
            go_wp2
            go_roundw
            case measure => simp [intOf]; omega
            case rel => exact ⟨i, k+1, pre ++ [⟨(rowZ, (rowAt b k)), rowZ_ok, OB2.out.at_ (by omega)⟩], by go_num, by go_num, by omega, by omega, H3.out.1, by rw [List.map_append, List.append_assoc]; rw [← HH.out.2.2.2.1, hs]; rfl, (HH.out.2.2.2.2.1.below HB6.out).kept HBB.out H3.out.2, Nat.le_trans HH.out.2.2.2.2.2 (Nat.le_trans HB6.out.size H3.out.2.size)⟩
          · have H3 := Lib.hid hJx3
            clear hJx3 hy
            gi_wp2
            go_wp2
            refine bodyPost_ret (results_none rfl _ _ _) rfl ?_
            exact ⟨⟨_, rfl⟩, .inr ⟨_, trivial, H3.out⟩⟩
      · have hk0 : k = m := by omega
        subst hk0
        have hs := mrgP_left (a := a) (b := b) (i := i) (k := k) (by omega) (by omega)
        have hni : ((i : Int) == n) = false := by simp; omega
        go_upto_region 3 with (first | ((with_reducible show wpList _ _ _ (Oper.mk _ (Op.load _ _) _ _ _ _ :: _) _ _); refine wpList_load_g hl1 _ rfl rfl (by go_simp) ?_) | ((with_reducible show wpList _ _ _ (Oper.mk _ (Op.load _ _) _ _ _ _ :: _) _ _); refine wpList_load_g hl2 _ rfl rfl (by go_simp) ?_))
        have hz1 := blk_below (blk_new wr (.cells (rowV rowZ) 38)) (below_alloc (Below.refl _ _) (.cells (rowV rowZ) 38))
        have hz2 := blk_new (wr.alloc (.cells (rowV rowZ) 38)) (.cells (rowV rowZ) 38)
        rw [show (wr.alloc (.cells (rowV rowZ) 38)).heap.size = wr.heap.size + 1 by simp] at hz2
        have hb5 : Below wr.heap.size wr ((wr.alloc (.cells (rowV rowZ) 38)).alloc (.cells (rowV rowZ) 38)) := below_alloc (below_alloc (Below.refl _ _) _) _
        obtain ⟨w5, hw5⟩ : ∃ w5, ((wr.alloc (.cells (rowV rowZ) 38)).alloc (.cells (rowV rowZ) 38)) = w5 := ⟨_, rfl⟩
        rw [show ((wr.alloc (.cells #[.int .i64 0, .int .u8 0, .int .u8 0, .int .u8 0, .int .u8 0, .int .u8 0, .int .u8 0, .int .u8 0, .int .u8 0, .int .u8 0, .int .u8 0, .int .u8 0, .int .u8 0, .int .u8 0, .int .u8 0, .int .u8 0, .int .u8 0, .int .i64 0, .int .i64 0] 38)).alloc (.cells #[.int .i64 0, .int .u8 0, .int .u8 0, .int .u8 0, .int .u8 0, .int .u8 0, .int .u8 0, .int .u8 0, .int .u8 0, .int .u8 0, .int .u8 0, .int .u8 0, .int .u8 0, .int .u8 0, .int .u8 0, .int .u8 0, .int .u8 0, .int .i64 0, .int .i64 0] 38)) = w5 from hw5]
        rw [hw5] at hz1 hz2 hb5
        have HZ1 := Lib.hid hz1
        have HZ2 := Lib.hid hz2
        have HB5 := Lib.hid hb5
        have HR5 := Lib.hid (HH.out.2.2.2.2.1.below hb5)
        have hl1 := ((tab_at HR5.out.t1).all w5 (Below.refl _ _)).2
        have hl2 := ((tab_at HR5.out.t2).all w5 (Below.refl _ _)).2
        clear hz1 hz2 hb5 hw5
        have hrow := (HLA.out w5 HB5.out).row
        go_upto_region 15 with (first | ((with_reducible show wpList _ _ _ (Oper.mk _ (Op.load _ _) _ _ _ _ :: _) _ _); refine wpList_load_g hl1 _ rfl rfl (by go_simp) ?_) | ((with_reducible show wpList _ _ _ (Oper.mk _ (Op.load _ _) _ _ _ _ :: _) _ _); refine wpList_load_g hl2 _ rfl rfl (by go_simp) ?_) | ((with_reducible show wpList _ _ _ (Oper.mk _ (Op.load _ _) _ _ _ _ :: _) _ _); refine wpList_load_g hrow _ rfl rfl (by go_simp) ?_) | ((with_reducible show wpList _ _ _ (Oper.mk _ (Op.store _ _ _) _ _ _ _ :: _) _ _); refine wpList_store_blk HZ1.out 38 0 (rowV (rowAt a i)) (store_row_fit hfa rfl) (info_row hfa) (rowV_one _) _ _ rfl rfl rfl rfl ?_; intro w6 hg9 hs9 hb9; rw [splice_row hfa rfl] at hb9; have H6 := Lib.hid (And.intro hg9 hb9); clear hg9 hs9 hb9))
        have HB6 := Lib.hid (below_grown HB5.out H6.out.1 (Nat.le_refl _))
        have hYY := load_row rowZ_fits (blk_grown HZ2.out H6.out.1 (fun e => by injection e with e; omega))
        have hX := load_row hfa H6.out.2
        have HJ6 := Lib.hid (HJ.out pre wr w6 none HH.out.2.2.1 (grown_of_below HB6.out none) (fun r e => by cases e))
        refine (wpIn_wide (n := nn)).1 ?_
        refine regionIn_of_take open_wide 3 (by rfl) ?_
        simp only [List.take_succ_cons, List.take_zero, List.drop_succ_cons, List.drop_zero]
        go_wp2_with (first | ((with_reducible show wpList _ _ _ (Oper.mk _ (Op.load _ _) _ _ _ _ :: _) _ _); refine wpList_load_g hX _ rfl rfl (by go_simp) ?_) | ((with_reducible show wpList _ _ _ (Oper.mk _ (Op.load _ _) _ _ _ _ :: _) _ _); refine wpList_load_g hYY _ rfl rfl (by go_simp) ?_))
        refine onlyNormal_in ?_
        have hpl := congrArg List.length HH.out.2.2.2.1
        rw [hs, List.length_append, List.length_map, List.length_cons] at hpl
        obtain ⟨fn, tmps, assign, body, hy, hR⟩ := HY.out pre ⟨((rowAt a i), rowZ), OA.out.at_ (by omega), rowZ_ok⟩ w6 HJ6.out (by omega)
        have HRD := Lib.hid hR
        simp only [rrV] at hy
        clear hR hX hYY hpl
        gi_wp2
        refine ⟨fun hd => (by cases hd), HRD.out.mono ?_⟩
        rintro e W3 (⟨rfl, hJ3, hk3⟩ | ⟨rfl, hJx3⟩)
        · have H3 := Lib.hid (And.intro hJ3 hk3)
          clear hJ3 hk3 hy
          gi_wp2
          go_wp2
          go_roundw
          case measure => simp [intOf]; omega
          case rel => exact ⟨i+1, k, pre ++ [⟨((rowAt a i), rowZ), OA.out.at_ (by omega), rowZ_ok⟩], by go_num, by go_num, by omega, by omega, H3.out.1, by rw [List.map_append, List.append_assoc]; rw [← HH.out.2.2.2.1, hs]; rfl, (HH.out.2.2.2.2.1.below HB6.out).kept HBB.out H3.out.2, Nat.le_trans HH.out.2.2.2.2.2 (Nat.le_trans HB6.out.size H3.out.2.size)⟩
        · have H3 := Lib.hid hJx3
          clear hJx3 hy
          gi_wp2
          go_wp2
          refine bodyPost_ret (results_none rfl _ _ _) rfl ?_
          exact ⟨⟨_, rfl⟩, .inr ⟨_, trivial, H3.out⟩⟩
    · have hi0 : i = n := by omega
      subst hi0
      by_cases hk : k < m
      · have hk' : (k : Int) < m := by omega
        have hs := mrgP_right (a := a) (b := b) (i := i) (k := k) (by omega) (by omega)
        obtain ⟨bb, o, rfl, hc⟩ := RT.at_ HH.out.2.2.2.2.1.r2 (by omega)
        have hfb := HH.out.2.2.2.2.1.r2.fits_at hk
        have HLB : Hid (∀ w0, Below wr.heap.size wr w0 → RowLd w0 bb (o + k * 19) (rowAt b k)) := Lib.hid (fun w0 h0 => rowLd_of hfb ((hc k hk).below h0))
        clear hc
        go_upto_region 3 with (first | ((with_reducible show wpList _ _ _ (Oper.mk _ (Op.load _ _) _ _ _ _ :: _) _ _); refine wpList_load_g hl1 _ rfl rfl (by go_simp) ?_) | ((with_reducible show wpList _ _ _ (Oper.mk _ (Op.load _ _) _ _ _ _ :: _) _ _); refine wpList_load_g hl2 _ rfl rfl (by go_simp) ?_))
        have hz1 := blk_below (blk_new wr (.cells (rowV rowZ) 38)) (below_alloc (Below.refl _ _) (.cells (rowV rowZ) 38))
        have hz2 := blk_new (wr.alloc (.cells (rowV rowZ) 38)) (.cells (rowV rowZ) 38)
        rw [show (wr.alloc (.cells (rowV rowZ) 38)).heap.size = wr.heap.size + 1 by simp] at hz2
        have hb5 : Below wr.heap.size wr ((wr.alloc (.cells (rowV rowZ) 38)).alloc (.cells (rowV rowZ) 38)) := below_alloc (below_alloc (Below.refl _ _) _) _
        obtain ⟨w5, hw5⟩ : ∃ w5, ((wr.alloc (.cells (rowV rowZ) 38)).alloc (.cells (rowV rowZ) 38)) = w5 := ⟨_, rfl⟩
        rw [show ((wr.alloc (.cells #[.int .i64 0, .int .u8 0, .int .u8 0, .int .u8 0, .int .u8 0, .int .u8 0, .int .u8 0, .int .u8 0, .int .u8 0, .int .u8 0, .int .u8 0, .int .u8 0, .int .u8 0, .int .u8 0, .int .u8 0, .int .u8 0, .int .u8 0, .int .i64 0, .int .i64 0] 38)).alloc (.cells #[.int .i64 0, .int .u8 0, .int .u8 0, .int .u8 0, .int .u8 0, .int .u8 0, .int .u8 0, .int .u8 0, .int .u8 0, .int .u8 0, .int .u8 0, .int .u8 0, .int .u8 0, .int .u8 0, .int .u8 0, .int .u8 0, .int .u8 0, .int .i64 0, .int .i64 0] 38)) = w5 from hw5]
        rw [hw5] at hz1 hz2 hb5
        have HZ1 := Lib.hid hz1
        have HZ2 := Lib.hid hz2
        have HB5 := Lib.hid hb5
        have HR5 := Lib.hid (HH.out.2.2.2.2.1.below hb5)
        have hl1 := ((tab_at HR5.out.t1).all w5 (Below.refl _ _)).2
        have hl2 := ((tab_at HR5.out.t2).all w5 (Below.refl _ _)).2
        clear hz1 hz2 hb5 hw5
        have hrow := (HLB.out w5 HB5.out).row
        go_upto_region 15 with (first | ((with_reducible show wpList _ _ _ (Oper.mk _ (Op.load _ _) _ _ _ _ :: _) _ _); refine wpList_load_g hl1 _ rfl rfl (by go_simp) ?_) | ((with_reducible show wpList _ _ _ (Oper.mk _ (Op.load _ _) _ _ _ _ :: _) _ _); refine wpList_load_g hl2 _ rfl rfl (by go_simp) ?_) | ((with_reducible show wpList _ _ _ (Oper.mk _ (Op.load _ _) _ _ _ _ :: _) _ _); refine wpList_load_g hrow _ rfl rfl (by go_simp) ?_) | ((with_reducible show wpList _ _ _ (Oper.mk _ (Op.store _ _ _) _ _ _ _ :: _) _ _); refine wpList_store_blk HZ2.out 38 0 (rowV (rowAt b k)) (store_row_fit hfb rfl) (info_row hfb) (rowV_one _) _ _ rfl rfl rfl rfl ?_; intro w6 hg9 hs9 hb9; rw [splice_row hfb rfl] at hb9; have H6 := Lib.hid (And.intro hg9 hb9); clear hg9 hs9 hb9))
        have HB6 := Lib.hid (below_grown HB5.out H6.out.1 (by omega))
        have hX := load_row rowZ_fits (blk_grown HZ1.out H6.out.1 (fun e => by injection e with e; omega))
        have hYY := load_row hfb H6.out.2
        have HJ6 := Lib.hid (HJ.out pre wr w6 none HH.out.2.2.1 (grown_of_below HB6.out none) (fun r e => by cases e))
        refine (wpIn_wide (n := nn)).1 ?_
        refine regionIn_of_take open_wide 3 (by rfl) ?_
        simp only [List.take_succ_cons, List.take_zero, List.drop_succ_cons, List.drop_zero]
        go_wp2_with (first | ((with_reducible show wpList _ _ _ (Oper.mk _ (Op.load _ _) _ _ _ _ :: _) _ _); refine wpList_load_g hX _ rfl rfl (by go_simp) ?_) | ((with_reducible show wpList _ _ _ (Oper.mk _ (Op.load _ _) _ _ _ _ :: _) _ _); refine wpList_load_g hYY _ rfl rfl (by go_simp) ?_))
        refine onlyNormal_in ?_
        have hpl := congrArg List.length HH.out.2.2.2.1
        rw [hs, List.length_append, List.length_map, List.length_cons] at hpl
        obtain ⟨fn, tmps, assign, body, hy, hR⟩ := HY.out pre ⟨(rowZ, (rowAt b k)), rowZ_ok, OB2.out.at_ (by omega)⟩ w6 HJ6.out (by omega)
        have HRD := Lib.hid hR
        simp only [rrV] at hy
        clear hR hX hYY hpl
        gi_wp2
        refine ⟨fun hd => (by cases hd), HRD.out.mono ?_⟩
        rintro e W3 (⟨rfl, hJ3, hk3⟩ | ⟨rfl, hJx3⟩)
        · have H3 := Lib.hid (And.intro hJ3 hk3)
          clear hJ3 hk3 hy
          gi_wp2
          go_wp2
          go_roundw
          case measure => simp [intOf]; omega
          case rel => exact ⟨i, k+1, pre ++ [⟨(rowZ, (rowAt b k)), rowZ_ok, OB2.out.at_ (by omega)⟩], by go_num, by go_num, by omega, by omega, H3.out.1, by rw [List.map_append, List.append_assoc]; rw [← HH.out.2.2.2.1, hs]; rfl, (HH.out.2.2.2.2.1.below HB6.out).kept HBB.out H3.out.2, Nat.le_trans HH.out.2.2.2.2.2 (Nat.le_trans HB6.out.size H3.out.2.size)⟩
        · have H3 := Lib.hid hJx3
          clear hJx3 hy
          gi_wp2
          go_wp2
          refine bodyPost_ret (results_none rfl _ _ _) rfl ?_
          exact ⟨⟨_, rfl⟩, .inr ⟨_, trivial, H3.out⟩⟩
      · have hk0 : k = m := by omega
        subst hk0
        have hend := HH.out.2.2.2.1
        rw [mrgP_end (by omega) (by omega), List.append_nil] at hend
        have HEND := Lib.hid hend
        clear hend
        go_wp2_with (first | ((with_reducible show wpList _ _ _ (Oper.mk _ (Op.load _ _) _ _ _ _ :: _) _ _); refine wpList_load_g hl1 _ rfl rfl (by go_simp) ?_) | ((with_reducible show wpList _ _ _ (Oper.mk _ (Op.load _ _) _ _ _ _ :: _) _ _); refine wpList_load_g hl2 _ rfl rfl (by go_simp) ?_))
        go_end0
        exact ⟨⟨_, rfl⟩, .inl ⟨_, HEND.out, HH.out.2.2.1⟩⟩
end Go.Proofs.YtihfaknflfmohaaDoor

/- Plain laws of tables (layer 9), fourth part: as bytes, and back. -/
namespace Go.Proofs.YtihfaknflfmohaaDoor
set_option linter.unusedVariables false
set_option linter.unusedSimpArgs false
set_option maxRecDepth 4000

end Go.Proofs.YtihfaknflfmohaaDoor

/- Layer 9 (table): Encode, and the document's bytes. -/
namespace Go.Proofs.YtihfaknflfmohaaDoor
open Go.RowKit
set_option linter.unusedVariables false
set_option linter.unusedSimpArgs false
set_option maxRecDepth 4000
theorem blk_own2 {w w1 : World} {g : Nat} {o : Obj} {A : Option Addr} {n c : Nat} (h : w.heap[g]? = some o) (hg : w.grownBy w1 ((Value.slice A n c).ownBlock)) (ha : ∀ ad, A = some ad → ad.block ≠ g) : w1.heap[g]? = some o :=
  blk_grown h hg (fun e => by
    obtain ⟨ad, e1, e2⟩ := own_of e.symm
    exact ha ad e1 e2)
end Go.Proofs.YtihfaknflfmohaaDoor

/- Layer 9 (table): Differ. -/
namespace Go.Proofs.YtihfaknflfmohaaDoor
open Go.RowKit
set_option linter.unusedVariables false
set_option linter.unusedSimpArgs false
set_option maxRecDepth 4000
theorem fold_rr (x : RR) (T : Array Value) : ((#[20, 21] : Array Tmp).zip (rrV x)).foldl (fun t (p, v) => t.setIfInBounds p v) T = (T.setIfInBounds 20 (.agg (rowV x.1.1))).setIfInBounds 21 (.agg (rowV x.1.2)) := by
  simp [rrV]
theorem difsOf_len : ∀ l : List (Row × Row), (difsOf l).length ≤ l.length
  | [] => Nat.le_refl _
  | x :: l => by
    have := difsOf_len l
    show (difOf x ++ difsOf l).length ≤ _
    have h1 : (difOf x).length ≤ 1 := by
      unfold difOf
      split
      · simp
      · split <;> simp
    rw [List.length_append, List.length_cons]
    omega
theorem load_pfxs {w : World} {ad : Addr} {v : Value} (h : w.cell? ad = some v) : (Instr.loadAt 86 (.pointer (some ad))).run Tryd.prog w = .ok v w := by
  go_simp
theorem tboth_any (A : Option Addr) (n c : Nat) (A2 : Option Addr) (m c2 : Nat) (w : World) : Calls Tryd.prog 87 #[.agg (tabV A n c), .agg (tabV A2 m c2)] w fun e w' =>
    e = .returned (.func (.func 111) #[] #[.pointer (some ⟨w.heap.size, 0, none⟩), .pointer (some ⟨w.heap.size + 1, 0, none⟩)]) ∧ w' = (w.alloc (.cells (tabV A n c) 28)).alloc (.cells (tabV A2 m c2) 28) := by
  go_enter Tryd.func87, Tryd.ntmps87
  go_wp2
  go_ret
  exact ⟨rfl, rfl⟩
theorem both1_stops (nn B1 B2 n₀ bo : Nat) (A : Option Addr) (n c : Nat) (a : List Row) (A2 : Option Addr) (m c2 : Nat) (b : List Row) (oa : Oks a) (ob : Oks b) (hn : n ≤ 100000) (hm : m ≤ 100000) (hBB : BothB n₀ bo B1 B2 A n A2 m) (w0 : World) (h0 : n₀ ≤ w0.heap.size) (hR : BothR w0 B1 B2 A n c a A2 m c2 b) :
    SeqStopsK Fence.wide nn Tryd.prog 111 #[.pointer (some ⟨B1, 0, none⟩), .pointer (some ⟨B2, 0, none⟩)] rrV (fun W W' => KeptB W W' bo n₀) (fun xs => xs.map (·.1) = mrgP a b) (fun _ => True) (mrgP a b).length w0 :=
  fun l J Jx W hW hJ _ hY hJ0 => callsIn_wide.2 (both1_any nn l B1 B2 n₀ bo A n c a A2 m c2 b oa ob hn hm hBB J Jx W (Nat.le_trans h0 hW.size) hJ hY (hR.below hW) hJ0)
theorem keptB_put {n₀ bo : Nat} (W : World) (l : Nat) (o' : Obj) (hl : n₀ ≤ l) : KeptB W (W.putObj l o') bo n₀ := by
  have hg := grownBy_putObj' W l o'
  exact ⟨hg.os, hg.tape, hg.output, hg.size, fun k hk _ => by
    by_cases hlt : k < W.heap.size
    · exact hg.block k hlt (fun e => by injection e with e; omega)
    · exact World.putObj_heap_other (by omega)⟩
/-- Between two rounds: the box holds the prefixes that the pairs have not alike. -/
structure DifI (w0 : World) (bo n₀ : Nat) (pre : List RR) (W : World) : Prop where
  box : ∃ A' n' c', W.heap[bo]? = some (.cells #[.slice A' n' c'] 86 (0, 0)) ∧ OS pfxK W n₀ A' n' c' (difsOf (pre.map (·.1)))
  kept : KeptB w0 W bo n₀
theorem difI_own (w0 : World) (bo n₀ : Nat) (hb : bo < n₀) (h0 : n₀ ≤ w0.heap.size) : OwnFrom n₀ (DifI w0 bo n₀) := fun s X Y row hs hg hr => by
  obtain ⟨⟨A', n', c', h1, h2⟩, hk⟩ := hs
  have hX : KeptB X Y bo n₀ := ⟨hg.os, hg.tape, hg.output, hg.size, fun k hk1 _ => hg.block k (Nat.lt_of_lt_of_le hk1 (Nat.le_trans h0 hk.size)) (fun e => by have := (hr k e.symm).1; omega)⟩
  refine ⟨⟨A', n', c', blk_grown h1 hg (fun e => ?_), h2.grown hg (fun ad e hh => ?_)⟩, hk.trans hX⟩
  · have := (hr bo e.symm).1
    omega
  · obtain ⟨_, o, ho, hc⟩ := hr _ hh.symm
    obtain ⟨_, _, _, hf, _⟩ := h2.ov.form ad e
    rw [hf] at ho
    cases ho
    cases hc
structure DifA (n₀ : Nat) (f : Nat → Nat → Array Value) (x : RR) (a' : Act) (W : World) : Prop where
  ex : ∃ Bx By, n₀ ≤ Bx ∧ n₀ ≤ By ∧ W.heap[Bx]? = some (.cells (rowV x.1.1) 38 (0, 0)) ∧ W.heap[By]? = some (.cells (rowV x.1.2) 38 (0, 0)) ∧ a' = { tmps := f Bx By, defers := [] }
theorem difA_own (B n₀ : Nat) (f : Nat → Nat → Array Value) (x : RR) (a' : Act) : OwnFrom B (fun (_ : Unit) W => DifA n₀ f x a' W) := fun s X Y row hs hg hr => by
  obtain ⟨Bx, By, h1, h2, h3, h4, h5⟩ := hs.ex
  refine ⟨Bx, By, h1, h2, blk_grown h3 hg (fun e => ?_), blk_grown h4 hg (fun e => ?_), h5⟩
  · obtain ⟨_, o, ho, hc⟩ := hr _ e.symm
    rw [h3] at ho
    cases ho
    cases hc
  · obtain ⟨_, o, ho, hc⟩ := hr _ e.symm
    rw [h4] at ho
    cases ho
    cases hc
def difE (a b : List Row) : Int := if tabB a && tabB b then 0 else 190
def difL (a b : List Row) : List Pfx := if tabB a && tabB b then mrg a b else []
set_option maxRecDepth 100000 in
set_option maxHeartbeats 8000000 in
theorem tdiffer_any (A : Option Addr) (n c : Nat) (a : List Row) (A2 : Option Addr) (m c2 : Nat) (b : List Row) (w : World) (hL : Laid w) (ha : RT w A n c a) (hb : RT w A2 m c2 b) (oa : Oks a) (ob : Oks b) (hn : n ≤ 1000) (hm : m ≤ 1000) :
    Calls Tryd.prog 47 #[.agg (tabV A n c), .agg (tabV A2 m c2)] w fun e w' => ∃ A' n' c', e = .returned (.tuple #[.slice A' n' c', .int .i64 (difE a b)]) ∧ OS pfxK w' w.heap.size A' n' c' (difL a b) ∧ Below w.heap.size w w' := by
  have hblk1 := blk_new w (.cells (tabV A n c) 28)
  have hbel1 : Below w.heap.size w (w.alloc (.cells (tabV A n c) 28)) := below_alloc (Below.refl _ _) _
  have hblk2 := blk_new (w.alloc (.cells (tabV A n c) 28)) (.cells (tabV A2 m c2) 28)
  have hbel2 : Below w.heap.size w ((w.alloc (.cells (tabV A n c) 28)).alloc (.cells (tabV A2 m c2) 28)) := below_alloc (hbel1) _
  rw [show (w.alloc (.cells (tabV A n c) 28)).heap.size = w.heap.size + 1 by simp] at hblk2
  replace hblk1 := blk_below hblk1 (below_alloc (Below.refl _ _) (.cells (tabV A2 m c2) 28))
  have HP1 := Lib.hid (tab_at hblk1)
  have HBK1 := Lib.hid hblk1
  have HP2 := Lib.hid (tab_at hblk2)
  have HBK2 := Lib.hid hblk2
  have HBE := Lib.hid hbel2
  have HL := Lib.hid (hL.below HBE.out)
  obtain ⟨cs1, hcs1⟩ : ∃ cs, tabV A n c = cs := ⟨_, rfl⟩
  obtain ⟨cs2, hcs2⟩ : ∃ cs, tabV A2 m c2 = cs := ⟨_, rfl⟩
  simp only [hcs1, hcs2] at HBE HL HP1 HP2 HBK1 HBK2 ⊢
  have HC1 := Lib.hid hcs1
  have HC2 := Lib.hid hcs2
  clear hL hcs1 hblk1 hbel1 hcs2 hblk2 hbel2
  have H1 := Lib.hid (ha.below HBE.out)
  have H2 := Lib.hid (hb.below HBE.out)
  have OA := Lib.hid oa
  have OB2 := Lib.hid ob
  have hl1 := (HP1.out.all _ (Below.refl _ _)).1
  rw [HC1.out] at hl1
  clear ha hb oa ob
  refine (callsIn_wide (n := 9)).1 (callsIn_of_wp_marks Tryd.func47 rfl trivial ?_ rfl)
  refine wpIn_wide.2 ?_
  simp only [Tryd.ntmps47, List.size_toArray, List.length_cons, List.length_nil, Nat.reduceAdd, Nat.reduceSub, Array.replicate_succ, Array.replicate_zero, List.push_toArray, List.append_toArray, List.nil_append, List.cons_append]
  go_wp2_with (first | ((with_reducible show wpList _ _ _ (Oper.mk _ (Op.load _ _) _ _ _ _ :: _) _ _); refine wpList_load_g hl1 _ rfl rfl (by go_simp) ?_))
  have hch := tcheck_any A n c a _ HL.out H1.out (by omega)
  rw [HC1.out] at hch
  refine hch.mono ?_
  clear hch hl1
  rintro e w1 ⟨rfl, hb1⟩
  have HB1 := Lib.hid hb1
  clear hb1
  cases hRa : tabB a with
  | false =>
    have HE := Lib.hid (show difE a b = 190 ∧ difL a b = [] by unfold difE difL; rw [hRa]; exact ⟨rfl, rfl⟩)
    rw [errT_false hRa]
    clear hRa
    go_wp2
    refine ⟨_, results_tmp2 rfl _ _ _, ?_⟩
    rw [HE.out.1, HE.out.2]
    exact ⟨_, _, _, rfl, OS.nil _ _ _, below_step HBE.out HB1.out⟩
  | true =>
    have hl2 := (HP2.out.all w1 HB1.out).1
    rw [HC2.out] at hl2
    rw [errT_true hRa]
    have HRA := Lib.hid hRa
    clear hRa
    go_wp2_with (first | ((with_reducible show wpList _ _ _ (Oper.mk _ (Op.load _ _) _ _ _ _ :: _) _ _); refine wpList_load_g hl2 _ rfl rfl (by go_simp) ?_))
    have hch := tcheck_any A2 m c2 b w1 (HL.out.below HB1.out) (H2.out.below HB1.out) (by omega)
    rw [HC2.out] at hch
    refine hch.mono ?_
    clear hch hl2
    rintro e w2 ⟨rfl, hb2⟩
    have HB2 := Lib.hid (below_step HB1.out hb2)
    clear hb2
    cases hRb : tabB b with
    | false =>
      have HE := Lib.hid (show difE a b = 190 ∧ difL a b = [] by unfold difE difL; rw [HRA.out, hRb]; exact ⟨rfl, rfl⟩)
      rw [errT_false hRb]
      clear hRb
      go_wp2
      refine ⟨_, results_tmp2 rfl _ _ _, ?_⟩
      rw [HE.out.1, HE.out.2]
      exact ⟨_, _, _, rfl, OS.nil _ _ _, below_step HBE.out HB2.out⟩
    | true =>
      have HRB := Lib.hid hRb
      rw [errT_true hRb]
      clear hRb
      obtain ⟨bo, hbo⟩ : ∃ bo, w2.heap.size = bo := ⟨_, rfl⟩
      have HBA := Lib.hid (below_step HB2.out (below_alloc (Below.refl w2.heap.size w2) (.cells #[.slice none 0 0] 86)))
      have hl1 := (HP1.out.all _ HBA.out).1
      have hl2 := (HP2.out.all _ HBA.out).1
      go_wp2_with (first | ((with_reducible show wpList _ _ _ (Oper.mk _ (Op.load _ _) _ _ _ _ :: _) _ _); refine wpList_load_g hl1 _ rfl rfl (by go_simp) ?_) | ((with_reducible show wpList _ _ _ (Oper.mk _ (Op.load _ _) _ _ _ _ :: _) _ _); refine wpList_load_g hl2 _ rfl rfl (by go_simp) ?_))
      refine (tboth_any A n c A2 m c2 _).mono ?_
      rintro e w3 ⟨rfl, hw3⟩
      have HW3 := Lib.hid hw3
      clear hl1 hl2 hw3
      go_wp2
      have hsz : w2.heap.size = bo := hbo
      have hs3 : w3.heap.size = bo + 3 := by rw [HW3.out]; simp; omega
      have hb23 : Below w2.heap.size w2 w3 := by rw [HW3.out]; exact below_alloc (below_alloc (below_alloc (Below.refl _ _) _) _) _
      have HB3 := Lib.hid (below_step HB2.out hb23)
      have hx1 : w3.heap[bo + 1]? = some (.cells (tabV A n c) 28 (0, 0)) := by
        rw [HW3.out]
        have := blk_new (w2.alloc (.cells #[.slice none 0 0] 86)) (.cells (tabV A n c) 28)
        rw [show (w2.alloc (.cells #[.slice none 0 0] 86)).heap.size = bo + 1 by simp; omega] at this
        exact blk_below this (below_alloc (Below.refl _ _) _)
      have hx2 : w3.heap[bo + 2]? = some (.cells (tabV A2 m c2) 28 (0, 0)) := by
        rw [HW3.out]
        have := blk_new ((w2.alloc (.cells #[.slice none 0 0] 86)).alloc (.cells (tabV A n c) 28)) (.cells (tabV A2 m c2) 28)
        rw [show ((w2.alloc (.cells #[.slice none 0 0] 86)).alloc (.cells (tabV A n c) 28)).heap.size = bo + 2 by simp; omega] at this
        exact this
      have hx0 : w3.heap[bo]? = some (.cells #[.slice none 0 0] 86 (0, 0)) := by
        rw [HW3.out, ← hbo]
        exact blk_below (blk_below (blk_new w2 _) (below_alloc (Below.refl _ _) _)) (below_alloc (Below.refl _ _) _)
      have HBR := Lib.hid (BothR.mk (a := a) (b := b) hx1 hx2 (H1.out.below HB3.out) (H2.out.below HB3.out))
      have hle : ((w.alloc (.cells cs1 28)).alloc (.cells cs2 28)).heap.size ≤ bo := by rw [← hbo]; exact HB2.out.size
      have HBB := Lib.hid (show BothB (bo + 3) bo (bo + 1) (bo + 2) A n A2 m from ⟨⟨by omega, by omega⟩, ⟨by omega, by omega⟩, fun h0 ad e => by have := H1.out.blk_lt h0 ad e; exact ⟨by omega, by omega⟩, fun h0 ad e => by have := H2.out.blk_lt h0 ad e; exact ⟨by omega, by omega⟩⟩)
      refine (wpIn_wide (n := 9)).1 ?_
      refine wpIn_rangeFunc_ownH rfl (by omega) (gf := 111) (lb := #[.pointer (some ⟨bo + 1, 0, none⟩), .pointer (some ⟨bo + 2, 0, none⟩)]) rfl trivial (enters_of Tryd.func111 (by kernel_rfl) rfl)
        (both1_stops (9 - 1) (bo + 1) (bo + 2) (bo + 3) bo A n c a A2 m c2 b OA.out OB2.out (by omega) (by omega) HBB.out w3 (by omega) HBR.out) (fun h k => h.trans k) (fun W l o o' hl _ _ _ => keptB_put W l o' (by omega)) (Below.refl _ _) (fun _ => rfl)
        (DifI w3 bo (bo + 3)) (fun _ _ _ => False) (by rw [hs3]; exact difI_own w3 bo (bo + 3) (by omega) (by omega)) (fun _ _ _ _ _ hs _ _ => hs)
        ⟨⟨none, 0, 0, hx0, OS.nil _ _ _⟩, KeptB.refl _ _ _⟩
        (fun x a' W => DifA (bo + 3) (fun Bx By => #[.agg cs1, .agg cs2, .pointer (some ⟨w.heap.size, 0, none⟩), .pointer (some ⟨w.heap.size + 1, 0, none⟩), .slice none 0 0, .int .i64 0, .pointer (some ⟨bo, 0, none⟩), .pointer (some ⟨Bx, 0, none⟩), .pointer (some ⟨By, 0, none⟩), .agg cs1, .int .i64 0,
          .bool false, .bool false, .agg cs2, .int .i64 0, .bool false, .bool false, .agg (tabV A n c), .agg (tabV A2 m c2), .func (.func 111) #[] #[.pointer (some ⟨bo + 1, 0, none⟩), .pointer (some ⟨bo + 1 + 1, 0, none⟩)], .agg (rowV x.1.1), .agg (rowV x.1.2), undef, undef, undef, undef, undef, undef, undef, undef, undef, undef, undef, undef, undef, undef, undef, undef, undef, undef, undef]) x a' W)
        (fun x a' => difA_own _ _ _ x a') ?assign ?body ?done ?stop
      case stop => exact fun D c pre W _ _ h _ => h.elim
      case assign =>
        intro l pre x W K hi hK
        have HK := Lib.hid hK
        clear hK
        have hWs : bo + 3 ≤ W.heap.size := by rw [← hs3]; exact hi.kept.size
        have HI := Lib.hid hi
        clear hi
        have hz1 := blk_new W (.cells (rowV rowZ) 38)
        have hf1 : x.1.1.fits := x.2.1.fits
        have hf2 : x.1.2.fits := x.2.2.fits
        rw [fold_rr]
        refine wpIn_seq_k (fun K2 hK2 => ?_)
        refine regionIn_of_all (open_round l) (by rfl) ?_
        go_simp
        go_wp2_with (first | ((with_reducible show wpList _ _ _ (Oper.mk _ (Op.store _ _ _) _ _ _ _ :: _) _ _); refine wpList_store_blk hz1 38 0 (rowV x.1.1) (store_row_fit hf1 rfl) (info_row hf1) (rowV_one _) _ _ rfl rfl rfl rfl ?_; intro w5 hg9 hs9 hb9; rw [splice_row hf1 rfl] at hb9; have H5 := Lib.hid (And.intro hg9 hb9); clear hg9 hs9 hb9))
        refine onlyNormal_in ?_
        refine hK2 _ _ ?_
        have hz2 := blk_new w5 (.cells (rowV rowZ) 38)
        have HB5 := Lib.hid (below_grown (below_alloc (Below.refl W.heap.size W) (.cells (rowV rowZ) 38)) H5.out.1 (Nat.le_refl _))
        have hlt5 := blk_lt H5.out.2
        refine regionIn_of_all (open_round l) (by rfl) ?_
        go_simp
        go_wp2_with (first | ((with_reducible show wpList _ _ _ (Oper.mk _ (Op.store _ _ _) _ _ _ _ :: _) _ _); refine wpList_store_blk hz2 38 0 (rowV x.1.2) (store_row_fit hf2 rfl) (info_row hf2) (rowV_one _) _ _ rfl rfl rfl rfl ?_; intro w6 hg9 hs9 hb9; rw [splice_row hf2 rfl] at hb9; have H6 := Lib.hid (And.intro hg9 hb9); clear hg9 hs9 hb9))
        refine onlyNormal_in ?_
        have hb56 : Below w5.heap.size w5 w6 := below_grown (below_alloc (Below.refl _ _) _) H6.out.1 (Nat.le_refl _)
        have hb06 := below_step HB5.out hb56
        obtain ⟨A', n', c', hi1, hi2⟩ := HI.out.box
        exact HK.out _ _ ⟨hb06.size, fun k o _ hk _ => blk_below hk hb06⟩ (KeptB.of_below (hb06.mono hWs)) ⟨⟨A', n', c', blk_below hi1 hb06, hi2.below hb06⟩, HI.out.kept.trans (KeptB.of_below (hb06.mono hWs))⟩ ⟨W.heap.size, w5.heap.size, by omega, by omega, blk_below H5.out.2 hb56, H6.out.2, rfl⟩
      case body =>
        rintro l pre x a' W hl hrec hi ⟨Bx, By, hBx, hBy, hx, hy, rfl⟩ hlen
        have HI := Lib.hid hi
        clear hi
        obtain ⟨A', n', c', hi1, hi2⟩ := HI.out.box
        have hok1 := x.2.1
        have hok2 := x.2.2
        have hX := load_row hok1.fits hx
        have hY := load_row hok2.fits hy
        have hWs : bo + 3 ≤ W.heap.size := by rw [← hs3]; exact HI.out.kept.size
        refine wpIn_block ?_
        refine wpIn_block ?_
        refine wpIn_seq_k (fun K2 hK2 => ?_)
        refine regionIn_of_all (open_round l) (by rfl) ?_
        go_simp
        have heq := row_equal x.1.1 x.1.2 hok1 hok2
        go_wp2_with (first | ((with_reducible show wpList _ _ _ (Oper.mk _ (Op.load _ _) _ _ _ _ :: _) _ _); refine wpList_load_g hX _ rfl rfl (by go_simp) ?_) | ((with_reducible show wpList _ _ _ (Oper.mk _ (Op.load _ _) _ _ _ _ :: _) _ _); refine wpList_load_g hY _ rfl rfl (by go_simp) ?_) | ((with_reducible show wpList _ _ _ (Oper.mk _ (Op.binOp _ _ _ _ _) _ _ _ _ :: _) _ _); refine wpList_exw rfl (row_eql_exec rfl x.1.1 x.1.2 rfl rfl hok1 hok2 _) ?_))
        refine onlyNormal_in ?_
        refine hK2 _ _ ?_
        have HS := Lib.hid (difsOf_snoc (pre.map (·.1)) x.1)
        have hdl := difsOf_len (pre.map (·.1))
        have hml := mrgP_len a b
        rw [List.length_map] at hdl
        rw [H1.out.len, H2.out.len] at hml
        have hn' : n' ≤ 2000 := by rw [← hi2.len]; omega
        have hlo := load_pfxs (show W.cell? ⟨bo, 0, none⟩ = some (.slice A' n' c') by rw [blk_cell hi1]; rfl)
        cases hq : x.1.1.eqB x.1.2 with
        | true =>
          refine wpIn_cond_true (by rfl) ?_
          refine wpIn_skip ?_
          refine ⟨KeepsFrom.refl _ _, KeptB.refl _ _ _, ⟨A', n', c', hi1, ?_⟩, HI.out.kept⟩
          rw [List.map_append, List.map_singleton, HS.out, show difOf x.1 = [] by unfold difOf; rw [hq]; rfl, List.append_nil]
          exact hi2
        | false =>
          refine wpIn_cond_false (by rfl) ?_
          refine wpIn_seq_k (fun K2 hK2 => ?_)
          refine regionIn_of_all (open_round l) (by rfl) ?_
          have hhop := (rowLd_of hok1.fits (cells_blk hx)).hop
          go_simp
          go_wp2_with (first | ((with_reducible show wpList _ _ _ (Oper.mk _ (Op.load _ _) _ _ _ _ :: _) _ _); refine wpList_load_g hhop _ rfl rfl (by go_simp) ?_))
          refine onlyNormal_in ?_
          refine hK2 _ _ ?_
          by_cases hp : 0 < x.1.1.h
          · have hpd : decide (0 < x.1.1.h) = true := decide_eq_true hp
            have HDO := Lib.hid (show difOf x.1 = [x.1.1.p] by unfold difOf; rw [hq, if_pos hp]; rfl)
            have hlp := (rowLd_of hok1.fits (cells_blk hx)).pfx
            have hokp : pfxK.ok x.1.1.p := hok1.fits
            refine wpIn_cond_true (by rw [← hpd]; rfl) ?_
            refine regionIn_of_all (open_round l) (by rfl) ?_
            go_simp
            go_wp2_with (first | ((with_reducible show wpList _ _ _ (Oper.mk _ (Op.load _ _) _ _ _ _ :: _) _ _); refine wpList_load_g hlo _ rfl rfl (by go_simp) ?_) | ((with_reducible show wpList _ _ _ (Oper.mk _ (Op.load _ _) _ _ _ _ :: _) _ _); refine wpList_load_g hlp _ rfl rfl (by go_simp) ?_) | ((with_reducible show wpList _ _ _ (Oper.mk _ (Op.buildSlice _ _ _) _ _ _ _ :: _) _ _); refine wpList_exw rfl (exec_lit1 pfxK (x := .tmp 37) rfl x.1.1.p rfl hokp (by show 18 ≤ _; omega) _) ?_) | (at_builtin; refine wpList_append_shp pfxK rfl (.tmp 35) (.tmp 38) rfl rfl rfl (OS.below hi2 (below_alloc (Below.refl _ _) _)) (OS.one pfxK W 0 x.1.1.p (Nat.zero_le _) hokp).reads (by simp; omega) (by omega) ?_; intro A4 c4 w4 h1 h2 h3; have H4 := Lib.hid (And.intro h1 (And.intro h2 h3)); clear h1 h2 h3) | ((with_reducible show wpList _ _ _ (Oper.mk _ (Op.store _ _ _) _ _ _ _ :: _) _ _); refine wpList_store_cell (blk_own2 (blk_below hi1 (below_alloc (Below.refl _ _) _)) H4.out.2.1 (fun ad e => by have := hi2.base_ ad e; omega)) 86 0 (.slice A4 (n' + 1) c4) (Nat.le_refl _) (by kernel_rfl) rfl rfl _ _ rfl rfl rfl rfl ?_; intro w5 hg9 hs9 hb9; have H5 := Lib.hid (And.intro hg9 hb9); clear hg9 hs9 hb9))
            refine onlyNormal_in ?_
            have hcl := fun (ad : Addr) (e : A' = some ad) => hi2.ov.form ad e
            have hbW : Below W.heap.size W (W.alloc (.cells (pfxK.enc x.1.1.p).toArray pfxK.t)) := below_alloc (Below.refl _ _) _
            have hk4 : ∀ k o, W.heap[k]? = some o → (∀ ad, A' = some ad → ad.block ≠ k) → k ≠ bo → w5.heap[k]? = some o := fun k o hk h0 h1 => blk_grown (blk_own2 (blk_below hk hbW) H4.out.2.1 h0) H5.out.1 (fun e => by injection e with e; exact h1 e)
            have hK : KeptB W w5 bo (bo + 3) := by
              have hg4 := H4.out.2.1
              have hg5 := H5.out.1
              have hs4 := hg4.size
              have hs5 := hg5.size
              have hsW := hbW.size
              refine ⟨hg5.os.trans (hg4.os.trans hbW.os), hg5.tape.trans (hg4.tape.trans hbW.tape), hg5.output.trans (hg4.output.trans hbW.output), by omega, fun k hk hne => ?_⟩
              rw [hg5.block k (by omega) (fun e => by injection e with e; exact hne e), hg4.block k (by omega) (fun e => by
                obtain ⟨ad, e1, e2⟩ := own_of e.symm
                have := hi2.base_ ad e1
                omega)]
              exact hbW.block k (by omega)
            refine ⟨⟨hK.size, fun k o hB hk ho => hk4 k o hk (fun ad e hh => ?_) (by omega)⟩, hK, ⟨A4, n' + 1, c4, H5.out.2, ?_⟩, HI.out.kept.trans hK⟩
            · obtain ⟨_, _, _, hf, _⟩ := hcl ad e
              rw [hh, hk] at hf
              cases hf
              cases ho
            · rw [List.map_append, List.map_singleton, HS.out, HDO.out]
              exact H4.out.1.grown H5.out.1 (fun ad e hh => by have := H4.out.1.base_ ad e; injection hh with hh; omega)
          · have hpd : decide (0 < x.1.1.h) = false := decide_eq_false hp
            have HDO := Lib.hid (show difOf x.1 = [x.1.2.p] by unfold difOf; rw [hq, if_neg hp]; rfl)
            have hlp := (rowLd_of hok2.fits (cells_blk hy)).pfx
            have hokp : pfxK.ok x.1.2.p := hok2.fits
            refine wpIn_cond_false (by rw [← hpd]; rfl) ?_
            refine regionIn_of_all (open_round l) (by rfl) ?_
            go_simp
            go_wp2_with (first | ((with_reducible show wpList _ _ _ (Oper.mk _ (Op.load _ _) _ _ _ _ :: _) _ _); refine wpList_load_g hlo _ rfl rfl (by go_simp) ?_) | ((with_reducible show wpList _ _ _ (Oper.mk _ (Op.load _ _) _ _ _ _ :: _) _ _); refine wpList_load_g hlp _ rfl rfl (by go_simp) ?_) | ((with_reducible show wpList _ _ _ (Oper.mk _ (Op.buildSlice _ _ _) _ _ _ _ :: _) _ _); refine wpList_exw rfl (exec_lit1 pfxK (x := .tmp 24) rfl x.1.2.p rfl hokp (by show 18 ≤ _; omega) _) ?_) | (at_builtin; refine wpList_append_shp pfxK rfl (.tmp 22) (.tmp 25) rfl rfl rfl (OS.below hi2 (below_alloc (Below.refl _ _) _)) (OS.one pfxK W 0 x.1.2.p (Nat.zero_le _) hokp).reads (by simp; omega) (by omega) ?_; intro A4 c4 w4 h1 h2 h3; have H4 := Lib.hid (And.intro h1 (And.intro h2 h3)); clear h1 h2 h3) | ((with_reducible show wpList _ _ _ (Oper.mk _ (Op.store _ _ _) _ _ _ _ :: _) _ _); refine wpList_store_cell (blk_own2 (blk_below hi1 (below_alloc (Below.refl _ _) _)) H4.out.2.1 (fun ad e => by have := hi2.base_ ad e; omega)) 86 0 (.slice A4 (n' + 1) c4) (Nat.le_refl _) (by kernel_rfl) rfl rfl _ _ rfl rfl rfl rfl ?_; intro w5 hg9 hs9 hb9; have H5 := Lib.hid (And.intro hg9 hb9); clear hg9 hs9 hb9))
            refine onlyNormal_in ?_
            have hcl := fun (ad : Addr) (e : A' = some ad) => hi2.ov.form ad e
            have hbW : Below W.heap.size W (W.alloc (.cells (pfxK.enc x.1.2.p).toArray pfxK.t)) := below_alloc (Below.refl _ _) _
            have hk4 : ∀ k o, W.heap[k]? = some o → (∀ ad, A' = some ad → ad.block ≠ k) → k ≠ bo → w5.heap[k]? = some o := fun k o hk h0 h1 => blk_grown (blk_own2 (blk_below hk hbW) H4.out.2.1 h0) H5.out.1 (fun e => by injection e with e; exact h1 e)
            have hK : KeptB W w5 bo (bo + 3) := by
              have hg4 := H4.out.2.1
              have hg5 := H5.out.1
              have hs4 := hg4.size
              have hs5 := hg5.size
              have hsW := hbW.size
              refine ⟨hg5.os.trans (hg4.os.trans hbW.os), hg5.tape.trans (hg4.tape.trans hbW.tape), hg5.output.trans (hg4.output.trans hbW.output), by omega, fun k hk hne => ?_⟩
              rw [hg5.block k (by omega) (fun e => by injection e with e; exact hne e), hg4.block k (by omega) (fun e => by
                obtain ⟨ad, e1, e2⟩ := own_of e.symm
                have := hi2.base_ ad e1
                omega)]
              exact hbW.block k (by omega)
            refine ⟨⟨hK.size, fun k o hB hk ho => hk4 k o hk (fun ad e hh => ?_) (by omega)⟩, hK, ⟨A4, n' + 1, c4, H5.out.2, ?_⟩, HI.out.kept.trans hK⟩
            · obtain ⟨_, _, _, hf, _⟩ := hcl ad e
              rw [hh, hk] at hf
              cases hf
              cases ho
            · rw [List.map_append, List.map_singleton, HS.out, HDO.out]
              exact H4.out.1.grown H5.out.1 (fun ad e hh => by have := H4.out.1.base_ ad e; injection hh with hh; omega)
      case done =>
        rintro D ys W hD hS hI hKd
        obtain ⟨A', n', c', hi1, hi2⟩ := hI.box
        have HI := Lib.hid (And.intro hi2 hI.kept)
        have hlo := load_pfxs (show W.cell? ⟨bo, 0, none⟩ = some (.slice A' n' c') by rw [blk_cell hi1]; rfl)
        have HE := Lib.hid (show difE a b = 0 ∧ difL a b = difsOf (ys.map (·.1)) by
          unfold difE difL
          rw [HRA.out, HRB.out, hS, mrgP_dif a b (Tab.of H1.out.fits HRA.out) (Tab.of H2.out.fits HRB.out)]
          exact ⟨rfl, rfl⟩)
        have HK := Lib.hid hKd
        clear hI hS
        go_wp2_with (first | ((with_reducible show wpList _ _ _ (Oper.mk _ (Op.load _ _) _ _ _ _ :: _) _ _); refine wpList_load_g hlo _ rfl rfl (by go_simp) ?_))
        refine ⟨by simp, .inl ⟨_, _, rfl, run_takeDeferred HK.out, ?_⟩⟩
        refine ⟨_, results_tmp2 rfl _ _ _, ?_⟩
        rw [HE.out.1, HE.out.2]
        have hlow : Below w.heap.size w w3 := below_step HBE.out HB3.out
        have hbw : w.heap.size ≤ bo := Nat.le_trans HBE.out.size hle
        have hk := HI.out.2
        have hfin : Below w.heap.size w W := ⟨hk.os.trans hlow.os, hk.tape.trans hlow.tape, hk.output.trans hlow.output, Nat.le_trans hlow.size hk.size, fun i hi => (hk.block i (by omega) (by omega)).trans (hlow.block i hi)⟩
        refine ⟨A', _, c', rfl, ?_, hfin.trans (belowK_b (w := w) (Nat.le_refl _) W D _ _ (by omega) HK.out rfl rfl)⟩
        refine (HI.out.1.grown (grownBy_putObj' W D (.deferred none)) (fun ad e hh => ?_)).lower (by omega)
        obtain ⟨_, _, _, hf, _⟩ := HI.out.1.ov.form ad e
        injection hh with hh
        rw [hh, HK.out] at hf
        cases hf
end Go.Proofs.YtihfaknflfmohaaDoor

/- Layer 27 (cache): Move. -/
namespace Go.Proofs.YtihfaknflfmohaaDoor
open Go.RowKit
set_option linter.unusedVariables false
set_option linter.unusedSimpArgs false
set_option maxRecDepth 4000
def goesB (was ver : Int) (ds : List Pfx) (e : Ent) : Bool := decide (ver ≠ was + 1) || ds.any fun p => p.has e.v e.l
set_option maxHeartbeats 1000000 in
theorem cmove1_any (e : Ent) (x : Cac) (ver : Int) (gv gc gl : Nat) (L : Option Addr) (nl cl : Nat) (ds : List Pfx) (w : World) (hL : Laid w) (heo : e.fits) (hv : w.heap[gv]? = some (.cells #[.int .u64 ver] 22 (0, 0))) (hc : w.heap[gc]? = some (.cells x.vv 25 (0, 0)))
    (hl : w.heap[gl]? = some (.cells #[.slice L nl cl] 86 (0, 0))) (hd : RS pfxK w L nl cl ds) (hn : nl ≤ 1000000) (hx0 : 0 ≤ x.ver) (hx1 : x.ver ≤ 4611686018427387904) :
    Calls Tryd.prog 81 #[.agg (entV e), .pointer (some ⟨gv, 0, none⟩), .pointer (some ⟨gc, 0, none⟩), .pointer (some ⟨gl, 0, none⟩)] w fun r w' => r = .returned (.bool (goesB x.ver ver ds e)) ∧ Below w.heap.size w w' := by
  have he := heo
  have hblk1 := blk_new w (.cells (entV e) 43)
  have hbel1 : Below w.heap.size w (w.alloc (.cells (entV e) 43)) := below_alloc (Below.refl _ _) _
  have HP1 := Lib.hid (ent_at he hblk1)
  have HBK1 := Lib.hid hblk1
  have HBE := Lib.hid hbel1
  have HL := Lib.hid (hL.below HBE.out)
  obtain ⟨cs1, hcs1⟩ : ∃ cs, entV e = cs := ⟨_, rfl⟩
  simp only [hcs1] at HBE HL HP1 HBK1 ⊢
  have HC1 := Lib.hid hcs1
  clear hL hcs1 hblk1 hbel1
  have hlv : (Instr.loadAt 22 (.pointer (some ⟨gv, 0, none⟩))).run Tryd.prog (w.alloc (.cells cs1 43)) = .ok (.int .u64 ver) (w.alloc (.cells cs1 43)) := load_u64c (by rw [blk_cell (blk_below hv HBE.out)]; rfl)
  have hlc := ((cac_at (blk_below hc HBE.out)).all _ (Below.refl _ _)).ver
  have hll : (Instr.loadAt 86 (.pointer (some ⟨gl, 0, none⟩))).run Tryd.prog (w.alloc (.cells cs1 43)) = .ok (.slice L nl cl) (w.alloc (.cells cs1 43)) := load_pfxs (by rw [blk_cell (blk_below hl HBE.out)]; rfl)
  have HD := Lib.hid (hd.below HBE.out)
  have hwr : IntKind.u64.wrap (x.ver + 1) = x.ver + 1 := by
    simp only [IntKind.wrap, IntKind.bits, IntKind.signed]
    simp
    omega
  clear hv hc hl hd
  go_enter Tryd.func81, Tryd.ntmps81
  by_cases hver : ver = x.ver + 1
  · subst hver
    have HG := Lib.hid (show goesB x.ver (x.ver + 1) ds e = ds.any fun p => p.has e.v e.l by unfold goesB; rw [decide_eq_false (by omega)]; rfl)
    go_wp2_with (first | ((with_reducible show wpList _ _ _ (Oper.mk _ (Op.load _ _) _ _ _ _ :: _) _ _); refine wpList_load_g hlv _ rfl rfl (by go_simp) ?_) | ((with_reducible show wpList _ _ _ (Oper.mk _ (Op.load _ _) _ _ _ _ :: _) _ _); refine wpList_load_g hlc _ rfl rfl (by go_simp) ?_) | ((with_reducible show wpList _ _ _ (Oper.mk _ (Op.load _ _) _ _ _ _ :: _) _ _); refine wpList_load_g hll _ rfl rfl (by go_simp) ?_))
    refine (containsV_any L nl cl ds _ w.heap.size HD.out hn (fun p => p.has e.v e.l) (fun i hi w1 hb => cmove11_any (pfxK.at_ ds i) e w.heap.size w1 (HL.out.below hb) (RS.fits_at HD.out hi) he ⟨fun w0 h0 => HP1.out.all w0 (below_step hb h0), fun w0 h0 => HP1.out.found w0 (below_step hb h0)⟩)).mono ?_
    rintro r w1 ⟨rfl, hb1⟩
    have HB1 := Lib.hid (below_step HBE.out hb1)
    clear hb1
    go_wp2
    go_ret
    rw [HG.out]
    exact ⟨rfl, HB1.out⟩
  · have hvb : (ver == x.ver + 1) = false := by simpa using hver
    have hvb2 : (ver != x.ver + 1) = true := by simpa using hver
    have HG := Lib.hid (show goesB x.ver ver ds e = true by unfold goesB; rw [decide_eq_true hver]; rfl)
    clear hver
    go_wp2_with (first | ((with_reducible show wpList _ _ _ (Oper.mk _ (Op.load _ _) _ _ _ _ :: _) _ _); refine wpList_load_g hlv _ rfl rfl (by go_simp) ?_) | ((with_reducible show wpList _ _ _ (Oper.mk _ (Op.load _ _) _ _ _ _ :: _) _ _); refine wpList_load_g hlc _ rfl rfl (by go_simp) ?_))
    go_ret
    rw [HG.out]
    exact ⟨rfl, HBE.out⟩
set_option maxHeartbeats 1000000 in
theorem indexfM_any (A : Option Addr) (n c : Nat) (t : List Ent) (w : World) (gv gc gl : Nat) (hr : RS entK w A n c t) (hn : n ≤ 1000000) (q : Ent → Bool)
    (hq : ∀ i, i < n → ∀ w1, Below w.heap.size w w1 → Calls Tryd.prog 81 #[entK.val (entK.at_ t i), .pointer (some ⟨gv, 0, none⟩), .pointer (some ⟨gc, 0, none⟩), .pointer (some ⟨gl, 0, none⟩)] w1 fun e w2 => e = .returned (.bool (q (entK.at_ t i))) ∧ Below w1.heap.size w1 w2) :
    Calls Tryd.prog 101 #[.slice A n c, .func (Fn.func 81) #[] #[.pointer (some ⟨gv, 0, none⟩), .pointer (some ⟨gc, 0, none⟩), .pointer (some ⟨gl, 0, none⟩)]] w fun e w' => e = .returned (.int .i64 (idxE q t)) ∧ Below w.heap.size w w' := by
  have HR := Lib.hid hr
  have HQ := Lib.hid hq
  clear hr hq
  go_enter Tryd.func101, Tryd.ntmps101
  go_wp2_with fail
  go_loopw [8] (fun x wr => ∃ i : Nat, x = .int .i64 i ∧ Hid (i ≤ n ∧ (∀ k, k < i → q (entK.at_ t k) = false) ∧ Below w.heap.size w wr)) (fun x _ => n - (intOf x).toNat)
  case atStart => exact ⟨0, rfl, Nat.zero_le _, fun k h => by omega, Below.refl _ _⟩
  case round =>
    obtain ⟨i, rfl, HH⟩ := hrel
    by_cases hlt : i < n
    · have hlt' : (i : Int) < n := by omega
      obtain ⟨b, o, rfl, hc⟩ := RS.at_ HR.out (by omega)
      have hld := Shape.ld entK wr b _ _ (RS.fits_at HR.out hlt) ((hc i hlt).below HH.out.2.2)
      have HIL := Lib.hid (show i < t.length by rw [HR.out.len]; exact hlt)
      clear hc
      go_wp2_with (first | ((with_reducible show wpList _ _ _ (Oper.mk _ (Op.load _ _) _ _ _ _ :: _) _ _); refine wpList_load_g hld _ rfl rfl (by go_simp) ?_))
      refine (HQ.out i hlt wr HH.out.2.2).mono ?_
      rintro e w2 ⟨rfl, hb2⟩
      have HB2 := Lib.hid (below_step HH.out.2.2 hb2)
      clear hb2 hld
      cases hqq : q (entK.at_ t i) with
      | true =>
        have HE : Hid (idxE q t = (i : Int)) := Lib.hid (idxE_at (S := entK) HIL.out hqq HH.out.2.1)
        clear hqq
        go_wp2
        go_ret
        rw [HE.out]
        exact ⟨rfl, HB2.out⟩
      | false =>
        have HN := Lib.hid hqq
        clear hqq
        go_wp2_with fail
        go_roundw
        case measure => simp [intOf]; omega
        case rel =>
          refine ⟨i + 1, by go_num, by omega, fun k hk => ?_, HB2.out⟩
          by_cases hki : k < i
          · exact HH.out.2.1 k hki
          · rw [show k = i by omega]; exact HN.out
    · have hlt' : decide (i < n) = false := decide_eq_false hlt
      have HE : Hid (idxE q t = -1) := Lib.hid (idxE_none (S := entK) (fun k hk => HH.out.2.1 k (by rw [HR.out.len] at hk; omega)))
      clear hlt
      go_wp2
      go_ret
      rw [HE.out]
      exact ⟨rfl, HH.out.2.2⟩
set_option maxHeartbeats 2000000 in
theorem deletefM_any (base : Nat) (A : Option Addr) (n c : Nat) (t : List Ent) (w : World) (gv gc gl : Nat) (ho : OS entK w base A n c t) (hn : n ≤ 1000000) (q : Ent → Bool)
    (hq : ∀ e, e ∈ t → ∀ w1, w.grownBy w1 ((Value.slice A n c).ownBlock) → Calls Tryd.prog 81 #[entK.val e, .pointer (some ⟨gv, 0, none⟩), .pointer (some ⟨gc, 0, none⟩), .pointer (some ⟨gl, 0, none⟩)] w1 fun r w2 => r = .returned (.bool (q e)) ∧ Below w1.heap.size w1 w2) :
    Calls Tryd.prog 108 #[.slice A n c, .func (Fn.func 81) #[] #[.pointer (some ⟨gv, 0, none⟩), .pointer (some ⟨gc, 0, none⟩), .pointer (some ⟨gl, 0, none⟩)]] w fun r w' => ∃ k, r = .returned (.slice A k c) ∧ OS entK w' base A k c (t.filter fun e => !q e) ∧ w.grownBy w' ((Value.slice A n c).ownBlock) := by
  have HO := Lib.hid ho
  have HQ := Lib.hid hq
  have hlen := ho.len
  have hcap := ho.cap
  have hcmax : c ≤ 9223372036854775807 := ho.ov.capmax
  clear ho hq
  go_enter Tryd.func108, Tryd.ntmps108
  go_wp2_with fail
  refine (indexfM_any A n c t w gv gc gl HO.out.reads hn q (fun i hi w1 hb => HQ.out _ (List.mem_of_getElem? (Shape.at_get (S := entK) (by rw [hlen]; exact hi))) w1 (grown_of_below hb _))).mono ?_
  rintro e w1 ⟨rfl, hb1⟩
  have HB1 := Lib.hid hb1
  clear hb1
  rcases idx_cases q t with hm | ⟨i, hi, hm, hpre⟩
  · rw [hm.1]
    have HF := Lib.hid hm.2
    clear hm
    go_wp2
    go_ret
    exact ⟨n, rfl, by rw [HF.out]; exact HO.out.below HB1.out, grown_of_below HB1.out _⟩
  · rw [hm]
    have HPRE := Lib.hid hpre
    have hin : i < n := by rw [← hlen]; exact hi
    obtain ⟨b, o, rfl, -⟩ := RS.at_ HO.out.reads (by omega)
    have hiv : ((i : Int) == -1) = false := by simp
    have hi1 : IntKind.i64.wrap ((i : Int) + 1) = i + 1 := IntWalk.i64_in _ (by omega)
    have HO1 := Lib.hid (HO.out.below HB1.out)
    have hblt : b < w.heap.size := HO.out.lt _ rfl
    have HBL := Lib.hid (show b < w1.heap.size from Nat.lt_of_lt_of_le hblt HB1.out.size)
    clear hm hpre hi hblt
    go_wp2_with fail
    clear hi1 hiv
    go_loopw [5, 6] (fun s5 s6 wr => ∃ (i j : Nat) (cur : List Ent), s5 = .int .i64 i ∧ s6 = .int .i64 j ∧ Hid (i < j ∧ j ≤ n ∧ OS entK wr base (some ⟨b, o, none⟩) n c cur ∧ cur.take i = (t.take j).filter (fun e => !q e) ∧ cur.drop j = t.drop j ∧ w.grownBy wr (some b) ∧ w1.heap.size ≤ wr.heap.size)) (fun _ y _ => n - (intOf y).toNat)
    case atStart => exact ⟨i, i + 1, t, rfl, by go_num, by omega, by omega, HO1.out, HPRE.out.symm, rfl, grown_of_below HB1.out _, Nat.le_refl _⟩
    case round =>
      obtain ⟨i, j, cur, rfl, rfl, HI⟩ := hrel
      have hij := HI.out.1
      by_cases hlt : j < n
      · have hlt' : (j : Int) < n := by omega
        have hcl := HI.out.2.2.1.len
        obtain ⟨b2, o2, hbo, hc⟩ := RS.at_ HI.out.2.2.1.reads (by omega)
        obtain ⟨rfl, rfl⟩ : b = b2 ∧ o = o2 := by injection hbo with hbo; injection hbo with h1 h2; exact ⟨h1, h2⟩
        have HF := Lib.hid (RS.fits_at HI.out.2.2.1.reads hlt)
        have hld := Shape.ld entK wr b _ _ (RS.fits_at HI.out.2.2.1.reads hlt) (hc j hlt)
        have hjt : entK.at_ cur j = entK.at_ t j := at_drop_eq HI.out.2.2.2.2.1 (by rw [hcl]; exact hlt) (by rw [hlen]; exact hlt)
        obtain ⟨e, he⟩ : ∃ e, entK.at_ cur j = e := ⟨_, rfl⟩
        have HMEM : Hid (e ∈ t) := Lib.hid (by rw [← he, hjt]; exact List.mem_of_getElem? (Shape.at_get (S := entK) (by rw [hlen]; exact hlt)))
        have HSTEP := Lib.hid (filter_step (S := entK) (p := fun e => !q e) (t := t) (j := j) (by rw [hlen]; exact hlt))
        rw [← hjt, he] at HSTEP
        rw [he] at hld HF
        have hld : (Instr.loadAt 43 (.pointer (some ⟨b, o + j * 37, none⟩))).run Tryd.prog wr = .ok (entK.val e) wr := hld
        clear hc hbo hjt
        go_wp2_with (first | ((with_reducible show wpList _ _ _ (Oper.mk _ (Op.load _ _) _ _ _ _ :: _) _ _); refine wpList_load_g hld _ rfl rfl (by go_simp) ?_) | ((with_reducible show wpList _ _ _ (Oper.mk _ (Op.store _ _ _) _ _ _ _ :: _) _ _); refine wpList_store_blk (blk_new wr _) 43 0 (entV e) (store_ent_fit HF.out rfl) (info_ent HF.out) (entV_one _) _ _ rfl rfl rfl rfl ?_; intro w3 hg9 hs9 hb9; rw [splice_ent HF.out rfl] at hb9; have H3 := Lib.hid (And.intro hg9 hb9); clear hg9 hs9 hb9) | ((with_reducible show wpList _ _ _ (Oper.mk _ (Op.load _ _) _ _ _ _ :: _) _ _); refine wpList_load_g ((Shape.ld entK w3 _ 0 _ HF.out (cells_blk H3.out.2))) _ rfl rfl (by go_simp) ?_))
        have HB3 := Lib.hid (below_grown (below_alloc (Below.refl wr.heap.size wr) (.cells (entV entZ) 43)) H3.out.1 (Nat.le_refl _))
        refine (HQ.out e HMEM.out w3 (grown_trans HI.out.2.2.2.2.2.1 (grown_of_below HB3.out _))).mono ?_
        rintro r w4 ⟨rfl, hb4⟩
        have HB4 := Lib.hid (below_step HB3.out hb4)
        have HX4 := Lib.hid (blk_below H3.out.2 hb4)
        have HO4 := Lib.hid (HI.out.2.2.1.below HB4.out)
        have HG4 := Lib.hid (grown_trans HI.out.2.2.2.2.2.1 (grown_of_below HB4.out (some b)))
        have HS4 := Lib.hid (Nat.le_trans HI.out.2.2.2.2.2.2 HB4.out.size)
        clear hb4 hld
        cases hqe : q e with
        | true =>
          have HST : Hid ((t.take (j + 1)).filter (fun e => !q e) = (t.take j).filter (fun e => !q e)) := Lib.hid (by rw [HSTEP.out, if_neg (by rw [hqe]; decide), List.append_nil])
          clear hqe
          go_wp2_with fail
          go_roundw
          case measure => simp [intOf]; omega
          case rel => exact ⟨i, j + 1, cur, rfl, by go_num, by omega, by omega, HO4.out, by rw [HST.out]; exact HI.out.2.2.2.1, drop_more HI.out.2.2.2.2.1, HG4.out, HS4.out⟩
        | false =>
          have HST : Hid ((t.take (j + 1)).filter (fun e => !q e) = (t.take j).filter (fun e => !q e) ++ [e]) := Lib.hid (by rw [HSTEP.out, if_pos (by rw [hqe]; rfl)])
          clear hqe
          have hin2 : (i : Int) < n := by omega
          have hi2 : IntKind.i64.wrap ((i : Int) + 1) = i + 1 := IntWalk.i64_in _ (by omega)
          go_wp2_with (first | ((with_reducible show wpList _ _ _ (Oper.mk _ (Op.load _ _) _ _ _ _ :: _) _ _); refine wpList_load_g ((Shape.ld entK w4 _ 0 _ HF.out (cells_blk HX4.out))) _ rfl rfl (by go_simp) ?_) | ((with_reducible show wpList _ _ _ (Oper.mk _ (Op.store _ _ _) _ _ _ _ :: _) _ _); refine wpList_store_elem HO4.out i (by omega) e HF.out rfl _ _ rfl rfl rfl rfl ?_; intro w5 hg5 hs5 ho5; have H5 := Lib.hid (And.intro hg5 (And.intro hs5 ho5)); clear hg5 hs5 ho5))
          go_roundw
          case measure => simp [intOf]; omega
          case rel =>
            have hl2 := HI.out.2.2.2.1
            exact ⟨i + 1, j + 1, _, by go_num, by go_num, by omega, by omega, H5.out.2.2, by rw [HST.out, ← hl2]; exact put_take (by omega), put_drop HI.out.2.2.2.2.1 (by omega) (by omega), grown_trans HG4.out H5.out.1, by rw [H5.out.2.1]; exact HS4.out⟩
      · have hlt' : decide (j < n) = false := decide_eq_false hlt
        have hjn : j = n := by have := HI.out.2.1; omega
        have HE : Hid (cur.take i = t.filter (fun e => !q e)) := Lib.hid (by
          have := HI.out.2.2.2.1
          rwa [hjn, ← hlen, List.take_length] at this)
        have HT := Lib.hid (HI.out.2.2.1.take i c (by omega) (by omega) (Nat.le_refl _))
        obtain ⟨D, hD⟩ : ∃ D, (if c = i then some (⟨b, o, none⟩ : Addr) else some ((⟨b, o, none⟩ : Addr).add (i * 37))) = D := ⟨_, rfl⟩
        have hcut : ∀ W : World, (Instr.slice 23 (.slice (some ⟨b, o, none⟩) n c) (some (.int .i64 (i : Int))) none none).run Tryd.prog W = .ok (.slice D (n - i) (c - i)) W := fun W => by
          rw [← hD]
          exact cutL entK (some ⟨b, o, none⟩) n c _ i rfl (by omega) W
        have hcut2 : ∀ W : World, (Instr.slice 23 (.slice (some ⟨b, o, none⟩) n c) none (some (.int .i64 (i : Int))) none).run Tryd.prog W = .ok (.slice (some ⟨b, o, none⟩) i c) W := fun W => cutH entK (some ⟨b, o, none⟩) n c _ i rfl (by omega) W
        obtain ⟨w6, hr2, hO6, hg6⟩ := run_clear_shp entK wr 23 ⟨b, o, none⟩ i c (n - i) _ HT.out (by omega) (d := D) hD.symm (c - i)
        have H6 := Lib.hid (And.intro hO6 hg6)
        clear hO6 hg6 hD hjn hlt
        go_wp2_with (refine wpList_exec rfl (exec_clear (.tmp 38) _ rfl rfl hr2) ?_)
        go_ret
        exact ⟨i, rfl, by rw [← HE.out]; exact H6.out.1, grown_trans HI.out.2.2.2.2.2.1 H6.out.2⟩
set_option maxHeartbeats 2000000 in
theorem cwithoutM_any (x : Cac) (es : List Ent) (ver : Int) (w : World) (gv gc gl : Nat) (hre : RE w x.A x.n x.c es) (hn : x.n ≤ 100000) (q : Ent → Bool)
    (hq : ∀ e, e ∈ es → ∀ w1, Below w.heap.size w w1 → Calls Tryd.prog 81 #[.agg (entV e), .pointer (some ⟨gv, 0, none⟩), .pointer (some ⟨gc, 0, none⟩), .pointer (some ⟨gl, 0, none⟩)] w1 fun r w2 => r = .returned (.bool (q e)) ∧ Below w1.heap.size w1 w2) :
    Calls Tryd.prog 79 #[.agg x.vv, .int .u64 ver, .func (Fn.func 81) #[] #[.pointer (some ⟨gv, 0, none⟩), .pointer (some ⟨gc, 0, none⟩), .pointer (some ⟨gl, 0, none⟩)]] w fun r w' => ∃ A' k c', r = .returned (.agg (Cac.vv ⟨x.room, ver, A', k, c', x.hits, x.misses⟩)) ∧ RE w' A' k c' (es.filter fun e => !q e) ∧ (∀ ad, A' = some ad → w.heap.size ≤ ad.block) ∧ Below w.heap.size w w' := by
  have HQ := Lib.hid hq
  clear hq
  have hblk1 := blk_new w (.cells (x.vv) 25)
  have hbel1 : Below w.heap.size w (w.alloc (.cells (x.vv) 25)) := below_alloc (Below.refl _ _) _
  have HP1 := Lib.hid (cac_at hblk1)
  have HBK1 := Lib.hid hblk1
  have HBE := Lib.hid hbel1
  obtain ⟨cs1, hcs1⟩ : ∃ cs, x.vv = cs := ⟨_, rfl⟩
  simp only [hcs1] at HBE HP1 HBK1 ⊢
  have HC1 := Lib.hid hcs1
  clear hcs1 hblk1 hbel1
  have HE := Lib.hid (hre.below HBE.out)
  have hs : (w.alloc (.cells cs1 25)).heap.size = w.heap.size + 1 := by simp
  obtain ⟨W1, hW1⟩ : ∃ W1, (w.alloc (.cells cs1 25)).alloc (.cells #[.int .i64 0, .int .u64 0, .slice none 0 0, .int .u64 0, .int .u64 0] 25) = W1 := ⟨_, rfl⟩
  have HZ : Hid (W1.heap[w.heap.size + 1]? = some (.cells cacZ.vv 25 (0, 0))) := Lib.hid (by
    rw [← hW1, ← hs]
    exact blk_new _ _)
  have HB1 : Hid (Below (w.alloc (.cells cs1 25)).heap.size (w.alloc (.cells cs1 25)) W1) := Lib.hid (hW1 ▸ below_alloc (Below.refl _ _) _)
  have HK : Hid (W1.heap[w.heap.size]? = some (.cells x.vv 25 (0, 0))) := Lib.hid (blk_below (by rw [HC1.out]; exact HBK1.out) HB1.out)
  have hl1 := (HP1.out.all _ HB1.out).ents
  clear hre hs
  go_enter Tryd.func79, Tryd.ntmps79
  go_wp2_with (first | ((with_reducible show wpList _ _ _ (Oper.mk _ (Op.load _ _) _ _ _ _ :: _) _ _); refine wpList_load_g hl1 _ rfl rfl (by go_simp) ?_))
  refine (cloneE_any x.A x.n x.c es W1 (HE.out.below HB1.out) (by omega)).mono ?_
  rintro r w2 ⟨A2, c2, rfl, hO2, hb2⟩
  have HO2 := Lib.hid hO2
  have HB2 := Lib.hid (below_step HBE.out (below_step HB1.out hb2))
  have HK2 := Lib.hid (blk_below HK.out hb2)
  have HZ2 := Lib.hid (blk_below HZ.out hb2)
  have HZL := Lib.hid (blk_lt HZ.out)
  clear hO2 hb2 hl1 HK HZ
  go_wp2_with fail
  refine (deletefM_any W1.heap.size A2 x.n c2 es w2 gv gc gl HO2.out (by omega) q (fun e he w1 hg => HQ.out e he w1 (below_own HB2.out hg (fun ad h => by have := HO2.out.base_ ad h; have := HZL.out; omega)))).mono ?_
  rintro r w3 ⟨k, rfl, hO3, hg3⟩
  have HO3 := Lib.hid hO3
  have hb := HO2.out.base_
  have hzl := HZL.out
  have HB3 := Lib.hid (below_own HB2.out hg3 (fun ad h => by have := hb ad h; omega))
  have HK3 := Lib.hid (blk_ownC HK2.out hg3 (fun ad h => by have := hb ad h; omega))
  have HZ3 := Lib.hid (blk_ownC HZ2.out hg3 (fun ad h => by have := hb ad h; omega))
  clear hO3 hg3 HK2 HZ2
  go_wp2_with (first | ((with_reducible show wpList _ _ _ (Oper.mk _ (Op.store _ _ _) _ _ _ _ :: _) _ _); refine wpList_store_cell HK3.out 23 2 (.slice A2 k c2) (by show 2 < 5; omega) (by kernel_rfl) rfl rfl _ _ rfl rfl rfl rfl ?_; intro w4 hg9 hs9 hb9; have H4 := Lib.hid (And.intro hg9 (show (World.heap w4)[(w.heap.size)]? = some (.cells (Cac.vv ⟨x.room, x.ver, A2, k, c2, x.hits, x.misses⟩) 25 (0, 0)) from hb9)); clear hg9 hs9 hb9) | ((with_reducible show wpList _ _ _ (Oper.mk _ (Op.store _ _ _) _ _ _ _ :: _) _ _); refine wpList_store_cell H4.out.2 22 1 (.int .u64 ver) (by show 1 < 5; omega) (by kernel_rfl) rfl rfl _ _ rfl rfl rfl rfl ?_; intro w5 hg9 hs9 hb9; have H5 := Lib.hid (And.intro hg9 (show (World.heap w5)[(w.heap.size)]? = some (.cells (Cac.vv ⟨x.room, ver, A2, k, c2, x.hits, x.misses⟩) 25 (0, 0)) from hb9)); clear hg9 hs9 hb9) | ((with_reducible show wpList _ _ _ (Oper.mk _ (Op.load _ _) _ _ _ _ :: _) _ _); refine wpList_load_g (load_cac H5.out.2) _ rfl rfl (by go_simp) ?_) | ((with_reducible show wpList _ _ _ (Oper.mk _ (Op.store _ _ _) _ _ _ _ :: _) _ _); refine wpList_store_blk (blk_grown (blk_grown HZ3.out H4.out.1 (by simp)) H5.out.1 (by simp)) 25 0 (Cac.mk x.room ver A2 k c2 x.hits x.misses).vv (Nat.le_refl _) (info_cac _) (cac_one _) _ _ rfl rfl rfl rfl ?_; intro w6 hg9 hs9 hb9; rw [splice_cac] at hb9; have H6 := Lib.hid (And.intro hg9 hb9); clear hg9 hs9 hb9))
  refine bodyPost_ret (results_c1 rfl rfl (load_cac H6.out.2)) rfl ?_
  have hb3 := HO3.out.base_
  refine ⟨A2, k, c2, rfl, ?_, fun ad h => by have := hb3 ad h; omega, below_grown (below_grown (below_grown HB3.out H4.out.1 (by omega)) H5.out.1 (by omega)) H6.out.1 (by omega)⟩
  exact ((HO3.out.reads.grown H4.out.1 (fun ad e h => by have := hb3 ad e; injection h with h; omega)).grown H5.out.1 (fun ad e h => by have := hb3 ad e; injection h with h; omega)).grown H6.out.1 (fun ad e h => by have := hb3 ad e; injection h with h; omega)
end Go.Proofs.YtihfaknflfmohaaDoor

/- Layer 27 (cache): Move. -/
namespace Go.Proofs.YtihfaknflfmohaaDoor
open Go.RowKit
set_option linter.unusedVariables false
set_option linter.unusedSimpArgs false
set_option maxRecDepth 4000
theorem mrg_len : ∀ t u : List Row, (mrg t u).length ≤ t.length + u.length
  | [], [] => by rw [mrg]; simp
  | a :: t, [] => by have := mrg_len t []; rw [mrg]; simp only [List.length_cons, List.length_nil] at *; omega
  | [], b :: u => by have := mrg_len [] u; rw [mrg]; simp only [List.length_cons, List.length_nil] at *; omega
  | a :: t, b :: u => by
    have h1 := mrg_len t (b :: u)
    have h2 := mrg_len t u
    have h3 := mrg_len (a :: t) u
    rw [mrg]
    split
    · simp only [List.length_cons] at *; omega
    · split
      · split
        · simp only [List.length_cons] at *; omega
        · simp only [List.length_cons] at *; omega
      · simp only [List.length_cons] at *; omega
termination_by t u => t.length + u.length
theorem exec_lit2 {α : Type} (S : Shape α) {r : Operand → Value} {o : Oper} {x y : Operand} (ho : o.op = .buildSlice S.ts 2 #[(0, x), (1, y)]) (a b : α) (hx : r x = S.val a) (hy : r y = S.val b) (ha : S.ok a) (hb : S.ok b) (hs : S.sz ≤ 1000000) (W : World) :
    (execOp r o).run Tryd.prog W = .ok (.value (.slice (some ⟨W.heap.size, 0, none⟩) 2 2)) (W.alloc (.cells (S.cells [a, b]).toArray S.t)) := by
  have h := run_lit_shp S W [a, b] (fun c hc => by
    rcases List.mem_cons.1 hc with rfl | hc
    · exact ha
    · rw [List.mem_singleton] at hc; rw [hc]; exact hb) (by simp) (by simp; omega) #[(0, S.val a), (1, S.val b)] rfl
  unfold execOp
  have e : (#[(0, x), (1, y)].map fun (p : Nat × Operand) => (p.1, r p.2)) = #[(0, S.val a), (1, S.val b)] := by simp [hx, hy]
  simp only [ho, Sem.run_bind]
  have h2 : (Instr.buildSlice S.ts 2 (#[(0, x), (1, y)].map fun (p : Nat × Operand) => (p.1, r p.2))).run Tryd.prog W = .ok (.slice (some ⟨W.heap.size, 0, none⟩) 2 2) (W.alloc (.cells (S.cells [a, b]).toArray S.t)) := by rw [e]; exact h
  rw [h2]
  rfl
theorem OS.two {α : Type} (S : Shape α) (W : World) (base : Nat) (a b : α) (hb : base ≤ W.heap.size) (ha : S.ok a) (hbo : S.ok b) : OS S (W.alloc (.cells (S.cells [a, b]).toArray S.t)) base (some ⟨W.heap.size, 0, none⟩) 2 2 [a, b] :=
  OS.new S W base [a, b] hb (fun c hc => by
    rcases List.mem_cons.1 hc with rfl | hc
    · exact ha
    · rw [List.mem_singleton] at hc; rw [hc]; exact hbo) (by simp)
def moveN (x : Cac) (es : List Ent) (a b : List Row) (ver : Int) : Int := if cacB x es then (if tabB a && tabB b then (if 4611686018427387904 < ver ∨ ver ≤ x.ver then 2 else 0) else 190) else 370
def movedL (x : Cac) (es : List Ent) (a b : List Row) (ver : Int) : List Ent := es.filter fun e => !goesB x.ver ver (mrg a b) e
/-- What a move leaves. -/
def MoveIs (x : Cac) (es : List Ent) (a b : List Row) (ver : Int) (y : Cac) (fs : List Ent) (k : Int) : Prop :=
  if moveN x es a b ver = 0 then y.room = x.room ∧ y.ver = ver ∧ fs = movedL x es a b ver ∧ y.hits = x.hits ∧ y.misses = x.misses ∧ k = (es.length : Int) - fs.length
  else y = cacZ ∧ fs = [] ∧ k = 0
theorem moveIs_err {x : Cac} {es : List Ent} {a b : List Row} {ver : Int} (h : moveN x es a b ver ≠ 0) : MoveIs x es a b ver cacZ [] 0 := by
  unfold MoveIs
  rw [if_neg h]
  exact ⟨rfl, rfl, rfl⟩
theorem askE_two (x : Cac) (es : List Ent) (y z : Tb) : askE x es [y, z] = (if cacB x es then (if tabB y.t && tabB z.t then 0 else 190) else 370) := by simp [askE]
set_option maxRecDepth 100000 in
set_option maxHeartbeats 8000000 in
theorem cmove_any (x : Cac) (es : List Ent) (A : Option Addr) (n c : Nat) (a : List Row) (A2 : Option Addr) (m c2 : Nat) (b : List Row) (ver : Int) (w : World) (hL : Laid w) (hre : RE w x.A x.n x.c es) (oe : Oke es) (hxn : x.n ≤ 100000) (hx : x.ok) (ha : RT w A n c a) (oa : Oks a) (hn : n ≤ 1000) (hb : RT w A2 m c2 b) (ob : Oks b) (hm : m ≤ 1000) (hv : (Lit.int .u64 ver).wf = true) :
    Calls Tryd.prog 38 #[.agg x.vv, .agg (tabV A n c), .agg (tabV A2 m c2), .int .u64 ver] w fun r w' => ∃ y fs k, r = .returned (.tuple #[.agg (Cac.vv y), .int .i64 k, .int .i64 (moveN x es a b ver)]) ∧ RE w' y.A y.n y.c fs ∧ (∀ ad, y.A = some ad → w.heap.size ≤ ad.block) ∧ MoveIs x es a b ver y fs k ∧ Below w.heap.size w w' := by
  have hblk1 := blk_new w (.cells (x.vv) 25)
  have hbel1 : Below w.heap.size w (w.alloc (.cells (x.vv) 25)) := below_alloc (Below.refl _ _) _
  have hblk2 := blk_new (w.alloc (.cells (x.vv) 25)) (.cells (tabV A n c) 28)
  have hbel2 : Below w.heap.size w ((w.alloc (.cells (x.vv) 25)).alloc (.cells (tabV A n c) 28)) := below_alloc (hbel1) _
  rw [show (w.alloc (.cells (x.vv) 25)).heap.size = w.heap.size + 1 by simp] at hblk2
  replace hblk1 := blk_below hblk1 (below_alloc (Below.refl _ _) (.cells (tabV A n c) 28))
  have hblk3 := blk_new ((w.alloc (.cells (x.vv) 25)).alloc (.cells (tabV A n c) 28)) (.cells (tabV A2 m c2) 28)
  have hbel3 : Below w.heap.size w (((w.alloc (.cells (x.vv) 25)).alloc (.cells (tabV A n c) 28)).alloc (.cells (tabV A2 m c2) 28)) := below_alloc (hbel2) _
  rw [show ((w.alloc (.cells (x.vv) 25)).alloc (.cells (tabV A n c) 28)).heap.size = w.heap.size + 2 by simp] at hblk3
  replace hblk1 := blk_below hblk1 (below_alloc (Below.refl _ _) (.cells (tabV A2 m c2) 28))
  replace hblk2 := blk_below hblk2 (below_alloc (Below.refl _ _) (.cells (tabV A2 m c2) 28))
  have HP1 := Lib.hid (cac_at hblk1)
  have HBK1 := Lib.hid hblk1
  have HP2 := Lib.hid (tab_at hblk2)
  have HBK2 := Lib.hid hblk2
  have HP3 := Lib.hid (tab_at hblk3)
  have HBK3 := Lib.hid hblk3
  have HBE := Lib.hid hbel3
  have HL := Lib.hid (hL.below HBE.out)
  obtain ⟨cs1, hcs1⟩ : ∃ cs, x.vv = cs := ⟨_, rfl⟩
  obtain ⟨cs2, hcs2⟩ : ∃ cs, tabV A n c = cs := ⟨_, rfl⟩
  obtain ⟨cs3, hcs3⟩ : ∃ cs, tabV A2 m c2 = cs := ⟨_, rfl⟩
  simp only [hcs1, hcs2, hcs3] at HBE HL HP1 HP2 HP3 HBK1 HBK2 HBK3 ⊢
  have HC1 := Lib.hid hcs1
  have HC2 := Lib.hid hcs2
  have HC3 := Lib.hid hcs3
  clear hL hcs1 hblk1 hbel1 hcs2 hblk2 hbel2 hcs3 hblk3 hbel3
  have HE := Lib.hid (hre.below HBE.out)
  have H1 := Lib.hid (ha.below HBE.out)
  have H2 := Lib.hid (hb.below HBE.out)
  have OE := Lib.hid oe
  have OA := Lib.hid oa
  have OB := Lib.hid ob
  have hbc := run_build_cac_nil
  clear hre ha hb oe oa ob
  obtain ⟨W0, hW0⟩ : ∃ W0, W0 = (((w.alloc (.cells cs1 25)).alloc (.cells cs2 28)).alloc (.cells cs3 28)) := ⟨_, rfl⟩
  obtain ⟨W, hW⟩ : ∃ W, W = ((W0.alloc (.cells #[.int .u64 ver] 22)).alloc (.cells cacZ.vv 25)).alloc (.cells (tbK.cells [⟨A, n, c, a⟩, ⟨A2, m, c2, b⟩]).toArray tbK.t) := ⟨_, rfl⟩
  have hs0 : W0.heap.size = w.heap.size + 3 := by rw [hW0]; simp
  have HBW : Hid (Below W0.heap.size W0 W) := Lib.hid (by rw [hW]; exact below_alloc (below_alloc (below_alloc (Below.refl _ _) _) _) _)
  have HGV : Hid (W.heap[w.heap.size + 3]? = some (.cells #[.int .u64 ver] 22 (0, 0))) := Lib.hid (by
    rw [← hs0, hW]
    exact blk_below (blk_new W0 _) (below_alloc (below_alloc (Below.refl _ _) _) _))
  have HG8 : Hid (W.heap[w.heap.size + 4]? = some (.cells cacZ.vv 25 (0, 0))) := Lib.hid (by
    have := blk_below (blk_new (W0.alloc (.cells #[.int .u64 ver] 22)) (.cells cacZ.vv 25)) (below_alloc (Below.refl _ _) (.cells (tbK.cells [⟨A, n, c, a⟩, ⟨A2, m, c2, b⟩]).toArray tbK.t))
    rw [← hW] at this
    rw [show w.heap.size + 4 = (W0.alloc (.cells #[.int .u64 ver] 22)).heap.size by simp [hs0]]
    exact this)
  have HLT : Hid (RS tbK W (some ⟨w.heap.size + 5, 0, none⟩) 2 2 [⟨A, n, c, a⟩, ⟨A2, m, c2, b⟩]) := Lib.hid (by
    have := (OS.two tbK ((W0.alloc (.cells #[.int .u64 ver] 22)).alloc (.cells cacZ.vv 25)) 0 ⟨A, n, c, a⟩ ⟨A2, m, c2, b⟩ (Nat.zero_le _) trivial trivial).reads
    rw [← hW] at this
    rw [show w.heap.size + 5 = ((W0.alloc (.cells #[.int .u64 ver] 22)).alloc (.cells cacZ.vv 25)).heap.size by simp [hs0]]
    exact this)
  clear hs0
  subst hW
  subst hW0
  go_enter Tryd.func38, Tryd.ntmps38
  go_wp2_with (first | ((with_reducible show wpList _ _ _ (Oper.mk _ (Op.load _ _) _ _ _ _ :: _) _ _); refine wpList_load_g ((HP1.out.all _ (below_alloc (below_alloc (Below.refl _ _) _) _)).cac) _ rfl rfl (by go_simp) ?_) | ((with_reducible show wpList _ _ _ (Oper.mk _ (Op.load _ _) _ _ _ _ :: _) _ _); refine wpList_load_g ((HP2.out.all _ (below_alloc (below_alloc (Below.refl _ _) _) _)).1) _ rfl rfl (by go_simp) ?_) | ((with_reducible show wpList _ _ _ (Oper.mk _ (Op.load _ _) _ _ _ _ :: _) _ _); refine wpList_load_g ((HP3.out.all _ (below_alloc (below_alloc (Below.refl _ _) _) _)).1) _ rfl rfl (by go_simp) ?_) | ((with_reducible show wpList _ _ _ (Oper.mk _ (Op.buildSlice _ _ _) _ _ _ _ :: _) _ _); refine wpList_exw rfl (exec_lit2 tbK (x := .tmp 16) (y := .tmp 17) rfl ⟨A, n, c, a⟩ ⟨A2, m, c2, b⟩ rfl rfl trivial trivial (by show 1 ≤ _; omega) _) ?_))
  have hcall := casked_any x es _ 2 2 [⟨A, n, c, a⟩, ⟨A2, m, c2, b⟩] _ (HL.out.below HBW.out) (HE.out.below HBW.out) OE.out hxn HLT.out (by omega) (fun y hy => by
    rcases List.mem_cons.1 hy with rfl | hy
    · exact ⟨H1.out.below HBW.out, by show n ≤ _; omega⟩
    · rw [List.mem_singleton] at hy
      subst hy
      exact ⟨H2.out.below HBW.out, by show m ≤ _; omega⟩)
  refine hcall.mono ?_
  clear hcall
  rintro e w1 ⟨rfl, hb1⟩
  rw [askE_two]
  have HB1 := Lib.hid (below_step HBW.out hb1)
  have HV1 := Lib.hid (blk_below HGV.out hb1)
  have HR1 := Lib.hid (blk_below HG8.out hb1)
  clear hb1 HG8 HLT HBW HGV
  cases hC : cacB x es with
  | false =>
    have HN := Lib.hid (show moveN x es a b ver = 370 by unfold moveN; rw [hC]; rfl)
    clear hC
    simp only [Bool.false_eq_true, if_false]
    go_wp2_with (first | ((with_reducible show wpList _ _ _ (Oper.mk _ (Op.build _ _) _ _ _ _ :: _) _ _); refine wpList_exw rfl (exec_build 25 #[] rfl #[] rfl (hbc _)) ?_) | ((with_reducible show wpList _ _ _ (Oper.mk _ (Op.store _ _ _) _ _ _ _ :: _) _ _); refine wpList_store_blk HR1.out 25 0 cacZ.vv (Nat.le_refl _) (info_cac _) (cac_one _) _ _ rfl rfl rfl rfl ?_; intro w8 hg9 hs9 hb9; rw [splice_cac] at hb9; have H8 := Lib.hid (And.intro hg9 hb9); clear hg9 hs9 hb9))
    refine bodyPost_ret (results_c3 rfl rfl (load_cac H8.out.2)) rfl ?_
    exact ⟨cacZ, [], 0, by rw [HN.out]; rfl, RS.nil _ _ _ _, (fun ad e => by cases e), moveIs_err (by rw [HN.out]; decide), below_grown (below_step HBE.out HB1.out) H8.out.1 (by omega)⟩
  | true =>
    have HCB := Lib.hid hC
    clear hC
    simp only [if_true]
    cases hR : (tabB a && tabB b) with
    | false =>
      have HN := Lib.hid (show moveN x es a b ver = 190 by unfold moveN; rw [HCB.out, hR]; rfl)
      clear hR
      simp only [Bool.false_eq_true, if_false]
      go_wp2_with (first | ((with_reducible show wpList _ _ _ (Oper.mk _ (Op.build _ _) _ _ _ _ :: _) _ _); refine wpList_exw rfl (exec_build 25 #[] rfl #[] rfl (hbc _)) ?_) | ((with_reducible show wpList _ _ _ (Oper.mk _ (Op.store _ _ _) _ _ _ _ :: _) _ _); refine wpList_store_blk HR1.out 25 0 cacZ.vv (Nat.le_refl _) (info_cac _) (cac_one _) _ _ rfl rfl rfl rfl ?_; intro w8 hg9 hs9 hb9; rw [splice_cac] at hb9; have H8 := Lib.hid (And.intro hg9 hb9); clear hg9 hs9 hb9))
      refine bodyPost_ret (results_c3 rfl rfl (load_cac H8.out.2)) rfl ?_
      exact ⟨cacZ, [], 0, by rw [HN.out]; rfl, RS.nil _ _ _ _, (fun ad e => by cases e), moveIs_err (by rw [HN.out]; decide), below_grown (below_step HBE.out HB1.out) H8.out.1 (by omega)⟩
    | true =>
      have HR := Lib.hid hR
      clear hR
      simp only [if_true]
      have hl7 : (Instr.loadAt 22 (.pointer (some ⟨w.heap.size + 3, 0, none⟩))).run Tryd.prog w1 = .ok (.int .u64 ver) w1 := load_u64c (by rw [blk_cell HV1.out]; rfl)
      have hlv := (HP1.out.all w1 HB1.out).ver
      by_cases hv1 : 4611686018427387904 < ver
      · have hv1b : decide (4611686018427387904 < ver) = true := decide_eq_true hv1
        have HN := Lib.hid (show moveN x es a b ver = 2 by unfold moveN; rw [HCB.out, HR.out, if_pos rfl, if_pos rfl, if_pos (.inl hv1)])
        clear hv1 hl7 hlv
        have hcell : w1.cell? ⟨w.heap.size + 1 + 1 + 1, 0, none⟩ = some (.int .u64 ver) := by rw [show w.heap.size + 1 + 1 + 1 = w.heap.size + 3 from rfl, blk_cell HV1.out]; rfl
        go_wp2_with (first | ((with_reducible show wpList _ _ _ (Oper.mk _ (Op.build _ _) _ _ _ _ :: _) _ _); refine wpList_exw rfl (exec_build 25 #[] rfl #[] rfl (hbc _)) ?_) | ((with_reducible show wpList _ _ _ (Oper.mk _ (Op.store _ _ _) _ _ _ _ :: _) _ _); refine wpList_store_blk HR1.out 25 0 cacZ.vv (Nat.le_refl _) (info_cac _) (cac_one _) _ _ rfl rfl rfl rfl ?_; intro w8 hg9 hs9 hb9; rw [splice_cac] at hb9; have H8 := Lib.hid (And.intro hg9 hb9); clear hg9 hs9 hb9))
        refine bodyPost_ret (results_c3 rfl rfl (load_cac H8.out.2)) rfl ?_
        exact ⟨cacZ, [], 0, by rw [HN.out]; rfl, RS.nil _ _ _ _, (fun ad e => by cases e), moveIs_err (by rw [HN.out]; decide), below_grown (below_step HBE.out HB1.out) H8.out.1 (by omega)⟩
      · have hv1b : decide (4611686018427387904 < ver) = false := decide_eq_false hv1
        by_cases hv2 : ver ≤ x.ver
        · have hv2b : decide (ver ≤ x.ver) = true := decide_eq_true hv2
          have HN := Lib.hid (show moveN x es a b ver = 2 by unfold moveN; rw [HCB.out, HR.out, if_pos rfl, if_pos rfl, if_pos (.inr hv2)])
          clear hv1 hv2
          go_wp2_with (first | ((with_reducible show wpList _ _ _ (Oper.mk _ (Op.load _ _) _ _ _ _ :: _) _ _); refine wpList_load_g hl7 _ rfl rfl (by go_simp) ?_) | ((with_reducible show wpList _ _ _ (Oper.mk _ (Op.load _ _) _ _ _ _ :: _) _ _); refine wpList_load_g hlv _ rfl rfl (by go_simp) ?_) | ((with_reducible show wpList _ _ _ (Oper.mk _ (Op.build _ _) _ _ _ _ :: _) _ _); refine wpList_exw rfl (exec_build 25 #[] rfl #[] rfl (hbc _)) ?_) | ((with_reducible show wpList _ _ _ (Oper.mk _ (Op.store _ _ _) _ _ _ _ :: _) _ _); refine wpList_store_blk HR1.out 25 0 cacZ.vv (Nat.le_refl _) (info_cac _) (cac_one _) _ _ rfl rfl rfl rfl ?_; intro w8 hg9 hs9 hb9; rw [splice_cac] at hb9; have H8 := Lib.hid (And.intro hg9 hb9); clear hg9 hs9 hb9))
          refine bodyPost_ret (results_c3 rfl rfl (load_cac H8.out.2)) rfl ?_
          exact ⟨cacZ, [], 0, by rw [HN.out]; rfl, RS.nil _ _ _ _, (fun ad e => by cases e), moveIs_err (by rw [HN.out]; decide), below_grown (below_step HBE.out HB1.out) H8.out.1 (by omega)⟩
        · have hv2b : decide (ver ≤ x.ver) = false := decide_eq_false hv2
          have HN := Lib.hid (show moveN x es a b ver = 0 by unfold moveN; rw [HCB.out, HR.out, if_pos rfl, if_pos rfl, if_neg (by omega)])
          have HVV := Lib.hid (And.intro hv1 hv2)
          clear hv1 hv2
          go_wp2_with (first | ((with_reducible show wpList _ _ _ (Oper.mk _ (Op.load _ _) _ _ _ _ :: _) _ _); refine wpList_load_g hl7 _ rfl rfl (by go_simp) ?_) | ((with_reducible show wpList _ _ _ (Oper.mk _ (Op.load _ _) _ _ _ _ :: _) _ _); refine wpList_load_g hlv _ rfl rfl (by go_simp) ?_) | ((with_reducible show wpList _ _ _ (Oper.mk _ (Op.load _ _) _ _ _ _ :: _) _ _); refine wpList_load_g ((HP2.out.all w1 HB1.out).1) _ rfl rfl (by go_simp) ?_) | ((with_reducible show wpList _ _ _ (Oper.mk _ (Op.load _ _) _ _ _ _ :: _) _ _); refine wpList_load_g ((HP3.out.all w1 HB1.out).1) _ rfl rfl (by go_simp) ?_))
          refine (tdiffer_any A n c a A2 m c2 b w1 (HL.out.below HB1.out) (H1.out.below HB1.out) (H2.out.below HB1.out) OA.out OB.out hn hm).mono ?_
          rintro e w2 ⟨A5, n5, c5, rfl, hO2, hb2⟩
          rw [show difE a b = 0 by unfold difE; rw [HR.out]; rfl]
          have HO2 : Hid (RS pfxK w2 A5 n5 c5 (mrg a b)) := Lib.hid (by
            have := hO2.reads
            rwa [show difL a b = mrg a b by unfold difL; rw [HR.out]; rfl] at this)
          have HO2B := Lib.hid hO2.base_
          have HO2L := Lib.hid hO2.lt
          have HB2 := Lib.hid (below_step HB1.out hb2)
          have HV2 := Lib.hid (blk_below HV1.out hb2)
          have HR2 := Lib.hid (blk_below HR1.out hb2)
          clear hO2 hb2 hl7 hlv HV1 HR1 HB1
          have hS1 := blk_lt HR2.out
          have HKc : Hid (w2.heap[w.heap.size]? = some (.cells x.vv 25 (0, 0))) := Lib.hid (blk_below (by rw [HC1.out]; exact HBK1.out) HB2.out)
          have HBf := Lib.hid (fun (W : World) (h : (w2.alloc (.cells #[.slice none 0 0] 86)).grownBy W (some w2.heap.size)) => below_grown (below_alloc (Below.refl w2.heap.size w2) (.cells #[.slice none 0 0] 86)) h (Nat.le_refl _))
          go_wp2_with (first | ((with_reducible show wpList _ _ _ (Oper.mk _ (Op.store _ _ _) _ _ _ _ :: _) _ _); refine wpList_store_cell (blk_new w2 (.cells #[.slice none 0 0] 86)) 86 0 (.slice A5 n5 c5) (by decide) (by kernel_rfl) rfl rfl _ _ rfl rfl rfl rfl ?_; intro w3 hg9 hs9 hb9; have H3 := Lib.hid (And.intro hg9 (show w3.heap[w2.heap.size]? = some (.cells #[.slice A5 n5 c5] 86 (0, 0)) from hb9)); clear hg9 hs9 hb9) | ((with_reducible show wpList _ _ _ (Oper.mk _ (Op.load _ _) _ _ _ _ :: _) _ _); refine wpList_load_g (load_cac (blk_below HKc.out (HBf.out _ H3.out.1))) _ rfl rfl (by go_simp) ?_) | ((with_reducible show wpList _ _ _ (Oper.mk _ (Op.load _ _) _ _ _ _ :: _) _ _); refine wpList_load_g (load_u64c (by rw [blk_cell (blk_below HV2.out (HBf.out _ H3.out.1))]; rfl)) _ rfl rfl (by go_simp) ?_))
          have HB23 := Lib.hid (HBf.out _ H3.out.1)
          have HB3 := Lib.hid (below_step HB2.out HB23.out)
          have hxo := wfu hx.ver
          have hx62 : x.ver ≤ 4611686018427387904 := by
            have h := HCB.out
            unfold cacB headB at h
            simp at h
            omega
          have hnl : n5 ≤ 1000000 := by
            rw [← HO2.out.len]
            have := mrg_len a b
            rw [H1.out.len, H2.out.len] at this
            omega
          have hO3 : RS pfxK w3 A5 n5 c5 (mrg a b) := HO2.out.below HB23.out
          have HK3 := Lib.hid (blk_below HKc.out HB23.out)
          have HV3 := Lib.hid (blk_below HV2.out HB23.out)
          have HR3 := Lib.hid (blk_below HR2.out HB23.out)
          have HW := Lib.hid (cwithoutM_any x es ver w3 (w.heap.size + 3) w.heap.size w2.heap.size (HE.out.below HB3.out) hxn (goesB x.ver ver (mrg a b)) (fun e he w4 hb4 => cmove1_any e x ver (w.heap.size + 3) w.heap.size w2.heap.size A5 n5 c5 (mrg a b) w4 (HL.out.below (below_step HB3.out hb4)) (OE.out e he).fits (blk_below HV3.out hb4) (blk_below HK3.out hb4) (blk_below H3.out.2 hb4) (hO3.below hb4) hnl hxo.1 hx62))
          clear hO3 HBf HO2
          refine HW.out.mono ?_
          rintro e w4 ⟨A6, k6, c6, rfl, hO4, hF4, hb4⟩
          have HO4 := Lib.hid hO4
          have HF4 := Lib.hid hF4
          have HB4 := Lib.hid (below_step HB3.out hb4)
          have HK4 := Lib.hid (blk_below HK3.out hb4)
          have HR4 := Lib.hid (blk_below HR3.out hb4)
          have HEL := Lib.hid HE.out.len
          have hs3 := blk_lt HR3.out
          clear hO4 hF4 hb4 HW HK3 HV3 hnl hx62 hxo hS1
          go_upto_region 10 with (first | ((with_reducible show wpList _ _ _ (Oper.mk _ (Op.store _ _ _) _ _ _ _ :: _) _ _); refine wpList_store_blk (blk_new w4 (.cells cacZ.vv 25)) 25 0 (Cac.mk x.room ver A6 k6 c6 x.hits x.misses).vv (Nat.le_refl _) (info_cac _) (cac_one _) _ _ rfl rfl rfl rfl ?_; intro w5 hg9 hs9 hb9; rw [splice_cac] at hb9; have H5 := Lib.hid (And.intro hg9 hb9); clear hg9 hs9 hb9))
          have hne := blk_lt HR4.out
          have HK5 := Lib.hid (blk_grown (blk_below HK4.out (below_alloc (Below.refl _ _) (.cells cacZ.vv 25))) H5.out.1 (fun e => by injection e with e; omega))
          have HR5 := Lib.hid (blk_grown (blk_below HR4.out (below_alloc (Below.refl _ _) (.cells cacZ.vv 25))) H5.out.1 (fun e => by injection e with e; omega))
          have HO5 := Lib.hid (RS.grownN HO4.out (HO4.out.below (below_alloc (Below.refl _ _) (.cells cacZ.vv 25))) H5.out.1 (Nat.le_refl _))
          have HB5 := Lib.hid (below_grown (below_alloc HB4.out (.cells cacZ.vv 25)) H5.out.1 HB4.out.size)
          have HX5 := Lib.hid (blk_below H5.out.2 (below_drew1 w5))
          have HK6 := Lib.hid (blk_below HK5.out (below_drew1 w5))
          refine wp_region_mix ((fun w0 => w0.heap[w4.heap.size]? = some (.cells (Cac.vv ⟨x.room, ver, A6, k6, c6, x.hits, x.misses⟩) 25 (0, 0)) ∧ w0.heap[w.heap.size]? = some (.cells x.vv 25 (0, 0)))) [(0, 0), (1, 0), (2, 0), (3, 0), (4, 0), (5, 0), (6, 0), (7, 0), (8, 2), (9, 0), (10, 0)] (by kernel_rfl) (by kernel_rfl) (⟨HX5.out, HK6.out⟩) ?_
          simp only [List.map_cons, List.map_nil]
          refine wpO_loadW (t := 25) (ad := ⟨w4.heap.size, 0, none⟩) rfl rfl ?hw rfl rfl ((fun w0 hS => load_cac hS.1)) ?_
          case hw => go_simp
          iterate 1 (refine wpO_step0 rfl rfl (fun K hK => ?_); go_simp; refine hK _ _ ?_; clear hK K)
          refine wpO_loadW (t := 23) (ad := ⟨w.heap.size, 2, none⟩) rfl rfl ?hw rfl rfl ((fun w0 hS => ((cac_at hS.2).all _ (Below.refl _ _)).ents)) ?_
          case hw => go_simp
          iterate 2 (refine wpO_step0 rfl rfl (fun K hK => ?_); go_simp; refine hK _ _ ?_; clear hK K)
          refine wpO_loadW (t := 23) (ad := ⟨w4.heap.size, 2, none⟩) rfl rfl ?hw rfl rfl ((fun w0 hS => ((cac_at hS.1).all _ (Below.refl _ _)).ents)) ?_
          case hw => go_simp
          obtain ⟨kd, hkd⟩ : ∃ kd : Int, (x.n : Int) - k6 = kd := ⟨_, rfl⟩
          have hk6 : k6 ≤ x.n := by
            rw [← HO4.out.len, ← HEL.out]
            exact List.length_filter_le _ _
          have hwk : IntKind.i64.wrap ((x.n : Int) - k6) = kd := by rw [hkd]; exact IntWalk.i64_in _ (by omega)
          have HKD : Hid (kd = (es.length : Int) - (movedL x es a b ver).length) := Lib.hid (by
            rw [← hkd, HEL.out]
            unfold movedL
            rw [HO4.out.len])
          clear hkd hk6
          iterate 2 (refine wpO_step0 rfl rfl (fun K hK => ?_); go_simp; refine hK _ _ ?_; clear hK K)
          refine wpO_step2 rfl rfl (⟨HX5.out, HK6.out⟩) (fun K hK => ?_)
          rw [if_pos (show Region.wanted _ _ = true from rfl)]
          refine oper_store_blk (blk_below HR5.out (below_drew1 w5)) 25 0 (Cac.vv ⟨x.room, ver, A6, k6, c6, x.hits, x.misses⟩) (Nat.le_refl _) (info_cac _) (cac_one _) _ _ rfl rfl rfl ?_
          intro w6 hg8 hs8 hb8
          rw [splice_cac] at hb8
          have H6 := Lib.hid (And.intro hg8 hb8)
          clear hg8 hs8 hb8
          refine hK _ _ ⟨⟨blk_grown HX5.out H6.out.1 (fun e => by injection e with e; omega), blk_grown HK6.out H6.out.1 (fun e => by injection e with e; omega)⟩, ?_⟩
          clear hK K
          iterate 2 (refine wpO_step0 rfl rfl (fun K hK => ?_); go_simp; refine hK _ _ ?_; clear hK K)
          refine wpO_nil ?_
          go_wp2
          refine bodyPost_ret (results_c3 rfl rfl (load_cac H6.out.2)) rfl ?_
          have hsz := HB3.out.size
          refine ⟨⟨x.room, ver, A6, k6, c6, x.hits, x.misses⟩, movedL x es a b ver, kd, by rw [HN.out]; rfl, ?_, ?_, ?_, below_grown (below_step (below_step HBE.out HB5.out) (below_drew1 w5)) H6.out.1 (by omega)⟩
          · exact (HO5.out.below (below_drew1 w5)).grown H6.out.1 (fun ad e h => by injection h with h; have := HF4.out ad e; have := hs3; omega)
          · intro ad e
            have := HF4.out ad e
            omega
          · unfold MoveIs
            rw [if_pos HN.out]
            exact ⟨rfl, rfl, rfl, rfl, rfl, HKD.out⟩
end Go.Proofs.YtihfaknflfmohaaDoor

/- Layer 9 (table): the walk of TableSets. -/
namespace Go.Proofs.YtihfaknflfmohaaDoor
open Go.RowKit
set_option linter.unusedVariables false
set_option linter.unusedSimpArgs false
set_option maxRecDepth 4000
end Go.Proofs.YtihfaknflfmohaaDoor

/- Layer 9 (table): the document's Differ. -/
namespace Go.Proofs.YtihfaknflfmohaaDoor
open Go.RowKit
set_option linter.unusedVariables false
set_option linter.unusedSimpArgs false
set_option maxRecDepth 4000
structure RDif (W0 wr : World) (gt : Nat) (A : Option Addr) (n c : Nat) (t : List Row) : Prop where
  tab : wr.heap[gt]? = some (.cells (tabV A n c) 28 (0, 0))
  own : OT wr (gt + 1) A n c t
  below : Below W0.heap.size W0 wr
theorem RDif.step {W0 wr w2 : World} {gt : Nat} {A : Option Addr} {n c : Nat} {t : List Row} (h : RDif W0 wr gt A n c t) (hb : Below wr.heap.size wr w2) : RDif W0 w2 gt A n c t :=
  ⟨blk_below h.tab hb, h.own.below hb, below_step h.below hb⟩
end Go.Proofs.YtihfaknflfmohaaDoor

/- Layer 27 (cache): the document's Move. -/
namespace Go.Proofs.YtihfaknflfmohaaDoor
open Go.RowKit
set_option linter.unusedVariables false
set_option linter.unusedSimpArgs false
set_option maxRecDepth 4000
end Go.Proofs.YtihfaknflfmohaaDoor

/- Layer 27 (cache): a pair of tables; the law CacheMoves. -/
namespace Go.Proofs.YtihfaknflfmohaaDoor
open Go.RowKit
set_option linter.unusedVariables false
set_option linter.unusedSimpArgs false
set_option maxRecDepth 4000
theorem move_ok {x y : Cac} {es fs : List Ent} {a b : List Row} {ver k : Int} (oe : Oke es) (h : MoveIs x es a b ver y fs k) : Oke fs ∧ fs.length ≤ es.length := by
  unfold MoveIs at h
  split at h
  · obtain ⟨_, _, h3, _⟩ := h
    rw [h3]
    exact ⟨fun e he => oe e (List.mem_filter.1 he).1, List.length_filter_le _ _⟩
  · obtain ⟨_, h2, _⟩ := h
    rw [h2]
    exact ⟨fun e he => (by cases he), Nat.zero_le _⟩
end Go.Proofs.YtihfaknflfmohaaDoor

/- Layer 27 (cache): Peek. -/
namespace Go.Proofs.YtihfaknflfmohaaDoor
open Go.RowKit
set_option linter.unusedVariables false
set_option linter.unusedSimpArgs false
set_option maxRecDepth 4000
end Go.Proofs.YtihfaknflfmohaaDoor

/- Layer 27 (cache): the law CacheStays. -/
namespace Go.Proofs.YtihfaknflfmohaaDoor
open Go.RowKit
set_option linter.unusedVariables false
set_option linter.unusedSimpArgs false
set_option maxRecDepth 4000
theorem entAt_eq {es : List Ent} {i : Nat} (hi : i < es.length) : es[i] = entAt es i := by
  have := entAt_get hi
  rw [List.getElem?_eq_getElem hi] at this
  exact Option.some.inj this
theorem entsB_iff {es : List Ent} : entsB es = true ↔ (∀ e ∈ es, entB e = true) ∧ es.Pairwise (fun a b => sameA a b = false) := by
  unfold entsB
  rw [decide_eq_true_eq, List.pairwise_iff_getElem]
  constructor
  · intro h
    refine ⟨fun e he => ?_, fun i j hi hj hij => ?_⟩
    · obtain ⟨k, hk, rfl⟩ := mem_entAt he
      exact (h k hk).1
    · rw [entAt_eq hi, entAt_eq hj]
      exact (h j hj).2 i hij
  · rintro ⟨h1, h2⟩ j hj
    refine ⟨h1 _ (List.mem_of_getElem? (entAt_get hj)), fun k hk => ?_⟩
    have := h2 k j (by omega) hj hk
    rwa [entAt_eq (by omega), entAt_eq hj] at this
theorem entsB_filter {es : List Ent} (p : Ent → Bool) (h : entsB es = true) : entsB (es.filter p) = true := by
  rw [entsB_iff] at h ⊢
  exact ⟨fun e he => h.1 e (List.mem_filter.1 he).1, h.2.filter _⟩
theorem look_zero {x : Cac} {es : List Ent} {t : List Row} {v : Int} {l : List Int} (h : lookN x es t v l = 0) : cacB x es = true ∧ tabB t = true ∧ rightA v l = true := by
  unfold lookN at h
  cases hc : cacB x es with
  | false => rw [hc] at h; cases h
  | true =>
    rw [hc] at h
    cases ht : tabB t with
    | false => rw [ht] at h; cases h
    | true =>
      rw [ht] at h
      cases ha : rightA v l with
      | true => exact ⟨rfl, rfl, rfl⟩
      | false => rw [show errA v l = 150 from errA_false ha] at h; cases h
theorem cac_head {x : Cac} {es : List Ent} (h : cacB x es = true) : 1 ≤ x.room ∧ (x.n : Int) ≤ x.room ∧ x.ver ≤ 4611686018427387904 ∧ x.hits ≤ 4611686018427387904 ∧ x.misses ≤ 4611686018427387904 := by
  unfold cacB headB at h
  simp at h
  omega
theorem look_yok {x y : Cac} {es fs : List Ent} {t : List Row} {v : Int} {l : List Int} {ro : Row} {fo : Bool} (hx : x.ok) (h0 : lookN x es t v l = 0) (h : LookIs x es t v l y fs ro fo) : y.ok ∧ told es t v l ∈ fs ∧ y.ver = x.ver ∧ ro = (told es t v l).r ∧ fo = (told es t v l).f := by
  have hc := cac_head (look_zero h0).1
  unfold LookIs at h
  rw [if_pos h0] at h
  obtain ⟨q1, q2, q3, q4, q5, q6, q7⟩ := h
  have w1 := wfu hx.hits
  have w2 := wfu hx.misses
  refine ⟨⟨by rw [q1]; exact hx.room, by rw [q2]; exact hx.ver, ?_, ?_⟩, ?_, q2, q6, q7⟩
  · rw [q4]
    split
    · unfold oneMore; simp [Lit.wf, IntKind.min, IntKind.max, IntKind.bits, IntKind.signed]; omega
    · exact hx.hits
  · rw [q5]
    split
    · exact hx.misses
    · unfold oneMore; simp [Lit.wf, IntKind.min, IntKind.max, IntKind.bits, IntKind.signed]; omega
  · rw [q3]
    unfold lookL
    split
    · exact List.mem_cons_self
    · obtain ⟨R, hR⟩ : ∃ R, x.room.toNat = R + 1 := ⟨x.room.toNat - 1, by omega⟩
      rw [hR, List.take_succ_cons]
      exact List.mem_cons_self
theorem long_zero {t : List Row} {v : Int} {l : List Int} (ht : tabB t = true) (ha : rightA v l = true) : longE t v l = 0 ∧ longRE t v l = longR t v l ∧ longBE t v l = longB t v l := by
  have h1 : longE t v l = 0 := by unfold longE; rw [ht, errA_true ha]; rfl
  unfold longRE longBE
  rw [h1]
  exact ⟨rfl, rfl, rfl⟩
theorem row_self_nexec {r : Operand → Value} {o : Oper} {x y : Operand} {ty : TypeId} (ho : o.op = .binOp .neq 38 x y ty) (p : Row) (hx : r x = .agg (rowV p)) (hy : r y = .agg (rowV p)) (hp : p.ok) (w : World) : (execOp r o).run Tryd.prog w = .ok (.value (.bool false)) w := by
  rw [row_neq_exec ho p p hx hy hp hp w, (Row.eqB_iff p p).2 rfl]
  rfl
end Go.Proofs.YtihfaknflfmohaaDoor

/- Layer 27 (cache): Right. -/
namespace Go.Proofs.YtihfaknflfmohaaDoor
open Go.RowKit
set_option linter.unusedVariables false
set_option linter.unusedSimpArgs false
set_option maxRecDepth 4000
def seenE (t : List Row) (e : Ent) : Ent := ⟨e.v, e.l, longRE t e.v e.l, longBE t e.v e.l⟩
def rightE (t : List Row) (e : Ent) : Bool := e.eqB (seenE t e)
theorem longRE_okk {t : List Row} (h : Oks t) (v : Int) (l : List Int) : (longRE t v l).ok := by
  unfold longRE
  split
  · exact longR_okk h v l
  · exact rowZ_okk
set_option maxHeartbeats 2000000 in
theorem cright1_any (e : Ent) (A : Option Addr) (n c : Nat) (t : List Row) (g : Nat) (w : World) (hL : Laid w) (heo : e.ok) (hg : TabAt w g A n c) (ht : RT w A n c t) (ot : Oks t) (hn : n ≤ 100000) :
    Calls Tryd.prog 78 #[.agg (entV e), .pointer (some ⟨g, 0, none⟩)] w fun r w' => r = .returned (.bool (!rightE t e)) ∧ Below w.heap.size w w' := by
  have he := heo.fits
  have hblk1 := blk_new w (.cells (entV e) 43)
  have hbel1 : Below w.heap.size w (w.alloc (.cells (entV e) 43)) := below_alloc (Below.refl _ _) _
  have HP1 := Lib.hid (ent_at he hblk1)
  have HBK1 := Lib.hid hblk1
  have HBE := Lib.hid hbel1
  have HL := Lib.hid (hL.below HBE.out)
  obtain ⟨cs1, hcs1⟩ : ∃ cs, entV e = cs := ⟨_, rfl⟩
  simp only [hcs1] at HBE HL HP1 HBK1 ⊢
  have HC1 := Lib.hid hcs1
  clear hL hcs1 hblk1 hbel1
  have HG := Lib.hid (fun (w0 : World) (h : Below (w.alloc (.cells cs1 43)).heap.size (w.alloc (.cells cs1 43)) w0) => hg.all w0 (below_step HBE.out h))
  have HT := Lib.hid (ht.below HBE.out)
  have OT1 := Lib.hid ot
  have HEO := Lib.hid heo
  clear hg ht ot
  go_enter Tryd.func78, Tryd.ntmps78
  go_wp2_with (first | ((with_reducible show wpList _ _ _ (Oper.mk _ (Op.load _ _) _ _ _ _ :: _) _ _); refine wpList_load_g ((HG.out _ (Below.refl _ _)).1) _ rfl rfl (by go_simp) ?_) | ((with_reducible show wpList _ _ _ (Oper.mk _ (Op.load _ _) _ _ _ _ :: _) _ _); refine wpList_load_g ((HP1.out.all _ (Below.refl _ _)).adr) _ rfl rfl (by go_simp) ?_))
  refine (tlongest_any A n c t e.v e.l _ HL.out HT.out HEO.out.l hn).mono ?_
  rintro r w1 ⟨rfl, hb1⟩
  have HB1 := Lib.hid hb1
  have HRO := Lib.hid (longRE_okk OT1.out e.v e.l)
  obtain ⟨ro, hro⟩ : ∃ ro, longRE t e.v e.l = ro := ⟨_, rfl⟩
  obtain ⟨fo, hfo⟩ : ∃ fo, longBE t e.v e.l = fo := ⟨_, rfl⟩
  have HSE : Hid (rightE t e = e.eqB ⟨e.v, e.l, ro, fo⟩) := Lib.hid (by unfold rightE seenE; rw [hro, hfo])
  rw [hro] at HRO
  rw [hro, hfo]
  clear hb1 hro hfo
  have HB2f := Lib.hid (fun (W : World) (h : (w1.alloc (.cells (rowV rowZ) 38)).grownBy W (some w1.heap.size)) => below_step HB1.out (below_grown (below_alloc (Below.refl w1.heap.size w1) (.cells (rowV rowZ) 38)) h (Nat.le_refl _)))
  go_wp2_with (first | ((with_reducible show wpList _ _ _ (Oper.mk _ (Op.store _ _ _) _ _ _ _ :: _) _ _); refine wpList_store_blk (blk_new w1 _) 38 0 (rowV ro) (store_row_fit HRO.out.fits rfl) (info_row HRO.out.fits) (rowV_one _) _ _ rfl rfl rfl rfl ?_; intro w2 hg9 hs9 hb9; rw [splice_row HRO.out.fits rfl] at hb9; have H2 := Lib.hid (And.intro hg9 hb9); clear hg9 hs9 hb9) | ((with_reducible show wpList _ _ _ (Oper.mk _ (Op.load _ _) _ _ _ _ :: _) _ _); refine wpList_load_g ((HP1.out.all _ (HB2f.out _ H2.out.1)).ent) _ rfl rfl (by go_simp) ?_) | ((with_reducible show wpList _ _ _ (Oper.mk _ (Op.load _ _) _ _ _ _ :: _) _ _); refine wpList_load_g ((HP1.out.all _ (HB2f.out _ H2.out.1)).adr) _ rfl rfl (by go_simp) ?_) | ((with_reducible show wpList _ _ _ (Oper.mk _ (Op.load _ _) _ _ _ _ :: _) _ _); refine wpList_load_g (((row_at HRO.out.fits H2.out.2).all _ (Below.refl _ _)).row) _ rfl rfl (by go_simp) ?_) | ((with_reducible show wpList _ _ _ (Oper.mk _ (Op.build _ _) _ _ _ _ :: _) _ _); refine wpList_exw rfl (exec_build_ent (v := e.v) (l := e.l) (ro := ro) (f := fo) rfl rfl rfl rfl HEO.out.l.len HRO.out.fits.len _) ?_) | ((with_reducible show wpList _ _ _ (Oper.mk _ (Op.binOp _ _ _ _ _) _ _ _ _ :: _) _ _); refine wpList_exw rfl (ent_neq_exec rfl e ⟨e.v, e.l, ro, fo⟩ rfl rfl HEO.out ⟨HEO.out.l, HEO.out.v, HRO.out⟩ _) ?_))
  go_ret
  rw [HSE.out]
  exact ⟨rfl, below_step HBE.out (HB2f.out _ H2.out.1)⟩
set_option maxHeartbeats 1000000 in
theorem indexfR_any (A : Option Addr) (n c : Nat) (t : List Ent) (w : World) (g : Nat) (hr : RS entK w A n c t) (hn : n ≤ 1000000) (q : Ent → Bool)
    (hq : ∀ i, i < n → ∀ w1, Below w.heap.size w w1 → Calls Tryd.prog 78 #[entK.val (entK.at_ t i), .pointer (some ⟨g, 0, none⟩)] w1 fun e w2 => e = .returned (.bool (q (entK.at_ t i))) ∧ Below w1.heap.size w1 w2) :
    Calls Tryd.prog 101 #[.slice A n c, .func (Fn.func 78) #[] #[.pointer (some ⟨g, 0, none⟩)]] w fun e w' => e = .returned (.int .i64 (idxE q t)) ∧ Below w.heap.size w w' := by
  have HR := Lib.hid hr
  have HQ := Lib.hid hq
  clear hr hq
  go_enter Tryd.func101, Tryd.ntmps101
  go_wp2_with fail
  go_loopw [8] (fun x wr => ∃ i : Nat, x = .int .i64 i ∧ Hid (i ≤ n ∧ (∀ k, k < i → q (entK.at_ t k) = false) ∧ Below w.heap.size w wr)) (fun x _ => n - (intOf x).toNat)
  case atStart => exact ⟨0, rfl, Nat.zero_le _, fun k h => by omega, Below.refl _ _⟩
  case round =>
    obtain ⟨i, rfl, HH⟩ := hrel
    by_cases hlt : i < n
    · have hlt' : (i : Int) < n := by omega
      obtain ⟨b, o, rfl, hc⟩ := RS.at_ HR.out (by omega)
      have hld := Shape.ld entK wr b _ _ (RS.fits_at HR.out hlt) ((hc i hlt).below HH.out.2.2)
      have HIL := Lib.hid (show i < t.length by rw [HR.out.len]; exact hlt)
      clear hc
      go_wp2_with (first | ((with_reducible show wpList _ _ _ (Oper.mk _ (Op.load _ _) _ _ _ _ :: _) _ _); refine wpList_load_g hld _ rfl rfl (by go_simp) ?_))
      refine (HQ.out i hlt wr HH.out.2.2).mono ?_
      rintro e w2 ⟨rfl, hb2⟩
      have HB2 := Lib.hid (below_step HH.out.2.2 hb2)
      clear hb2 hld
      cases hqq : q (entK.at_ t i) with
      | true =>
        have HE : Hid (idxE q t = (i : Int)) := Lib.hid (idxE_at (S := entK) HIL.out hqq HH.out.2.1)
        clear hqq
        go_wp2
        go_ret
        rw [HE.out]
        exact ⟨rfl, HB2.out⟩
      | false =>
        have HN := Lib.hid hqq
        clear hqq
        go_wp2_with fail
        go_roundw
        case measure => simp [intOf]; omega
        case rel =>
          refine ⟨i + 1, by go_num, by omega, fun k hk => ?_, HB2.out⟩
          by_cases hki : k < i
          · exact HH.out.2.1 k hki
          · rw [show k = i by omega]; exact HN.out
    · have hlt' : decide (i < n) = false := decide_eq_false hlt
      have HE : Hid (idxE q t = -1) := Lib.hid (idxE_none (S := entK) (fun k hk => HH.out.2.1 k (by rw [HR.out.len] at hk; omega)))
      clear hlt
      go_wp2
      go_ret
      rw [HE.out]
      exact ⟨rfl, HH.out.2.2⟩
theorem containsR_any (A : Option Addr) (n c : Nat) (t : List Ent) (w : World) (g : Nat) (hr : RS entK w A n c t) (hn : n ≤ 1000000) (q : Ent → Bool)
    (hq : ∀ i, i < n → ∀ w1, Below w.heap.size w w1 → Calls Tryd.prog 78 #[entK.val (entK.at_ t i), .pointer (some ⟨g, 0, none⟩)] w1 fun e w2 => e = .returned (.bool (q (entK.at_ t i))) ∧ Below w1.heap.size w1 w2) :
    Calls Tryd.prog 77 #[.slice A n c, .func (Fn.func 78) #[] #[.pointer (some ⟨g, 0, none⟩)]] w fun e w' => e = .returned (.bool (t.any q)) ∧ Below w.heap.size w w' := by
  have HI := Lib.hid (indexfR_any A n c t w g hr hn q hq)
  clear hq hr
  go_enter Tryd.func77, Tryd.ntmps77
  go_wp2_with fail
  refine HI.out.mono ?_
  rintro e w1 ⟨rfl, hb1⟩
  have HB1 := Lib.hid hb1
  clear hb1
  go_wp2
  go_ret
  rw [idxE_any]
  exact ⟨rfl, HB1.out⟩
def askN (x : Cac) (es : List Ent) (t : List Row) : Int := if cacB x es then (if tabB t then 0 else 190) else 370
def rightsB (x : Cac) (es : List Ent) (t : List Row) : Bool := decide (askN x es t = 0) && !es.any fun e => !rightE t e
set_option maxHeartbeats 2000000 in
theorem cright_any (x : Cac) (es : List Ent) (A : Option Addr) (n c : Nat) (t : List Row) (w : World) (hL : Laid w) (he : RE w x.A x.n x.c es) (oe : Oke es) (hxn : x.n ≤ 100000) (ht : RT w A n c t) (ot : Oks t) (hn : n ≤ 100000) :
    Calls Tryd.prog 34 #[.agg x.vv, .agg (tabV A n c)] w fun r w' => r = .returned (.tuple #[.bool (rightsB x es t), .int .i64 (askN x es t)]) ∧ Below w.heap.size w w' := by
  have hblk1 := blk_new w (.cells (x.vv) 25)
  have hbel1 : Below w.heap.size w (w.alloc (.cells (x.vv) 25)) := below_alloc (Below.refl _ _) _
  have hblk2 := blk_new (w.alloc (.cells (x.vv) 25)) (.cells (tabV A n c) 28)
  have hbel2 : Below w.heap.size w ((w.alloc (.cells (x.vv) 25)).alloc (.cells (tabV A n c) 28)) := below_alloc (hbel1) _
  rw [show (w.alloc (.cells (x.vv) 25)).heap.size = w.heap.size + 1 by simp] at hblk2
  replace hblk1 := blk_below hblk1 (below_alloc (Below.refl _ _) (.cells (tabV A n c) 28))
  have HP1 := Lib.hid (cac_at hblk1)
  have HBK1 := Lib.hid hblk1
  have HP2 := Lib.hid (tab_at hblk2)
  have HBK2 := Lib.hid hblk2
  have HBE := Lib.hid hbel2
  have HL := Lib.hid (hL.below HBE.out)
  obtain ⟨cs1, hcs1⟩ : ∃ cs, x.vv = cs := ⟨_, rfl⟩
  obtain ⟨cs2, hcs2⟩ : ∃ cs, tabV A n c = cs := ⟨_, rfl⟩
  simp only [hcs1, hcs2] at HBE HL HP1 HP2 HBK1 HBK2 ⊢
  have HC1 := Lib.hid hcs1
  have HC2 := Lib.hid hcs2
  clear hL hcs1 hblk1 hbel1 hcs2 hblk2 hbel2
  have HE := Lib.hid (he.below HBE.out)
  have HT := Lib.hid (ht.below HBE.out)
  have OE := Lib.hid oe
  have OT1 := Lib.hid ot
  clear he ht oe ot
  obtain ⟨W0, hW0⟩ : ∃ W0, W0 = ((w.alloc (.cells cs1 25)).alloc (.cells cs2 28)) := ⟨_, rfl⟩
  have HLT : Hid (RS tbK (W0.alloc (.cells (tbK.enc ⟨A, n, c, t⟩).toArray tbK.t)) (some ⟨W0.heap.size, 0, none⟩) 1 1 [⟨A, n, c, t⟩]) := Lib.hid (OS.one tbK W0 0 ⟨A, n, c, t⟩ (Nat.zero_le _) trivial).reads
  have hs0 : W0.heap.size = w.heap.size + 1 + 1 := by rw [hW0]; simp
  rw [hs0] at HLT
  have HBW := Lib.hid (below_alloc (Below.refl W0.heap.size W0) (.cells (tbK.enc ⟨A, n, c, t⟩).toArray tbK.t))
  clear hs0
  subst hW0
  go_enter Tryd.func34, Tryd.ntmps34
  go_wp2_with (first | ((with_reducible show wpList _ _ _ (Oper.mk _ (Op.load _ _) _ _ _ _ :: _) _ _); refine wpList_load_g ((HP1.out.all _ (Below.refl _ _)).cac) _ rfl rfl (by go_simp) ?_) | ((with_reducible show wpList _ _ _ (Oper.mk _ (Op.load _ _) _ _ _ _ :: _) _ _); refine wpList_load_g ((HP2.out.all _ (Below.refl _ _)).1) _ rfl rfl (by go_simp) ?_) | ((with_reducible show wpList _ _ _ (Oper.mk _ (Op.buildSlice _ _ _) _ _ _ _ :: _) _ _); refine wpList_exw rfl (exec_lit1 tbK (x := .tmp 8) rfl ⟨A, n, c, t⟩ rfl trivial (by show 1 ≤ _; omega) _) ?_))
  have hcall := casked_any x es _ 1 1 [⟨A, n, c, t⟩] _ (HL.out.below HBW.out) (HE.out.below HBW.out) OE.out hxn HLT.out (by omega) (fun y hy => by
    rw [List.mem_singleton] at hy
    subst hy
    exact ⟨HT.out.below HBW.out, hn⟩)
  refine hcall.mono ?_
  clear hcall
  rintro e w1 ⟨rfl, hb1⟩
  rw [askE_one, show (if cacB x es = true then if tabB (Tb.mk A n c t).t = true then 0 else 190 else 370 : Int) = askN x es t from rfl]
  have HB1 := Lib.hid (below_step HBW.out hb1)
  clear hb1 HLT HBW
  by_cases h0 : askN x es t = 0
  · have HR : Hid (rightsB x es t = !es.any fun e => !rightE t e) := Lib.hid (by unfold rightsB; rw [decide_eq_true h0]; rfl)
    have H0 := Lib.hid h0
    rw [h0]
    clear h0
    go_wp2_with (first | ((with_reducible show wpList _ _ _ (Oper.mk _ (Op.load _ _) _ _ _ _ :: _) _ _); refine wpList_load_g ((HP1.out.all _ HB1.out).ents) _ rfl rfl (by go_simp) ?_))
    refine (containsR_any x.A x.n x.c es w1 (w.heap.size + 1) (HE.out.below HB1.out) (by omega) (fun e => !rightE t e) (fun i hi w2 hb2 => cright1_any (entAt es i) A n c t (w.heap.size + 1) w2 (HL.out.below (below_step HB1.out hb2)) (OE.out.at_ (by rw [HE.out.len]; exact hi)) ⟨fun w0 h0 => HP2.out.all w0 (below_step HB1.out (below_step hb2 h0))⟩ (HT.out.below (below_step HB1.out hb2)) OT1.out hn)).mono ?_
    rintro r w2 ⟨rfl, hb2⟩
    have HB2 := Lib.hid (below_step HBE.out (below_step HB1.out hb2))
    clear hb2
    go_wp2
    refine bodyPost_ret (results_tmp2 rfl _ _ _) rfl ?_
    rw [HR.out, H0.out]
    exact ⟨rfl, HB2.out⟩
  · have HR : Hid (rightsB x es t = false) := Lib.hid (by unfold rightsB; rw [decide_eq_false h0]; rfl)
    obtain ⟨N, hN⟩ : ∃ N, askN x es t = N := ⟨_, rfl⟩
    have H0 := Lib.hid hN
    rw [hN] at h0 ⊢
    have h0b : (N == 0) = false := by simpa using h0
    clear h0
    go_wp2
    refine bodyPost_ret (results_tmp2 rfl _ _ _) rfl ?_
    rw [HR.out, H0.out]
    exact ⟨rfl, below_step HBE.out HB1.out⟩
end Go.Proofs.YtihfaknflfmohaaDoor

/- Addresses as elements of a slice (17 cells); what was looked up lately. -/
namespace Go.Proofs.YtihfaknflfmohaaDoor
open Go.RowKit
set_option linter.unusedVariables false
set_option linter.unusedSimpArgs false
set_option maxRecDepth 4000
structure Ad where
  v : Int
  l : List Int
deriving DecidableEq
structure Ad.ok (a : Ad) : Prop where
  l : B16 a.l
  v : (Lit.int .i64 a.v).wf = true
def adrC (a : Ad) : List Value := .int .i64 a.v :: nums .u8 a.l
def adZ : Ad := ⟨0, zero16⟩
theorem zero_adr : (Tryd.prog.info? 31).map (fun i => (i.zero, i.size, i.bytes)) = some (some (.agg (adrV 0 zero16)), 17, 24) := by kernel_rfl
def adrK : Shape Ad where
  t := 31
  ts := 48
  sz := 17
  bytes := 24
  z := adZ
  ok := fun a => B16 a.l
  enc := adrC
  val := fun a => .agg (adrV a.v a.l)
  len := fun _ h => by simp [adrC, nums, h.len]
  one := fun a u hu => by
    simp only [adrC, List.mem_cons] at hu
    rcases hu with rfl | hu
    · rfl
    · exact nums_one _ _ u hu
  okz := zero16_B
  pos := by omega
  bpos := by omega
  blt := by omega
  und := Tryd.underlying48
  info := zero_adr
  venc := fun _ => rfl
  ld := fun _ _ _ a ha h => load_cells (cs := adrV a.v a.l) h Tryd.underlying31 rfl (info_adr ha.len)
def Ent.a (e : Ent) : Ad := ⟨e.v, e.l⟩
theorem others_ge {es : List Ent} (hE : entsB es = true) (v : Int) (l : List Int) : es.length ≤ (others es v l).length + 1 := by
  rcases hit_cases es v l with hm | ⟨j, hj, hm⟩
  · rw [others_all]
    · omega
    · intro x hx
      obtain ⟨k, hk, hxe⟩ := mem_entAt hx
      rw [← hxe]
      exact miss_spec hm k hk
  · rw [others_hit hE hm, List.length_append, List.length_take, List.length_drop]
    omega
end Go.Proofs.YtihfaknflfmohaaDoor

/- Layer 27 (cache): the plain law of CacheTrue. -/
namespace Go.Proofs.YtihfaknflfmohaaDoor
open Go.RowKit
set_option linter.unusedVariables false
set_option linter.unusedSimpArgs false
set_option maxRecDepth 4000
theorem foldl_skip {v : Int} {l : List Int} : ∀ (t : List Row) (b : Option Row), t.foldl (bestStep v l) b = (t.filter fun r => r.p.has v l).foldl (bestStep v l) b
  | [], _ => rfl
  | r :: t, b => by
    cases h : r.p.has v l with
    | true => rw [List.filter_cons_of_pos (by rw [h]), List.foldl_cons, List.foldl_cons, foldl_skip t]
    | false =>
      rw [List.filter_cons_of_neg (by rw [h]; decide), List.foldl_cons]
      have : bestStep v l b r = b := by unfold bestStep; rw [h]; rfl
      rw [this, foldl_skip t]
theorem longest_filter (t : List Row) (v : Int) (l : List Int) : longest t v l = longest (t.filter fun r => r.p.has v l) v l := by
  unfold longest
  exact foldl_skip t none
theorem rising_filter (p : Row → Bool) : ∀ {t : List Row}, Fits t → rising t = true → rising (t.filter p) = true
  | [], _, h => h
  | a :: t, hf, h => by
    have ht := rising_cons h
    cases hp : p a with
    | true =>
      rw [List.filter_cons_of_pos hp]
      exact rising_of_head (fun r hr => rising_head h r (List.mem_filter.1 hr).1) (rising_filter p hf.tail ht)
    | false =>
      rw [List.filter_cons_of_neg (by rw [hp]; decide)]
      exact rising_filter p hf.tail ht
theorem mem_other {t u : List Row} (ht : Tab t) (hu : Tab u) {r : Row} (hr : r ∈ t) (hn : r.p ∉ mrg t u) : r ∈ u := by
  have hb := ht.fits r hr
  have h1 := (mrg_spec t u ht hu).2.2 r.p hb
  have h2 : getT t r.p = getT u r.p := by
    by_cases h : getT t r.p = getT u r.p
    · exact h
    · exact absurd (h1.2 h) hn
  have h3 : getT t r.p = r.h := getT_of hb ht.fits ht.up hr
  have h4 := ht.hop r hr
  cases hth : thereB u r.p with
  | false => rw [h2, getT_no hth] at h3; omega
  | true =>
    have := getT_mem hb hu.fits hth
    rw [← h2, h3] at this
    exact this
theorem mrg_comm_mem {t u : List Row} (ht : Tab t) (hu : Tab u) {p : Pfx} (hp : B16 p.l) : p ∈ mrg t u ↔ p ∈ mrg u t := by
  rw [(mrg_spec t u ht hu).2.2 p hp, (mrg_spec u t hu ht).2.2 p hp]
  exact ne_comm
theorem longest_stays {t u : List Row} (ht : Tab t) (hu : Tab u) {v : Int} {l : List Int} (hn : ∀ p ∈ mrg t u, p.has v l = false) : longest t v l = longest u v l := by
  rw [longest_filter t, longest_filter u]
  congr 1
  refine rising_ext (rising_filter _ ht.fits ht.up) (rising_filter _ hu.fits hu.up) (fun r => ?_)
  rw [List.mem_filter, List.mem_filter]
  constructor
  · rintro ⟨h1, h2⟩
    refine ⟨mem_other ht hu h1 (fun hm => ?_), h2⟩
    rw [hn _ hm] at h2
    cases h2
  · rintro ⟨h1, h2⟩
    refine ⟨mem_other hu ht h1 (fun hm => ?_), h2⟩
    rw [hn _ ((mrg_comm_mem ht hu (hu.fits r h1)).2 hm)] at h2
    cases h2
/-- The law's cache along with its table. -/
structure TrueS (x : Cac) (es : List Ent) (t : List Row) (looks : Int) : Prop where
  ok : cacB x es = true
  tab : tabB t = true
  tr : ∀ e ∈ es, rightE t e = true
  sum : x.hits + x.misses = looks
  h0 : 0 ≤ x.hits
  m0 : 0 ≤ x.misses
theorem told_true {x : Cac} {es : List Ent} {t : List Row} {looks v : Int} {l : List Int} (h : TrueS x es t looks) (ha : rightA v l = true) : told es t v l = ⟨v, l, longR t v l, longB t v l⟩ := by
  unfold told
  split
  · rename_i hh
    rcases hit_cases es v l with hm | ⟨j, hj, hm⟩
    · omega
    · rw [show (hitN es v l).toNat = j by omega]
      have h1 := h.tr _ (List.mem_of_getElem? (entAt_get hj))
      unfold rightE at h1
      rw [Ent.eqB_iff] at h1
      obtain ⟨h2, h3⟩ := sA_true.1 (hit_spec hm).2.1
      obtain ⟨_, k1, k2⟩ := long_zero h.tab ha
      rw [h1]
      unfold seenE
      rw [h2, h3, k1, k2]
  · rfl
theorem right_told {t : List Row} {v : Int} {l : List Int} (ht : tabB t = true) (ha : rightA v l = true) : rightE t ⟨v, l, longR t v l, longB t v l⟩ = true := by
  obtain ⟨_, k1, k2⟩ := long_zero ht ha
  unfold rightE
  rw [Ent.eqB_iff]
  unfold seenE
  rw [k1, k2]
theorem entB_told {t : List Row} {v : Int} {l : List Int} (ht : tabB t = true) (ha : rightA v l = true) : entB ⟨v, l, longR t v l, longB t v l⟩ = true := by
  unfold entB
  simp only [ha, Bool.true_and]
  unfold longR longB
  rcases longest_spec v l t with ⟨h1, _⟩ | ⟨i, r, h1, h2⟩
  · rw [h1]
    exact (Row.eqB_iff _ _).2 rfl
  · rw [h1]
    have hr := (tabB_to ht).2.1 r (List.mem_of_getElem? h2.at_)
    have hk := ((okB_iff r).1 hr).2
    simp only [Option.isSome_some, Option.getD_some, if_true, h2.has, Bool.true_and, Bool.and_eq_true, decide_eq_true_eq]
    omega
theorem others_mem {es : List Ent} {v : Int} {l : List Int} {e : Ent} (h : e ∈ others es v l) : e ∈ es ∧ sA e.v e.l v l = false := by
  unfold others at h
  obtain ⟨h1, h2⟩ := List.mem_filter.1 h
  exact ⟨h1, by simpa using h2⟩
/-- A lookup keeps the cache right, tells what the table tells, and grows it by one at the most. -/
theorem true_look {x y : Cac} {es fs : List Ent} {t : List Row} {looks v : Int} {l : List Int} {ro : Row} {fo : Bool} (h : TrueS x es t looks) (hx : x.ok) (h60 : looks ≤ 60) (hn : x.n = es.length) (hyn : y.n = fs.length) (h0 : lookN x es t v l = 0) (hi : LookIs x es t v l y fs ro fo) :
    TrueS y fs t (looks + 1) ∧ ro = longR t v l ∧ fo = longB t v l ∧ x.n ≤ y.n ∧ y.n ≤ x.n + 1 ∧ 0 < y.n ∧ (entAt fs 0).v = v ∧ (entAt fs 0).l = l ∧ y.ver = x.ver ∧ y.room = x.room := by
  obtain ⟨_, ht, ha⟩ := look_zero h0
  have hch := cac_head h.ok
  have hEB : entsB es = true := by
    have := h.ok
    unfold cacB at this
    rw [Bool.and_eq_true] at this
    exact this.2
  have htold := told_true h ha
  obtain ⟨hyo, _, _, k6, k7⟩ := look_yok hx h0 hi
  unfold LookIs at hi
  rw [if_pos h0] at hi
  obtain ⟨q1, q2, q3, q4, q5, _, _⟩ := hi
  have hfs : fs = (told es t v l :: others es v l).take x.room.toNat := by rw [q3, look_ref hEB (by omega)]
  obtain ⟨R, hR⟩ : ∃ R, x.room.toNat = R + 1 := ⟨x.room.toNat - 1, by omega⟩
  have hfs2 : fs = told es t v l :: (others es v l).take R := by rw [hfs, hR, List.take_succ_cons]
  have hge := others_ge hEB v l
  have hle := others_len es v l
  have hlen : fs.length = 1 + min R (others es v l).length := by rw [hfs2, List.length_cons, List.length_take]; omega
  have hent0 : entAt fs 0 = told es t v l := by
    have := entAt_get (es := fs) (i := 0) (by omega)
    rw [hfs2] at this ⊢
    exact (Option.some.inj this).symm
  have w1 := wfu hyo.hits
  have w2 := wfu hyo.misses
  have hsum : y.hits + y.misses = x.hits + x.misses + 1 := by
    have h1 := h.sum
    have h2 := h.h0
    have h3 := h.m0
    rw [q4, q5]
    unfold oneMore
    split <;> omega
  have hes := (entsB_iff.1 hEB)
  refine ⟨⟨?_, ht, fun e he => ?_, by rw [hsum, h.sum], w1.1, w2.1⟩, by rw [k6, htold], by rw [k7, htold], by omega, by omega, by omega, by rw [hent0, htold], by rw [hent0, htold], q2, q1⟩
  · unfold cacB
    rw [Bool.and_eq_true]
    constructor
    · have hh2 : x.room ≤ 16 := by
        have hh := h.ok
        unfold cacB headB at hh
        simp at hh
        omega
      have hb : y.hits ≤ 4611686018427387904 ∧ y.misses ≤ 4611686018427387904 := by
        rw [q4, q5]
        unfold oneMore
        have := h.h0; have := h.m0
        constructor <;> split <;> omega
      have hb1 := hb.1
      have hb2 := hb.2
      have hyr : (y.n : Int) ≤ y.room := by rw [q1]; omega
      have hyv : y.ver ≤ 4611686018427387904 := by rw [q2]; omega
      have hyr1 : 1 ≤ y.room ∧ y.room ≤ 16 := by rw [q1]; omega
      clear q4 q5
      unfold headB
      simp
      omega
    · rw [entsB_iff, hfs2]
      constructor
      · intro e he
        rcases List.mem_cons.1 he with rfl | he
        · rw [htold]; exact entB_told ht ha
        · exact hes.1 e (others_mem (List.mem_of_mem_take he)).1
      · rw [List.pairwise_cons]
        refine ⟨fun e he => ?_, (hes.2.filter _).sublist (List.take_sublist _ _)⟩
        have := (others_mem (List.mem_of_mem_take he)).2
        unfold sameA
        rw [htold]
        cases hs : sA v l e.v e.l with
        | false => rfl
        | true =>
          obtain ⟨h1, h2⟩ := sA_true.1 hs
          rw [sA_true.2 ⟨h1.symm, h2.symm⟩] at this
          cases this
  · rw [hfs2] at he
    rcases List.mem_cons.1 he with rfl | he
    · rw [htold]; exact right_told ht ha
    · exact h.tr e (others_mem (List.mem_of_mem_take he)).1
/-- A move along with the table keeps the cache right. -/
theorem true_move {x y : Cac} {es fs : List Ent} {t u : List Row} {looks k : Int} (h : TrueS x es t looks) (hn : x.n = es.length) (hyn : y.n = fs.length) (hft : Fits t) (hfu : Fits u) (hu : tabB u = true) (hv : x.ver + 1 ≤ 4611686018427387904) (hi : MoveIs x es t u (x.ver + 1) y fs k) :
    moveN x es t u (x.ver + 1) = 0 ∧ TrueS y fs u looks ∧ y.ver = x.ver + 1 ∧ y.room = x.room ∧ fs.length ≤ es.length := by
  have h0 : moveN x es t u (x.ver + 1) = 0 := by
    unfold moveN
    rw [h.ok, h.tab, hu, if_pos rfl, show (true && true) = true from rfl, if_pos rfl, if_neg (by omega)]
  unfold MoveIs at hi
  rw [if_pos h0] at hi
  obtain ⟨q1, q2, q3, q4, q5, _⟩ := hi
  have hE : headB x = true ∧ entsB es = true := by
    have := h.ok
    unfold cacB at this
    rwa [Bool.and_eq_true] at this
  have hle : fs.length ≤ es.length := by rw [q3]; exact List.length_filter_le _ _
  have hT := Tab.of hft h.tab
  have hU := Tab.of hfu hu
  refine ⟨h0, ⟨?_, hu, fun e he => ?_, by rw [q4, q5]; exact h.sum, by rw [q4]; exact h.h0, by rw [q5]; exact h.m0⟩, q2, q1, hle⟩
  · unfold cacB
    rw [Bool.and_eq_true]
    refine ⟨?_, by rw [q3]; exact entsB_filter _ hE.2⟩
    have hh := hE.1
    unfold headB at hh ⊢
    rw [q1, q2, q4, q5, hyn]
    rw [hn] at hh
    simp at hh ⊢
    omega
  · rw [q3] at he
    obtain ⟨he1, he2⟩ := List.mem_filter.1 he
    have hr := h.tr e he1
    unfold rightE at hr ⊢
    rw [Ent.eqB_iff] at hr ⊢
    have hg : goesB x.ver (x.ver + 1) (mrg t u) e = false := by simpa using he2
    unfold goesB at hg
    rw [Bool.or_eq_false_iff, List.any_eq_false] at hg
    have hls := longest_stays hT hU (v := e.v) (l := e.l) (fun p hp => by
      have := hg.2 p hp
      simpa using this)
    have h1 : longR t e.v e.l = longR u e.v e.l := by unfold longR; rw [hls]
    have h2 : longB t e.v e.l = longB u e.v e.l := by unfold longB; rw [hls]
    have hEt : longE t e.v e.l = longE u e.v e.l := by unfold longE; rw [h.tab, hu]
    have e1 : seenE u e = seenE t e := by
      unfold seenE longRE longBE
      rw [hEt, h1, h2]
    rw [e1]
    exact hr
theorem true_right {x : Cac} {es : List Ent} {t : List Row} {looks : Int} (h : TrueS x es t looks) : askN x es t = 0 ∧ rightsB x es t = true := by
  have h0 : askN x es t = 0 := by unfold askN; rw [h.ok, h.tab, if_pos rfl, if_pos rfl]
  refine ⟨h0, ?_⟩
  unfold rightsB
  rw [decide_eq_true h0, Bool.true_and]
  have : (es.any fun e => !rightE t e) = false := by
    rw [List.any_eq_false]
    intro e he
    rw [h.tr e he]
    decide
  rw [this]
  rfl
end Go.Proofs.YtihfaknflfmohaaDoor

/- Layer 27 (cache): deeds as elements of a slice (37 cells). -/
namespace Go.Proofs.YtihfaknflfmohaaDoor
open Go.RowKit
set_option linter.unusedVariables false
set_option linter.unusedSimpArgs false
set_option maxRecDepth 4000
structure Deed where
  k : Int
  v : Int
  l : List Int
  p : Pfx
  h : Int
structure Deed.fits (d : Deed) : Prop where
  l : B16 d.l
  p : B16 d.p.l
structure Deed.ok (d : Deed) : Prop where
  k : (Lit.int .i64 d.k).wf = true
  l : B16 d.l
  v : (Lit.int .i64 d.v).wf = true
  p : d.p.ok
  h : (Lit.int .i64 d.h).wf = true
theorem Deed.ok.fits {d : Deed} (h : d.ok) : d.fits := ⟨h.l, h.p.l⟩
def deedC (d : Deed) : List Value := [.int .i64 d.k] ++ ((.int .i64 d.v :: nums .u8 d.l) ++ (pfxC d.p ++ [.int .i64 d.h]))
def deedV (d : Deed) : Array Value := (deedC d).toArray
theorem deedC_len {d : Deed} (h : d.fits) : (deedC d).length = 37 := by
  have h1 : (nums .u8 d.l).length = 16 := by rw [nums_length]; exact h.l.len
  have h2 := pfxC_len h.p
  simp [deedC, h1, h2]
theorem deedV_size {d : Deed} (h : d.fits) : (deedV d).size = 37 := by simp [deedV, deedC_len h]
theorem deedC_one (d : Deed) : ∀ u ∈ deedC d, u.oneCell' = true := by
  intro u hu
  simp only [deedC, List.mem_cons, List.mem_append, List.not_mem_nil, or_false] at hu
  rcases hu with rfl | (rfl | hu) | (hu | rfl)
  · rfl
  · rfl
  · exact nums_one _ _ u hu
  · exact pfxC_one _ u hu
  · rfl
def deedZ : Deed := ⟨0, 0, zero16, ⟨0, zero16, 0⟩, 0⟩
theorem deedZ_fits : deedZ.fits := ⟨zero16_B, zero16_B⟩
theorem zero_deed : (Tryd.prog.info? 100).map (fun i => (i.zero, i.size, i.bytes)) = some (some (.agg (deedV deedZ)), 37, 72) := by kernel_rfl
theorem info_deed {d : Deed} (h : d.fits) : (Tryd.prog.info? 100).map (·.size) = some (deedV d).size := by rw [deedV_size h]; kernel_rfl
def deedK : Shape Deed where
  t := 100
  ts := 98
  sz := 37
  bytes := 72
  z := deedZ
  ok := Deed.fits
  enc := deedC
  val := fun d => .agg (deedV d)
  len := fun _ h => deedC_len h
  one := deedC_one
  okz := deedZ_fits
  pos := by omega
  bpos := by omega
  blt := by omega
  und := Tryd.underlying98
  info := zero_deed
  venc := fun _ => rfl
  ld := fun _ _ _ d hd h => load_cells (cs := deedV d) h Tryd.underlying100 rfl (info_deed hd)
structure DeedLd (w : World) (g : Nat) (d : Deed) : Prop where
  kind : (Instr.loadAt 3 (.pointer (some ⟨g, 0, none⟩))).run Tryd.prog w = .ok (.int .i64 d.k) w
  adr : (Instr.loadAt 31 (.pointer (some ⟨g, 1, none⟩))).run Tryd.prog w = .ok (.agg (adrV d.v d.l)) w
  pfx : (Instr.loadAt 36 (.pointer (some ⟨g, 18, none⟩))).run Tryd.prog w = .ok (.agg (pfxV d.p.v d.p.l d.p.b)) w
  hop : (Instr.loadAt 3 (.pointer (some ⟨g, 36, none⟩))).run Tryd.prog w = .ok (.int .i64 d.h) w
theorem deed_ld {w : World} {g : Nat} {d : Deed} (hd : d.fits) (h : w.heap[g]? = some (.cells (deedV d) 100 (0, 0))) : DeedLd w g d := by
  have h0 : CellsAt w g 0 (deedC d) := cells_blk h
  have hn : (nums .u8 d.l).length = 16 := by rw [nums_length]; exact hd.l.len
  have hp := pfxC_len hd.p
  have h1 : CellsAt w g 1 ((.int .i64 d.v :: nums .u8 d.l) ++ (pfxC d.p ++ [.int .i64 d.h])) := CellsAt.right (xs := [.int .i64 d.k]) (o := 0) h0
  have h2 : CellsAt w g 1 (adrV d.v d.l).toList := CellsAt.left h1
  have h3 : CellsAt w g 18 (pfxC d.p ++ [.int .i64 d.h]) := by
    have := CellsAt.right h1
    rwa [List.length_cons, hn] at this
  have h4 : CellsAt w g 18 (pfxV d.p.v d.p.l d.p.b).toList := CellsAt.left h3
  have h5 : CellsAt w g 36 [.int .i64 d.h] := by
    have := CellsAt.right h3
    rwa [hp] at this
  exact ⟨load_int (h0 0 _ rfl), load_cells h2 Tryd.underlying31 rfl (info_adr hd.l.len), load_cells h4 Tryd.underlying36 rfl (info_pfx hd.p.len), load_int (h5 0 _ rfl)⟩
theorem deedV_one (d : Deed) : (deedV d).all (·.oneCell') = true := by
  rw [← Array.all_toList, List.all_eq_true]
  exact fun u hu => deedC_one d u (by simpa [deedV] using hu)
theorem store_deed_fit {cs : Array Value} {d : Deed} (hf : d.fits) (h : cs.size = 37) : 0 + (deedV d).size ≤ cs.size := by rw [deedV_size hf, h]; omega
theorem splice_deed {cs : Array Value} {d : Deed} (hf : d.fits) (h : cs.size = 37) : splice cs 0 (deedV d).toList = deedV d := splice_all _ _ (by rw [Array.length_toList, deedV_size hf, h])
theorem set_ok27 {t : List Row} {p : Pfx} {h : Int} (hf : Fits t) (hp : B16 p.l) (h0 : setE t p h = 0) : tabB (setL t p h) = true := by
  have hl : setL t p h = setT t p h := by unfold setL; rw [if_pos h0]
  rw [hl]
  unfold setE at h0
  split at h0
  · rename_i ht
    split at h0
    · rename_i hc
      split at h0
      · cases h0
      · rename_i hn
        refine tabB_setT hp hf ht hc.1 hc.2.1 hc.2.2 ?_
        cases hth : thereB t p with
        | true => exact .inl rfl
        | false => exact .inr (fun h40 => hn ⟨hth, h40⟩)
    · cases h0
  · cases h0
theorem drop_ok27 {t : List Row} {p : Pfx} (h0 : dropE t p = 0) : tabB (dropL t p) = true := by
  have hl : dropL t p = dropT t p := by unfold dropL; rw [if_pos h0]
  rw [hl]
  unfold dropE at h0
  split at h0
  · rename_i ht
    exact tabB_dropT ht
  · cases h0
theorem drop_oks {t : List Row} {p : Pfx} (h : Oks t) : Oks (dropL t p) := by
  unfold dropL
  split
  · exact fun r hr => h r (mem_dropT_of hr)
  · exact fun r hr => (by cases hr)
theorem oks_set27 {t : List Row} {p : Pfx} {h : Int} (ot : Oks t) (hpo : p.ok) (hf : Fits t) : Oks (setL t p h) := by
  unfold setL
  split
  · rename_i he
    have hh : tabB t = true ∧ 1 ≤ h ∧ h ≤ 255 := by
      unfold setE at he
      cases hb : tabB t with
      | false => rw [hb] at he; simp at he
      | true =>
        rw [hb, if_pos rfl] at he
        split at he
        · rename_i hx
          exact ⟨rfl, hx.2⟩
        · cases he
    intro x hx
    rcases (mem_setT hpo.l hf (tabB_to hh.1).2.2).1 hx with rfl | ⟨hx, _⟩
    · refine ⟨hpo, ?_⟩
      simp [Lit.wf, IntKind.min, IntKind.max, IntKind.bits, IntKind.signed]
      omega
    · exact ot x hx
  · intro x hx
    cases hx
end Go.Proofs.YtihfaknflfmohaaDoor
