/- Layer 27 (cache): the law's ten, copied, over. -/
import Derived.LoopIn
import Derived.LoopNIn
import Derived.OwnWalkIn
import Derived.RangeFuncBound
import Derived.RangeFuncCalls
import Derived.RangeFuncFrom
import Derived.RangeFuncLeaves
import Derived.RangeFuncNested
import Derived.Shelf.Abstract
import Derived.Shelf.RegionOpen
import Derived.TacticsInMore
import Derived.WalkKit
import Derived.Test.YtihfaknflfmohaaDoorCacheTellsA
import Derived.Test.YtihfaknflfmohaaDoorCacheTellsB
import Derived.Test.YtihfaknflfmohaaDoorCacheTellsC
namespace Go.Proofs.YtihfaknflfmohaaDoor
open Go.RowKit
set_option linter.unusedVariables false
set_option linter.unusedSimpArgs false
set_option maxRecDepth 4000
def tenT : List Row := [⟨⟨4, ten8, 8⟩, 1⟩]
set_option maxHeartbeats 1000000 in
theorem ten27_any (w : World) : Calls Tryd.prog 55 #[] w fun e w' => ∃ A c, e = .returned (.agg (tabV A 1 c)) ∧ RT w' A 1 c tenT ∧ Below w.heap.size w w' := by
  have hz := blk_new w (.cells (tabV none 0 0) 28)
  have hf : (⟨⟨4, ten8, 8⟩, 1⟩ : Row).fits := ten8_B
  have hob := OS.one rowK (w.alloc (.cells (tabV none 0 0) 28)) (w.heap.size + 1) ⟨⟨4, ten8, 8⟩, 1⟩ (by simp) hf
  rw [show (w.alloc (.cells (tabV none 0 0) 28)).heap.size = w.heap.size + 1 by simp] at hob
  have hz2 := blk_below hz (below_alloc (Below.refl _ _) (.cells (rowK.enc ⟨⟨4, ten8, 8⟩, 1⟩).toArray rowK.t))
  go_enter Tryd.func55, Tryd.ntmps55
  go_wp2_with (first | ((with_reducible show wpList _ _ _ (Oper.mk _ (Op.buildSlice _ _ _) _ _ _ _ :: _) _ _); refine wpList_exw rfl (exec_lit1 rowK (x := .tmp 4) rfl ⟨⟨4, ten8, 8⟩, 1⟩ rfl hf (by show 19 ≤ _; omega) _) ?_) | ((with_reducible show wpList _ _ _ (Oper.mk _ (Op.store _ _ _) _ _ _ _ :: _) _ _); refine wpList_store_blk hz2 28 0 (tabV (some ⟨w.heap.size + 1, 0, none⟩) 1 1) (Nat.le_refl _) (info_tab _ _ _) (tab_one _ _ _) _ _ rfl rfl rfl rfl ?_; intro w9 hg9 hs9 hb9; rw [splice_tab] at hb9; have H9 := Lib.hid (And.intro hg9 hb9); clear hg9 hs9 hb9))
  refine bodyPost_ret (results_c1 rfl rfl (load_tab H9.out.2)) rfl ?_
  exact ⟨_, _, rfl, hob.reads.grown H9.out.1 (fun ad e h => by injection e with e; injection h with h; rw [← e] at h; have h : w.heap.size + 1 = w.heap.size := h; omega), below_grown (below_alloc (below_alloc (Below.refl _ _) _) _) H9.out.1 (Nat.le_refl _)⟩
theorem copiedC_any (x : Cac) (es : List Ent) (w : World) (he : RE w x.A x.n x.c es) (hn : x.n ≤ 1000000) : Calls Tryd.prog 17 #[.agg x.vv] w fun e w' => ∃ A' c', e = .returned (.agg (Cac.vv ⟨x.room, x.ver, A', x.n, c', x.hits, x.misses⟩)) ∧ OS entK w' w.heap.size A' x.n c' es ∧ Below w.heap.size w w' := by
  have hblk1 := blk_new w (.cells (x.vv) 25)
  have hbel1 : Below w.heap.size w (w.alloc (.cells (x.vv) 25)) := below_alloc (Below.refl _ _) _
  have HP1 := Lib.hid (cac_at hblk1)
  have HBK1 := Lib.hid hblk1
  have HBE := Lib.hid hbel1
  obtain ⟨cs1, hcs1⟩ : ∃ cs, x.vv = cs := ⟨_, rfl⟩
  simp only [hcs1] at HBE HP1 HBK1 ⊢
  have HC1 := Lib.hid hcs1
  clear hcs1 hblk1 hbel1
  have HE := Lib.hid (he.below HBE.out)
  have hs : (w.alloc (.cells cs1 25)).heap.size = w.heap.size + 1 := by simp
  obtain ⟨W1, hW1⟩ : ∃ W1, (w.alloc (.cells cs1 25)).alloc (.cells #[.int .i64 0, .int .u64 0, .slice none 0 0, .int .u64 0, .int .u64 0] 25) = W1 := ⟨_, rfl⟩
  have HZ : Hid (W1.heap[w.heap.size + 1]? = some (.cells cacZ.vv 25 (0, 0))) := Lib.hid (by
    rw [← hW1, ← hs]
    exact blk_new _ _)
  have HSZ : Hid (W1.heap.size = w.heap.size + 2) := Lib.hid (by rw [← hW1]; simp)
  have HB1 : Hid (Below (w.alloc (.cells cs1 25)).heap.size (w.alloc (.cells cs1 25)) W1) := Lib.hid (hW1 ▸ below_alloc (Below.refl _ _) _)
  have HK : Hid (W1.heap[w.heap.size]? = some (.cells x.vv 25 (0, 0))) := Lib.hid (blk_below (by rw [HC1.out]; exact HBK1.out) HB1.out)
  have hl1 := (HP1.out.all _ (below_step HB1.out (below_alloc (Below.refl _ _) (.cells #[] 43)))).ents
  clear he hs
  go_enter Tryd.func17, Tryd.ntmps17
  go_wp2_with (first | ((with_reducible show wpList _ _ _ (Oper.mk _ (Op.load _ _) _ _ _ _ :: _) _ _); refine wpList_load_g hl1 _ rfl rfl (by go_simp) ?_) | (at_builtin; refine wpList_append_shp entK rfl (.tmp 3) (.tmp 5) rfl rfl rfl (OS.empty entK W1 W1.heap.size (Nat.le_refl _)) ((HE.out.below HB1.out).below (below_alloc (Below.refl _ _) _)) (by simp) (by omega) ?_; intro A3 c3 w3 h1 h2 h3; rw [Nat.zero_add, List.nil_append] at h1; rw [Nat.zero_add]; have hbo := below_own (below_alloc (Below.refl W1.heap.size W1) (.cells #[] 43)) h2 (fun ad h => by injection h with h; subst h; exact Nat.le_refl _); have H3 := Lib.hid (And.intro h1 hbo); clear h1 h2 h3 hbo) | ((with_reducible show wpList _ _ _ (Oper.mk _ (Op.store _ _ _) _ _ _ _ :: _) _ _); refine wpList_store_cell (blk_below HK.out H3.out.2) 23 2 (.slice A3 x.n c3) (by show 2 < 5; omega) (by kernel_rfl) rfl rfl _ _ rfl rfl rfl rfl ?_; intro w4 hg9 hs9 hb9; have H4 := Lib.hid (And.intro hg9 (show (World.heap w4)[(w.heap.size)]? = some (.cells (Cac.vv ⟨x.room, x.ver, A3, x.n, c3, x.hits, x.misses⟩) 25 (0, 0)) from hb9)); clear hg9 hs9 hb9) | ((with_reducible show wpList _ _ _ (Oper.mk _ (Op.load _ _) _ _ _ _ :: _) _ _); refine wpList_load_g (load_cac H4.out.2) _ rfl rfl (by go_simp) ?_) | ((with_reducible show wpList _ _ _ (Oper.mk _ (Op.store _ _ _) _ _ _ _ :: _) _ _); refine wpList_store_blk (blk_grown (blk_below HZ.out H3.out.2) H4.out.1 (by simp)) 25 0 (Cac.mk x.room x.ver A3 x.n c3 x.hits x.misses).vv (Nat.le_refl _) (info_cac _) (cac_one _) _ _ rfl rfl rfl rfl ?_; intro w5 hg9 hs9 hb9; rw [splice_cac] at hb9; have H5 := Lib.hid (And.intro hg9 hb9); clear hg9 hs9 hb9))
  refine bodyPost_ret (results_c1 rfl rfl (load_cac H5.out.2)) rfl ?_
  have hb3 := H3.out.1.base_
  have hsz := HSZ.out
  refine ⟨_, _, rfl, ((H3.out.1.grown H4.out.1 (fun ad e h => by have := hb3 ad e; injection h with h; omega)).grown H5.out.1 (fun ad e h => by have := hb3 ad e; injection h with h; omega)).lower (by omega), below_grown (below_grown (below_step (below_step HBE.out HB1.out) H3.out.2) H4.out.1 (by omega)) H5.out.1 (by omega)⟩
def overB (n : Nat) (ts : List Tb) : Bool := decide (100 < n) || ts.any fun y => decide (200 < y.n)
set_option maxHeartbeats 2000000 in
theorem over_any (x : Cac) (A : Option Addr) (m c : Nat) (ts : List Tb) (w : World) (ht : RS tbK w A m c ts) (hm : m ≤ 100) :
    Calls Tryd.prog 16 #[.agg x.vv, .slice A m c] w fun r w' => r = .returned (.bool (overB x.n ts)) ∧ Below w.heap.size w w' := by
  have hblk1 := blk_new w (.cells (x.vv) 25)
  have hbel1 : Below w.heap.size w (w.alloc (.cells (x.vv) 25)) := below_alloc (Below.refl _ _) _
  have HP1 := Lib.hid (cac_at hblk1)
  have HBK1 := Lib.hid hblk1
  have HBE := Lib.hid hbel1
  obtain ⟨cs1, hcs1⟩ : ∃ cs, x.vv = cs := ⟨_, rfl⟩
  simp only [hcs1] at HBE HP1 HBK1 ⊢
  have HC1 := Lib.hid hcs1
  clear hcs1 hblk1 hbel1
  have HT := Lib.hid (ht.below HBE.out)
  have hl1 := (HP1.out.all _ (Below.refl _ _)).ents
  clear ht
  go_enter Tryd.func16, Tryd.ntmps16
  by_cases h100 : 100 < x.n
  · have hb : decide ((100 : Int) < x.n) = true := decide_eq_true (by omega)
    have HF : Hid (overB x.n ts = true) := Lib.hid (by unfold overB; rw [decide_eq_true h100]; rfl)
    go_wp2_with (first | ((with_reducible show wpList _ _ _ (Oper.mk _ (Op.load _ _) _ _ _ _ :: _) _ _); refine wpList_load_g hl1 _ rfl rfl (by go_simp) ?_))
    go_ret
    rw [HF.out]
    exact ⟨rfl, HBE.out⟩
  · have hb : decide ((100 : Int) < x.n) = false := decide_eq_false (by omega)
    have HF : Hid (overB x.n ts = ts.any fun y => decide (200 < y.n)) := Lib.hid (by unfold overB; rw [decide_eq_false h100]; rfl)
    go_wp2_with (first | ((with_reducible show wpList _ _ _ (Oper.mk _ (Op.load _ _) _ _ _ _ :: _) _ _); refine wpList_load_g hl1 _ rfl rfl (by go_simp) ?_))
    clear hl1
    go_loopw [13] (fun y wr => ∃ i : Nat, y = .int .i64 i ∧ Hid (i ≤ m ∧ (∀ k, k < i → ¬ 200 < (tbAt ts k).n) ∧ Below (w.alloc (.cells cs1 25)).heap.size (w.alloc (.cells cs1 25)) wr)) (fun y _ => m - (intOf y).toNat)
    case atStart => exact ⟨0, rfl, Nat.zero_le _, fun k h => by omega, Below.refl _ _⟩
    case round =>
      obtain ⟨i, rfl, HI⟩ := hrel
      by_cases hlt : i < m
      · have hlt' : (i : Int) < m := by omega
        obtain ⟨b, o, rfl, hc⟩ := RS.at_ HT.out (by omega)
        have hld := Shape.ld tbK wr b _ _ (RS.fits_at HT.out hlt) ((hc i hlt).below HI.out.2.2)
        rw [show o + i * tbK.sz = o + i by rw [show i * tbK.sz = i from Nat.mul_one i]] at hld
        have hld : (Instr.loadAt 28 (.pointer (some ⟨b, o + i, none⟩))).run Tryd.prog wr = .ok (.agg (tabV (tbAt ts i).A (tbAt ts i).n (tbAt ts i).c)) wr := hld
        have HIL := Lib.hid (show i < ts.length by rw [HT.out.len]; exact hlt)
        obtain ⟨q, hq⟩ : ∃ q, (tbAt ts i).n = q := ⟨_, rfl⟩
        rw [hq] at hld
        have HQ := Lib.hid hq
        clear hc hq
        by_cases h200 : 200 < q
        · have hb2 : decide ((200 : Int) < q) = true := decide_eq_true (by omega)
          have HF2 : Hid (overB x.n ts = true) := Lib.hid (by
            rw [HF.out, List.any_eq_true]
            exact ⟨tbAt ts i, List.mem_of_getElem? (Shape.at_get (S := tbK) HIL.out), by rw [HQ.out]; exact decide_eq_true h200⟩)
          go_wp2_with (first | ((with_reducible show wpList _ _ _ (Oper.mk _ (Op.load _ _) _ _ _ _ :: _) _ _); refine wpList_load_g hld _ rfl rfl (by go_simp) ?_) | ((with_reducible show wpList _ _ _ (Oper.mk _ (Op.store _ _ _) _ _ _ _ :: _) _ _); refine wpList_store_blk (blk_new wr (.cells (tabV none 0 0) 28)) 28 0 (tabV (tbAt ts i).A q (tbAt ts i).c) (Nat.le_refl _) (info_tab _ _ _) (tab_one _ _ _) _ _ rfl rfl rfl rfl ?_; intro w3 hg9 hs9 hb9; rw [splice_tab] at hb9; have H3 := Lib.hid (And.intro hg9 hb9); clear hg9 hs9 hb9) | ((with_reducible show wpList _ _ _ (Oper.mk _ (Op.load _ _) _ _ _ _ :: _) _ _); refine wpList_load_g (((tab_at H3.out.2).all _ (Below.refl _ _)).2) _ rfl rfl (by go_simp) ?_))
          go_ret
          rw [HF2.out]
          exact ⟨rfl, below_step HBE.out (below_step HI.out.2.2 (below_grown (below_alloc (Below.refl wr.heap.size wr) (.cells (tabV none 0 0) 28)) H3.out.1 (Nat.le_refl _)))⟩
        · have hb2 : decide ((200 : Int) < q) = false := decide_eq_false (by omega)
          have HN := Lib.hid h200
          clear h200
          go_wp2_with (first | ((with_reducible show wpList _ _ _ (Oper.mk _ (Op.load _ _) _ _ _ _ :: _) _ _); refine wpList_load_g hld _ rfl rfl (by go_simp) ?_) | ((with_reducible show wpList _ _ _ (Oper.mk _ (Op.store _ _ _) _ _ _ _ :: _) _ _); refine wpList_store_blk (blk_new wr (.cells (tabV none 0 0) 28)) 28 0 (tabV (tbAt ts i).A q (tbAt ts i).c) (Nat.le_refl _) (info_tab _ _ _) (tab_one _ _ _) _ _ rfl rfl rfl rfl ?_; intro w3 hg9 hs9 hb9; rw [splice_tab] at hb9; have H3 := Lib.hid (And.intro hg9 hb9); clear hg9 hs9 hb9) | ((with_reducible show wpList _ _ _ (Oper.mk _ (Op.load _ _) _ _ _ _ :: _) _ _); refine wpList_load_g (((tab_at H3.out.2).all _ (Below.refl _ _)).2) _ rfl rfl (by go_simp) ?_))
          go_roundw
          case measure => simp [intOf]; omega
          case rel =>
            refine ⟨i + 1, by go_num, by omega, fun k hk => ?_, below_step HI.out.2.2 (below_grown (below_alloc (Below.refl wr.heap.size wr) (.cells (tabV none 0 0) 28)) H3.out.1 (Nat.le_refl _))⟩
            by_cases hki : k < i
            · exact HI.out.2.1 k hki
            · rw [show k = i by omega, HQ.out]; exact HN.out
      · have hlt' : decide (i < m) = false := decide_eq_false hlt
        have HF2 : Hid (overB x.n ts = false) := Lib.hid (by
          rw [HF.out, List.any_eq_false]
          intro y hy
          obtain ⟨k, hk, e⟩ := List.getElem_of_mem hy
          have h1 := Shape.at_get (S := tbK) hk
          rw [List.getElem?_eq_getElem hk, e] at h1
          rw [Option.some.inj h1]
          have := HI.out.2.1 k (by rw [HT.out.len] at hk; omega)
          exact fun hh => this (of_decide_eq_true hh))
        have HB := Lib.hid HI.out.2.2
        clear hlt
        go_wp2
        go_ret
        rw [HF2.out]
        exact ⟨rfl, below_step HBE.out HB.out⟩
end Go.Proofs.YtihfaknflfmohaaDoor

/- Layer 27 (cache): the law's wakes. -/
namespace Go.Proofs.YtihfaknflfmohaaDoor
open Go.RowKit
set_option linter.unusedVariables false
set_option linter.unusedSimpArgs false
set_option maxRecDepth 4000
theorem new21 : newC 2 1 = ⟨2, 1, none, 0, 0, 0, 0⟩ ∧ newE 2 1 = 0 := by
  have h : newE 2 1 = 0 := by unfold newE; rw [if_neg (by decide)]
  exact ⟨by unfold newC; rw [if_pos h], h⟩
def wkC : Cac := ⟨2, 1, none, 0, 0, 0, 0⟩
theorem wkC_ok : wkC.ok := ⟨by decide, by decide, by decide, by decide⟩
def wkE : Ent := ⟨4, tenB, ⟨⟨4, ten8, 8⟩, 1⟩, true⟩
theorem wkE_ok : wkE.ok := ⟨tenB_B, by decide, ⟨⟨ten8_B, by decide, by decide⟩, by decide⟩⟩
theorem wk27_look1 : lookN wkC [] tenT 4 tenB = 0 := by decide +kernel
theorem wk27_hit1 : hitN [] 4 tenB = -1 := by decide +kernel
theorem wk27_told1 : told [] tenT 4 tenB = wkE := by
  unfold told
  rw [if_neg (by rw [wk27_hit1]; decide)]
  have h1 : longR tenT 4 tenB = ⟨⟨4, ten8, 8⟩, 1⟩ := (Row.eqB_iff _ _).1 (by decide +kernel)
  have h2 : longB tenT 4 tenB = true := by decide +kernel
  rw [h1, h2]
  rfl
theorem wk27_l1 {y : Cac} {fs : List Ent} {ro : Row} {fo : Bool} (h : LookIs wkC [] tenT 4 tenB y fs ro fo) : y.room = 2 ∧ y.ver = 1 ∧ fs = [wkE] ∧ y.hits = 0 ∧ y.misses = 1 ∧ ro = ⟨⟨4, ten8, 8⟩, 1⟩ ∧ fo = true := by
  unfold LookIs at h
  rw [if_pos wk27_look1, wk27_told1, wk27_hit1] at h
  obtain ⟨h1, h2, h3, h4, h5, h6, h7⟩ := h
  refine ⟨h1, h2, ?_, h4, h5, h6, h7⟩
  rw [h3]
  unfold lookL
  rw [wk27_hit1, wk27_told1]
  rfl
theorem wk27_look2 (y : Cac) (h1 : y.room = 2) (h2 : y.ver = 1) (h3 : y.n = 1) (h4 : y.hits = 0) (h5 : y.misses = 1) : lookN y [wkE] [] 4 tenB = 0 := by
  have hc : cacB y [wkE] = true := by
    unfold cacB headB
    rw [h1, h2, h3, h4, h5]
    decide +kernel
  unfold lookN
  rw [hc]
  decide +kernel
theorem wk27_hit2 : hitN [wkE] 4 tenB = 0 := by decide +kernel
theorem wk27_l2 {x y : Cac} {fs : List Ent} {ro : Row} {fo : Bool} (h1 : x.room = 2) (h2 : x.ver = 1) (h3 : x.n = 1) (h4 : x.hits = 0) (h5 : x.misses = 1) (h : LookIs x [wkE] [] 4 tenB y fs ro fo) : y.hits = 1 ∧ y.misses = 1 ∧ ro = ⟨⟨4, ten8, 8⟩, 1⟩ ∧ fo = true := by
  unfold LookIs at h
  rw [if_pos (wk27_look2 x h1 h2 h3 h4 h5), wk27_hit2] at h
  obtain ⟨_, _, _, k4, k5, k6, k7⟩ := h
  have ht : told [wkE] [] 4 tenB = wkE := by
    unfold told
    rw [wk27_hit2]
    rfl
  rw [ht] at k6 k7
  refine ⟨by rw [k4, h4]; rfl, by rw [k5, h5]; rfl, k6, k7⟩
theorem RS.blkLt {α : Type} {S : Shape α} {w : World} {A : Option Addr} {n c : Nat} {l : List α} (h : RS S w A n c l) (hn : 0 < n) : ∀ ad, A = some ad → ad.block < w.heap.size := by
  intro ad e
  obtain ⟨ad', e', hc⟩ := h.rv.cells hn
  rw [e] at e'
  injection e' with e'
  subst e'
  have hl := h.rv.len
  have hp : 0 < n * S.sz := Nat.mul_pos hn S.pos
  obtain ⟨v, hv⟩ : ∃ v, (Shape.cells S l)[0]? = some v := ⟨_, List.getElem?_eq_getElem (by omega)⟩
  exact World.block_lt_of_cell? _ _ (hc 0 v hv)
theorem row_self_exec {r : Operand → Value} {o : Oper} {x y : Operand} {ty : TypeId} (ho : o.op = .binOp .eql 38 x y ty) (p : Row) (hx : r x = .agg (rowV p)) (hy : r y = .agg (rowV p)) (hp : p.ok) (w : World) : (execOp r o).run Tryd.prog w = .ok (.value (.bool true)) w := by
  rw [row_eql_exec ho p p hx hy hp hp w, (Row.eqB_iff p p).2 rfl]
set_option maxHeartbeats 4000000 in
theorem wakes27_any (w : World) (hL : Laid w) : Calls Tryd.prog 15 #[] w fun e w' => e = .returned (.bool true) ∧ Below w.heap.size w w' := by
  have HL := Lib.hid hL
  clear hL
  have hz := blk_new w (.cells (adrV 0 zero16) 31)
  go_enter Tryd.func15, Tryd.ntmps15
  go_wp2_with (((with_reducible show wpList _ _ _ (Oper.mk _ (Op.store _ _ _) _ _ _ _ :: _) _ _); refine wpList_store_blk hz 31 0 (adrV 4 tenB) (by decide) (info_adr rfl) (adr_one _ _) _ _ rfl rfl rfl rfl ?_; intro w1 hg9 hs9 hb9; rw [splice_adr0 _ 4 tenB rfl rfl] at hb9; have H1 := Lib.hid (And.intro hg9 hb9); clear hg9 hs9 hb9))
  have HB1 := Lib.hid (below_grown (below_alloc (Below.refl w.heap.size w) (.cells (adrV 0 zero16) 31)) H1.out.1 (Nat.le_refl _))
  clear hz
  refine (cnew_any 2 1 w1).mono ?_
  rintro e w2 ⟨rfl, hb2⟩
  rw [new21.1, new21.2]
  have HB2 := Lib.hid (below_step HB1.out hb2)
  have HA2 := Lib.hid (blk_below H1.out.2 hb2)
  clear hb2 H1 HB1
  go_upto_region 3 with (first | ((with_reducible show wpList _ _ _ (Oper.mk _ (Op.store _ _ _) _ _ _ _ :: _) _ _); refine wpList_store_blk (blk_new w2 (.cells cacZ.vv 25)) 25 0 wkC.vv (Nat.le_refl _) (info_cac _) (cac_one _) _ _ rfl rfl rfl rfl ?_; intro w3 hg9 hs9 hb9; rw [splice_cac] at hb9; have H3 := Lib.hid (And.intro hg9 hb9); clear hg9 hs9 hb9))
  have HB3 := Lib.hid (below_grown (below_alloc HB2.out (.cells cacZ.vv 25)) H3.out.1 HB2.out.size)
  have HA3 := Lib.hid (blk_grown (blk_below HA2.out (below_alloc (Below.refl _ _) (.cells cacZ.vv 25))) H3.out.1 (fun e => by injection e with e; have := blk_lt HA2.out; omega))
  have hg2 := blk_lt H3.out.2
  have hga := blk_lt HA2.out
  have hs2 := HB2.out.size
  have HG := Lib.hid (show w.heap.size < w2.heap.size ∧ w2.heap.size < w3.heap.size from ⟨hga, hg2⟩)
  have HW := Lib.hid hs2
  clear hg2 hga hs2
  have HBD := Lib.hid (below_drew1 w3)
  go_cut [4, 5, 6] (fun s4 s5 s6 wx => ∃ (g4 : Nat) (y : Cac), s4 = .pointer (some ⟨g4, 0, none⟩) ∧ s5 = .bool true ∧ s6 = .int .i64 0 ∧ Hid (wx.heap[w2.heap.size]? = some (.cells y.vv 25 (0, 0)) ∧ wx.heap[g4]? = some (.cells (rowV ⟨⟨4, ten8, 8⟩, 1⟩) 38 (0, 0)) ∧ w2.heap.size < g4 ∧ wx.heap[w.heap.size]? = some (.cells (adrV 4 tenB) 31 (0, 0)) ∧ y.room = 2 ∧ y.ver = 1 ∧ y.n = 1 ∧ y.hits = 0 ∧ y.misses = 1 ∧ RE wx y.A y.n y.c [wkE] ∧ Below w.heap.size w wx))
  case first =>
    refine wp_region_fork ((fun w0 => Below w3.heap.size w3 w0)) (OrdT.fork [0, 2] 1 9 (OrdT.fork [] 3 9 (OrdT.lin [4, 5, 6, 7, 8, 9, 10, 11, 12, 13]) (OrdT.lin [3, 4, 5, 6, 7, 8, 10, 11, 12, 13])) (OrdT.lin [1, 3, 4, 5, 6, 7, 8, 10, 11, 12, 13])) [(0, 0), (1, 2), (2, 0), (3, 2), (4, 4), (5, 4), (6, 4), (7, 4), (8, 4), (9, 2), (10, 3), (11, 3), (12, 3), (13, 3)] (by kernel_rfl) (by kernel_rfl) (HBD.out) ?_
    simp only [wpF]
    refine wpO_loadW (t := 25) (ad := ⟨w2.heap.size, 0, none⟩) rfl rfl ?hw rfl rfl ((fun w0 hS => load_cac (blk_below H3.out.2 hS))) ?_
    case hw => go_simp
    refine wpO_loadW (t := 31) (ad := ⟨w.heap.size, 0, none⟩) rfl rfl ?hw rfl rfl ((fun w0 hS => load_adr0 tenB_B (blk_below HA3.out hS))) ?_
    case hw => go_simp
    refine wpO_nil ⟨?_, ?_⟩
    · refine wpO_step2 rfl rfl (HBD.out) (fun K hK => ?_)
      go_simp
      refine (ten27_any _).mono ?_
      rintro e w4 ⟨Ac, cc, rfl, hO9, hb9⟩
      have HBC := Lib.hid (below_step HBD.out hb9)
      have HCP := Lib.hid hO9
      have hszc := hb9.size
      try replace HZ9 := Lib.hid (blk_below HZ9.out hb9)
      clear hO9 hb9
      refine hK _ _ ⟨HBC.out, ?_⟩
      clear hK K
      refine wpO_nil (wpO_nil ⟨?_, ?_⟩)
      · refine wpO_step2 rfl rfl (HBC.out) (fun K hK => ?_)
        go_simp
        refine (clook_any wkC [] Ac 1 cc tenT 4 tenB _ (HL.out.below (below_step HB3.out HBC.out)) (RS.nil _ _ _ _) (fun e he => by cases he) (by decide) HCP.out (by omega) tenB_B (by decide) wkC_ok).mono ?_
        rintro e w5 ⟨y, fs, ro, fo, rfl, hO9, hF9, hI9, hb9⟩
        obtain ⟨k1, k2, k3, k4, k5, k6, k7⟩ := wk27_l1 hI9
        subst k3 k6 k7
        rw [wk27_look1]
        have HBK := Lib.hid (below_step HBC.out hb9)
        have HYN := Lib.hid hO9.len.symm
        have HY := Lib.hid (And.intro k1 (And.intro k2 (And.intro k4 k5)))
        have HO9 := Lib.hid hO9
        have HFR := Lib.hid (fun ad e => Nat.lt_of_lt_of_le (Nat.lt_of_lt_of_le HG.out.2 HBC.out.size) (hF9 ad e))
        try have HFZ := Lib.hid (fun ad e => Nat.lt_of_lt_of_le (blk_lt HZ9.out) (hF9 ad e))
        try replace HZ9 := Lib.hid (blk_below HZ9.out hb9)
        clear hO9 hb9 hF9 hI9 k1 k2 k4 k5
        refine hK _ _ ⟨HBK.out, ?_⟩
        clear hK K
        refine wpO_nil ?_
        iterate 5 (refine wpO_step4 rfl rfl (fun K hK => ?_); go_simp; refine hK _ _ ?_; clear hK K)
        have HFL := Lib.hid (fun ad e => RS.blkLt HO9.out (by rw [HYN.out]; decide) ad e)
        refine wpO_step2 rfl rfl (HBK.out) (fun K hK => ?_)
        go_simp
        have hz9 := blk_new w5 (.cells (rowV rowZ) 38)
        obtain ⟨w6, hw9⟩ : ∃ w9, World.alloc w5 (.cells (rowV rowZ) 38) = w9 := ⟨_, rfl⟩
        have ha9 : Below (World.heap w5).size w5 w6 := hw9 ▸ below_alloc (Below.refl _ _) _
        have HBL := Lib.hid (below_step HBK.out ha9)
        rw [show World.alloc w5 (.cells #[.int .i64 0, .int .u8 0, .int .u8 0, .int .u8 0, .int .u8 0, .int .u8 0, .int .u8 0, .int .u8 0, .int .u8 0, .int .u8 0, .int .u8 0, .int .u8 0, .int .u8 0, .int .u8 0, .int .u8 0, .int .u8 0, .int .u8 0, .int .i64 0, .int .i64 0] 38) = w6 from hw9]
        rw [hw9] at hz9
        have hzl9 := blk_lt hz9
        have HZ9 := Lib.hid hz9
        try replace HCP := Lib.hid (HCP.out.below ha9)
        try replace HO9 := Lib.hid (HO9.out.below ha9)
        clear hw9 hz9 ha9
        refine hK _ _ ⟨HBL.out, ?_⟩
        clear hK K
        refine wpO_step3 rfl rfl (fun K hK => ?_)
        rw [if_pos (show Region.wanted _ _ = true from rfl)]
        refine oper_store_blk (blk_below H3.out.2 HBL.out) 25 0 y.vv (Nat.le_refl _) (info_cac _) (cac_one _) _ _ rfl rfl rfl ?_
        intro u1 hg8 hs8 hb8
        rw [splice_cac] at hb8
        have U1 := Lib.hid (And.intro hg8 hb8)
        clear hg8 hs8 hb8
        refine hK _ _ ?_
        clear hK K
        refine wpO_step3 rfl rfl (fun K hK => ?_)
        rw [if_pos (show Region.wanted _ _ = true from rfl)]
        refine oper_store_blk (blk_grown HZ9.out U1.out.1 (fun e => by injection e with e; have := (Nat.lt_of_lt_of_le HG.out.2 HBK.out.size); omega)) 38 0 (rowV ⟨⟨4, ten8, 8⟩, 1⟩) (store_row_fit (r := ⟨⟨4, ten8, 8⟩, 1⟩) ten8_B (rowV_size rowZ_fits)) (info_row (r := ⟨⟨4, ten8, 8⟩, 1⟩) ten8_B) (rowV_one _) _ _ rfl rfl rfl ?_
        intro u2 hg9 hs9 hb9
        rw [splice_row (r := ⟨⟨4, ten8, 8⟩, 1⟩) ten8_B (rowV_size rowZ_fits)] at hb9
        have U2 := Lib.hid (And.intro hg9 hb9)
        clear hg9 hs9 hb9
        refine hK _ _ ?_
        clear hK K
        refine wpO_step3 rfl rfl (fun K hK => ?_); go_simp; refine hK _ _ ?_; clear hK K
        refine wpO_step3 rfl rfl (fun K hK => ?_); go_simp; refine hK _ _ ?_; clear hK K
        refine wpO_nil ?_
        go_wp2_with fail
        go_meet
        have hq := (Nat.lt_of_lt_of_le HG.out.2 HBK.out.size)
        have hg := HG.out
        exact ⟨w5.heap.size, y, rfl, rfl, rfl, blk_grown U1.out.2 U2.out.1 (fun e => by injection e with e; omega), U2.out.2, hq, blk_grown (blk_grown (blk_below HA3.out HBL.out) U1.out.1 (fun e => by injection e with e; omega)) U2.out.1 (fun e => by injection e with e; omega), HY.out.1, HY.out.2.1, HYN.out, HY.out.2.2.1, HY.out.2.2.2, ((HO9.out.grown U1.out.1 (fun ad e h => by injection h with h; have := HFR.out ad e; omega)).grown U2.out.1 (fun ad e h => by injection h with h; have := HFL.out ad e; omega)), below_grown (below_grown (below_step HB3.out HBL.out) U1.out.1 (by omega)) U2.out.1 (by omega)⟩
      · refine wpO_step2 rfl rfl (HBC.out) (fun K hK => ?_)
        go_simp
        have hz9 := blk_new w4 (.cells (rowV rowZ) 38)
        obtain ⟨w5, hw9⟩ : ∃ w9, World.alloc w4 (.cells (rowV rowZ) 38) = w9 := ⟨_, rfl⟩
        have ha9 : Below (World.heap w4).size w4 w5 := hw9 ▸ below_alloc (Below.refl _ _) _
        have HBK := Lib.hid (below_step HBC.out ha9)
        rw [show World.alloc w4 (.cells #[.int .i64 0, .int .u8 0, .int .u8 0, .int .u8 0, .int .u8 0, .int .u8 0, .int .u8 0, .int .u8 0, .int .u8 0, .int .u8 0, .int .u8 0, .int .u8 0, .int .u8 0, .int .u8 0, .int .u8 0, .int .u8 0, .int .u8 0, .int .i64 0, .int .i64 0] 38) = w5 from hw9]
        rw [hw9] at hz9
        have hzl9 := blk_lt hz9
        have HZ9 := Lib.hid hz9
        try replace HCP := Lib.hid (HCP.out.below ha9)
        try replace HO9 := Lib.hid (HO9.out.below ha9)
        clear hw9 hz9 ha9
        refine hK _ _ ⟨HBK.out, ?_⟩
        clear hK K
        refine wpO_nil ?_
        refine wpO_step2 rfl rfl (HBK.out) (fun K hK => ?_)
        go_simp
        refine (clook_any wkC [] Ac 1 cc tenT 4 tenB _ (HL.out.below (below_step HB3.out HBK.out)) (RS.nil _ _ _ _) (fun e he => by cases he) (by decide) HCP.out (by omega) tenB_B (by decide) wkC_ok).mono ?_
        rintro e w6 ⟨y, fs, ro, fo, rfl, hO9, hF9, hI9, hb9⟩
        obtain ⟨k1, k2, k3, k4, k5, k6, k7⟩ := wk27_l1 hI9
        subst k3 k6 k7
        rw [wk27_look1]
        have HBL := Lib.hid (below_step HBK.out hb9)
        have HYN := Lib.hid hO9.len.symm
        have HY := Lib.hid (And.intro k1 (And.intro k2 (And.intro k4 k5)))
        have HO9 := Lib.hid hO9
        have HFR := Lib.hid (fun ad e => Nat.lt_of_lt_of_le (Nat.lt_of_lt_of_le HG.out.2 HBK.out.size) (hF9 ad e))
        try have HFZ := Lib.hid (fun ad e => Nat.lt_of_lt_of_le (blk_lt HZ9.out) (hF9 ad e))
        try replace HZ9 := Lib.hid (blk_below HZ9.out hb9)
        clear hO9 hb9 hF9 hI9 k1 k2 k4 k5
        refine hK _ _ ⟨HBL.out, ?_⟩
        clear hK K
        iterate 5 (refine wpO_step4 rfl rfl (fun K hK => ?_); go_simp; refine hK _ _ ?_; clear hK K)
        refine wpO_step3 rfl rfl (fun K hK => ?_)
        rw [if_pos (show Region.wanted _ _ = true from rfl)]
        refine oper_store_blk (blk_below H3.out.2 HBL.out) 25 0 y.vv (Nat.le_refl _) (info_cac _) (cac_one _) _ _ rfl rfl rfl ?_
        intro u1 hg8 hs8 hb8
        rw [splice_cac] at hb8
        have U1 := Lib.hid (And.intro hg8 hb8)
        clear hg8 hs8 hb8
        refine hK _ _ ?_
        clear hK K
        refine wpO_step3 rfl rfl (fun K hK => ?_)
        rw [if_pos (show Region.wanted _ _ = true from rfl)]
        refine oper_store_blk (blk_grown HZ9.out U1.out.1 (fun e => by injection e with e; have := (Nat.lt_of_lt_of_le HG.out.2 HBC.out.size); omega)) 38 0 (rowV ⟨⟨4, ten8, 8⟩, 1⟩) (store_row_fit (r := ⟨⟨4, ten8, 8⟩, 1⟩) ten8_B (rowV_size rowZ_fits)) (info_row (r := ⟨⟨4, ten8, 8⟩, 1⟩) ten8_B) (rowV_one _) _ _ rfl rfl rfl ?_
        intro u2 hg9 hs9 hb9
        rw [splice_row (r := ⟨⟨4, ten8, 8⟩, 1⟩) ten8_B (rowV_size rowZ_fits)] at hb9
        have U2 := Lib.hid (And.intro hg9 hb9)
        clear hg9 hs9 hb9
        refine hK _ _ ?_
        clear hK K
        refine wpO_step3 rfl rfl (fun K hK => ?_); go_simp; refine hK _ _ ?_; clear hK K
        refine wpO_step3 rfl rfl (fun K hK => ?_); go_simp; refine hK _ _ ?_; clear hK K
        refine wpO_nil ?_
        go_wp2_with fail
        go_meet
        have hq := (Nat.lt_of_lt_of_le HG.out.2 HBC.out.size)
        have hg := HG.out
        exact ⟨w4.heap.size, y, rfl, rfl, rfl, blk_grown U1.out.2 U2.out.1 (fun e => by injection e with e; omega), U2.out.2, hq, blk_grown (blk_grown (blk_below HA3.out HBL.out) U1.out.1 (fun e => by injection e with e; omega)) U2.out.1 (fun e => by injection e with e; omega), HY.out.1, HY.out.2.1, HYN.out, HY.out.2.2.1, HY.out.2.2.2, ((HO9.out.grown U1.out.1 (fun ad e h => by injection h with h; have := HFR.out ad e; omega)).grown U2.out.1 (fun ad e h => by injection h with h; have := HFZ.out ad e; omega)), below_grown (below_grown (below_step HB3.out HBL.out) U1.out.1 (by omega)) U2.out.1 (by omega)⟩
    · refine wpO_step2 rfl rfl (HBD.out) (fun K hK => ?_)
      go_simp
      have hz9 := blk_new w3 (.cells (rowV rowZ) 38)
      obtain ⟨w4, hw9⟩ : ∃ w9, (World.alloc w3 (.cells (rowV rowZ) 38)).drew = w9 := ⟨_, rfl⟩
      have ha9 : Below (World.heap w3).size w3 w4 := hw9 ▸ below_step (below_alloc (Below.refl _ _) _) (below_drew1 _)
      have HBC := Lib.hid ha9
      rw [show (World.alloc w3 (.cells #[.int .i64 0, .int .u8 0, .int .u8 0, .int .u8 0, .int .u8 0, .int .u8 0, .int .u8 0, .int .u8 0, .int .u8 0, .int .u8 0, .int .u8 0, .int .u8 0, .int .u8 0, .int .u8 0, .int .u8 0, .int .u8 0, .int .u8 0, .int .i64 0, .int .i64 0] 38)).drew = w4 from hw9]
      replace hz9 : (World.heap w4)[(World.heap w3).size]? = some (.cells (rowV rowZ) 38 (0, 0)) := by rw [← hw9]; exact hz9
      have hzl9 := blk_lt hz9
      have HZ9 := Lib.hid hz9
      clear hw9 hz9 ha9
      refine hK _ _ ⟨HBC.out, ?_⟩
      clear hK K
      refine wpO_nil ?_
      refine wpO_step2 rfl rfl (HBC.out) (fun K hK => ?_)
      go_simp
      refine (ten27_any _).mono ?_
      rintro e w5 ⟨Ac, cc, rfl, hO9, hb9⟩
      have HBK := Lib.hid (below_step HBC.out hb9)
      have HCP := Lib.hid hO9
      have hszc := hb9.size
      try replace HZ9 := Lib.hid (blk_below HZ9.out hb9)
      clear hO9 hb9
      refine hK _ _ ⟨HBK.out, ?_⟩
      clear hK K
      refine wpO_step2 rfl rfl (HBK.out) (fun K hK => ?_)
      go_simp
      refine (clook_any wkC [] Ac 1 cc tenT 4 tenB _ (HL.out.below (below_step HB3.out HBK.out)) (RS.nil _ _ _ _) (fun e he => by cases he) (by decide) HCP.out (by omega) tenB_B (by decide) wkC_ok).mono ?_
      rintro e w6 ⟨y, fs, ro, fo, rfl, hO9, hF9, hI9, hb9⟩
      obtain ⟨k1, k2, k3, k4, k5, k6, k7⟩ := wk27_l1 hI9
      subst k3 k6 k7
      rw [wk27_look1]
      have HBL := Lib.hid (below_step HBK.out hb9)
      have HYN := Lib.hid hO9.len.symm
      have HY := Lib.hid (And.intro k1 (And.intro k2 (And.intro k4 k5)))
      have HO9 := Lib.hid hO9
      have HFR := Lib.hid (fun ad e => Nat.lt_of_lt_of_le (Nat.lt_of_lt_of_le HG.out.2 HBK.out.size) (hF9 ad e))
      try have HFZ := Lib.hid (fun ad e => Nat.lt_of_lt_of_le (blk_lt HZ9.out) (hF9 ad e))
      try replace HZ9 := Lib.hid (blk_below HZ9.out hb9)
      clear hO9 hb9 hF9 hI9 k1 k2 k4 k5
      refine hK _ _ ⟨HBL.out, ?_⟩
      clear hK K
      iterate 5 (refine wpO_step4 rfl rfl (fun K hK => ?_); go_simp; refine hK _ _ ?_; clear hK K)
      refine wpO_step3 rfl rfl (fun K hK => ?_)
      rw [if_pos (show Region.wanted _ _ = true from rfl)]
      refine oper_store_blk (blk_below H3.out.2 HBL.out) 25 0 y.vv (Nat.le_refl _) (info_cac _) (cac_one _) _ _ rfl rfl rfl ?_
      intro u1 hg8 hs8 hb8
      rw [splice_cac] at hb8
      have U1 := Lib.hid (And.intro hg8 hb8)
      clear hg8 hs8 hb8
      refine hK _ _ ?_
      clear hK K
      refine wpO_step3 rfl rfl (fun K hK => ?_)
      rw [if_pos (show Region.wanted _ _ = true from rfl)]
      refine oper_store_blk (blk_grown HZ9.out U1.out.1 (fun e => by injection e with e; have := HG.out.2; omega)) 38 0 (rowV ⟨⟨4, ten8, 8⟩, 1⟩) (store_row_fit (r := ⟨⟨4, ten8, 8⟩, 1⟩) ten8_B (rowV_size rowZ_fits)) (info_row (r := ⟨⟨4, ten8, 8⟩, 1⟩) ten8_B) (rowV_one _) _ _ rfl rfl rfl ?_
      intro u2 hg9 hs9 hb9
      rw [splice_row (r := ⟨⟨4, ten8, 8⟩, 1⟩) ten8_B (rowV_size rowZ_fits)] at hb9
      have U2 := Lib.hid (And.intro hg9 hb9)
      clear hg9 hs9 hb9
      refine hK _ _ ?_
      clear hK K
      refine wpO_step3 rfl rfl (fun K hK => ?_); go_simp; refine hK _ _ ?_; clear hK K
      refine wpO_step3 rfl rfl (fun K hK => ?_); go_simp; refine hK _ _ ?_; clear hK K
      refine wpO_nil ?_
      go_wp2_with fail
      go_meet
      have hq := HG.out.2
      have hg := HG.out
      exact ⟨w3.heap.size, y, rfl, rfl, rfl, blk_grown U1.out.2 U2.out.1 (fun e => by injection e with e; omega), U2.out.2, hq, blk_grown (blk_grown (blk_below HA3.out HBL.out) U1.out.1 (fun e => by injection e with e; omega)) U2.out.1 (fun e => by injection e with e; omega), HY.out.1, HY.out.2.1, HYN.out, HY.out.2.2.1, HY.out.2.2.2, ((HO9.out.grown U1.out.1 (fun ad e h => by injection h with h; have := HFR.out ad e; omega)).grown U2.out.1 (fun ad e h => by injection h with h; have := HFZ.out ad e; omega)), below_grown (below_grown (below_step HB3.out HBL.out) U1.out.1 (by omega)) U2.out.1 (by omega)⟩
  case rest =>
    obtain ⟨g4, y, rfl, rfl, rfl, HC⟩ := hcut
    obtain ⟨hq1, hq2, hq3, hq4, hq5, hq6, hq7, hq8, hq9, hq10, hq11⟩ := HC.out
    have HQ := Lib.hid (And.intro hq5 (And.intro hq6 (And.intro hq7 (And.intro hq8 hq9))))
    have HCB := Lib.hid hq1
    have HRB := Lib.hid hq2
    have HG4 := Lib.hid hq3
    have HAB := Lib.hid hq4
    have HRE := Lib.hid hq10
    have HBC := Lib.hid hq11
    have HYO : Hid y.ok := Lib.hid ⟨by rw [hq5]; decide, by rw [hq6]; decide, by rw [hq8]; decide, by rw [hq9]; decide⟩
    have hyn : y.n ≤ 100000 := by rw [hq7]; decide
    have hbt := run_build_tab_nil
    clear hq1 hq2 hq3 hq4 hq5 hq6 hq7 hq8 hq9 hq10 hq11
    obtain ⟨v1, rfl⟩ : ∃ v1, v1 = wc := ⟨wc, rfl⟩
    go_wp2_with (first | ((with_reducible show wpList _ _ _ (Oper.mk _ (Op.load _ _) _ _ _ _ :: _) _ _); refine wpList_load_g (load_cac HCB.out) _ rfl rfl (by go_simp) ?_) | ((with_reducible show wpList _ _ _ (Oper.mk _ (Op.build _ _) _ _ _ _ :: _) _ _); refine wpList_exw rfl (exec_build 28 #[] rfl #[] rfl (hbt _)) ?_) | ((with_reducible show wpList _ _ _ (Oper.mk _ (Op.load _ _) _ _ _ _ :: _) _ _); refine wpList_load_g (load_adr0 tenB_B HAB.out) _ rfl rfl (by go_simp) ?_))
    refine (clook_any y [wkE] none 0 0 [] 4 tenB v1 (HL.out.below HBC.out) HRE.out (fun e he => by rw [List.mem_singleton] at he; subst he; exact wkE_ok) hyn (RS.nil _ _ _ _) (by decide) tenB_B (by decide) HYO.out).mono ?_
    rintro e v2 ⟨y2, fs2, ro2, fo2, rfl, hO2, hF2, hI2, hb2⟩
    rw [wk27_look2 y HQ.out.1 HQ.out.2.1 HQ.out.2.2.1 HQ.out.2.2.2.1 HQ.out.2.2.2.2]
    obtain ⟨k1, k2, k3, k4⟩ := wk27_l2 HQ.out.1 HQ.out.2.1 HQ.out.2.2.1 HQ.out.2.2.2.1 HQ.out.2.2.2.2 hI2
    subst k3 k4
    have HK := Lib.hid (And.intro k1 k2)
    have HB2' := Lib.hid (below_step HBC.out hb2)
    have HC2 := Lib.hid (blk_below HCB.out hb2)
    have HR2 := Lib.hid (blk_below HRB.out hb2)
    have hg4 := blk_lt HR2.out
    have hgg := HG4.out
    have hW2 := HW.out
    clear k1 k2 hI2 hF2 hO2 hb2
    have hrf : (⟨⟨4, ten8, 8⟩, 1⟩ : Row).fits := ten8_B
    go_upto_region 5 with (first | ((with_reducible show wpList _ _ _ (Oper.mk _ (Op.store _ _ _) _ _ _ _ :: _) _ _); refine wpList_store_blk (blk_below HC2.out (below_alloc (Below.refl _ _) (.cells (rowV rowZ) 38))) 25 0 y2.vv (Nat.le_refl _) (info_cac _) (cac_one _) _ _ rfl rfl rfl rfl ?_; intro v3 hg9 hs9 hb9; rw [splice_cac] at hb9; have H9 := Lib.hid (And.intro hg9 hb9); clear hg9 hs9 hb9) | ((with_reducible show wpList _ _ _ (Oper.mk _ (Op.store _ _ _) _ _ _ _ :: _) _ _); refine wpList_store_blk (blk_grown (blk_new v2 (.cells (rowV rowZ) 38)) H9.out.1 (fun e => by injection e with e; omega)) 38 0 (rowV (Row.mk ⟨4, ten8, 8⟩ 1)) (store_row_fit hrf (rowV_size rowZ_fits)) (info_row hrf) (rowV_one _) _ _ rfl rfl rfl rfl ?_; intro v4 hg9 hs9 hb9; rw [splice_row hrf (rowV_size rowZ_fits)] at hb9; have H10 := Lib.hid (And.intro hg9 hb9); clear hg9 hs9 hb9))
    have hlr1 := (row_at hrf (blk_grown (blk_grown (blk_below HR2.out (below_alloc (Below.refl _ _) (.cells (rowV rowZ) 38))) H9.out.1 (fun e => by injection e with e; omega)) H10.out.1 (fun e => by injection e with e; omega))).all v4 (Below.refl _ _)
    have hlr2 := (row_at hrf H10.out.2).all v4 (Below.refl _ _)
    have hlc := (cac_at (blk_grown H9.out.2 H10.out.1 (fun e => by injection e with e; omega))).all v4 (Below.refl _ _)
    have hlch := hlc.hits
    have hlcm := hlc.misses
    rw [HK.out.1] at hlch
    rw [HK.out.2] at hlcm
    have hlh := hlr1.hop
    have hlr1' := hlr1.row
    have hlr2' := hlr2.row
    have hro : (⟨⟨4, ten8, 8⟩, 1⟩ : Row).ok := wkE_ok.r
    clear hlr1 hlr2 hlc
    have HBF := Lib.hid (below_grown (below_grown (below_alloc HB2'.out (.cells (rowV rowZ) 38)) H9.out.1 (by omega)) H10.out.1 (by omega))
    go_wp2_with (first | ((with_reducible show wpList _ _ _ (Oper.mk _ (Op.load _ _) _ _ _ _ :: _) _ _); refine wpList_load_g hlh _ rfl rfl (by go_simp) ?_) | ((with_reducible show wpList _ _ _ (Oper.mk _ (Op.load _ _) _ _ _ _ :: _) _ _); refine wpList_load_g hlr1' _ rfl rfl (by go_simp) ?_) | ((with_reducible show wpList _ _ _ (Oper.mk _ (Op.load _ _) _ _ _ _ :: _) _ _); refine wpList_load_g hlr2' _ rfl rfl (by go_simp) ?_) | ((with_reducible show wpList _ _ _ (Oper.mk _ (Op.load _ _) _ _ _ _ :: _) _ _); refine wpList_load_g hlch _ rfl rfl (by go_simp) ?_) | ((with_reducible show wpList _ _ _ (Oper.mk _ (Op.load _ _) _ _ _ _ :: _) _ _); refine wpList_load_g hlcm _ rfl rfl (by go_simp) ?_) | ((with_reducible show wpList _ _ _ (Oper.mk _ (Op.binOp _ _ _ _ _) _ _ _ _ :: _) _ _); refine wpList_exw rfl (row_self_exec rfl (Row.mk ⟨4, ten8, 8⟩ 1) rfl rfl hro _) ?_))
    go_ret
    exact ⟨rfl, HBF.out⟩
end Go.Proofs.YtihfaknflfmohaaDoor

/- Layer 27 (cache): the law CacheLooks. -/
namespace Go.Proofs.YtihfaknflfmohaaDoor
open Go.RowKit
set_option linter.unusedVariables false
set_option linter.unusedSimpArgs false
set_option maxRecDepth 4000
theorem longR_okk {t : List Row} (h : Oks t) (v : Int) (l : List Int) : (longR t v l).ok := by
  unfold longR
  rcases longest_spec v l t with ⟨h1, _⟩ | ⟨i, r, h1, h2⟩
  · rw [h1]; exact rowZ_okk
  · rw [h1]
    exact h r (List.mem_of_getElem? h2.at_)
theorem overB_one (n : Nat) (y : Tb) : overB n [y] = (decide (100 < n) || decide (200 < y.n)) := by simp [overB]
end Go.Proofs.YtihfaknflfmohaaDoor

/- Layer 27 (cache): Clear (and without, with its closure). -/
namespace Go.Proofs.YtihfaknflfmohaaDoor
open Go.RowKit
set_option linter.unusedVariables false
set_option linter.unusedSimpArgs false
set_option maxRecDepth 4000
theorem idx_cases {α : Type} (q : α → Bool) (t : List α) : (idxE q t = -1 ∧ (t.filter fun e => !q e) = t) ∨ ∃ i, i < t.length ∧ idxE q t = ((i : Nat) : Int) ∧ (t.take (i + 1)).filter (fun e => !q e) = t.take i := by
  unfold idxE
  cases h : t.findIdx? q with
  | none =>
    rw [List.findIdx?_eq_none_iff] at h
    refine .inl ⟨rfl, ?_⟩
    rw [List.filter_eq_self]
    intro e he
    rw [h e he]
    rfl
  | some i =>
    rw [List.findIdx?_eq_some_iff_getElem] at h
    obtain ⟨hi, h1, h2⟩ := h
    refine .inr ⟨i, hi, rfl, ?_⟩
    rw [List.take_add_one, List.getElem?_eq_getElem hi, List.filter_append]
    have e1 : (t.take i).filter (fun e => !q e) = t.take i := by
      rw [List.filter_eq_self]
      intro e he
      obtain ⟨k, hk, rfl⟩ := List.getElem_of_mem he
      rw [List.length_take] at hk
      rw [List.getElem_take]
      have := h2 k (by omega)
      simpa using this
    rw [e1]
    simp [h1]
theorem at_drop_eq {α : Type} {S : Shape α} {cur t : List α} {j : Nat} (h : cur.drop j = t.drop j) (h1 : j < cur.length) (h2 : j < t.length) : S.at_ cur j = S.at_ t j := by
  have e := congrArg (fun z => z[0]?) h
  simp only [List.getElem?_drop, Nat.add_zero] at e
  rw [Shape.at_get (S := S) h1, Shape.at_get (S := S) h2] at e
  exact Option.some.inj e
theorem filter_step {α : Type} {S : Shape α} {p : α → Bool} {t : List α} {j : Nat} (h : j < t.length) : (t.take (j + 1)).filter p = (t.take j).filter p ++ (if p (S.at_ t j) = true then [S.at_ t j] else []) := by
  rw [Shape.take_succ (S := S) h, List.filter_append]
  congr 1
  by_cases hp : p (S.at_ t j) = true
  · rw [if_pos hp, List.filter_cons_of_pos hp]
    rfl
  · rw [if_neg hp, List.filter_cons_of_neg hp]
    rfl
theorem drop_more {α : Type} {cur t : List α} {j : Nat} (h : cur.drop j = t.drop j) : cur.drop (j + 1) = t.drop (j + 1) := by
  have e1 : cur.drop (j + 1) = (cur.drop j).drop 1 := by rw [List.drop_drop]
  have e2 : t.drop (j + 1) = (t.drop j).drop 1 := by rw [List.drop_drop]
  rw [e1, e2, h]
theorem put_take {α : Type} {cur : List α} {v : α} {i : Nat} (h : i ≤ cur.length) : (cur.take i ++ [v] ++ cur.drop (i + 1)).take (i + 1) = cur.take i ++ [v] :=
  List.take_left' (by rw [List.length_append, List.length_take, List.length_singleton]; omega)
theorem put_drop {α : Type} {cur t : List α} {v : α} {i j : Nat} (h : cur.drop j = t.drop j) (hij : i < j) (hj : i ≤ cur.length) : (cur.take i ++ [v] ++ cur.drop (i + 1)).drop (j + 1) = t.drop (j + 1) := by
  have hl : (cur.take i ++ [v]).length = i + 1 := by rw [List.length_append, List.length_take, List.length_singleton]; omega
  rw [List.drop_append, List.drop_of_length_le (by omega), hl, List.nil_append, List.drop_drop]
  rw [show i + 1 + (j + 1 - (i + 1)) = j + 1 by omega]
  exact drop_more h
theorem cclear1_any (e : Ent) (w : World) (he : e.fits) : Calls Tryd.prog 80 #[.agg (entV e), ] w fun x w' => x = .returned (.bool true) ∧ Below w.heap.size w w' := by
  have hblk1 := blk_new w (.cells (entV e) 43)
  have hbel1 : Below w.heap.size w (w.alloc (.cells (entV e) 43)) := below_alloc (Below.refl _ _) _
  have HP1 := Lib.hid (ent_at he hblk1)
  have HBK1 := Lib.hid hblk1
  have HBE := Lib.hid hbel1
  obtain ⟨cs1, hcs1⟩ : ∃ cs, entV e = cs := ⟨_, rfl⟩
  simp only [hcs1] at HBE HP1 HBK1 ⊢
  have HC1 := Lib.hid hcs1
  clear hcs1 hblk1 hbel1
  go_enter Tryd.func80, Tryd.ntmps80
  go_wp2
  go_ret
  exact ⟨rfl, HBE.out⟩
set_option maxHeartbeats 1000000 in
theorem indexfC_any (A : Option Addr) (n c : Nat) (t : List Ent) (w : World)  (hr : RS entK w A n c t) (hn : n ≤ 1000000) (q : Ent → Bool)
    (hq : ∀ i, i < n → ∀ w1, Below w.heap.size w w1 → Calls Tryd.prog 80 #[entK.val (entK.at_ t i), ] w1 fun e w2 => e = .returned (.bool (q (entK.at_ t i))) ∧ Below w1.heap.size w1 w2) :
    Calls Tryd.prog 101 #[.slice A n c, .func (Fn.func 80) #[] #[]] w fun e w' => e = .returned (.int .i64 (idxE q t)) ∧ Below w.heap.size w w' := by
  have HR := Lib.hid hr
  have HQ := Lib.hid hq
  clear hr hq
  go_enter Tryd.func101, Tryd.ntmps101
  go_wp2_with fail
  go_loopw [8] (fun x wr => ∃ i : Nat, x = .int .i64 i ∧ Hid (i ≤ n ∧ (∀ k, k < i → q (entK.at_ t k) = false) ∧ Below w.heap.size w wr)) (fun x _ => n - (intOf x).toNat)
  case atStart => exact ⟨0, rfl, Nat.zero_le _, fun k h => by omega, Below.refl _ _⟩
  case round =>
    obtain ⟨i, rfl, HH⟩ := hrel
    by_cases hlt : i < n
    · have hlt' : (i : Int) < n := by omega
      obtain ⟨b, o, rfl, hc⟩ := RS.at_ HR.out (by omega)
      have hld := Shape.ld entK wr b _ _ (RS.fits_at HR.out hlt) ((hc i hlt).below HH.out.2.2)
      have HIL := Lib.hid (show i < t.length by rw [HR.out.len]; exact hlt)
      clear hc
      go_wp2_with (first | ((with_reducible show wpList _ _ _ (Oper.mk _ (Op.load _ _) _ _ _ _ :: _) _ _); refine wpList_load_g hld _ rfl rfl (by go_simp) ?_))
      refine (HQ.out i hlt wr HH.out.2.2).mono ?_
      rintro e w2 ⟨rfl, hb2⟩
      have HB2 := Lib.hid (below_step HH.out.2.2 hb2)
      clear hb2 hld
      cases hqq : q (entK.at_ t i) with
      | true =>
        have HE : Hid (idxE q t = (i : Int)) := Lib.hid (idxE_at (S := entK) HIL.out hqq HH.out.2.1)
        clear hqq
        go_wp2
        go_ret
        rw [HE.out]
        exact ⟨rfl, HB2.out⟩
      | false =>
        have HN := Lib.hid hqq
        clear hqq
        go_wp2_with fail
        go_roundw
        case measure => simp [intOf]; omega
        case rel =>
          refine ⟨i + 1, by go_num, by omega, fun k hk => ?_, HB2.out⟩
          by_cases hki : k < i
          · exact HH.out.2.1 k hki
          · rw [show k = i by omega]; exact HN.out
    · have hlt' : decide (i < n) = false := decide_eq_false hlt
      have HE : Hid (idxE q t = -1) := Lib.hid (idxE_none (S := entK) (fun k hk => HH.out.2.1 k (by rw [HR.out.len] at hk; omega)))
      clear hlt
      go_wp2
      go_ret
      rw [HE.out]
      exact ⟨rfl, HH.out.2.2⟩
set_option maxHeartbeats 2000000 in
theorem deletefC_any (base : Nat) (A : Option Addr) (n c : Nat) (t : List Ent) (w : World)  (ho : OS entK w base A n c t) (hn : n ≤ 1000000) (q : Ent → Bool)
    (hq : ∀ e, e ∈ t → ∀ w1, w.grownBy w1 ((Value.slice A n c).ownBlock) → Calls Tryd.prog 80 #[entK.val e, ] w1 fun r w2 => r = .returned (.bool (q e)) ∧ Below w1.heap.size w1 w2) :
    Calls Tryd.prog 108 #[.slice A n c, .func (Fn.func 80) #[] #[]] w fun r w' => ∃ k, r = .returned (.slice A k c) ∧ OS entK w' base A k c (t.filter fun e => !q e) ∧ w.grownBy w' ((Value.slice A n c).ownBlock) := by
  have HO := Lib.hid ho
  have HQ := Lib.hid hq
  have hlen := ho.len
  have hcap := ho.cap
  have hcmax : c ≤ 9223372036854775807 := ho.ov.capmax
  clear ho hq
  go_enter Tryd.func108, Tryd.ntmps108
  go_wp2_with fail
  refine (indexfC_any A n c t w  HO.out.reads hn q (fun i hi w1 hb => HQ.out _ (List.mem_of_getElem? (Shape.at_get (S := entK) (by rw [hlen]; exact hi))) w1 (grown_of_below hb _))).mono ?_
  rintro e w1 ⟨rfl, hb1⟩
  have HB1 := Lib.hid hb1
  clear hb1
  rcases idx_cases q t with hm | ⟨i, hi, hm, hpre⟩
  · rw [hm.1]
    have HF := Lib.hid hm.2
    clear hm
    go_wp2
    go_ret
    exact ⟨n, rfl, by rw [HF.out]; exact HO.out.below HB1.out, grown_of_below HB1.out _⟩
  · rw [hm]
    have HPRE := Lib.hid hpre
    have hin : i < n := by rw [← hlen]; exact hi
    obtain ⟨b, o, rfl, -⟩ := RS.at_ HO.out.reads (by omega)
    have hiv : ((i : Int) == -1) = false := by simp
    have hi1 : IntKind.i64.wrap ((i : Int) + 1) = i + 1 := IntWalk.i64_in _ (by omega)
    have HO1 := Lib.hid (HO.out.below HB1.out)
    have hblt : b < w.heap.size := HO.out.lt _ rfl
    have HBL := Lib.hid (show b < w1.heap.size from Nat.lt_of_lt_of_le hblt HB1.out.size)
    clear hm hpre hi hblt
    go_wp2_with fail
    clear hi1 hiv
    go_loopw [5, 6] (fun s5 s6 wr => ∃ (i j : Nat) (cur : List Ent), s5 = .int .i64 i ∧ s6 = .int .i64 j ∧ Hid (i < j ∧ j ≤ n ∧ OS entK wr base (some ⟨b, o, none⟩) n c cur ∧ cur.take i = (t.take j).filter (fun e => !q e) ∧ cur.drop j = t.drop j ∧ w.grownBy wr (some b) ∧ w1.heap.size ≤ wr.heap.size)) (fun _ y _ => n - (intOf y).toNat)
    case atStart => exact ⟨i, i + 1, t, rfl, by go_num, by omega, by omega, HO1.out, HPRE.out.symm, rfl, grown_of_below HB1.out _, Nat.le_refl _⟩
    case round =>
      obtain ⟨i, j, cur, rfl, rfl, HI⟩ := hrel
      have hij := HI.out.1
      by_cases hlt : j < n
      · have hlt' : (j : Int) < n := by omega
        have hcl := HI.out.2.2.1.len
        obtain ⟨b2, o2, hbo, hc⟩ := RS.at_ HI.out.2.2.1.reads (by omega)
        obtain ⟨rfl, rfl⟩ : b = b2 ∧ o = o2 := by injection hbo with hbo; injection hbo with h1 h2; exact ⟨h1, h2⟩
        have HF := Lib.hid (RS.fits_at HI.out.2.2.1.reads hlt)
        have hld := Shape.ld entK wr b _ _ (RS.fits_at HI.out.2.2.1.reads hlt) (hc j hlt)
        have hjt : entK.at_ cur j = entK.at_ t j := at_drop_eq HI.out.2.2.2.2.1 (by rw [hcl]; exact hlt) (by rw [hlen]; exact hlt)
        obtain ⟨e, he⟩ : ∃ e, entK.at_ cur j = e := ⟨_, rfl⟩
        have HMEM : Hid (e ∈ t) := Lib.hid (by rw [← he, hjt]; exact List.mem_of_getElem? (Shape.at_get (S := entK) (by rw [hlen]; exact hlt)))
        have HSTEP := Lib.hid (filter_step (S := entK) (p := fun e => !q e) (t := t) (j := j) (by rw [hlen]; exact hlt))
        rw [← hjt, he] at HSTEP
        rw [he] at hld HF
        have hld : (Instr.loadAt 43 (.pointer (some ⟨b, o + j * 37, none⟩))).run Tryd.prog wr = .ok (entK.val e) wr := hld
        clear hc hbo hjt
        go_wp2_with (first | ((with_reducible show wpList _ _ _ (Oper.mk _ (Op.load _ _) _ _ _ _ :: _) _ _); refine wpList_load_g hld _ rfl rfl (by go_simp) ?_) | ((with_reducible show wpList _ _ _ (Oper.mk _ (Op.store _ _ _) _ _ _ _ :: _) _ _); refine wpList_store_blk (blk_new wr _) 43 0 (entV e) (store_ent_fit HF.out rfl) (info_ent HF.out) (entV_one _) _ _ rfl rfl rfl rfl ?_; intro w3 hg9 hs9 hb9; rw [splice_ent HF.out rfl] at hb9; have H3 := Lib.hid (And.intro hg9 hb9); clear hg9 hs9 hb9) | ((with_reducible show wpList _ _ _ (Oper.mk _ (Op.load _ _) _ _ _ _ :: _) _ _); refine wpList_load_g ((Shape.ld entK w3 _ 0 _ HF.out (cells_blk H3.out.2))) _ rfl rfl (by go_simp) ?_))
        have HB3 := Lib.hid (below_grown (below_alloc (Below.refl wr.heap.size wr) (.cells (entV entZ) 43)) H3.out.1 (Nat.le_refl _))
        refine (HQ.out e HMEM.out w3 (grown_trans HI.out.2.2.2.2.2.1 (grown_of_below HB3.out _))).mono ?_
        rintro r w4 ⟨rfl, hb4⟩
        have HB4 := Lib.hid (below_step HB3.out hb4)
        have HX4 := Lib.hid (blk_below H3.out.2 hb4)
        have HO4 := Lib.hid (HI.out.2.2.1.below HB4.out)
        have HG4 := Lib.hid (grown_trans HI.out.2.2.2.2.2.1 (grown_of_below HB4.out (some b)))
        have HS4 := Lib.hid (Nat.le_trans HI.out.2.2.2.2.2.2 HB4.out.size)
        clear hb4 hld
        cases hqe : q e with
        | true =>
          have HST : Hid ((t.take (j + 1)).filter (fun e => !q e) = (t.take j).filter (fun e => !q e)) := Lib.hid (by rw [HSTEP.out, if_neg (by rw [hqe]; decide), List.append_nil])
          clear hqe
          go_wp2_with fail
          go_roundw
          case measure => simp [intOf]; omega
          case rel => exact ⟨i, j + 1, cur, rfl, by go_num, by omega, by omega, HO4.out, by rw [HST.out]; exact HI.out.2.2.2.1, drop_more HI.out.2.2.2.2.1, HG4.out, HS4.out⟩
        | false =>
          have HST : Hid ((t.take (j + 1)).filter (fun e => !q e) = (t.take j).filter (fun e => !q e) ++ [e]) := Lib.hid (by rw [HSTEP.out, if_pos (by rw [hqe]; rfl)])
          clear hqe
          have hin2 : (i : Int) < n := by omega
          have hi2 : IntKind.i64.wrap ((i : Int) + 1) = i + 1 := IntWalk.i64_in _ (by omega)
          go_wp2_with (first | ((with_reducible show wpList _ _ _ (Oper.mk _ (Op.load _ _) _ _ _ _ :: _) _ _); refine wpList_load_g ((Shape.ld entK w4 _ 0 _ HF.out (cells_blk HX4.out))) _ rfl rfl (by go_simp) ?_) | ((with_reducible show wpList _ _ _ (Oper.mk _ (Op.store _ _ _) _ _ _ _ :: _) _ _); refine wpList_store_elem HO4.out i (by omega) e HF.out rfl _ _ rfl rfl rfl rfl ?_; intro w5 hg5 hs5 ho5; have H5 := Lib.hid (And.intro hg5 (And.intro hs5 ho5)); clear hg5 hs5 ho5))
          go_roundw
          case measure => simp [intOf]; omega
          case rel =>
            have hl2 := HI.out.2.2.2.1
            exact ⟨i + 1, j + 1, _, by go_num, by go_num, by omega, by omega, H5.out.2.2, by rw [HST.out, ← hl2]; exact put_take (by omega), put_drop HI.out.2.2.2.2.1 (by omega) (by omega), grown_trans HG4.out H5.out.1, by rw [H5.out.2.1]; exact HS4.out⟩
      · have hlt' : decide (j < n) = false := decide_eq_false hlt
        have hjn : j = n := by have := HI.out.2.1; omega
        have HE : Hid (cur.take i = t.filter (fun e => !q e)) := Lib.hid (by
          have := HI.out.2.2.2.1
          rwa [hjn, ← hlen, List.take_length] at this)
        have HT := Lib.hid (HI.out.2.2.1.take i c (by omega) (by omega) (Nat.le_refl _))
        obtain ⟨D, hD⟩ : ∃ D, (if c = i then some (⟨b, o, none⟩ : Addr) else some ((⟨b, o, none⟩ : Addr).add (i * 37))) = D := ⟨_, rfl⟩
        have hcut : ∀ W : World, (Instr.slice 23 (.slice (some ⟨b, o, none⟩) n c) (some (.int .i64 (i : Int))) none none).run Tryd.prog W = .ok (.slice D (n - i) (c - i)) W := fun W => by
          rw [← hD]
          exact cutL entK (some ⟨b, o, none⟩) n c _ i rfl (by omega) W
        have hcut2 : ∀ W : World, (Instr.slice 23 (.slice (some ⟨b, o, none⟩) n c) none (some (.int .i64 (i : Int))) none).run Tryd.prog W = .ok (.slice (some ⟨b, o, none⟩) i c) W := fun W => cutH entK (some ⟨b, o, none⟩) n c _ i rfl (by omega) W
        obtain ⟨w6, hr2, hO6, hg6⟩ := run_clear_shp entK wr 23 ⟨b, o, none⟩ i c (n - i) _ HT.out (by omega) (d := D) hD.symm (c - i)
        have H6 := Lib.hid (And.intro hO6 hg6)
        clear hO6 hg6 hD hjn hlt
        go_wp2_with (refine wpList_exec rfl (exec_clear (.tmp 38) _ rfl rfl hr2) ?_)
        go_ret
        exact ⟨i, rfl, by rw [← HE.out]; exact H6.out.1, grown_trans HI.out.2.2.2.2.2.1 H6.out.2⟩
set_option maxHeartbeats 2000000 in
theorem cwithoutC_any (x : Cac) (es : List Ent) (ver : Int) (w : World)  (hre : RE w x.A x.n x.c es) (hn : x.n ≤ 100000) (q : Ent → Bool)
    (hq : ∀ e, e ∈ es → ∀ w1, Below w.heap.size w w1 → Calls Tryd.prog 80 #[.agg (entV e), ] w1 fun r w2 => r = .returned (.bool (q e)) ∧ Below w1.heap.size w1 w2) :
    Calls Tryd.prog 79 #[.agg x.vv, .int .u64 ver, .func (Fn.func 80) #[] #[]] w fun r w' => ∃ A' k c', r = .returned (.agg (Cac.vv ⟨x.room, ver, A', k, c', x.hits, x.misses⟩)) ∧ RE w' A' k c' (es.filter fun e => !q e) ∧ (∀ ad, A' = some ad → w.heap.size ≤ ad.block) ∧ Below w.heap.size w w' := by
  have HQ := Lib.hid hq
  clear hq
  have hblk1 := blk_new w (.cells (x.vv) 25)
  have hbel1 : Below w.heap.size w (w.alloc (.cells (x.vv) 25)) := below_alloc (Below.refl _ _) _
  have HP1 := Lib.hid (cac_at hblk1)
  have HBK1 := Lib.hid hblk1
  have HBE := Lib.hid hbel1
  obtain ⟨cs1, hcs1⟩ : ∃ cs, x.vv = cs := ⟨_, rfl⟩
  simp only [hcs1] at HBE HP1 HBK1 ⊢
  have HC1 := Lib.hid hcs1
  clear hcs1 hblk1 hbel1
  have HE := Lib.hid (hre.below HBE.out)
  have hs : (w.alloc (.cells cs1 25)).heap.size = w.heap.size + 1 := by simp
  obtain ⟨W1, hW1⟩ : ∃ W1, (w.alloc (.cells cs1 25)).alloc (.cells #[.int .i64 0, .int .u64 0, .slice none 0 0, .int .u64 0, .int .u64 0] 25) = W1 := ⟨_, rfl⟩
  have HZ : Hid (W1.heap[w.heap.size + 1]? = some (.cells cacZ.vv 25 (0, 0))) := Lib.hid (by
    rw [← hW1, ← hs]
    exact blk_new _ _)
  have HB1 : Hid (Below (w.alloc (.cells cs1 25)).heap.size (w.alloc (.cells cs1 25)) W1) := Lib.hid (hW1 ▸ below_alloc (Below.refl _ _) _)
  have HK : Hid (W1.heap[w.heap.size]? = some (.cells x.vv 25 (0, 0))) := Lib.hid (blk_below (by rw [HC1.out]; exact HBK1.out) HB1.out)
  have hl1 := (HP1.out.all _ HB1.out).ents
  clear hre hs
  go_enter Tryd.func79, Tryd.ntmps79
  go_wp2_with (first | ((with_reducible show wpList _ _ _ (Oper.mk _ (Op.load _ _) _ _ _ _ :: _) _ _); refine wpList_load_g hl1 _ rfl rfl (by go_simp) ?_))
  refine (cloneE_any x.A x.n x.c es W1 (HE.out.below HB1.out) (by omega)).mono ?_
  rintro r w2 ⟨A2, c2, rfl, hO2, hb2⟩
  have HO2 := Lib.hid hO2
  have HB2 := Lib.hid (below_step HBE.out (below_step HB1.out hb2))
  have HK2 := Lib.hid (blk_below HK.out hb2)
  have HZ2 := Lib.hid (blk_below HZ.out hb2)
  have HZL := Lib.hid (blk_lt HZ.out)
  clear hO2 hb2 hl1 HK HZ
  go_wp2_with fail
  refine (deletefC_any W1.heap.size A2 x.n c2 es w2  HO2.out (by omega) q (fun e he w1 hg => HQ.out e he w1 (below_own HB2.out hg (fun ad h => by have := HO2.out.base_ ad h; have := HZL.out; omega)))).mono ?_
  rintro r w3 ⟨k, rfl, hO3, hg3⟩
  have HO3 := Lib.hid hO3
  have hb := HO2.out.base_
  have hzl := HZL.out
  have HB3 := Lib.hid (below_own HB2.out hg3 (fun ad h => by have := hb ad h; omega))
  have HK3 := Lib.hid (blk_ownC HK2.out hg3 (fun ad h => by have := hb ad h; omega))
  have HZ3 := Lib.hid (blk_ownC HZ2.out hg3 (fun ad h => by have := hb ad h; omega))
  clear hO3 hg3 HK2 HZ2
  go_wp2_with (first | ((with_reducible show wpList _ _ _ (Oper.mk _ (Op.store _ _ _) _ _ _ _ :: _) _ _); refine wpList_store_cell HK3.out 23 2 (.slice A2 k c2) (by show 2 < 5; omega) (by kernel_rfl) rfl rfl _ _ rfl rfl rfl rfl ?_; intro w4 hg9 hs9 hb9; have H4 := Lib.hid (And.intro hg9 (show (World.heap w4)[(w.heap.size)]? = some (.cells (Cac.vv ⟨x.room, x.ver, A2, k, c2, x.hits, x.misses⟩) 25 (0, 0)) from hb9)); clear hg9 hs9 hb9) | ((with_reducible show wpList _ _ _ (Oper.mk _ (Op.store _ _ _) _ _ _ _ :: _) _ _); refine wpList_store_cell H4.out.2 22 1 (.int .u64 ver) (by show 1 < 5; omega) (by kernel_rfl) rfl rfl _ _ rfl rfl rfl rfl ?_; intro w5 hg9 hs9 hb9; have H5 := Lib.hid (And.intro hg9 (show (World.heap w5)[(w.heap.size)]? = some (.cells (Cac.vv ⟨x.room, ver, A2, k, c2, x.hits, x.misses⟩) 25 (0, 0)) from hb9)); clear hg9 hs9 hb9) | ((with_reducible show wpList _ _ _ (Oper.mk _ (Op.load _ _) _ _ _ _ :: _) _ _); refine wpList_load_g (load_cac H5.out.2) _ rfl rfl (by go_simp) ?_) | ((with_reducible show wpList _ _ _ (Oper.mk _ (Op.store _ _ _) _ _ _ _ :: _) _ _); refine wpList_store_blk (blk_grown (blk_grown HZ3.out H4.out.1 (by simp)) H5.out.1 (by simp)) 25 0 (Cac.mk x.room ver A2 k c2 x.hits x.misses).vv (Nat.le_refl _) (info_cac _) (cac_one _) _ _ rfl rfl rfl rfl ?_; intro w6 hg9 hs9 hb9; rw [splice_cac] at hb9; have H6 := Lib.hid (And.intro hg9 hb9); clear hg9 hs9 hb9))
  refine bodyPost_ret (results_c1 rfl rfl (load_cac H6.out.2)) rfl ?_
  have hb3 := HO3.out.base_
  refine ⟨A2, k, c2, rfl, ?_, fun ad h => by have := hb3 ad h; omega, below_grown (below_grown (below_grown HB3.out H4.out.1 (by omega)) H5.out.1 (by omega)) H6.out.1 (by omega)⟩
  exact ((HO3.out.reads.grown H4.out.1 (fun ad e h => by have := hb3 ad e; injection h with h; omega)).grown H5.out.1 (fun ad e h => by have := hb3 ad e; injection h with h; omega)).grown H6.out.1 (fun ad e h => by have := hb3 ad e; injection h with h; omega)
end Go.Proofs.YtihfaknflfmohaaDoor

/- Prefixes as elements of a slice (18 cells). -/
namespace Go.Proofs.YtihfaknflfmohaaDoor
open Go.RowKit
set_option linter.unusedVariables false
set_option linter.unusedSimpArgs false
set_option maxRecDepth 4000
end Go.Proofs.YtihfaknflfmohaaDoor

/- Layer 27 (cache): Move's closures. -/
namespace Go.Proofs.YtihfaknflfmohaaDoor
open Go.RowKit
set_option linter.unusedVariables false
set_option linter.unusedSimpArgs false
set_option maxRecDepth 4000
theorem idxE_any {α : Type} (q : α → Bool) (t : List α) : decide (0 ≤ idxE q t) = t.any q := by
  unfold idxE
  cases h : t.findIdx? q with
  | none =>
    rw [List.findIdx?_eq_none_iff] at h
    have : t.any q = false := by
      rw [List.any_eq_false]
      intro x hx
      rw [h x hx]
      decide
    rw [this]
    decide
  | some i =>
    rw [List.findIdx?_eq_some_iff_getElem] at h
    obtain ⟨hi, h1, _⟩ := h
    have : t.any q = true := by
      rw [List.any_eq_true]
      exact ⟨_, List.getElem_mem hi, h1⟩
    rw [this]
    exact decide_eq_true (Int.natCast_nonneg i)
end Go.Proofs.YtihfaknflfmohaaDoor

/- From the plain walk to the fenced one (in a loop's round, or at the wide fence): a list of operations, none of which defers, walked plainly serves there too. -/
namespace Go.Proofs.YtihfaknflfmohaaDoor
open Go.RowKit
set_option linter.unusedVariables false
set_option linter.unusedSimpArgs false
set_option maxRecDepth 4000
end Go.Proofs.YtihfaknflfmohaaDoor

/- Plain laws of tables (layer 9), seventh part: the rows of two tables in pairs. -/
namespace Go.Proofs.YtihfaknflfmohaaDoor
set_option linter.unusedVariables false
set_option linter.unusedSimpArgs false
set_option maxRecDepth 4000
/-! One step, by indices. -/
section
variable {a b : List Row} {i k : Nat}
end
end Go.Proofs.YtihfaknflfmohaaDoor

/- Layer 9 (table): both, the rows of two tables in pairs, as an iterator. -/
namespace Go.Proofs.YtihfaknflfmohaaDoor
open Go.RowKit
set_option linter.unusedVariables false
set_option linter.unusedSimpArgs false
set_option maxRecDepth 4000
theorem RS.blk_lt {α : Type} {S : Shape α} {w : World} {A : Option Addr} {n c : Nat} {l : List α} (h : RS S w A n c l) (hn : 0 < n) : ∀ ad, A = some ad → ad.block < w.heap.size := fun ad e => by
  obtain ⟨ad', e', hc⟩ := h.rv.cells hn
  rw [e] at e'
  injection e' with e'
  subst e'
  have hl := h.rv.len
  have hp : 0 < n * S.sz := Nat.mul_pos hn S.pos
  obtain ⟨v, hv⟩ : ∃ v, (Shape.cells S l)[0]? = some v := ⟨_, List.getElem?_eq_getElem (by omega)⟩
  exact World.block_lt_of_cell? _ _ (hc 0 v hv)
/-- What both reads, round after round. -/
structure BothR (W : World) (B1 B2 : Nat) (A : Option Addr) (n c : Nat) (a : List Row) (A2 : Option Addr) (m c2 : Nat) (b : List Row) : Prop where
  t1 : W.heap[B1]? = some (.cells (tabV A n c) 28 (0, 0))
  t2 : W.heap[B2]? = some (.cells (tabV A2 m c2) 28 (0, 0))
  r1 : RT W A n c a
  r2 : RT W A2 m c2 b
theorem BothR.below {W W' : World} {B1 B2 : Nat} {A : Option Addr} {n c : Nat} {a : List Row} {A2 : Option Addr} {m c2 : Nat} {b : List Row} (h : BothR W B1 B2 A n c a A2 m c2 b) (hb : Below W.heap.size W W') : BothR W' B1 B2 A n c a A2 m c2 b :=
  ⟨blk_below h.t1 hb, blk_below h.t2 hb, h.r1.below hb, h.r2.below hb⟩
end Go.Proofs.YtihfaknflfmohaaDoor

/- Plain laws of tables (layer 9), fourth part: as bytes, and back. -/
namespace Go.Proofs.YtihfaknflfmohaaDoor
set_option linter.unusedVariables false
set_option linter.unusedSimpArgs false
set_option maxRecDepth 4000

end Go.Proofs.YtihfaknflfmohaaDoor

/- Layer 9 (table): Encode, and the document's bytes. -/
namespace Go.Proofs.YtihfaknflfmohaaDoor
open Go.RowKit
set_option linter.unusedVariables false
set_option linter.unusedSimpArgs false
set_option maxRecDepth 4000
end Go.Proofs.YtihfaknflfmohaaDoor

/- Layer 9 (table): Differ. -/
namespace Go.Proofs.YtihfaknflfmohaaDoor
open Go.RowKit
set_option linter.unusedVariables false
set_option linter.unusedSimpArgs false
set_option maxRecDepth 4000
end Go.Proofs.YtihfaknflfmohaaDoor

/- Layer 27 (cache): Move. -/
namespace Go.Proofs.YtihfaknflfmohaaDoor
open Go.RowKit
set_option linter.unusedVariables false
set_option linter.unusedSimpArgs false
set_option maxRecDepth 4000
end Go.Proofs.YtihfaknflfmohaaDoor

/- Layer 27 (cache): Move. -/
namespace Go.Proofs.YtihfaknflfmohaaDoor
open Go.RowKit
set_option linter.unusedVariables false
set_option linter.unusedSimpArgs false
set_option maxRecDepth 4000
end Go.Proofs.YtihfaknflfmohaaDoor

/- Layer 9 (table): the walk of TableSets. -/
namespace Go.Proofs.YtihfaknflfmohaaDoor
open Go.RowKit
set_option linter.unusedVariables false
set_option linter.unusedSimpArgs false
set_option maxRecDepth 4000
end Go.Proofs.YtihfaknflfmohaaDoor

/- Layer 9 (table): the document's Differ. -/
namespace Go.Proofs.YtihfaknflfmohaaDoor
open Go.RowKit
set_option linter.unusedVariables false
set_option linter.unusedSimpArgs false
set_option maxRecDepth 4000
structure RDif (W0 wr : World) (gt : Nat) (A : Option Addr) (n c : Nat) (t : List Row) : Prop where
  tab : wr.heap[gt]? = some (.cells (tabV A n c) 28 (0, 0))
  own : OT wr (gt + 1) A n c t
  below : Below W0.heap.size W0 wr
theorem RDif.put {W0 wr w2 w3 : World} {gt : Nat} {A : Option Addr} {n c : Nat} {t : List Row} {A' : Option Addr} {n' c' : Nat} {t' : List Row} (h : RDif W0 wr gt A n c t) (hb : Below wr.heap.size wr w2) (ho : OT w2 wr.heap.size A' n' c' t') (hg : w2.grownBy w3 (some gt)) (hW : W0.heap.size ≤ gt) (ht : w3.heap[gt]? = some (.cells (tabV A' n' c') 28 (0, 0))) : RDif W0 w3 gt A' n' c' t' :=
  ⟨ht, (ho.grown hg (fun ad e hh => by have := ho.base_ ad e; have h2 := blk_lt h.tab; injection hh with hh; omega)).lower (blk_lt h.tab), below_grown (below_step h.below hb) hg hW⟩
end Go.Proofs.YtihfaknflfmohaaDoor

/- Layer 27 (cache): the document's Move. -/
namespace Go.Proofs.YtihfaknflfmohaaDoor
open Go.RowKit
set_option linter.unusedVariables false
set_option linter.unusedSimpArgs false
set_option maxRecDepth 4000
end Go.Proofs.YtihfaknflfmohaaDoor

/- Layer 27 (cache): a pair of tables; the law CacheMoves. -/
namespace Go.Proofs.YtihfaknflfmohaaDoor
open Go.RowKit
set_option linter.unusedVariables false
set_option linter.unusedSimpArgs false
set_option maxRecDepth 4000
end Go.Proofs.YtihfaknflfmohaaDoor

/- Layer 27 (cache): Peek. -/
namespace Go.Proofs.YtihfaknflfmohaaDoor
open Go.RowKit
set_option linter.unusedVariables false
set_option linter.unusedSimpArgs false
set_option maxRecDepth 4000
def peekB (x : Cac) (es : List Ent) (v : Int) (l : List Int) : Bool := cacB x es && decide (0 ≤ hitN es v l)
def peekE (x : Cac) (es : List Ent) (v : Int) (l : List Int) : Ent := if peekB x es v l = true then entAt es (hitN es v l).toNat else entZ
set_option maxHeartbeats 2000000 in
theorem cpeek_any (x : Cac) (es : List Ent) (v : Int) (l : List Int) (w : World) (hL : Laid w) (he : RE w x.A x.n x.c es) (oe : Oke es) (hxn : x.n ≤ 100000) (hl : B16 l) (hv : (Lit.int .i64 v).wf = true) :
    Calls Tryd.prog 36 #[.agg x.vv, .agg (adrV v l)] w fun r w' => r = .returned (.tuple #[.agg (entV (peekE x es v l)), .bool (peekB x es v l)]) ∧ Below w.heap.size w w' := by
  have hblk1 := blk_new w (.cells (x.vv) 25)
  have hbel1 : Below w.heap.size w (w.alloc (.cells (x.vv) 25)) := below_alloc (Below.refl _ _) _
  have hblk2 := blk_new (w.alloc (.cells (x.vv) 25)) (.cells (adrV v l) 31)
  have hbel2 : Below w.heap.size w ((w.alloc (.cells (x.vv) 25)).alloc (.cells (adrV v l) 31)) := below_alloc (hbel1) _
  rw [show (w.alloc (.cells (x.vv) 25)).heap.size = w.heap.size + 1 by simp] at hblk2
  replace hblk1 := blk_below hblk1 (below_alloc (Below.refl _ _) (.cells (adrV v l) 31))
  have HP1 := Lib.hid (cac_at hblk1)
  have HBK1 := Lib.hid hblk1
  have HP2 := Lib.hid (adr_at hl hblk2)
  have HBK2 := Lib.hid hblk2
  have HBE := Lib.hid hbel2
  have HL := Lib.hid (hL.below HBE.out)
  obtain ⟨cs1, hcs1⟩ : ∃ cs, x.vv = cs := ⟨_, rfl⟩
  obtain ⟨cs2, hcs2⟩ : ∃ cs, adrV v l = cs := ⟨_, rfl⟩
  simp only [hcs1, hcs2] at HBE HL HP1 HP2 HBK1 HBK2 ⊢
  have HC1 := Lib.hid hcs1
  have HC2 := Lib.hid hcs2
  clear hL hcs1 hblk1 hbel1 hcs2 hblk2 hbel2
  have HE := Lib.hid (he.below HBE.out)
  have OE := Lib.hid oe
  have hbe := run_build_ent_nil
  clear he oe
  have HZ : Hid ((((w.alloc (.cells cs1 25)).alloc (.cells cs2 31)).alloc (.cells (entV entZ) 43)).heap[w.heap.size + 2]? = some (.cells (entV entZ) 43 (0, 0))) := Lib.hid (by
    have := blk_new ((w.alloc (.cells cs1 25)).alloc (.cells cs2 31)) (.cells (entV entZ) 43)
    rw [show ((w.alloc (.cells cs1 25)).alloc (.cells cs2 31)).heap.size = w.heap.size + 2 by simp] at this
    exact this)
  have HBZ := Lib.hid (below_alloc (Below.refl ((w.alloc (.cells cs1 25)).alloc (.cells cs2 31)).heap.size ((w.alloc (.cells cs1 25)).alloc (.cells cs2 31))) (.cells (entV entZ) 43))
  go_enter Tryd.func36, Tryd.ntmps36
  go_wp2_with (first | ((with_reducible show wpList _ _ _ (Oper.mk _ (Op.load _ _) _ _ _ _ :: _) _ _); refine wpList_load_g ((HP1.out.all _ HBZ.out).cac) _ rfl rfl (by go_simp) ?_) | ((with_reducible show wpList _ _ _ (Oper.mk _ (Op.load _ _) _ _ _ _ :: _) _ _); refine wpList_load_g ((HP2.out.all _ HBZ.out).1) _ rfl rfl (by go_simp) ?_))
  refine (cplace_any x es v l _ (HE.out.below HBZ.out) OE.out hxn hl hv).mono ?_
  rintro e w2 ⟨rfl, hb2⟩
  have HB2 := Lib.hid (below_step HBZ.out hb2)
  have HZ2 := Lib.hid (blk_below HZ.out hb2)
  clear hb2 HZ HBZ
  rw [show idxE (fun e => sA e.v e.l v l) es = hitN es v l from rfl]
  obtain ⟨h, hh⟩ : ∃ h, hitN es v l = h := ⟨_, rfl⟩
  have HH := Lib.hid hh
  rw [hh]
  clear hh
  go_wp2_with (first | ((with_reducible show wpList _ _ _ (Oper.mk _ (Op.load _ _) _ _ _ _ :: _) _ _); refine wpList_load_g ((HP1.out.all _ HB2.out).cac) _ rfl rfl (by go_simp) ?_))
  refine (ccheck_any x es w2 (HL.out.below HB2.out) (HE.out.below HB2.out) OE.out hxn).mono ?_
  rintro e w3 ⟨rfl, hb3⟩
  have HB3 := Lib.hid (below_step HB2.out hb3)
  have HZ3 := Lib.hid (blk_below HZ2.out hb3)
  clear hb3 HZ2 HB2
  cases hC : cacB x es with
  | false =>
    have HF := Lib.hid (show peekB x es v l = false by unfold peekB; rw [hC]; rfl)
    rw [cacE_false hC]
    clear hC
    go_wp2_with (first | ((with_reducible show wpList _ _ _ (Oper.mk _ (Op.build _ _) _ _ _ _ :: _) _ _); refine wpList_exw rfl (exec_build 43 #[] rfl #[] rfl (hbe _)) ?_) | ((with_reducible show wpList _ _ _ (Oper.mk _ (Op.store _ _ _) _ _ _ _ :: _) _ _); refine wpList_store_blk HZ3.out 43 0 (entV entZ) (store_ent_fit entZ_fits (entV_size entZ_fits)) (info_ent entZ_fits) (entV_one _) _ _ rfl rfl rfl rfl ?_; intro w4 hg9 hs9 hb9; rw [splice_ent entZ_fits (entV_size entZ_fits)] at hb9; have H4 := Lib.hid (And.intro hg9 hb9); clear hg9 hs9 hb9))
    refine bodyPost_ret (results_c2 rfl rfl (Shape.ld entK w4 _ 0 entZ entZ_fits (cells_blk H4.out.2))) rfl ?_
    rw [HF.out, show peekE x es v l = entZ by unfold peekE; rw [if_neg (by rw [HF.out]; decide)]]
    exact ⟨rfl, below_grown (below_step HBE.out HB3.out) H4.out.1 (by omega)⟩
  | true =>
    have HCB := Lib.hid hC
    rw [cacE_true hC]
    clear hC
    have hc := hit_cases es v l
    rw [HH.out] at hc
    rcases hc with rfl | ⟨i, hi, rfl⟩
    · have HF := Lib.hid (show peekB x es v l = false by unfold peekB; rw [HH.out, HCB.out]; rfl)
      go_wp2_with (first | ((with_reducible show wpList _ _ _ (Oper.mk _ (Op.build _ _) _ _ _ _ :: _) _ _); refine wpList_exw rfl (exec_build 43 #[] rfl #[] rfl (hbe _)) ?_) | ((with_reducible show wpList _ _ _ (Oper.mk _ (Op.store _ _ _) _ _ _ _ :: _) _ _); refine wpList_store_blk HZ3.out 43 0 (entV entZ) (store_ent_fit entZ_fits (entV_size entZ_fits)) (info_ent entZ_fits) (entV_one _) _ _ rfl rfl rfl rfl ?_; intro w4 hg9 hs9 hb9; rw [splice_ent entZ_fits (entV_size entZ_fits)] at hb9; have H4 := Lib.hid (And.intro hg9 hb9); clear hg9 hs9 hb9))
      refine bodyPost_ret (results_c2 rfl rfl (Shape.ld entK w4 _ 0 entZ entZ_fits (cells_blk H4.out.2))) rfl ?_
      rw [HF.out, show peekE x es v l = entZ by unfold peekE; rw [if_neg (by rw [HF.out]; decide)]]
      exact ⟨rfl, below_grown (below_step HBE.out HB3.out) H4.out.1 (by omega)⟩
    · have hi0 : decide ((i : Int) < 0) = false := decide_eq_false (by omega)
      have hin : i < x.n := by rw [← HE.out.len]; exact hi
      have hin' : (i : Int) < x.n := by omega
      obtain ⟨b, o, hxA, hc⟩ := RS.at_ HE.out (by omega)
      have HFi := Lib.hid (RS.fits_at HE.out hin)
      have hent := (entLd_of HFi.out ((hc i hin).below HB3.out)).ent
      have hl3 := (HP1.out.all w3 HB3.out).ents
      rw [hxA] at hl3
      have HF := Lib.hid (show peekB x es v l = true by unfold peekB; rw [HH.out, HCB.out, decide_eq_true (show (0 : Int) ≤ i by omega)]; rfl)
      have HPE := Lib.hid (show peekE x es v l = entAt es i by unfold peekE; rw [if_pos HF.out, HH.out]; simp)
      clear hc hi hxA
      go_wp2_with (first | ((with_reducible show wpList _ _ _ (Oper.mk _ (Op.load _ _) _ _ _ _ :: _) _ _); refine wpList_load_g hl3 _ rfl rfl (by go_simp) ?_) | ((with_reducible show wpList _ _ _ (Oper.mk _ (Op.load _ _) _ _ _ _ :: _) _ _); refine wpList_load_g hent _ rfl rfl (by go_simp) ?_) | ((with_reducible show wpList _ _ _ (Oper.mk _ (Op.store _ _ _) _ _ _ _ :: _) _ _); refine wpList_store_blk HZ3.out 43 0 (entV (entAt es i)) (store_ent_fit HFi.out (entV_size entZ_fits)) (info_ent HFi.out) (entV_one _) _ _ rfl rfl rfl rfl ?_; intro w4 hg9 hs9 hb9; rw [splice_ent HFi.out (entV_size entZ_fits)] at hb9; have H4 := Lib.hid (And.intro hg9 hb9); clear hg9 hs9 hb9))
      refine bodyPost_ret (results_c2 rfl rfl (Shape.ld entK w4 _ 0 (entAt es i) HFi.out (cells_blk H4.out.2))) rfl ?_
      rw [HF.out, HPE.out]
      exact ⟨rfl, below_grown (below_step HBE.out HB3.out) H4.out.1 (by omega)⟩
end Go.Proofs.YtihfaknflfmohaaDoor

/- Layer 27 (cache): the law CacheStays. -/
namespace Go.Proofs.YtihfaknflfmohaaDoor
open Go.RowKit
set_option linter.unusedVariables false
set_option linter.unusedSimpArgs false
set_option maxRecDepth 4000
theorem entAt_eq {es : List Ent} {i : Nat} (hi : i < es.length) : es[i] = entAt es i := by
  have := entAt_get hi
  rw [List.getElem?_eq_getElem hi] at this
  exact Option.some.inj this
theorem entsB_iff {es : List Ent} : entsB es = true ↔ (∀ e ∈ es, entB e = true) ∧ es.Pairwise (fun a b => sameA a b = false) := by
  unfold entsB
  rw [decide_eq_true_eq, List.pairwise_iff_getElem]
  constructor
  · intro h
    refine ⟨fun e he => ?_, fun i j hi hj hij => ?_⟩
    · obtain ⟨k, hk, rfl⟩ := mem_entAt he
      exact (h k hk).1
    · rw [entAt_eq hi, entAt_eq hj]
      exact (h j hj).2 i hij
  · rintro ⟨h1, h2⟩ j hj
    refine ⟨h1 _ (List.mem_of_getElem? (entAt_get hj)), fun k hk => ?_⟩
    have := h2 k j (by omega) hj hk
    rwa [entAt_eq (by omega), entAt_eq hj] at this
theorem long_zero {t : List Row} {v : Int} {l : List Int} (ht : tabB t = true) (ha : rightA v l = true) : longE t v l = 0 ∧ longRE t v l = longR t v l ∧ longBE t v l = longB t v l := by
  have h1 : longE t v l = 0 := by unfold longE; rw [ht, errA_true ha]; rfl
  unfold longRE longBE
  rw [h1]
  exact ⟨rfl, rfl, rfl⟩
end Go.Proofs.YtihfaknflfmohaaDoor

/- Layer 27 (cache): Right. -/
namespace Go.Proofs.YtihfaknflfmohaaDoor
open Go.RowKit
set_option linter.unusedVariables false
set_option linter.unusedSimpArgs false
set_option maxRecDepth 4000
def seenE (t : List Row) (e : Ent) : Ent := ⟨e.v, e.l, longRE t e.v e.l, longBE t e.v e.l⟩
def rightE (t : List Row) (e : Ent) : Bool := e.eqB (seenE t e)
theorem longRE_okk {t : List Row} (h : Oks t) (v : Int) (l : List Int) : (longRE t v l).ok := by
  unfold longRE
  split
  · exact longR_okk h v l
  · exact rowZ_okk
set_option maxHeartbeats 2000000 in
theorem cright1_any (e : Ent) (A : Option Addr) (n c : Nat) (t : List Row) (g : Nat) (w : World) (hL : Laid w) (heo : e.ok) (hg : TabAt w g A n c) (ht : RT w A n c t) (ot : Oks t) (hn : n ≤ 100000) :
    Calls Tryd.prog 78 #[.agg (entV e), .pointer (some ⟨g, 0, none⟩)] w fun r w' => r = .returned (.bool (!rightE t e)) ∧ Below w.heap.size w w' := by
  have he := heo.fits
  have hblk1 := blk_new w (.cells (entV e) 43)
  have hbel1 : Below w.heap.size w (w.alloc (.cells (entV e) 43)) := below_alloc (Below.refl _ _) _
  have HP1 := Lib.hid (ent_at he hblk1)
  have HBK1 := Lib.hid hblk1
  have HBE := Lib.hid hbel1
  have HL := Lib.hid (hL.below HBE.out)
  obtain ⟨cs1, hcs1⟩ : ∃ cs, entV e = cs := ⟨_, rfl⟩
  simp only [hcs1] at HBE HL HP1 HBK1 ⊢
  have HC1 := Lib.hid hcs1
  clear hL hcs1 hblk1 hbel1
  have HG := Lib.hid (fun (w0 : World) (h : Below (w.alloc (.cells cs1 43)).heap.size (w.alloc (.cells cs1 43)) w0) => hg.all w0 (below_step HBE.out h))
  have HT := Lib.hid (ht.below HBE.out)
  have OT1 := Lib.hid ot
  have HEO := Lib.hid heo
  clear hg ht ot
  go_enter Tryd.func78, Tryd.ntmps78
  go_wp2_with (first | ((with_reducible show wpList _ _ _ (Oper.mk _ (Op.load _ _) _ _ _ _ :: _) _ _); refine wpList_load_g ((HG.out _ (Below.refl _ _)).1) _ rfl rfl (by go_simp) ?_) | ((with_reducible show wpList _ _ _ (Oper.mk _ (Op.load _ _) _ _ _ _ :: _) _ _); refine wpList_load_g ((HP1.out.all _ (Below.refl _ _)).adr) _ rfl rfl (by go_simp) ?_))
  refine (tlongest_any A n c t e.v e.l _ HL.out HT.out HEO.out.l hn).mono ?_
  rintro r w1 ⟨rfl, hb1⟩
  have HB1 := Lib.hid hb1
  have HRO := Lib.hid (longRE_okk OT1.out e.v e.l)
  obtain ⟨ro, hro⟩ : ∃ ro, longRE t e.v e.l = ro := ⟨_, rfl⟩
  obtain ⟨fo, hfo⟩ : ∃ fo, longBE t e.v e.l = fo := ⟨_, rfl⟩
  have HSE : Hid (rightE t e = e.eqB ⟨e.v, e.l, ro, fo⟩) := Lib.hid (by unfold rightE seenE; rw [hro, hfo])
  rw [hro] at HRO
  rw [hro, hfo]
  clear hb1 hro hfo
  have HB2f := Lib.hid (fun (W : World) (h : (w1.alloc (.cells (rowV rowZ) 38)).grownBy W (some w1.heap.size)) => below_step HB1.out (below_grown (below_alloc (Below.refl w1.heap.size w1) (.cells (rowV rowZ) 38)) h (Nat.le_refl _)))
  go_wp2_with (first | ((with_reducible show wpList _ _ _ (Oper.mk _ (Op.store _ _ _) _ _ _ _ :: _) _ _); refine wpList_store_blk (blk_new w1 _) 38 0 (rowV ro) (store_row_fit HRO.out.fits rfl) (info_row HRO.out.fits) (rowV_one _) _ _ rfl rfl rfl rfl ?_; intro w2 hg9 hs9 hb9; rw [splice_row HRO.out.fits rfl] at hb9; have H2 := Lib.hid (And.intro hg9 hb9); clear hg9 hs9 hb9) | ((with_reducible show wpList _ _ _ (Oper.mk _ (Op.load _ _) _ _ _ _ :: _) _ _); refine wpList_load_g ((HP1.out.all _ (HB2f.out _ H2.out.1)).ent) _ rfl rfl (by go_simp) ?_) | ((with_reducible show wpList _ _ _ (Oper.mk _ (Op.load _ _) _ _ _ _ :: _) _ _); refine wpList_load_g ((HP1.out.all _ (HB2f.out _ H2.out.1)).adr) _ rfl rfl (by go_simp) ?_) | ((with_reducible show wpList _ _ _ (Oper.mk _ (Op.load _ _) _ _ _ _ :: _) _ _); refine wpList_load_g (((row_at HRO.out.fits H2.out.2).all _ (Below.refl _ _)).row) _ rfl rfl (by go_simp) ?_) | ((with_reducible show wpList _ _ _ (Oper.mk _ (Op.build _ _) _ _ _ _ :: _) _ _); refine wpList_exw rfl (exec_build_ent (v := e.v) (l := e.l) (ro := ro) (f := fo) rfl rfl rfl rfl HEO.out.l.len HRO.out.fits.len _) ?_) | ((with_reducible show wpList _ _ _ (Oper.mk _ (Op.binOp _ _ _ _ _) _ _ _ _ :: _) _ _); refine wpList_exw rfl (ent_neq_exec rfl e ⟨e.v, e.l, ro, fo⟩ rfl rfl HEO.out ⟨HEO.out.l, HEO.out.v, HRO.out⟩ _) ?_))
  go_ret
  rw [HSE.out]
  exact ⟨rfl, below_step HBE.out (HB2f.out _ H2.out.1)⟩
set_option maxHeartbeats 1000000 in
theorem indexfR_any (A : Option Addr) (n c : Nat) (t : List Ent) (w : World) (g : Nat) (hr : RS entK w A n c t) (hn : n ≤ 1000000) (q : Ent → Bool)
    (hq : ∀ i, i < n → ∀ w1, Below w.heap.size w w1 → Calls Tryd.prog 78 #[entK.val (entK.at_ t i), .pointer (some ⟨g, 0, none⟩)] w1 fun e w2 => e = .returned (.bool (q (entK.at_ t i))) ∧ Below w1.heap.size w1 w2) :
    Calls Tryd.prog 101 #[.slice A n c, .func (Fn.func 78) #[] #[.pointer (some ⟨g, 0, none⟩)]] w fun e w' => e = .returned (.int .i64 (idxE q t)) ∧ Below w.heap.size w w' := by
  have HR := Lib.hid hr
  have HQ := Lib.hid hq
  clear hr hq
  go_enter Tryd.func101, Tryd.ntmps101
  go_wp2_with fail
  go_loopw [8] (fun x wr => ∃ i : Nat, x = .int .i64 i ∧ Hid (i ≤ n ∧ (∀ k, k < i → q (entK.at_ t k) = false) ∧ Below w.heap.size w wr)) (fun x _ => n - (intOf x).toNat)
  case atStart => exact ⟨0, rfl, Nat.zero_le _, fun k h => by omega, Below.refl _ _⟩
  case round =>
    obtain ⟨i, rfl, HH⟩ := hrel
    by_cases hlt : i < n
    · have hlt' : (i : Int) < n := by omega
      obtain ⟨b, o, rfl, hc⟩ := RS.at_ HR.out (by omega)
      have hld := Shape.ld entK wr b _ _ (RS.fits_at HR.out hlt) ((hc i hlt).below HH.out.2.2)
      have HIL := Lib.hid (show i < t.length by rw [HR.out.len]; exact hlt)
      clear hc
      go_wp2_with (first | ((with_reducible show wpList _ _ _ (Oper.mk _ (Op.load _ _) _ _ _ _ :: _) _ _); refine wpList_load_g hld _ rfl rfl (by go_simp) ?_))
      refine (HQ.out i hlt wr HH.out.2.2).mono ?_
      rintro e w2 ⟨rfl, hb2⟩
      have HB2 := Lib.hid (below_step HH.out.2.2 hb2)
      clear hb2 hld
      cases hqq : q (entK.at_ t i) with
      | true =>
        have HE : Hid (idxE q t = (i : Int)) := Lib.hid (idxE_at (S := entK) HIL.out hqq HH.out.2.1)
        clear hqq
        go_wp2
        go_ret
        rw [HE.out]
        exact ⟨rfl, HB2.out⟩
      | false =>
        have HN := Lib.hid hqq
        clear hqq
        go_wp2_with fail
        go_roundw
        case measure => simp [intOf]; omega
        case rel =>
          refine ⟨i + 1, by go_num, by omega, fun k hk => ?_, HB2.out⟩
          by_cases hki : k < i
          · exact HH.out.2.1 k hki
          · rw [show k = i by omega]; exact HN.out
    · have hlt' : decide (i < n) = false := decide_eq_false hlt
      have HE : Hid (idxE q t = -1) := Lib.hid (idxE_none (S := entK) (fun k hk => HH.out.2.1 k (by rw [HR.out.len] at hk; omega)))
      clear hlt
      go_wp2
      go_ret
      rw [HE.out]
      exact ⟨rfl, HH.out.2.2⟩
theorem containsR_any (A : Option Addr) (n c : Nat) (t : List Ent) (w : World) (g : Nat) (hr : RS entK w A n c t) (hn : n ≤ 1000000) (q : Ent → Bool)
    (hq : ∀ i, i < n → ∀ w1, Below w.heap.size w w1 → Calls Tryd.prog 78 #[entK.val (entK.at_ t i), .pointer (some ⟨g, 0, none⟩)] w1 fun e w2 => e = .returned (.bool (q (entK.at_ t i))) ∧ Below w1.heap.size w1 w2) :
    Calls Tryd.prog 77 #[.slice A n c, .func (Fn.func 78) #[] #[.pointer (some ⟨g, 0, none⟩)]] w fun e w' => e = .returned (.bool (t.any q)) ∧ Below w.heap.size w w' := by
  have HI := Lib.hid (indexfR_any A n c t w g hr hn q hq)
  clear hq hr
  go_enter Tryd.func77, Tryd.ntmps77
  go_wp2_with fail
  refine HI.out.mono ?_
  rintro e w1 ⟨rfl, hb1⟩
  have HB1 := Lib.hid hb1
  clear hb1
  go_wp2
  go_ret
  rw [idxE_any]
  exact ⟨rfl, HB1.out⟩
def askN (x : Cac) (es : List Ent) (t : List Row) : Int := if cacB x es then (if tabB t then 0 else 190) else 370
def rightsB (x : Cac) (es : List Ent) (t : List Row) : Bool := decide (askN x es t = 0) && !es.any fun e => !rightE t e
set_option maxHeartbeats 2000000 in
theorem cright_any (x : Cac) (es : List Ent) (A : Option Addr) (n c : Nat) (t : List Row) (w : World) (hL : Laid w) (he : RE w x.A x.n x.c es) (oe : Oke es) (hxn : x.n ≤ 100000) (ht : RT w A n c t) (ot : Oks t) (hn : n ≤ 100000) :
    Calls Tryd.prog 34 #[.agg x.vv, .agg (tabV A n c)] w fun r w' => r = .returned (.tuple #[.bool (rightsB x es t), .int .i64 (askN x es t)]) ∧ Below w.heap.size w w' := by
  have hblk1 := blk_new w (.cells (x.vv) 25)
  have hbel1 : Below w.heap.size w (w.alloc (.cells (x.vv) 25)) := below_alloc (Below.refl _ _) _
  have hblk2 := blk_new (w.alloc (.cells (x.vv) 25)) (.cells (tabV A n c) 28)
  have hbel2 : Below w.heap.size w ((w.alloc (.cells (x.vv) 25)).alloc (.cells (tabV A n c) 28)) := below_alloc (hbel1) _
  rw [show (w.alloc (.cells (x.vv) 25)).heap.size = w.heap.size + 1 by simp] at hblk2
  replace hblk1 := blk_below hblk1 (below_alloc (Below.refl _ _) (.cells (tabV A n c) 28))
  have HP1 := Lib.hid (cac_at hblk1)
  have HBK1 := Lib.hid hblk1
  have HP2 := Lib.hid (tab_at hblk2)
  have HBK2 := Lib.hid hblk2
  have HBE := Lib.hid hbel2
  have HL := Lib.hid (hL.below HBE.out)
  obtain ⟨cs1, hcs1⟩ : ∃ cs, x.vv = cs := ⟨_, rfl⟩
  obtain ⟨cs2, hcs2⟩ : ∃ cs, tabV A n c = cs := ⟨_, rfl⟩
  simp only [hcs1, hcs2] at HBE HL HP1 HP2 HBK1 HBK2 ⊢
  have HC1 := Lib.hid hcs1
  have HC2 := Lib.hid hcs2
  clear hL hcs1 hblk1 hbel1 hcs2 hblk2 hbel2
  have HE := Lib.hid (he.below HBE.out)
  have HT := Lib.hid (ht.below HBE.out)
  have OE := Lib.hid oe
  have OT1 := Lib.hid ot
  clear he ht oe ot
  obtain ⟨W0, hW0⟩ : ∃ W0, W0 = ((w.alloc (.cells cs1 25)).alloc (.cells cs2 28)) := ⟨_, rfl⟩
  have HLT : Hid (RS tbK (W0.alloc (.cells (tbK.enc ⟨A, n, c, t⟩).toArray tbK.t)) (some ⟨W0.heap.size, 0, none⟩) 1 1 [⟨A, n, c, t⟩]) := Lib.hid (OS.one tbK W0 0 ⟨A, n, c, t⟩ (Nat.zero_le _) trivial).reads
  have hs0 : W0.heap.size = w.heap.size + 1 + 1 := by rw [hW0]; simp
  rw [hs0] at HLT
  have HBW := Lib.hid (below_alloc (Below.refl W0.heap.size W0) (.cells (tbK.enc ⟨A, n, c, t⟩).toArray tbK.t))
  clear hs0
  subst hW0
  go_enter Tryd.func34, Tryd.ntmps34
  go_wp2_with (first | ((with_reducible show wpList _ _ _ (Oper.mk _ (Op.load _ _) _ _ _ _ :: _) _ _); refine wpList_load_g ((HP1.out.all _ (Below.refl _ _)).cac) _ rfl rfl (by go_simp) ?_) | ((with_reducible show wpList _ _ _ (Oper.mk _ (Op.load _ _) _ _ _ _ :: _) _ _); refine wpList_load_g ((HP2.out.all _ (Below.refl _ _)).1) _ rfl rfl (by go_simp) ?_) | ((with_reducible show wpList _ _ _ (Oper.mk _ (Op.buildSlice _ _ _) _ _ _ _ :: _) _ _); refine wpList_exw rfl (exec_lit1 tbK (x := .tmp 8) rfl ⟨A, n, c, t⟩ rfl trivial (by show 1 ≤ _; omega) _) ?_))
  have hcall := casked_any x es _ 1 1 [⟨A, n, c, t⟩] _ (HL.out.below HBW.out) (HE.out.below HBW.out) OE.out hxn HLT.out (by omega) (fun y hy => by
    rw [List.mem_singleton] at hy
    subst hy
    exact ⟨HT.out.below HBW.out, hn⟩)
  refine hcall.mono ?_
  clear hcall
  rintro e w1 ⟨rfl, hb1⟩
  rw [askE_one, show (if cacB x es = true then if tabB (Tb.mk A n c t).t = true then 0 else 190 else 370 : Int) = askN x es t from rfl]
  have HB1 := Lib.hid (below_step HBW.out hb1)
  clear hb1 HLT HBW
  by_cases h0 : askN x es t = 0
  · have HR : Hid (rightsB x es t = !es.any fun e => !rightE t e) := Lib.hid (by unfold rightsB; rw [decide_eq_true h0]; rfl)
    have H0 := Lib.hid h0
    rw [h0]
    clear h0
    go_wp2_with (first | ((with_reducible show wpList _ _ _ (Oper.mk _ (Op.load _ _) _ _ _ _ :: _) _ _); refine wpList_load_g ((HP1.out.all _ HB1.out).ents) _ rfl rfl (by go_simp) ?_))
    refine (containsR_any x.A x.n x.c es w1 (w.heap.size + 1) (HE.out.below HB1.out) (by omega) (fun e => !rightE t e) (fun i hi w2 hb2 => cright1_any (entAt es i) A n c t (w.heap.size + 1) w2 (HL.out.below (below_step HB1.out hb2)) (OE.out.at_ (by rw [HE.out.len]; exact hi)) ⟨fun w0 h0 => HP2.out.all w0 (below_step HB1.out (below_step hb2 h0))⟩ (HT.out.below (below_step HB1.out hb2)) OT1.out hn)).mono ?_
    rintro r w2 ⟨rfl, hb2⟩
    have HB2 := Lib.hid (below_step HBE.out (below_step HB1.out hb2))
    clear hb2
    go_wp2
    refine bodyPost_ret (results_tmp2 rfl _ _ _) rfl ?_
    rw [HR.out, H0.out]
    exact ⟨rfl, HB2.out⟩
  · have HR : Hid (rightsB x es t = false) := Lib.hid (by unfold rightsB; rw [decide_eq_false h0]; rfl)
    obtain ⟨N, hN⟩ : ∃ N, askN x es t = N := ⟨_, rfl⟩
    have H0 := Lib.hid hN
    rw [hN] at h0 ⊢
    have h0b : (N == 0) = false := by simpa using h0
    clear h0
    go_wp2
    refine bodyPost_ret (results_tmp2 rfl _ _ _) rfl ?_
    rw [HR.out, H0.out]
    exact ⟨rfl, below_step HBE.out HB1.out⟩
end Go.Proofs.YtihfaknflfmohaaDoor

/- Layer 27 (cache): Clear. -/
namespace Go.Proofs.YtihfaknflfmohaaDoor
open Go.RowKit
set_option linter.unusedVariables false
set_option linter.unusedSimpArgs false
set_option maxRecDepth 4000
def clearN (x : Cac) (es : List Ent) (ver : Int) : Int := if cacB x es then (if 4611686018427387904 < ver ∨ ver < x.ver then 2 else 0) else 370
theorem filter_none (es : List Ent) : (es.filter fun _ => !true) = [] := by
  induction es with
  | nil => rfl
  | cons e es ih => rw [List.filter_cons_of_neg (by decide), ih]
set_option maxHeartbeats 2000000 in
theorem cclear_any (x : Cac) (es : List Ent) (ver : Int) (w : World) (hL : Laid w) (hre : RE w x.A x.n x.c es) (oe : Oke es) (hn : x.n ≤ 100000) :
    Calls Tryd.prog 37 #[.agg x.vv, .int .u64 ver] w fun r w' => ∃ y : Cac, r = .returned (.tuple #[.agg y.vv, .int .i64 (clearN x es ver)]) ∧ y.n = 0 ∧ (clearN x es ver = 0 → y.room = x.room ∧ y.ver = ver ∧ y.hits = x.hits ∧ y.misses = x.misses) ∧ Below w.heap.size w w' := by
  have hblk1 := blk_new w (.cells (x.vv) 25)
  have hbel1 : Below w.heap.size w (w.alloc (.cells (x.vv) 25)) := below_alloc (Below.refl _ _) _
  have HP1 := Lib.hid (cac_at hblk1)
  have HBK1 := Lib.hid hblk1
  have HBE := Lib.hid hbel1
  have HL := Lib.hid (hL.below HBE.out)
  obtain ⟨cs1, hcs1⟩ : ∃ cs, x.vv = cs := ⟨_, rfl⟩
  simp only [hcs1] at HBE HL HP1 HBK1 ⊢
  have HC1 := Lib.hid hcs1
  clear hL hcs1 hblk1 hbel1
  have HE := Lib.hid (hre.below HBE.out)
  have OE := Lib.hid oe
  have hs : (w.alloc (.cells cs1 25)).heap.size = w.heap.size + 1 := by simp
  obtain ⟨W1, hW1⟩ : ∃ W1, (w.alloc (.cells cs1 25)).alloc (.cells #[.int .i64 0, .int .u64 0, .slice none 0 0, .int .u64 0, .int .u64 0] 25) = W1 := ⟨_, rfl⟩
  have HZ : Hid (W1.heap[w.heap.size + 1]? = some (.cells cacZ.vv 25 (0, 0))) := Lib.hid (by
    rw [← hW1, ← hs]
    exact blk_new _ _)
  have HB1 : Hid (Below (w.alloc (.cells cs1 25)).heap.size (w.alloc (.cells cs1 25)) W1) := Lib.hid (hW1 ▸ below_alloc (Below.refl _ _) _)
  have hl1 := (HP1.out.all _ HB1.out).cac
  have hbc := run_build_cac_nil
  clear hre hs oe
  go_enter Tryd.func37, Tryd.ntmps37
  go_wp2_with (first | ((with_reducible show wpList _ _ _ (Oper.mk _ (Op.load _ _) _ _ _ _ :: _) _ _); refine wpList_load_g hl1 _ rfl rfl (by go_simp) ?_))
  refine (ccheck_any x es W1 (HL.out.below HB1.out) (HE.out.below HB1.out) OE.out hn).mono ?_
  rintro e w2 ⟨rfl, hb2⟩
  have HB2 := Lib.hid (below_step HB1.out hb2)
  have HR2 := Lib.hid (blk_below HZ.out hb2)
  clear hb2 hl1 hW1 HZ HB1
  cases hC : cacB x es with
  | false =>
    rw [cacE_false hC]
    have HN := Lib.hid (show clearN x es ver = 370 by unfold clearN; rw [hC]; rfl)
    clear hC
    go_wp2_with (first | ((with_reducible show wpList _ _ _ (Oper.mk _ (Op.build _ _) _ _ _ _ :: _) _ _); refine wpList_exw rfl (exec_build 25 #[] rfl #[] rfl (hbc _)) ?_) | ((with_reducible show wpList _ _ _ (Oper.mk _ (Op.store _ _ _) _ _ _ _ :: _) _ _); refine wpList_store_blk HR2.out 25 0 cacZ.vv (Nat.le_refl _) (info_cac _) (cac_one _) _ _ rfl rfl rfl rfl ?_; intro w8 hg9 hs9 hb9; rw [splice_cac] at hb9; have H8 := Lib.hid (And.intro hg9 hb9); clear hg9 hs9 hb9))
    refine bodyPost_ret (results_c2 rfl rfl (load_cac H8.out.2)) rfl ?_
    exact ⟨cacZ, by rw [HN.out]; rfl, rfl, (fun h => by rw [HN.out] at h; cases h), below_grown (below_step HBE.out HB2.out) H8.out.1 (by omega)⟩
  | true =>
    rw [cacE_true hC]
    have HC := Lib.hid hC
    clear hC
    by_cases hv1 : 4611686018427387904 < ver
    · have hv1b : decide (4611686018427387904 < ver) = true := decide_eq_true hv1
      have HN := Lib.hid (show clearN x es ver = 2 by unfold clearN; rw [HC.out, if_pos rfl, if_pos (.inl hv1)])
      clear hv1
      go_wp2_with (first | ((with_reducible show wpList _ _ _ (Oper.mk _ (Op.build _ _) _ _ _ _ :: _) _ _); refine wpList_exw rfl (exec_build 25 #[] rfl #[] rfl (hbc _)) ?_) | ((with_reducible show wpList _ _ _ (Oper.mk _ (Op.store _ _ _) _ _ _ _ :: _) _ _); refine wpList_store_blk HR2.out 25 0 cacZ.vv (Nat.le_refl _) (info_cac _) (cac_one _) _ _ rfl rfl rfl rfl ?_; intro w8 hg9 hs9 hb9; rw [splice_cac] at hb9; have H8 := Lib.hid (And.intro hg9 hb9); clear hg9 hs9 hb9))
      refine bodyPost_ret (results_c2 rfl rfl (load_cac H8.out.2)) rfl ?_
      exact ⟨cacZ, by rw [HN.out]; rfl, rfl, (fun h => by rw [HN.out] at h; cases h), below_grown (below_step HBE.out HB2.out) H8.out.1 (by omega)⟩
    · have hv1b : decide (4611686018427387904 < ver) = false := decide_eq_false hv1
      have hlv := (HP1.out.all w2 HB2.out).ver
      by_cases hv2 : ver < x.ver
      · have hv2b : decide (ver < x.ver) = true := decide_eq_true hv2
        have HN := Lib.hid (show clearN x es ver = 2 by unfold clearN; rw [HC.out, if_pos rfl, if_pos (.inr hv2)])
        clear hv1 hv2
        go_wp2_with (first | ((with_reducible show wpList _ _ _ (Oper.mk _ (Op.load _ _) _ _ _ _ :: _) _ _); refine wpList_load_g hlv _ rfl rfl (by go_simp) ?_) | ((with_reducible show wpList _ _ _ (Oper.mk _ (Op.build _ _) _ _ _ _ :: _) _ _); refine wpList_exw rfl (exec_build 25 #[] rfl #[] rfl (hbc _)) ?_) | ((with_reducible show wpList _ _ _ (Oper.mk _ (Op.store _ _ _) _ _ _ _ :: _) _ _); refine wpList_store_blk HR2.out 25 0 cacZ.vv (Nat.le_refl _) (info_cac _) (cac_one _) _ _ rfl rfl rfl rfl ?_; intro w8 hg9 hs9 hb9; rw [splice_cac] at hb9; have H8 := Lib.hid (And.intro hg9 hb9); clear hg9 hs9 hb9))
        refine bodyPost_ret (results_c2 rfl rfl (load_cac H8.out.2)) rfl ?_
        exact ⟨cacZ, by rw [HN.out]; rfl, rfl, (fun h => by rw [HN.out] at h; cases h), below_grown (below_step HBE.out HB2.out) H8.out.1 (by omega)⟩
      · have hv2b : decide (ver < x.ver) = false := decide_eq_false hv2
        have HN := Lib.hid (show clearN x es ver = 0 by unfold clearN; rw [HC.out, if_pos rfl, if_neg (by omega)])
        clear hv1 hv2
        go_wp2_with (first | ((with_reducible show wpList _ _ _ (Oper.mk _ (Op.load _ _) _ _ _ _ :: _) _ _); refine wpList_load_g hlv _ rfl rfl (by go_simp) ?_) | ((with_reducible show wpList _ _ _ (Oper.mk _ (Op.load _ _) _ _ _ _ :: _) _ _); refine wpList_load_g ((HP1.out.all w2 HB2.out).cac) _ rfl rfl (by go_simp) ?_))
        refine (cwithoutC_any x es ver w2 (HE.out.below HB2.out) hn (fun _ => true) (fun e he w1 hb => cclear1_any e w1 (OE.out e he).fits)).mono ?_
        rintro e w3 ⟨A6, k6, c6, rfl, hO6, hF6, hb3⟩
        rw [filter_none] at hO6
        have hk6 : k6 = 0 := hO6.len.symm
        have HK6 := Lib.hid hk6
        have HB3 := Lib.hid (below_step HB2.out hb3)
        have HR3 := Lib.hid (blk_below HR2.out hb3)
        clear hO6 hF6 hb3 hk6
        go_wp2_with (first | ((with_reducible show wpList _ _ _ (Oper.mk _ (Op.store _ _ _) _ _ _ _ :: _) _ _); refine wpList_store_blk HR3.out 25 0 (Cac.mk x.room ver A6 k6 c6 x.hits x.misses).vv (Nat.le_refl _) (info_cac _) (cac_one _) _ _ rfl rfl rfl rfl ?_; intro w8 hg9 hs9 hb9; rw [splice_cac] at hb9; have H8 := Lib.hid (And.intro hg9 hb9); clear hg9 hs9 hb9))
        refine bodyPost_ret (results_c2 rfl rfl (load_cac H8.out.2)) rfl ?_
        exact ⟨⟨x.room, ver, A6, k6, c6, x.hits, x.misses⟩, by rw [HN.out]; rfl, HK6.out, (fun _ => ⟨rfl, rfl, rfl, rfl⟩), below_grown (below_step HBE.out HB3.out) H8.out.1 (by omega)⟩
end Go.Proofs.YtihfaknflfmohaaDoor

/- Layer 27 (cache): the plain law of CacheTells. -/
namespace Go.Proofs.YtihfaknflfmohaaDoor
open Go.RowKit
set_option linter.unusedVariables false
set_option linter.unusedSimpArgs false
set_option maxRecDepth 4000
theorem entB_right {e : Ent} (h : entB e = true) : rightA e.v e.l = true := by
  cases ha : rightA e.v e.l with
  | true => rfl
  | false => unfold entB at h; rw [ha] at h; simp at h
def tellB (t : List Row) (e : Ent) : Bool := e.eqB (tells t e.v e.l)
theorem right_tell {t : List Row} {e : Ent} (ht : tabB t = true) (he : entB e = true) : rightE t e = tellB t e := by
  obtain ⟨_, k1, k2⟩ := long_zero ht (entB_right he)
  unfold rightE tellB seenE tells
  rw [k1, k2]
theorem ask_zero {x : Cac} {es : List Ent} {t : List Row} : askN x es t = 0 ↔ cacB x es = true ∧ tabB t = true := by
  unfold askN
  cases cacB x es <;> cases tabB t <;> simp
theorem rights_no {x : Cac} {es : List Ent} {t : List Row} (h : askN x es t ≠ 0) : rightsB x es t = false := by
  unfold rightsB
  rw [decide_eq_false h, Bool.false_and]
theorem rights_all {x : Cac} {es : List Ent} {t : List Row} (h : askN x es t = 0) : rightsB x es t = es.all (tellB t) := by
  obtain ⟨hc, ht⟩ := ask_zero.1 h
  have hE : entsB es = true := by
    unfold cacB at hc
    rw [Bool.and_eq_true] at hc
    exact hc.2
  unfold rightsB
  rw [decide_eq_true h, Bool.true_and, List.any_eq_not_all_not, Bool.not_not]
  have : ∀ e ∈ es, (!!rightE t e) = tellB t e := fun e he => by
    rw [Bool.not_not]
    exact right_tell ht ((entsB_iff.1 hE).1 e he)
  rw [Bool.eq_iff_iff, List.all_eq_true, List.all_eq_true]
  exact ⟨fun k e he => by rw [← this e he]; exact k e he, fun k e he => by rw [this e he]; exact k e he⟩
theorem all_succ (es : List Ent) (p : Ent → Bool) {i : Nat} (hi : i < es.length) : (es.take (i + 1)).all p = ((es.take i).all p && p (entAt es i)) := by
  rw [List.take_add_one, entAt_get hi, List.all_append]
  simp
/-- The first entry of an address, from the place j on. -/
def firstE (es : List Ent) (v : Int) (l : List Int) (j : Nat) : Option Ent := (es.drop j).find? fun e => sA e.v e.l v l
theorem first_end (es : List Ent) (v : Int) (l : List Int) : firstE es v l es.length = none := by unfold firstE; rw [List.drop_length]; rfl
theorem first_step {es : List Ent} {v : Int} {l : List Int} {j : Nat} (hj : j < es.length) : firstE es v l j = if sA (entAt es j).v (entAt es j).l v l = true then some (entAt es j) else firstE es v l (j + 1) := by
  unfold firstE
  have h := entAt_get hj
  rw [List.getElem?_eq_getElem hj] at h
  rw [List.drop_eq_getElem_cons hj, Option.some.inj h, List.find?_cons]
  cases hs : sA (entAt es j).v (entAt es j).l v l <;> simp
theorem first_all (es : List Ent) (v : Int) (l : List Int) : firstE es v l 0 = if 0 ≤ hitN es v l then some (entAt es (hitN es v l).toNat) else none := by
  unfold firstE
  rw [List.drop_zero]
  rcases hit_cases es v l with hm | ⟨i, hi, hm⟩
  · rw [if_neg (by omega), List.find?_eq_none]
    intro e he
    obtain ⟨k, hk, rfl⟩ := List.getElem_of_mem he
    have h := entAt_get hk
    rw [List.getElem?_eq_getElem hk] at h
    rw [Option.some.inj h, miss_spec hm k hk]
    decide
  · rw [if_pos (by omega), show (hitN es v l).toNat = i by omega, List.find?_eq_some_iff_getElem]
    obtain ⟨_, h2, h3⟩ := hit_spec hm
    have hg : ∀ k (hk : k < es.length), es[k] = entAt es k := fun k hk => by
      have h := entAt_get hk
      rw [List.getElem?_eq_getElem hk] at h
      exact Option.some.inj h
    refine ⟨h2, i, hi, hg i hi, fun j hj => ?_⟩
    rw [hg j (by omega), h3 j hj]
    rfl
theorem peek_no {x : Cac} {es : List Ent} {v : Int} {l : List Int} (h : cacB x es = false) : peekB x es v l = false ∧ peekE x es v l = entZ := by
  have : peekB x es v l = false := by unfold peekB; rw [h]; rfl
  refine ⟨this, ?_⟩
  unfold peekE
  rw [this]
  rfl
theorem peek_first {x : Cac} {es : List Ent} {v : Int} {l : List Int} (h : cacB x es = true) : peekB x es v l = (firstE es v l 0).isSome ∧ peekE x es v l = (firstE es v l 0).getD entZ := by
  have hb : peekB x es v l = decide (0 ≤ hitN es v l) := by unfold peekB; rw [h, Bool.true_and]
  unfold peekE
  rw [hb, first_all]
  by_cases h0 : 0 ≤ hitN es v l
  · rw [if_pos h0, decide_eq_true h0]; exact ⟨rfl, rfl⟩
  · rw [if_neg h0, decide_eq_false h0]; exact ⟨rfl, rfl⟩
theorem first_ok {es : List Ent} (oe : Oke es) (v : Int) (l : List Int) (j : Nat) : ((firstE es v l j).getD entZ).ok := by
  cases h : firstE es v l j with
  | none => exact ⟨zero16_B, (show (Lit.int .i64 0).wf = true by decide), rowZ_okk⟩
  | some e => exact oe e (List.mem_of_mem_drop (List.mem_of_find?_eq_some h))
theorem run_build_cac4 (w : World) (room ver hits misses : Int) : (Instr.build 25 #[(0, .int .i64 room), (1, .int .u64 ver), (3, .int .u64 hits), (4, .int .u64 misses)]).run Tryd.prog w = .ok (.agg (Cac.vv ⟨room, ver, none, 0, 0, hits, misses⟩)) w := run_build w _ _ _ (by kernel_rfl)
end Go.Proofs.YtihfaknflfmohaaDoor

/- Layer 27 (cache): the law CacheTells. -/
namespace Go.Proofs.YtihfaknflfmohaaDoor
open Go.RowKit
set_option linter.unusedVariables false
set_option linter.unusedSimpArgs false
set_option maxRecDepth 4000
theorem kw_cast {α : Type} {K : α → World → Prop} {a : α} {w v : World} (h : w = v) (k : K a v) : K a w := h ▸ k
theorem tells_okk {t : List Row} (ot : Oks t) {e : Ent} (he : e.ok) : (tells t e.v e.l).ok := ⟨he.l, he.v, longR_okk ot e.v e.l⟩
theorem entZ_okk : entZ.ok := ⟨zero16_B, (show (Lit.int .i64 0).wf = true by decide), rowZ_okk⟩
theorem ent_self_nexec {r : Operand → Value} {o : Oper} {x y : Operand} {ty : TypeId} (ho : o.op = .binOp .neq 43 x y ty) (p : Ent) (hx : r x = .agg (entV p)) (hy : r y = .agg (entV p)) (hp : p.ok) (w : World) : (execOp r o).run Tryd.prog w = .ok (.value (.bool false)) w := by
  rw [ent_neq_exec ho p p hx hy hp hp w, (Ent.eqB_iff p p).2 rfl]
  rfl
theorem peek_loop {x : Cac} {es : List Ent} {v : Int} {l : List Int} {R : Bool} {j : Nat} (hR : cacB x es = R) (hn : es.length = x.n) (h : (R = false ∧ j = x.n) ∨ (R = true ∧ j = 0)) : (firstE es v l j).isSome = peekB x es v l ∧ (firstE es v l j).getD entZ = peekE x es v l := by
  rcases h with ⟨rfl, rfl⟩ | ⟨rfl, rfl⟩
  · rw [← hn, first_end, (peek_no hR).1, (peek_no hR).2]
    exact ⟨rfl, rfl⟩
  · exact ⟨(peek_first hR).1.symm, (peek_first hR).2.symm⟩
set_option maxRecDepth 100000 in
set_option maxHeartbeats 8000000 in
theorem tells27_any (x : Cac) (es : List Ent) (y : Cac) (fs : List Ent) (A : Option Addr) (n c : Nat) (t : List Row) (w : World) (hL : Laid w) (he : RE w x.A x.n x.c es) (oe : Oke es) (hx : x.ok) (hf : RE w y.A y.n y.c fs) (of : Oke fs) (hy : y.ok) (ht : RT w A n c t) (ot : Oks t) :
    Calls Tryd.prog 7 #[.agg x.vv, .agg y.vv, .agg (tabV A n c)] w fun r w' => r = .returned (.bool true) ∧ Below w.heap.size w w' := by
  have hblk1 := blk_new w (.cells (x.vv) 25)
  have hbel1 : Below w.heap.size w (w.alloc (.cells (x.vv) 25)) := below_alloc (Below.refl _ _) _
  have hblk2 := blk_new (w.alloc (.cells (x.vv) 25)) (.cells (y.vv) 25)
  have hbel2 : Below w.heap.size w ((w.alloc (.cells (x.vv) 25)).alloc (.cells (y.vv) 25)) := below_alloc (hbel1) _
  rw [show (w.alloc (.cells (x.vv) 25)).heap.size = w.heap.size + 1 by simp] at hblk2
  replace hblk1 := blk_below hblk1 (below_alloc (Below.refl _ _) (.cells (y.vv) 25))
  have hblk3 := blk_new ((w.alloc (.cells (x.vv) 25)).alloc (.cells (y.vv) 25)) (.cells (tabV A n c) 28)
  have hbel3 : Below w.heap.size w (((w.alloc (.cells (x.vv) 25)).alloc (.cells (y.vv) 25)).alloc (.cells (tabV A n c) 28)) := below_alloc (hbel2) _
  rw [show ((w.alloc (.cells (x.vv) 25)).alloc (.cells (y.vv) 25)).heap.size = w.heap.size + 2 by simp] at hblk3
  replace hblk1 := blk_below hblk1 (below_alloc (Below.refl _ _) (.cells (tabV A n c) 28))
  replace hblk2 := blk_below hblk2 (below_alloc (Below.refl _ _) (.cells (tabV A n c) 28))
  have HP1 := Lib.hid (cac_at hblk1)
  have HBK1 := Lib.hid hblk1
  have HP2 := Lib.hid (cac_at hblk2)
  have HBK2 := Lib.hid hblk2
  have HP3 := Lib.hid (tab_at hblk3)
  have HBK3 := Lib.hid hblk3
  have HBE := Lib.hid hbel3
  have HL := Lib.hid (hL.below HBE.out)
  obtain ⟨cs1, hcs1⟩ : ∃ cs, x.vv = cs := ⟨_, rfl⟩
  obtain ⟨cs2, hcs2⟩ : ∃ cs, y.vv = cs := ⟨_, rfl⟩
  obtain ⟨cs3, hcs3⟩ : ∃ cs, tabV A n c = cs := ⟨_, rfl⟩
  simp only [hcs1, hcs2, hcs3] at HBE HL HP1 HP2 HP3 HBK1 HBK2 HBK3 ⊢
  have HC1 := Lib.hid hcs1
  have HC2 := Lib.hid hcs2
  have HC3 := Lib.hid hcs3
  clear hL hcs1 hblk1 hbel1 hcs2 hblk2 hbel2 hcs3 hblk3 hbel3
  have HE := Lib.hid (he.below HBE.out)
  have HF := Lib.hid (hf.below HBE.out)
  have HT := Lib.hid (ht.below HBE.out)
  have OE := Lib.hid oe
  have OF := Lib.hid of
  have OT1 := Lib.hid ot
  clear he hf ht oe of ot
  go_enter Tryd.func7, Tryd.ntmps7
  go_wp2_with fail
  refine (wakes27_any _ HL.out).mono ?_
  rintro e w1 ⟨rfl, hb1⟩
  have HB1 := Lib.hid hb1
  clear hb1
  go_wp2_with (first | ((with_reducible show wpList _ _ _ (Oper.mk _ (Op.load _ _) _ _ _ _ :: _) _ _); refine wpList_load_g ((HP1.out.all _ HB1.out).cac) _ rfl rfl (by go_simp) ?_) | ((with_reducible show wpList _ _ _ (Oper.mk _ (Op.load _ _) _ _ _ _ :: _) _ _); refine wpList_load_g ((HP3.out.all _ HB1.out).1) _ rfl rfl (by go_simp) ?_) | ((with_reducible show wpList _ _ _ (Oper.mk _ (Op.buildSlice _ _ _) _ _ _ _ :: _) _ _); refine wpList_exw rfl (exec_lit1 tbK (x := .tmp 26) rfl ⟨A, n, c, t⟩ rfl trivial (by show 1 ≤ _; omega) _) ?_))
  have hcall := over_any x _ 1 1 [⟨A, n, c, t⟩] _ (OS.one tbK w1 0 ⟨A, n, c, t⟩ (Nat.zero_le _) trivial).reads (by omega)
  refine hcall.mono ?_
  clear hcall
  rintro e w2 ⟨rfl, hb2⟩
  rw [overB_one]
  have HB2 := Lib.hid (below_step (below_alloc HB1.out (.cells (tbK.enc ⟨A, n, c, t⟩).toArray tbK.t)) hb2)
  clear hb2 HB1
  by_cases h12 : 100 < x.n ∨ 200 < n
  · have h1b : (decide (100 < x.n) || decide (200 < n)) = true := by rcases h12 with h | h <;> simp [h]
    rw [h1b]
    clear h12
    go_wp2
    go_ret
    exact ⟨rfl, below_step HBE.out HB2.out⟩
  · have h1b : (decide (100 < x.n) || decide (200 < n)) = false := by simp; omega
    rw [h1b]
    go_wp2_with (first | ((with_reducible show wpList _ _ _ (Oper.mk _ (Op.load _ _) _ _ _ _ :: _) _ _); refine wpList_load_g ((HP2.out.all _ HB2.out).cac) _ rfl rfl (by go_simp) ?_))
    have hcall := over_any y none 0 0 [] w2 (RS.nil _ _ _ _) (by omega)
    refine hcall.mono ?_
    clear hcall
    rintro e w3 ⟨rfl, hb3⟩
    have HB3 := Lib.hid (below_step HB2.out hb3)
    clear hb3 HB2
    by_cases h3 : 100 < y.n
    · have h3b : overB y.n [] = true := by unfold overB; simp [h3]
      rw [h3b]
      clear h12 h3 h1b
      go_wp2
      go_ret
      exact ⟨rfl, below_step HBE.out HB3.out⟩
    · have h3b : overB y.n [] = false := by unfold overB; simp; omega
      rw [h3b]
      have HN : Hid (x.n ≤ 100 ∧ n ≤ 200 ∧ y.n ≤ 100) := Lib.hid (by omega)
      clear h12 h3 h1b h3b
      go_wp2_with (first | ((with_reducible show wpList _ _ _ (Oper.mk _ (Op.load _ _) _ _ _ _ :: _) _ _); refine wpList_load_g ((HP1.out.all _ HB3.out).cac) _ rfl rfl (by go_simp) ?_))
      have hnn := HN.out
      refine (refcright_any x es w3 (HE.out.below HB3.out) OE.out (by omega)).mono ?_
      rintro e w4 ⟨rfl, hb4⟩
      obtain ⟨R, hR⟩ : ∃ R, cacB x es = R := ⟨_, rfl⟩
      have HR := Lib.hid hR
      rw [hR]
      have HB4 := Lib.hid (below_step HB3.out hb4)
      clear hb4 hR
      go_wp2_with (first | ((with_reducible show wpList _ _ _ (Oper.mk _ (Op.load _ _) _ _ _ _ :: _) _ _); refine wpList_load_g ((HP1.out.all _ HB4.out).cac) _ rfl rfl (by go_simp) ?_))
      refine (copiedC_any x es w4 (HE.out.below HB4.out) (by omega)).mono ?_
      rintro e w5 ⟨A5, c5, rfl, hO5, hb5⟩
      have HO5 := Lib.hid hO5.reads
      have HB5 := Lib.hid (below_step HB4.out hb5)
      clear hO5 hb5
      go_wp2_with fail
      refine (ccheck_any ⟨x.room, x.ver, A5, x.n, c5, x.hits, x.misses⟩ es w5 (HL.out.below HB5.out) HO5.out OE.out (by show x.n ≤ _; omega)).mono ?_
      rintro e w6 ⟨rfl, hb6⟩
      rw [show cacE ⟨x.room, x.ver, A5, x.n, c5, x.hits, x.misses⟩ es = cacE x es from rfl]
      have HB6 := Lib.hid (below_step HB5.out hb6)
      clear hb6 HB4 HB5 HO5
      obtain ⟨KK, hKK⟩ : ∃ KK, cacE x es = KK := ⟨_, rfl⟩
      rw [hKK]
      have HKK := Lib.hid hKK
      clear hKK
      go_upto_region 7 with fail
      go_cut [65] (fun s wx => s = .bool false ∧ Hid (Below w6.heap.size w6 wx))
      case first =>
        as_aux_lemma =>
          cases R with
          | true =>
            have hk0 : KK = 0 := by rw [← HKK.out, cacE_true HR.out]
            subst hk0
            refine wp_region_mix (fun w0 => Below (w6).heap.size (w6) w0) [(0, 0), (1, 0), (2, 0), (3, 0), (4, 0), (5, 0), (6, 0), (7, 0), (8, 0), (9, 0), (10, 0), (11, 0), (12, 0), (13, 0), (14, 0), (16, 0), (17, 0), (15, 2), (18, 2), (19, 0), (20, 0), (21, 0), (22, 0), (23, 0), (24, 2), (25, 2), (26, 0), (27, 0)] (by kernel_rfl) (by kernel_rfl) (below_drew1 _) ?_
            simp only [List.map_cons, List.map_nil]
            iterate 13 (refine wpO_step0 rfl rfl (fun K hK => ?_); go_simp; refine hK _ _ ?_; clear hK K)
            refine wpO_loadW (t := 25) (ad := ⟨w.heap.size, 0, none⟩) rfl rfl ?hw rfl rfl ((fun w0 hS => (HP1.out.all w0 (below_step HB6.out hS)).cac)) ?_
            case hw => go_simp
            refine wpO_loadW (t := 25) (ad := ⟨(w.heap.size+1), 0, none⟩) rfl rfl ?hw rfl rfl ((fun w0 hS => (HP2.out.all w0 (below_step HB6.out hS)).cac)) ?_
            case hw => go_simp
            refine wpO_loadW (t := 25) (ad := ⟨w.heap.size, 0, none⟩) rfl rfl ?hw rfl rfl ((fun w0 hS => (HP1.out.all w0 (below_step HB6.out hS)).cac)) ?_
            case hw => go_simp
            refine wpO_loadW (t := 25) (ad := ⟨(w.heap.size+1), 0, none⟩) rfl rfl ?hw rfl rfl ((fun w0 hS => (HP2.out.all w0 (below_step HB6.out hS)).cac)) ?_
            case hw => go_simp
            refine wpO_step2 rfl rfl (below_drew1 _) (fun K hK => ?_)
            go_simp
            refine (csame_any x es y fs _ (HE.out.below (below_step HB6.out (below_drew1 _))) (HF.out.below (below_step HB6.out (below_drew1 _))) OE.out OF.out (by omega) (by omega)).mono ?_
            obtain ⟨EQ, hEQ⟩ : ∃ EQ, cacSame x es y fs = EQ := ⟨_, rfl⟩
            rw [hEQ]
            rintro e v2 ⟨rfl, hb2⟩
            have HV2 := Lib.hid (below_step (below_drew1 w6) hb2)
            clear hb2
            refine hK _ _ ⟨HV2.out, ?_⟩
            clear hK K
            refine wpO_step2 rfl rfl (HV2.out) (fun K hK => ?_)
            go_simp
            refine (refcsame_any x es y fs _ (HE.out.below (below_step HB6.out HV2.out)) (HF.out.below (below_step HB6.out HV2.out)) OE.out OF.out (by omega) (by omega)).mono ?_
            rw [hEQ]
            rintro e v3 ⟨rfl, hb3⟩
            have HV3 := Lib.hid (below_step HV2.out hb3)
            clear hb3 hEQ
            refine hK _ _ ⟨HV3.out, ?_⟩
            clear hK K
            have hne : (EQ != EQ) = false := by simp
            iterate 3 (refine wpO_step0 rfl rfl (fun K hK => ?_); go_simp; refine hK _ _ ?_; clear hK K)
            refine wpO_loadW (t := 25) (ad := ⟨w.heap.size, 0, none⟩) rfl rfl ?hw rfl rfl ((fun w0 hS => (HP1.out.all w0 (below_step HB6.out hS)).cac)) ?_
            case hw => go_simp
            refine wpO_loadW (t := 25) (ad := ⟨w.heap.size, 0, none⟩) rfl rfl ?hw rfl rfl ((fun w0 hS => (HP1.out.all w0 (below_step HB6.out hS)).cac)) ?_
            case hw => go_simp
            refine wpO_step2 rfl rfl (HV3.out) (fun K hK => ?_)
            go_simp
            refine (copiedC_any x es _ (HE.out.below (below_step HB6.out HV3.out)) (by omega)).mono ?_
            rintro e v4 ⟨A9, c9, rfl, hO9, hb4⟩
            have HV4 := Lib.hid (below_step HV3.out hb4)
            have HO9 := Lib.hid hO9.reads
            clear hO9 hb4
            refine hK _ _ ⟨HV4.out, ?_⟩
            clear hK K
            refine wpO_step2 rfl rfl (HV4.out) (fun K hK => ?_)
            go_simp
            refine (csame_any x es ⟨x.room, x.ver, A9, x.n, c9, x.hits, x.misses⟩ es _ (HE.out.below (below_step HB6.out HV4.out)) HO9.out OE.out OE.out (by omega) (by show x.n ≤ _; omega)).mono ?_
            rw [show cacSame x es ⟨x.room, x.ver, A9, x.n, c9, x.hits, x.misses⟩ es = true from cacSame_iff.2 ⟨rfl, rfl, rfl, rfl, rfl⟩]
            rintro e v5 ⟨rfl, hb5⟩
            have HV5 := Lib.hid (below_step HV4.out hb5)
            clear hb5
            refine hK _ _ ⟨HV5.out, ?_⟩
            clear hK K
            iterate 2 (refine wpO_step0 rfl rfl (fun K hK => ?_); go_simp; refine hK _ _ ?_; clear hK K)
            refine wpO_nil ?_
            go_wp2_with fail
            go_meet
            exact ⟨rfl, HV5.out⟩
          | false =>
            have hk0 : KK = 370 := by rw [← HKK.out, cacE_false HR.out]
            subst hk0
            refine wp_region_mix (fun w0 => Below (w6).heap.size (w6) w0) [(0, 0), (1, 0), (2, 0), (3, 0), (4, 0), (5, 0), (6, 0), (7, 0), (8, 0), (9, 0), (10, 0), (11, 0), (12, 0), (13, 0), (14, 0), (16, 0), (17, 0), (15, 2), (18, 2), (19, 0), (20, 0), (21, 0), (22, 0), (23, 0), (24, 2), (25, 2), (26, 0), (27, 0)] (by kernel_rfl) (by kernel_rfl) (below_drew1 _) ?_
            simp only [List.map_cons, List.map_nil]
            iterate 13 (refine wpO_step0 rfl rfl (fun K hK => ?_); go_simp; refine hK _ _ ?_; clear hK K)
            refine wpO_loadW (t := 25) (ad := ⟨w.heap.size, 0, none⟩) rfl rfl ?hw rfl rfl ((fun w0 hS => (HP1.out.all w0 (below_step HB6.out hS)).cac)) ?_
            case hw => go_simp
            refine wpO_loadW (t := 25) (ad := ⟨(w.heap.size+1), 0, none⟩) rfl rfl ?hw rfl rfl ((fun w0 hS => (HP2.out.all w0 (below_step HB6.out hS)).cac)) ?_
            case hw => go_simp
            refine wpO_loadW (t := 25) (ad := ⟨w.heap.size, 0, none⟩) rfl rfl ?hw rfl rfl ((fun w0 hS => (HP1.out.all w0 (below_step HB6.out hS)).cac)) ?_
            case hw => go_simp
            refine wpO_loadW (t := 25) (ad := ⟨(w.heap.size+1), 0, none⟩) rfl rfl ?hw rfl rfl ((fun w0 hS => (HP2.out.all w0 (below_step HB6.out hS)).cac)) ?_
            case hw => go_simp
            refine wpO_step2 rfl rfl (below_drew1 _) (fun K hK => ?_)
            go_simp
            refine (csame_any x es y fs _ (HE.out.below (below_step HB6.out (below_drew1 _))) (HF.out.below (below_step HB6.out (below_drew1 _))) OE.out OF.out (by omega) (by omega)).mono ?_
            obtain ⟨EQ, hEQ⟩ : ∃ EQ, cacSame x es y fs = EQ := ⟨_, rfl⟩
            rw [hEQ]
            rintro e v2 ⟨rfl, hb2⟩
            have HV2 := Lib.hid (below_step (below_drew1 w6) hb2)
            clear hb2
            refine hK _ _ ⟨HV2.out, ?_⟩
            clear hK K
            refine wpO_step2 rfl rfl (HV2.out) (fun K hK => ?_)
            go_simp
            refine (refcsame_any x es y fs _ (HE.out.below (below_step HB6.out HV2.out)) (HF.out.below (below_step HB6.out HV2.out)) OE.out OF.out (by omega) (by omega)).mono ?_
            rw [hEQ]
            rintro e v3 ⟨rfl, hb3⟩
            have HV3 := Lib.hid (below_step HV2.out hb3)
            clear hb3 hEQ
            refine hK _ _ ⟨HV3.out, ?_⟩
            clear hK K
            have hne : (EQ != EQ) = false := by simp
            iterate 3 (refine wpO_step0 rfl rfl (fun K hK => ?_); go_simp; refine hK _ _ ?_; clear hK K)
            refine wpO_loadW (t := 25) (ad := ⟨w.heap.size, 0, none⟩) rfl rfl ?hw rfl rfl ((fun w0 hS => (HP1.out.all w0 (below_step HB6.out hS)).cac)) ?_
            case hw => go_simp
            refine wpO_loadW (t := 25) (ad := ⟨w.heap.size, 0, none⟩) rfl rfl ?hw rfl rfl ((fun w0 hS => (HP1.out.all w0 (below_step HB6.out hS)).cac)) ?_
            case hw => go_simp
            refine wpO_step2 rfl rfl (HV3.out) (fun K hK => ?_)
            go_simp
            refine (copiedC_any x es _ (HE.out.below (below_step HB6.out HV3.out)) (by omega)).mono ?_
            rintro e v4 ⟨A9, c9, rfl, hO9, hb4⟩
            have HV4 := Lib.hid (below_step HV3.out hb4)
            have HO9 := Lib.hid hO9.reads
            clear hO9 hb4
            refine hK _ _ ⟨HV4.out, ?_⟩
            clear hK K
            refine wpO_step2 rfl rfl (HV4.out) (fun K hK => ?_)
            go_simp
            refine (csame_any x es ⟨x.room, x.ver, A9, x.n, c9, x.hits, x.misses⟩ es _ (HE.out.below (below_step HB6.out HV4.out)) HO9.out OE.out OE.out (by omega) (by show x.n ≤ _; omega)).mono ?_
            rw [show cacSame x es ⟨x.room, x.ver, A9, x.n, c9, x.hits, x.misses⟩ es = true from cacSame_iff.2 ⟨rfl, rfl, rfl, rfl, rfl⟩]
            rintro e v5 ⟨rfl, hb5⟩
            have HV5 := Lib.hid (below_step HV4.out hb5)
            clear hb5
            refine hK _ _ ⟨HV5.out, ?_⟩
            clear hK K
            iterate 2 (refine wpO_step0 rfl rfl (fun K hK => ?_); go_simp; refine hK _ _ ?_; clear hK K)
            refine wpO_nil ?_
            go_wp2_with fail
            go_meet
            exact ⟨rfl, HV5.out⟩
      case rest =>
        obtain ⟨rfl, HC⟩ := hcut
        obtain ⟨w7, rfl⟩ : ∃ w7, w7 = wc := ⟨wc, rfl⟩
        have HB7 := Lib.hid (below_step HB6.out HC.out)
        clear HC
        go_upto_region 9 with fail
        refine wp_region_mix (fun w0 => Below (w7).heap.size (w7) w0) [(0, 0), (2, 0), (1, 2), (3, 2), (4, 0), (5, 0), (6, 0), (7, 0), (8, 0)] (by kernel_rfl) (by kernel_rfl) (below_drew1 _) ?_
        simp only [List.map_cons, List.map_nil]
        refine wpO_loadW (t := 25) (ad := ⟨w.heap.size, 0, none⟩) rfl rfl ?hw rfl rfl ((fun w0 hS => (HP1.out.all w0 (below_step HB7.out hS)).cac)) ?_
        case hw => go_simp
        refine wpO_loadW (t := 28) (ad := ⟨(w.heap.size+1+1), 0, none⟩) rfl rfl ?hw rfl rfl ((fun w0 hS => (HP3.out.all w0 (below_step HB7.out hS)).1)) ?_
        case hw => go_simp
        refine wpO_step2 rfl rfl (below_drew1 _) (fun K hK => ?_)
        go_simp
        refine (copiedC_any x es _ (HE.out.below (below_step HB7.out (below_drew1 _))) (by omega)).mono ?_
        rintro e v2 ⟨A9, c9, rfl, hO9, hb2⟩
        have HV2 := Lib.hid (below_step (below_drew1 w7) hb2)
        have HO9 := Lib.hid hO9.reads
        clear hO9 hb2
        refine hK _ _ ⟨HV2.out, ?_⟩
        clear hK K
        refine wpO_step2 rfl rfl (HV2.out) (fun K hK => ?_)
        go_simp
        refine (cright_any ⟨x.room, x.ver, A9, x.n, c9, x.hits, x.misses⟩ es A n c t v2 (HL.out.below (below_step HB7.out HV2.out)) HO9.out OE.out (by show x.n ≤ _; omega) (HT.out.below (below_step HB7.out HV2.out)) OT1.out (by omega)).mono ?_
        rw [show rightsB ⟨x.room, x.ver, A9, x.n, c9, x.hits, x.misses⟩ es t = rightsB x es t from rfl, show askN ⟨x.room, x.ver, A9, x.n, c9, x.hits, x.misses⟩ es t = askN x es t from rfl]
        obtain ⟨RB, hRB⟩ : ∃ RB, rightsB x es t = RB := ⟨_, rfl⟩
        obtain ⟨NN, hNN⟩ : ∃ NN, askN x es t = NN := ⟨_, rfl⟩
        rw [hRB, hNN]
        have HRB := Lib.hid hRB
        have HNN := Lib.hid hNN
        rintro e v3 ⟨rfl, hb3⟩
        have HV3 := Lib.hid (below_step HV2.out hb3)
        clear hb3 hRB hNN
        refine hK _ _ ⟨HV3.out, ?_⟩
        clear hK K
        iterate 5 (refine wpO_step0 rfl rfl (fun K hK => ?_); go_simp; refine hK _ _ ?_; clear hK K)
        refine wpO_nil ?_
        go_upto_if 74 with fail
        go_cut [11, 12] (fun s11 s12 wx => s12 = .int .i64 NN ∧ s11 = .bool (decide (NN = 0)) ∧ Hid (Below w7.heap.size w7 wx))
        case first =>
          as_aux_lemma =>
            have hnv : NN = if R = true then (if tabB t = true then 0 else 190) else 370 := by
              rw [← HNN.out, ← HR.out]
              unfold askN
              rfl
            have HNV := Lib.hid hnv
            clear hnv
            cases R with
            | false =>
              have hnv : NN = 370 := by rw [HNV.out]; rfl
              subst hnv
              go_wp2_with fail
              go_meet
              exact ⟨rfl, rfl, HV3.out⟩
            | true =>
              go_wp2_with (first | ((with_reducible show wpList _ _ _ (Oper.mk _ (Op.load _ _) _ _ _ _ :: _) _ _); refine wpList_load_g ((HP3.out.all _ (below_step HB7.out HV3.out)).1) _ rfl rfl (by go_simp) ?_))
              refine (refRight_any A n c t v3 (HT.out.below (below_step HB7.out HV3.out)) OT1.out (by omega)).mono ?_
              rintro e v4 ⟨rfl, hb4⟩
              have HV4 := Lib.hid (below_step HV3.out hb4)
              clear hb4
              cases hT : tabB t with
              | false =>
                have hnv : NN = 190 := by rw [HNV.out, hT]; rfl
                subst hnv
                clear hT HNV
                dsimp only
                go_wp2_with fail
                go_meet
                exact ⟨rfl, rfl, HV4.out⟩
              | true =>
                have hnv : NN = 0 := by rw [HNV.out, hT]; rfl
                subst hnv
                clear hT HNV
                dsimp only
                go_wp2_with fail
                go_meet
                exact ⟨rfl, rfl, HV4.out⟩
        case rest =>
          obtain ⟨rfl, rfl, HC⟩ := hcut
          obtain ⟨w9, rfl⟩ : ∃ w9, w9 = wc := ⟨wc, rfl⟩
          have HB9 := Lib.hid (below_step HB7.out HC.out)
          clear HC
          go_upto_block 0 with fail
          go_cut [11] (fun s11 wx => s11 = .bool RB ∧ Hid (Below w9.heap.size w9 wx))
          case first =>
            as_aux_lemma =>
              go_wp2_with fail
              go_loopw [11, 13] (fun s11 s13 wr => ∃ (i : Nat) (U : Bool), s13 = .int .i64 i ∧ s11 = .bool U ∧ Hid (U = (decide (NN = 0) && (es.take i).all (tellB t)) ∧ i ≤ x.n ∧ Below w9.heap.size w9 wr)) (fun _ y _ => x.n - (intOf y).toNat)
              case atStart => exact ⟨0, _, rfl, rfl, by simp, Nat.zero_le _, Below.refl _ _⟩
              case round =>
                obtain ⟨i, U, rfl, rfl, HI⟩ := hrel
                have HBI := Lib.hid (below_step HB9.out HI.out.2.2)
                by_cases hlt : i < x.n
                · have hlt' : (i : Int) < x.n := by omega
                  by_cases hN0 : NN = 0
                  · subst hN0
                    have hask := ask_zero.1 HNN.out
                    have HTR := Lib.hid (tabB_to hask.2).2.2
                    obtain ⟨b, o, hA, hc⟩ := RS.at_ HE.out (by omega)
                    have HXA := Lib.hid hA
                    have HC := Lib.hid ((hc i hlt).below (Below.refl _ _))
                    have HFI := Lib.hid (RS.fits_at HE.out hlt)
                    have HIL : Hid (i < es.length) := Lib.hid (by rw [HE.out.len]; exact hlt)
                    have HEI := Lib.hid (OE.out.at_ HIL.out)
                    have HAS := Lib.hid (all_succ es (tellB t) HIL.out)
                    obtain ⟨ei, hei⟩ : ∃ ei, entAt es i = ei := ⟨_, rfl⟩
                    rw [hei] at HEI HAS
                    have HCE : Hid (CellsAt _ b (o + i * 37) (entC ei)) := Lib.hid (by have := HC.out; rwa [show entK.at_ es i = ei from hei] at this)
                    have HTO := Lib.hid (tells_okk OT1.out HEI.out)
                    clear hask hc hA hei HC HFI
                    go_upto_region 18 with (first | ((with_reducible show wpList _ _ _ (Oper.mk _ (Op.load _ _) _ _ _ _ :: _) _ _); refine wpList_load_g ((HP1.out.all _ HBI.out).ents) _ rfl rfl (by go_simp) ?_))
                    cases U with
                    | false =>
                      have HU : Hid (false = (decide ((0 : Int) = 0) && (es.take (i + 1)).all (tellB t))) := Lib.hid (by have := HI.out.1; rw [HAS.out, ← Bool.and_assoc, ← this]; rfl)
                      refine wp_region_mix (fun w0 => Below (wr).heap.size (wr) w0) [(0, 0), (1, 0), (2, 0), (3, 0), (4, 0), (5, 0), (6, 0), (7, 0), (8, 0), (9, 0), (10, 0), (11, 0), (12, 0), (13, 0), (14, 2), (15, 0), (16, 0), (17, 0)] (by kernel_rfl) (by kernel_rfl) (below_drew1 _) ?_
                      simp only [List.map_cons, List.map_nil]
                      repeat first | (refine wpO_step0 rfl rfl (fun K hK => ?_); go_simp; refine hK _ _ ?_; clear hK K) | (refine wpO_step2 rfl rfl ((below_drew1 _)) (fun K hK => ?_); go_simp; refine hK _ _ ⟨(below_drew1 _), ?_⟩; clear hK K)
                      refine wpO_nil ?_
                      go_wp2_with fail
                      go_roundw
                      case measure => simp [intOf]; omega
                      case rel => exact ⟨i + 1, false, by go_num, rfl, HU.out, by omega, below_step HI.out.2.2 (below_drew1 wr)⟩
                    | true =>
                      have HU : Hid (ei.eqB (tells t ei.v ei.l) = (decide ((0 : Int) = 0) && (es.take (i + 1)).all (tellB t))) := Lib.hid (by have := HI.out.1; rw [HAS.out, ← Bool.and_assoc, ← this]; rfl)
                      refine wp_region_mix (fun w0 => Below (wr).heap.size (wr) w0) [(0, 0), (1, 0), (2, 0), (3, 0), (4, 0), (5, 0), (6, 0), (7, 0), (8, 0), (9, 0), (10, 0), (11, 0), (12, 0), (13, 0), (14, 2), (15, 0), (16, 0), (17, 0)] (by kernel_rfl) (by kernel_rfl) (below_drew1 _) ?_
                      simp only [List.map_cons, List.map_nil]
                      iterate 3 (refine wpO_step0 rfl rfl (fun K hK => ?_); go_simp; refine hK _ _ ?_; clear hK K)
                      refine wpO_loadW (t := 23) (ad := ⟨w.heap.size, 2, none⟩) rfl rfl ?hw rfl rfl ((fun w0 hS => by have := (HP1.out.all w0 (below_step HBI.out hS)).ents; rwa [HXA.out] at this)) ?_
                      case hw => go_simp
                      iterate 2 (refine wpO_step0 rfl rfl (fun K hK => ?_); go_simp; refine hK _ _ ?_; clear hK K)
                      refine wpO_loadW (t := 43) (ad := ⟨b, (o+i*37), none⟩) rfl rfl ?hw rfl rfl ((fun w0 hS => (entLd_of HEI.out.fits (HCE.out.below (below_step HBI.out hS))).ent)) ?_
                      case hw => go_simp
                      refine wpO_loadW (t := 28) (ad := ⟨(w.heap.size+1+1), 0, none⟩) rfl rfl ?hw rfl rfl ((fun w0 hS => (HP3.out.all w0 (below_step HBI.out hS)).1)) ?_
                      case hw => go_simp
                      iterate 1 (refine wpO_step0 rfl rfl (fun K hK => ?_); go_simp; refine hK _ _ ?_; clear hK K)
                      refine wpO_loadW (t := 23) (ad := ⟨w.heap.size, 2, none⟩) rfl rfl ?hw rfl rfl ((fun w0 hS => by have := (HP1.out.all w0 (below_step HBI.out hS)).ents; rwa [HXA.out] at this)) ?_
                      case hw => go_simp
                      iterate 3 (refine wpO_step0 rfl rfl (fun K hK => ?_); go_simp; refine hK _ _ ?_; clear hK K)
                      refine wpO_loadW (t := 31) (ad := ⟨b, (o+i*37), none⟩) rfl rfl ?hw rfl rfl ((fun w0 hS => (entLd_of HEI.out.fits (HCE.out.below (below_step HBI.out hS))).adr)) ?_
                      case hw => go_simp
                      refine wpO_step2 rfl rfl (below_drew1 _) (fun K hK => ?_)
                      go_simp
                      refine (reftells_any A n c t ei.v ei.l _ (HT.out.below (below_step HBI.out (below_drew1 _))) OT1.out HTR.out HEI.out.l (by omega)).mono ?_
                      rintro e v2 ⟨rfl, hb2⟩
                      have HV2 := Lib.hid (below_step (below_drew1 wr) hb2)
                      clear hb2
                      refine hK _ _ ⟨HV2.out, ?_⟩
                      clear hK K
                      refine wpO_step0 rfl rfl (fun K hK => ?_)
                      rw [if_pos (show Region.wanted _ _ = true from rfl)]
                      refine ⟨_, fun w0 => ent_eql_exec rfl ei (tells t ei.v ei.l) rfl rfl HEI.out HTO.out w0, hK _ _ ?_⟩
                      clear hK K
                      iterate 2 (refine wpO_step0 rfl rfl (fun K hK => ?_); go_simp; refine hK _ _ ?_; clear hK K)
                      refine wpO_nil ?_
                      go_wp2_with fail
                      go_roundw
                      case measure => simp [intOf]; omega
                      case rel => exact ⟨i + 1, _, by go_num, rfl, HU.out, by omega, below_step HI.out.2.2 HV2.out⟩
                  · have hnb : (NN == 0) = false := by simpa using hN0
                    have HQ : Hid (U = RB) := Lib.hid (by rw [HI.out.1, ← HRB.out, rights_no (by rw [HNN.out]; exact hN0), decide_eq_false hN0]; rfl)
                    clear hN0
                    go_wp2_with (first | ((with_reducible show wpList _ _ _ (Oper.mk _ (Op.load _ _) _ _ _ _ :: _) _ _); refine wpList_load_g ((HP1.out.all _ HBI.out).ents) _ rfl rfl (by go_simp) ?_))
                    go_meet
                    exact ⟨by rw [HQ.out], HI.out.2.2⟩
                · have hlt' : decide (i < x.n) = false := decide_eq_false hlt
                  have HQ : Hid (U = RB) := Lib.hid (by
                    have hi : i = es.length := by have := HI.out.2.1; rw [HE.out.len]; omega
                    rw [HI.out.1, ← HRB.out, hi, List.take_length]
                    by_cases hN0 : NN = 0
                    · rw [rights_all (by rw [HNN.out]; exact hN0), decide_eq_true hN0]
                      rfl
                    · rw [rights_no (by rw [HNN.out]; exact hN0), decide_eq_false hN0]
                      rfl)
                  clear hlt
                  go_wp2_with (first | ((with_reducible show wpList _ _ _ (Oper.mk _ (Op.load _ _) _ _ _ _ :: _) _ _); refine wpList_load_g ((HP1.out.all _ HBI.out).ents) _ rfl rfl (by go_simp) ?_))
                  go_meet
                  exact ⟨by rw [HQ.out], HI.out.2.2⟩
          case rest =>
            obtain ⟨rfl, HC⟩ := hcut
            obtain ⟨w10, rfl⟩ : ∃ w10, w10 = wc := ⟨wc, rfl⟩
            have HB10 := Lib.hid (below_step HB9.out HC.out)
            clear HC
            have hrb : (RB != RB) = false := by simp
            go_upto_region 21 with fail
            refine wp_region_mix (fun w0 => Below (w10).heap.size (w10) w0) [(1, 0), (2, 0), (4, 0), (5, 0), (8, 0), (0, 2), (3, 2), (6, 2), (7, 0)] (by kernel_rfl) (by kernel_rfl) (below_drew1 _) ?_
            simp only [List.map_cons, List.map_nil]
            iterate 1 (refine wpO_step0 rfl rfl (fun K hK => ?_); go_simp; refine hK _ _ ?_; clear hK K)
            refine wpO_loadW (t := 23) (ad := ⟨w.heap.size, 2, none⟩) rfl rfl ?hw rfl rfl ((fun w0 hS => (HP1.out.all w0 (below_step HB10.out hS)).ents)) ?_
            case hw => go_simp
            iterate 1 (refine wpO_step0 rfl rfl (fun K hK => ?_); go_simp; refine hK _ _ ?_; clear hK K)
            refine wpO_loadW (t := 23) (ad := ⟨(w.heap.size+1), 2, none⟩) rfl rfl ?hw rfl rfl ((fun w0 hS => (HP2.out.all w0 (below_step HB10.out hS)).ents)) ?_
            case hw => go_simp
            iterate 1 (refine wpO_step0 rfl rfl (fun K hK => ?_); go_simp; refine hK _ _ ?_; clear hK K)
            refine wpO_step2 rfl rfl (below_drew1 _) (fun K hK => ?_)
            go_simp
            have HV1 := Lib.hid (below_step (below_drew1 w10) (below_alloc (Below.refl w10.drew.heap.size w10.drew) (.cells #[] 43)))
            refine hK _ _ ⟨HV1.out, ?_⟩
            clear hK K
            refine wpO_step2 rfl rfl (HV1.out) (fun K hK => ?_)
            rw [if_pos (show Region.wanted _ _ = true from rfl)]
            refine oper_append_shp (S := entK) (.tmp 114) (.tmp 116) rfl rfl rfl (OS.empty entK w10.drew w10.heap.size (Nat.le_refl _)) (HE.out.below (below_step HB10.out HV1.out)) (by simp) (by omega) ?_
            intro A11 c11 v11 h1 h2 h3
            rw [Nat.zero_add, List.nil_append] at h1
            rw [Nat.zero_add]
            have hb11 := below_own (w := w10) HV1.out h2 (fun ad h => by injection h with h; subst h; exact Nat.le_refl _)
            have HV2 := Lib.hid hb11
            have HO2 := Lib.hid h1
            clear h1 h2 h3 hb11
            refine hK _ _ ⟨HV2.out, ?_⟩
            clear hK K
            refine wpO_step2 rfl rfl (HV2.out) (fun K hK => ?_)
            rw [if_pos (show Region.wanted _ _ = true from rfl)]
            refine oper_append_shp (S := entK) (.tmp 117) (.tmp 119) rfl rfl rfl HO2.out (HF.out.below (below_step HB10.out HV2.out)) HV2.out.size (by omega) ?_
            intro A12 c12 w11 h1 h2 h3
            have hb12 := below_own HV2.out h2 HO2.out.base_
            have HV3 := Lib.hid hb12
            obtain ⟨M, hM⟩ : ∃ M, x.n + y.n = M := ⟨_, rfl⟩
            rw [hM] at h1 ⊢
            have HO3 := Lib.hid h1.reads
            have HM : Hid (M ≤ 200) := Lib.hid (by omega)
            obtain ⟨al, hal⟩ : ∃ al, es ++ fs = al := ⟨_, rfl⟩
            have HAO : Hid (Oke al) := Lib.hid (by
              rw [← hal]
              intro e he
              rcases List.mem_append.1 he with he | he
              · exact OE.out e he
              · exact OF.out e he)
            rw [hal] at HO3
            clear h1 h2 h3 hb12 hM hal HO2 HV1
            refine hK _ _ ⟨HV3.out, ?_⟩
            clear hK K
            iterate 1 (refine wpO_step0 rfl rfl (fun K hK => ?_); go_simp; refine hK _ _ ?_; clear hK K)
            refine wpO_nil ?_
            have HB11 := Lib.hid (below_step HB10.out HV3.out)
            clear HV2 HV3
            go_wp2_with fail
            go_loopw [122] (fun s122 wr => ∃ k : Nat, s122 = .int .i64 k ∧ Hid (k ≤ M ∧ Below w11.heap.size w11 wr)) (fun x _ => M - (intOf x).toNat)
            case atStart => exact ⟨0, rfl, Nat.zero_le _, Below.refl _ _⟩
            case round =>
              obtain ⟨k, rfl, HK⟩ := hrel
              obtain ⟨wk, rfl⟩ : ∃ wk, wk = wr := ⟨wr, rfl⟩
              have HBK := Lib.hid (below_step HB11.out HK.out.2)
              by_cases hkm : k < M
              · have hkm' : (k : Int) < M := by omega
                obtain ⟨b, o, rfl, hc⟩ := RS.at_ HO3.out (by omega)
                have hla := (entLd_of (RS.fits_at HO3.out hkm) ((hc k hkm).below HK.out.2)).ent
                have HEN := Lib.hid (HAO.out.at_ (i := k) (by rw [HO3.out.len]; exact hkm))
                obtain ⟨en, hen⟩ : ∃ en, entAt al k = en := ⟨_, rfl⟩
                have hla : (Instr.loadAt 43 (.pointer (some ⟨b, o + k * 37, none⟩))).run Tryd.prog wk = .ok (.agg (entV (entAt al k))) wk := hla
                rw [hen] at hla HEN
                clear hc hen
                go_upto_region 24 with (first | ((with_reducible show wpList _ _ _ (Oper.mk _ (Op.load _ _) _ _ _ _ :: _) _ _); refine wpList_load_g hla _ rfl rfl (by go_simp) ?_) | ((with_reducible show wpList _ _ _ (Oper.mk _ (Op.store _ _ _) _ _ _ _ :: _) _ _); refine wpList_store_blk (blk_new wk _) 43 0 (entV en) (store_ent_fit HEN.out.fits rfl) (info_ent HEN.out.fits) (entV_one _) _ _ rfl rfl rfl rfl ?_; intro w12 hg9 hs9 hb9; rw [splice_ent HEN.out.fits rfl] at hb9; have H12 := Lib.hid (And.intro hg9 hb9); clear hg9 hs9 hb9))
                have HBK12 := Lib.hid (below_grown (below_alloc (Below.refl wk.heap.size wk) (.cells (entV entZ) 43)) H12.out.1 (Nat.le_refl _))
                have HB12 := Lib.hid (below_step HBK.out HBK12.out)
                have HG12 := Lib.hid H12.out.2
                obtain ⟨g15, hg15⟩ : ∃ g, wk.heap.size = g := ⟨_, rfl⟩
                rw [hg15] at HG12 ⊢
                have HX12 := Lib.hid (ent_at HEN.out.fits HG12.out)
                obtain ⟨PE, hPE⟩ : ∃ PE, peekE x es en.v en.l = PE := ⟨_, rfl⟩
                obtain ⟨PB, hPB⟩ : ∃ PB, peekB x es en.v en.l = PB := ⟨_, rfl⟩
                have HPE := Lib.hid hPE
                have HPB := Lib.hid hPB
                have HPO : Hid PE.ok := Lib.hid (by
                  rw [← hPE]
                  cases hc : cacB x es with
                  | false =>
                    rw [(peek_no hc).2]
                    exact entZ_okk
                  | true =>
                    rw [(peek_first hc).2]
                    exact first_ok OE.out _ _ _)
                clear hla H12 hPE hPB hg15
                dsimp only [Act.put]
                go_cut [16, 17] (fun s16 s17 wx => ∃ g : Nat, s16 = .pointer (some ⟨g, 0, none⟩) ∧ s17 = .bool PB ∧ Hid (wx.heap[g]? = some (.cells (entV PE) 43 (0, 0)) ∧ Below w12.heap.size w12 wx))
                case first =>
                  as_aux_lemma =>
                    have HBB := HB12
                    have HBD := Lib.hid (below_drew1 w12)
                    refine wp_region_fork ((fun w0 => Below w12.heap.size w12 w0)) (OrdT.fork [0, 2, 3] 1 8 (OrdT.fork [] 4 8 (OrdT.lin [5, 6, 7, 8, 9, 10]) (OrdT.lin [4, 5, 6, 7, 9, 10])) (OrdT.lin [1, 4, 5, 6, 7, 9, 10])) [(0, 0), (1, 2), (2, 0), (3, 0), (4, 2), (5, 0), (6, 0), (7, 0), (8, 2), (9, 2), (10, 0)] (by kernel_rfl) (by kernel_rfl) ((below_drew1 _)) ?_
                    simp only [wpF]
                    refine wpO_loadW (t := 25) (ad := ⟨w.heap.size, 0, none⟩) rfl rfl ?hw rfl rfl ((fun w0 hS => (HP1.out.all w0 (below_step HB12.out hS)).cac)) ?_
                    case hw => go_simp
                    iterate 1 (refine wpO_step0 rfl rfl (fun K hK => ?_); go_simp; refine hK _ _ ?_; clear hK K)
                    refine wpO_loadW (t := 31) (ad := ⟨g15, 0, none⟩) rfl rfl ?hw rfl rfl ((fun w0 hS => (HX12.out.all w0 hS).adr)) ?_
                    case hw => go_simp
                    refine wpO_nil ⟨?_, ?_⟩
                    · refine wpO_step2 rfl rfl (HBD.out) (fun K hK => ?_)
                      go_simp
                      refine (copiedC_any x es _ (HE.out.below (below_step HBB.out HBD.out)) (by omega)).mono ?_
                      rintro e w2 ⟨Ac, cc, rfl, hO9, hb9⟩
                      have HBC := Lib.hid (below_step HBD.out hb9)
                      have HCP := Lib.hid hO9.reads
                      try replace HZ9 := Lib.hid (blk_below HZ9.out hb9)
                      clear hO9 hb9
                      refine hK _ _ ⟨HBC.out, ?_⟩
                      clear hK K
                      refine wpO_nil (wpO_nil ⟨?_, ?_⟩)
                      · refine wpO_step2 rfl rfl (HBC.out) (fun K hK => ?_)
                        go_simp
                        refine (cpeek_any ⟨x.room, x.ver, Ac, x.n, cc, x.hits, x.misses⟩ es en.v en.l w2 (HL.out.below (below_step HBB.out HBC.out)) HCP.out OE.out (by show x.n ≤ _; omega) HEN.out.l HEN.out.v).mono ?_
                        rw [show peekE ⟨x.room, x.ver, Ac, x.n, cc, x.hits, x.misses⟩ es en.v en.l = PE from HPE.out, show peekB ⟨x.room, x.ver, Ac, x.n, cc, x.hits, x.misses⟩ es en.v en.l = PB from HPB.out]
                        rintro e w3 ⟨rfl, hb9⟩
                        have HBK := Lib.hid (below_step HBC.out hb9)
                        try replace HZ9 := Lib.hid (blk_below HZ9.out hb9)
                        clear hb9
                        refine hK _ _ ⟨HBK.out, ?_⟩
                        clear hK K
                        refine wpO_nil ?_
                        iterate 3 (refine wpO_step0 rfl rfl (fun K hK => ?_); go_simp; refine hK _ _ ?_; clear hK K)
                        refine wpO_step2 rfl rfl (HBK.out) (fun K hK => ?_)
                        go_simp
                        have hz9 := blk_new w3 (.cells (entV entZ) 43)
                        obtain ⟨w4, hw9⟩ : ∃ w9, World.alloc w3 (.cells (entV entZ) 43) = w9 := ⟨_, rfl⟩
                        have ha9 : Below (World.heap w3).size w3 w4 := hw9 ▸ below_alloc (Below.refl _ _) _
                        have HBL := Lib.hid (below_step HBK.out ha9)
                        refine kw_cast hw9 ?_
                        rw [hw9] at hz9
                        have hzl9 := blk_lt hz9
                        have HZ9 := Lib.hid hz9
                        try replace HCP := Lib.hid (HCP.out.below ha9)
                        clear hw9 hz9 ha9
                        refine hK _ _ ⟨HBL.out, ?_⟩
                        clear hK K
                        refine wpO_step2 rfl rfl (HBL.out) (fun K hK => ?_)
                        rw [if_pos (show Region.wanted _ _ = true from rfl)]
                        refine oper_store_blk HZ9.out 43 0 (entV PE) (store_ent_fit HPO.out.fits rfl) (info_ent HPO.out.fits) (entV_one _) _ _ rfl rfl rfl ?_
                        intro w5 hg9 hs9 hb9
                        rw [splice_ent HPO.out.fits rfl] at hb9
                        have HBM := Lib.hid (below_grown HBL.out hg9 (by have h2 := HBC.out.size; have h3 := HBK.out.size; omega))
                        replace HZ9 := Lib.hid hb9
                        clear hg9 hs9 hb9
                        refine hK _ _ ⟨HBM.out, ?_⟩
                        clear hK K
                        iterate 1 (refine wpO_step0 rfl rfl (fun K hK => ?_); go_simp; refine hK _ _ ?_; clear hK K)
                        refine wpO_nil ?_
                        go_wp2_with fail
                        go_meet
                        exact ⟨w3.heap.size, rfl, rfl, HZ9.out, HBM.out⟩
                      · refine wpO_step2 rfl rfl (HBC.out) (fun K hK => ?_)
                        go_simp
                        have hz9 := blk_new w2 (.cells (entV entZ) 43)
                        obtain ⟨w3, hw9⟩ : ∃ w9, World.alloc w2 (.cells (entV entZ) 43) = w9 := ⟨_, rfl⟩
                        have ha9 : Below (World.heap w2).size w2 w3 := hw9 ▸ below_alloc (Below.refl _ _) _
                        have HBK := Lib.hid (below_step HBC.out ha9)
                        refine kw_cast hw9 ?_
                        rw [hw9] at hz9
                        have hzl9 := blk_lt hz9
                        have HZ9 := Lib.hid hz9
                        try replace HCP := Lib.hid (HCP.out.below ha9)
                        clear hw9 hz9 ha9
                        refine hK _ _ ⟨HBK.out, ?_⟩
                        clear hK K
                        refine wpO_nil ?_
                        refine wpO_step2 rfl rfl (HBK.out) (fun K hK => ?_)
                        go_simp
                        refine (cpeek_any ⟨x.room, x.ver, Ac, x.n, cc, x.hits, x.misses⟩ es en.v en.l w3 (HL.out.below (below_step HBB.out HBK.out)) HCP.out OE.out (by show x.n ≤ _; omega) HEN.out.l HEN.out.v).mono ?_
                        rw [show peekE ⟨x.room, x.ver, Ac, x.n, cc, x.hits, x.misses⟩ es en.v en.l = PE from HPE.out, show peekB ⟨x.room, x.ver, Ac, x.n, cc, x.hits, x.misses⟩ es en.v en.l = PB from HPB.out]
                        rintro e w4 ⟨rfl, hb9⟩
                        have HBL := Lib.hid (below_step HBK.out hb9)
                        try replace HZ9 := Lib.hid (blk_below HZ9.out hb9)
                        clear hb9
                        refine hK _ _ ⟨HBL.out, ?_⟩
                        clear hK K
                        iterate 3 (refine wpO_step0 rfl rfl (fun K hK => ?_); go_simp; refine hK _ _ ?_; clear hK K)
                        refine wpO_step2 rfl rfl (HBL.out) (fun K hK => ?_)
                        rw [if_pos (show Region.wanted _ _ = true from rfl)]
                        refine oper_store_blk HZ9.out 43 0 (entV PE) (store_ent_fit HPO.out.fits rfl) (info_ent HPO.out.fits) (entV_one _) _ _ rfl rfl rfl ?_
                        intro w5 hg9 hs9 hb9
                        rw [splice_ent HPO.out.fits rfl] at hb9
                        have HBM := Lib.hid (below_grown HBL.out hg9 (by have h2 := HBC.out.size; have h3 := HBK.out.size; omega))
                        replace HZ9 := Lib.hid hb9
                        clear hg9 hs9 hb9
                        refine hK _ _ ⟨HBM.out, ?_⟩
                        clear hK K
                        iterate 1 (refine wpO_step0 rfl rfl (fun K hK => ?_); go_simp; refine hK _ _ ?_; clear hK K)
                        refine wpO_nil ?_
                        go_wp2_with fail
                        go_meet
                        exact ⟨w2.heap.size, rfl, rfl, HZ9.out, HBM.out⟩
                    · refine wpO_step2 rfl rfl (HBD.out) (fun K hK => ?_)
                      go_simp
                      have hz9 := blk_new w12 (.cells (entV entZ) 43)
                      obtain ⟨w2, hw9⟩ : ∃ w9, (World.alloc w12 (.cells (entV entZ) 43)).drew = w9 := ⟨_, rfl⟩
                      have ha9 : Below (World.heap w12).size w12 w2 := hw9 ▸ below_step (below_alloc (Below.refl _ _) _) (below_drew1 _)
                      have HBC := Lib.hid ha9
                      refine kw_cast hw9 ?_
                      replace hz9 : (World.heap w2)[(World.heap w12).size]? = some (.cells (entV entZ) 43 (0, 0)) := by rw [← hw9]; exact hz9
                      have hzl9 := blk_lt hz9
                      have HZ9 := Lib.hid hz9
                      clear hw9 hz9 ha9
                      refine hK _ _ ⟨HBC.out, ?_⟩
                      clear hK K
                      refine wpO_nil ?_
                      refine wpO_step2 rfl rfl (HBC.out) (fun K hK => ?_)
                      go_simp
                      refine (copiedC_any x es _ (HE.out.below (below_step HBB.out HBC.out)) (by omega)).mono ?_
                      rintro e w3 ⟨Ac, cc, rfl, hO9, hb9⟩
                      have HBK := Lib.hid (below_step HBC.out hb9)
                      have HCP := Lib.hid hO9.reads
                      try replace HZ9 := Lib.hid (blk_below HZ9.out hb9)
                      clear hO9 hb9
                      refine hK _ _ ⟨HBK.out, ?_⟩
                      clear hK K
                      refine wpO_step2 rfl rfl (HBK.out) (fun K hK => ?_)
                      go_simp
                      refine (cpeek_any ⟨x.room, x.ver, Ac, x.n, cc, x.hits, x.misses⟩ es en.v en.l w3 (HL.out.below (below_step HBB.out HBK.out)) HCP.out OE.out (by show x.n ≤ _; omega) HEN.out.l HEN.out.v).mono ?_
                      rw [show peekE ⟨x.room, x.ver, Ac, x.n, cc, x.hits, x.misses⟩ es en.v en.l = PE from HPE.out, show peekB ⟨x.room, x.ver, Ac, x.n, cc, x.hits, x.misses⟩ es en.v en.l = PB from HPB.out]
                      rintro e w4 ⟨rfl, hb9⟩
                      have HBL := Lib.hid (below_step HBK.out hb9)
                      try replace HZ9 := Lib.hid (blk_below HZ9.out hb9)
                      clear hb9
                      refine hK _ _ ⟨HBL.out, ?_⟩
                      clear hK K
                      iterate 3 (refine wpO_step0 rfl rfl (fun K hK => ?_); go_simp; refine hK _ _ ?_; clear hK K)
                      refine wpO_step2 rfl rfl (HBL.out) (fun K hK => ?_)
                      rw [if_pos (show Region.wanted _ _ = true from rfl)]
                      refine oper_store_blk HZ9.out 43 0 (entV PE) (store_ent_fit HPO.out.fits rfl) (info_ent HPO.out.fits) (entV_one _) _ _ rfl rfl rfl ?_
                      intro w5 hg9 hs9 hb9
                      rw [splice_ent HPO.out.fits rfl] at hb9
                      have HBM := Lib.hid (below_grown HBL.out hg9 (by have h2 := HBC.out.size; have h3 := HBK.out.size; omega))
                      replace HZ9 := Lib.hid hb9
                      clear hg9 hs9 hb9
                      refine hK _ _ ⟨HBM.out, ?_⟩
                      clear hK K
                      iterate 1 (refine wpO_step0 rfl rfl (fun K hK => ?_); go_simp; refine hK _ _ ?_; clear hK K)
                      refine wpO_nil ?_
                      go_wp2_with fail
                      go_meet
                      exact ⟨w12.heap.size, rfl, rfl, HZ9.out, HBM.out⟩
                case rest =>
                  obtain ⟨g16, rfl, rfl, HC⟩ := hcut
                  obtain ⟨w13, rfl⟩ : ∃ w13, w13 = wc := ⟨wc, rfl⟩
                  have HB13 := Lib.hid (below_step HB12.out HC.out.2)
                  have HBK13 := Lib.hid (below_step HBK12.out HC.out.2)
                  have HG13 := Lib.hid (blk_below HG12.out HC.out.2)
                  have HP13 := Lib.hid HC.out.1
                  have HB14f := Lib.hid (fun (W : World) (h : (w13.alloc (.cells (entV entZ) 43)).grownBy W (some w13.heap.size)) => below_grown (below_alloc (Below.refl w13.heap.size w13) (.cells (entV entZ) 43)) h (Nat.le_refl _))
                  clear HC HG12 HX12 HBK12
                  go_wp2_with (first | ((with_reducible show wpList _ _ _ (Oper.mk _ (Op.build _ _) _ _ _ _ :: _) _ _); refine wpList_exw rfl (exec_build 43 #[] rfl #[] rfl ((run_build_ent_nil _))) ?_) | ((with_reducible show wpList _ _ _ (Oper.mk _ (Op.store _ _ _) _ _ _ _ :: _) _ _); refine wpList_store_blk (blk_new w13 (.cells (entV entZ) 43)) 43 0 (entV entZ) (store_ent_fit entZ_fits rfl) (info_ent entZ_fits) (entV_one _) _ _ rfl rfl rfl rfl ?_; intro w14 hg9 hs9 hb9; rw [splice_ent entZ_fits rfl] at hb9; have H14 := Lib.hid (And.intro hg9 hb9); clear hg9 hs9 hb9) | ((with_reducible show wpList _ _ _ (Oper.mk _ (Op.load _ _) _ _ _ _ :: _) _ _); refine wpList_load_g ((HP1.out.all _ (below_step HB13.out (HB14f.out _ H14.out.1))).ents) _ rfl rfl (by go_simp) ?_))
                  have HB14 := Lib.hid (HB14f.out _ H14.out.1)
                  have HZ14 := Lib.hid H14.out.2
                  obtain ⟨g18, hg18⟩ : ∃ g, w13.heap.size = g := ⟨_, rfl⟩
                  have HG18 := Lib.hid (show w13.heap.size ≤ g18 by omega)
                  rw [hg18] at HZ14 ⊢
                  clear H14 HB14f hg18
                  go_loopw [19, 20] (fun s19 s20 wr => ∃ (j : Nat) (q : Int), s20 = .int .i64 q ∧ s19 = .bool (firstE es en.v en.l j).isSome ∧ Hid (q + 1 = j ∧ j ≤ x.n ∧ (R = false → j = x.n) ∧ wr.heap[g18]? = some (.cells (entV ((firstE es en.v en.l j).getD entZ)) 43 (0, 0)) ∧ Below w13.heap.size w13 wr)) (fun _ y _ => (intOf y + 1).toNat)
                  case atStart =>
                    have hfe : firstE es en.v en.l x.n = none := by rw [← HE.out.len]; exact first_end _ _ _
                    exact ⟨x.n, (x.n : Int) - 1, by go_num, by rw [hfe]; rfl, by omega, Nat.le_refl _, fun _ => rfl, by rw [hfe]; exact HZ14.out, HB14.out⟩
                  case round =>
                    obtain ⟨j, q, rfl, rfl, HJ⟩ := hrel
                    obtain ⟨wj, rfl⟩ : ∃ wj, wj = wr := ⟨wr, rfl⟩
                    have HBJ := Lib.hid (below_step HB13.out HJ.out.2.2.2.2)
                    by_cases hq : 0 ≤ q
                    · obtain ⟨i, rfl⟩ : ∃ i : Nat, q = i := ⟨q.toNat, by omega⟩
                      obtain rfl : j = i + 1 := by have := HJ.out.1; omega
                      have hin : i < x.n := by have := HJ.out.2.1; omega
                      have hin' : (i : Int) < x.n := by omega
                      clear hq
                      cases R with
                      | false =>
                        have HPQ := Lib.hid (peek_loop (v := en.v) (l := en.l) HR.out HE.out.len (.inl ⟨rfl, HJ.out.2.2.1 rfl⟩))
                        have HQB : Hid ((firstE es en.v en.l (i + 1)).isSome = PB) := Lib.hid (by rw [HPQ.out.1, HPB.out])
                        have HQ16 := Lib.hid ((ent_at HPO.out.fits (blk_below HP13.out HJ.out.2.2.2.2)).all _ (Below.refl _ _)).ent
                        have HQ18 : Hid ((Instr.loadAt 43 (.pointer (some ⟨g18, 0, none⟩))).run Tryd.prog wj = .ok (.agg (entV PE)) wj) := Lib.hid (by
                          have h := HJ.out.2.2.2.1
                          rw [HPQ.out.2, HPE.out] at h
                          exact ((ent_at HPO.out.fits h).all _ (Below.refl _ _)).ent)
                        rw [HQB.out]
                        have hpbb : (PB != PB) = false := by simp
                        have hm200 := HM.out
                        go_wp2_with (first | ((with_reducible show wpList _ _ _ (Oper.mk _ (Op.load _ _) _ _ _ _ :: _) _ _); refine wpList_load_g (HQ16.out) _ rfl rfl (by go_simp) ?_) | ((with_reducible show wpList _ _ _ (Oper.mk _ (Op.load _ _) _ _ _ _ :: _) _ _); refine wpList_load_g (HQ18.out) _ rfl rfl (by go_simp) ?_) | ((with_reducible show wpList _ _ _ (Oper.mk _ (Op.binOp _ _ _ _ _) _ _ _ _ :: _) _ _); refine wpList_exw rfl (ent_self_nexec rfl PE rfl rfl HPO.out _) ?_))
                        go_roundw
                        case measure => simp [intOf]; omega
                        case rel => exact ⟨k + 1, by go_num, by omega, below_step HK.out.2 (below_step HBK13.out HJ.out.2.2.2.2)⟩
                      | true =>
                        obtain ⟨b2, o2, hA, hc⟩ := RS.at_ HE.out (by omega)
                        have HXA := Lib.hid hA
                        have HC := Lib.hid ((hc i hin).below (Below.refl _ _))
                        have HIL : Hid (i < es.length) := Lib.hid (by rw [HE.out.len]; exact hin)
                        have HEI := Lib.hid (OE.out.at_ HIL.out)
                        have HFS := Lib.hid (first_step (v := en.v) (l := en.l) HIL.out)
                        obtain ⟨ei, hei⟩ : ∃ ei, entAt es i = ei := ⟨_, rfl⟩
                        rw [hei] at HEI HFS
                        have HCE : Hid (CellsAt _ b2 (o2 + i * 37) (entC ei)) := Lib.hid (by have := HC.out; rwa [show entK.at_ es i = ei from hei] at this)
                        clear hc hA hei HC
                        go_upto_region 29 with fail
                        refine wp_region_mix (fun w0 => Below (wj).heap.size (wj) w0) [(0, 0), (1, 0), (2, 0), (3, 0), (4, 0), (5, 0), (6, 0), (7, 0), (8, 0)] (by kernel_rfl) (by kernel_rfl) (below_drew1 _) ?_
                        simp only [List.map_cons, List.map_nil]
                        iterate 1 (refine wpO_step0 rfl rfl (fun K hK => ?_); go_simp; refine hK _ _ ?_; clear hK K)
                        refine wpO_loadW (t := 23) (ad := ⟨w.heap.size, 2, none⟩) rfl rfl ?hw rfl rfl ((fun w0 hS => by have := (HP1.out.all w0 (below_step HBJ.out hS)).ents; rwa [HXA.out] at this)) ?_
                        case hw => go_simp
                        iterate 3 (refine wpO_step0 rfl rfl (fun K hK => ?_); go_simp; refine hK _ _ ?_; clear hK K)
                        refine wpO_loadW (t := 31) (ad := ⟨b2, (o2+i*37), none⟩) rfl rfl ?hw rfl rfl ((fun w0 hS => (entLd_of HEI.out.fits (HCE.out.below (below_step HBJ.out hS))).adr)) ?_
                        case hw => go_simp
                        iterate 1 (refine wpO_step0 rfl rfl (fun K hK => ?_); go_simp; refine hK _ _ ?_; clear hK K)
                        refine wpO_loadW (t := 31) (ad := ⟨g15, 0, none⟩) rfl rfl ?hw rfl rfl ((fun w0 hS => ((ent_at HEN.out.fits (blk_below HG13.out (below_step HJ.out.2.2.2.2 hS))).all _ (Below.refl _ _)).adr)) ?_
                        case hw => go_simp
                        refine wpO_step0 rfl rfl (fun K hK => ?_)
                        rw [if_pos (show Region.wanted _ _ = true from rfl)]
                        refine ⟨_, fun w0 => sA_exec rfl ei.v ei.l en.v en.l rfl rfl HEI.out.l HEN.out.l HEI.out.v HEN.out.v w0, hK _ _ ?_⟩
                        clear hK K
                        refine wpO_nil ?_
                        cases hs : sA ei.v ei.l en.v en.l with
                        | true =>
                          have hf2 : firstE es en.v en.l i = some ei := by rw [HFS.out, if_pos hs]
                          have HF2 := Lib.hid hf2
                          have hok := first_ok OE.out en.v en.l (i + 1)
                          have HOK := Lib.hid hok.fits
                          have hl4 : (Instr.loadAt 23 (.pointer (some ⟨w.heap.size, 2, none⟩))).run Tryd.prog wj.drew = .ok (.slice (some ⟨b2, o2, none⟩) x.n x.c) wj.drew := by have := (HP1.out.all wj.drew (below_step HBJ.out (below_drew1 wj))).ents; rwa [HXA.out] at this
                          have hent := (entLd_of HEI.out.fits (HCE.out.below (below_step HBJ.out (below_drew1 wj)))).ent
                          clear hs hf2 hok
                          go_wp2_with (first | ((with_reducible show wpList _ _ _ (Oper.mk _ (Op.load _ _) _ _ _ _ :: _) _ _); refine wpList_load_g hl4 _ rfl rfl (by go_simp) ?_) | ((with_reducible show wpList _ _ _ (Oper.mk _ (Op.load _ _) _ _ _ _ :: _) _ _); refine wpList_load_g hent _ rfl rfl (by go_simp) ?_) | ((with_reducible show wpList _ _ _ (Oper.mk _ (Op.store _ _ _) _ _ _ _ :: _) _ _); refine wpList_store_blk (blk_below HJ.out.2.2.2.1 (below_drew1 wj)) 43 0 (entV ei) (store_ent_fit HEI.out.fits (entV_size HOK.out)) (info_ent HEI.out.fits) (entV_one _) _ _ rfl rfl rfl rfl ?_; intro w15 hg9 hs9 hb9; rw [splice_ent HEI.out.fits (entV_size HOK.out)] at hb9; have H15 := Lib.hid (And.intro hg9 hb9); clear hg9 hs9 hb9))
                          go_roundw
                          case measure => simp [intOf]
                          case rel => exact ⟨i, (i : Int) - 1, by go_num, by rw [HF2.out]; rfl, by omega, by omega, (fun h => by cases h), by rw [HF2.out]; exact H15.out.2, below_grown (below_step HJ.out.2.2.2.2 (below_drew1 wj)) H15.out.1 HG18.out⟩
                        | false =>
                          have hf2 : firstE es en.v en.l i = firstE es en.v en.l (i + 1) := by rw [HFS.out, if_neg (by rw [hs]; decide)]
                          have HF2 := Lib.hid hf2
                          clear hs hf2
                          go_wp2_with fail
                          go_roundw
                          case measure => simp [intOf]
                          case rel => exact ⟨i, (i : Int) - 1, by go_num, by rw [HF2.out], by omega, by omega, (fun h => by cases h), by rw [HF2.out]; exact blk_below HJ.out.2.2.2.1 (below_drew1 wj), below_step HJ.out.2.2.2.2 (below_drew1 wj)⟩
                    · have hqb : decide (0 ≤ q) = false := decide_eq_false hq
                      obtain rfl : j = 0 := by have := HJ.out.1; omega
                      have HPQ := Lib.hid (peek_loop (v := en.v) (l := en.l) (R := R) (j := 0) HR.out HE.out.len (by
                        cases R with
                        | false => exact .inl ⟨rfl, HJ.out.2.2.1 rfl⟩
                        | true => exact .inr ⟨rfl, rfl⟩))
                      have HQB : Hid ((firstE es en.v en.l 0).isSome = PB) := Lib.hid (by rw [HPQ.out.1, HPB.out])
                      have HQ16 := Lib.hid ((ent_at HPO.out.fits (blk_below HP13.out HJ.out.2.2.2.2)).all _ (Below.refl _ _)).ent
                      have HQ18 : Hid ((Instr.loadAt 43 (.pointer (some ⟨g18, 0, none⟩))).run Tryd.prog wj = .ok (.agg (entV PE)) wj) := Lib.hid (by
                        have h := HJ.out.2.2.2.1
                        rw [HPQ.out.2, HPE.out] at h
                        exact ((ent_at HPO.out.fits h).all _ (Below.refl _ _)).ent)
                      rw [HQB.out]
                      have hpbb : (PB != PB) = false := by simp
                      have hm200 := HM.out
                      go_wp2_with (first | ((with_reducible show wpList _ _ _ (Oper.mk _ (Op.load _ _) _ _ _ _ :: _) _ _); refine wpList_load_g (HQ16.out) _ rfl rfl (by go_simp) ?_) | ((with_reducible show wpList _ _ _ (Oper.mk _ (Op.load _ _) _ _ _ _ :: _) _ _); refine wpList_load_g (HQ18.out) _ rfl rfl (by go_simp) ?_) | ((with_reducible show wpList _ _ _ (Oper.mk _ (Op.binOp _ _ _ _ _) _ _ _ _ :: _) _ _); refine wpList_exw rfl (ent_self_nexec rfl PE rfl rfl HPO.out _) ?_))
                      go_roundw
                      case measure => simp [intOf]; omega
                      case rel => exact ⟨k + 1, by go_num, by omega, below_step HK.out.2 (below_step HBK13.out HJ.out.2.2.2.2)⟩
              · have hkm' : decide (k < M) = false := decide_eq_false hkm
                have HBQ := HBK
                go_upto_region 34 with fail
                obtain ⟨CN, hCN⟩ : ∃ CN, clearN x es y.ver = CN := ⟨_, rfl⟩
                have HCN := Lib.hid hCN
                clear hCN
                go_cut [21, 22] (fun s21 s22 wx => ∃ (g : Nat) (z : Cac), s21 = .pointer (some ⟨g, 0, none⟩) ∧ s22 = .int .i64 CN ∧ Hid (wx.heap[g]? = some (.cells z.vv 25 (0, 0)) ∧ z.n = 0 ∧ (CN = 0 → z.room = x.room ∧ z.ver = y.ver ∧ z.hits = x.hits ∧ z.misses = x.misses) ∧ Below wk.heap.size wk wx))
                case first =>
                  as_aux_lemma =>
                    have HBB := HBQ
                    have HBD := Lib.hid (below_drew1 wk)
                    refine wp_region_fork ((fun w0 => Below wk.heap.size wk w0)) (OrdT.fork [0, 2, 3] 1 8 (OrdT.fork [] 4 8 (OrdT.lin [5, 6, 7, 8, 9, 10]) (OrdT.lin [4, 5, 6, 7, 9, 10])) (OrdT.lin [1, 4, 5, 6, 7, 9, 10])) [(0, 0), (1, 2), (2, 0), (3, 0), (4, 2), (5, 0), (6, 0), (7, 0), (8, 2), (9, 2), (10, 0)] (by kernel_rfl) (by kernel_rfl) ((below_drew1 _)) ?_
                    simp only [wpF]
                    refine wpO_loadW (t := 25) (ad := ⟨w.heap.size, 0, none⟩) rfl rfl ?hw rfl rfl ((fun w0 hS => (HP1.out.all w0 (below_step HBQ.out hS)).cac)) ?_
                    case hw => go_simp
                    iterate 1 (refine wpO_step0 rfl rfl (fun K hK => ?_); go_simp; refine hK _ _ ?_; clear hK K)
                    refine wpO_loadW (t := 22) (ad := ⟨(w.heap.size+1), 1, none⟩) rfl rfl ?hw rfl rfl ((fun w0 hS => (HP2.out.all w0 (below_step HBQ.out hS)).ver)) ?_
                    case hw => go_simp
                    refine wpO_nil ⟨?_, ?_⟩
                    · refine wpO_step2 rfl rfl (HBD.out) (fun K hK => ?_)
                      go_simp
                      refine (copiedC_any x es _ (HE.out.below (below_step HBB.out HBD.out)) (by omega)).mono ?_
                      rintro e w2 ⟨Ac, cc, rfl, hO9, hb9⟩
                      have HBC := Lib.hid (below_step HBD.out hb9)
                      have HCP := Lib.hid hO9.reads
                      try replace HZ9 := Lib.hid (blk_below HZ9.out hb9)
                      clear hO9 hb9
                      refine hK _ _ ⟨HBC.out, ?_⟩
                      clear hK K
                      refine wpO_nil (wpO_nil ⟨?_, ?_⟩)
                      · refine wpO_step2 rfl rfl (HBC.out) (fun K hK => ?_)
                        go_simp
                        refine (cclear_any ⟨x.room, x.ver, Ac, x.n, cc, x.hits, x.misses⟩ es y.ver w2 (HL.out.below (below_step HBB.out HBC.out)) HCP.out OE.out (by show x.n ≤ _; omega)).mono ?_
                        rw [show clearN ⟨x.room, x.ver, Ac, x.n, cc, x.hits, x.misses⟩ es y.ver = CN from HCN.out]
                        rintro e w3 ⟨z, rfl, hz1, hz2, hb9⟩
                        have HBK := Lib.hid (below_step HBC.out hb9)
                        have HZN := Lib.hid (And.intro hz1 hz2)
                        try replace HZ9 := Lib.hid (blk_below HZ9.out hb9)
                        clear hz1 hz2 hb9
                        refine hK _ _ ⟨HBK.out, ?_⟩
                        clear hK K
                        refine wpO_nil ?_
                        iterate 3 (refine wpO_step0 rfl rfl (fun K hK => ?_); go_simp; refine hK _ _ ?_; clear hK K)
                        refine wpO_step2 rfl rfl (HBK.out) (fun K hK => ?_)
                        go_simp
                        have hz9 := blk_new w3 (.cells (Cac.vv cacZ) 25)
                        obtain ⟨w4, hw9⟩ : ∃ w9, World.alloc w3 (.cells (Cac.vv cacZ) 25) = w9 := ⟨_, rfl⟩
                        have ha9 : Below (World.heap w3).size w3 w4 := hw9 ▸ below_alloc (Below.refl _ _) _
                        have HBL := Lib.hid (below_step HBK.out ha9)
                        refine kw_cast hw9 ?_
                        rw [hw9] at hz9
                        have hzl9 := blk_lt hz9
                        have HZ9 := Lib.hid hz9
                        try replace HCP := Lib.hid (HCP.out.below ha9)
                        clear hw9 hz9 ha9
                        refine hK _ _ ⟨HBL.out, ?_⟩
                        clear hK K
                        refine wpO_step2 rfl rfl (HBL.out) (fun K hK => ?_)
                        rw [if_pos (show Region.wanted _ _ = true from rfl)]
                        refine oper_store_blk HZ9.out 25 0 z.vv (Nat.le_refl _) (info_cac _) (cac_one _) _ _ rfl rfl rfl ?_
                        intro w5 hg9 hs9 hb9
                        rw [splice_cac] at hb9
                        have HBM := Lib.hid (below_grown HBL.out hg9 (by have h2 := HBC.out.size; have h3 := HBK.out.size; omega))
                        replace HZ9 := Lib.hid hb9
                        clear hg9 hs9 hb9
                        refine hK _ _ ⟨HBM.out, ?_⟩
                        clear hK K
                        iterate 1 (refine wpO_step0 rfl rfl (fun K hK => ?_); go_simp; refine hK _ _ ?_; clear hK K)
                        refine wpO_nil ?_
                        go_wp2_with fail
                        go_meet
                        exact ⟨w3.heap.size, z, rfl, rfl, HZ9.out, HZN.out.1, HZN.out.2, HBM.out⟩
                      · refine wpO_step2 rfl rfl (HBC.out) (fun K hK => ?_)
                        go_simp
                        have hz9 := blk_new w2 (.cells (Cac.vv cacZ) 25)
                        obtain ⟨w3, hw9⟩ : ∃ w9, World.alloc w2 (.cells (Cac.vv cacZ) 25) = w9 := ⟨_, rfl⟩
                        have ha9 : Below (World.heap w2).size w2 w3 := hw9 ▸ below_alloc (Below.refl _ _) _
                        have HBK := Lib.hid (below_step HBC.out ha9)
                        refine kw_cast hw9 ?_
                        rw [hw9] at hz9
                        have hzl9 := blk_lt hz9
                        have HZ9 := Lib.hid hz9
                        try replace HCP := Lib.hid (HCP.out.below ha9)
                        clear hw9 hz9 ha9
                        refine hK _ _ ⟨HBK.out, ?_⟩
                        clear hK K
                        refine wpO_nil ?_
                        refine wpO_step2 rfl rfl (HBK.out) (fun K hK => ?_)
                        go_simp
                        refine (cclear_any ⟨x.room, x.ver, Ac, x.n, cc, x.hits, x.misses⟩ es y.ver w3 (HL.out.below (below_step HBB.out HBK.out)) HCP.out OE.out (by show x.n ≤ _; omega)).mono ?_
                        rw [show clearN ⟨x.room, x.ver, Ac, x.n, cc, x.hits, x.misses⟩ es y.ver = CN from HCN.out]
                        rintro e w4 ⟨z, rfl, hz1, hz2, hb9⟩
                        have HBL := Lib.hid (below_step HBK.out hb9)
                        have HZN := Lib.hid (And.intro hz1 hz2)
                        try replace HZ9 := Lib.hid (blk_below HZ9.out hb9)
                        clear hz1 hz2 hb9
                        refine hK _ _ ⟨HBL.out, ?_⟩
                        clear hK K
                        iterate 3 (refine wpO_step0 rfl rfl (fun K hK => ?_); go_simp; refine hK _ _ ?_; clear hK K)
                        refine wpO_step2 rfl rfl (HBL.out) (fun K hK => ?_)
                        rw [if_pos (show Region.wanted _ _ = true from rfl)]
                        refine oper_store_blk HZ9.out 25 0 z.vv (Nat.le_refl _) (info_cac _) (cac_one _) _ _ rfl rfl rfl ?_
                        intro w5 hg9 hs9 hb9
                        rw [splice_cac] at hb9
                        have HBM := Lib.hid (below_grown HBL.out hg9 (by have h2 := HBC.out.size; have h3 := HBK.out.size; omega))
                        replace HZ9 := Lib.hid hb9
                        clear hg9 hs9 hb9
                        refine hK _ _ ⟨HBM.out, ?_⟩
                        clear hK K
                        iterate 1 (refine wpO_step0 rfl rfl (fun K hK => ?_); go_simp; refine hK _ _ ?_; clear hK K)
                        refine wpO_nil ?_
                        go_wp2_with fail
                        go_meet
                        exact ⟨w2.heap.size, z, rfl, rfl, HZ9.out, HZN.out.1, HZN.out.2, HBM.out⟩
                    · refine wpO_step2 rfl rfl (HBD.out) (fun K hK => ?_)
                      go_simp
                      have hz9 := blk_new wk (.cells (Cac.vv cacZ) 25)
                      obtain ⟨w2, hw9⟩ : ∃ w9, (World.alloc wk (.cells (Cac.vv cacZ) 25)).drew = w9 := ⟨_, rfl⟩
                      have ha9 : Below (World.heap wk).size wk w2 := hw9 ▸ below_step (below_alloc (Below.refl _ _) _) (below_drew1 _)
                      have HBC := Lib.hid ha9
                      refine kw_cast hw9 ?_
                      replace hz9 : (World.heap w2)[(World.heap wk).size]? = some (.cells (Cac.vv cacZ) 25 (0, 0)) := by rw [← hw9]; exact hz9
                      have hzl9 := blk_lt hz9
                      have HZ9 := Lib.hid hz9
                      clear hw9 hz9 ha9
                      refine hK _ _ ⟨HBC.out, ?_⟩
                      clear hK K
                      refine wpO_nil ?_
                      refine wpO_step2 rfl rfl (HBC.out) (fun K hK => ?_)
                      go_simp
                      refine (copiedC_any x es _ (HE.out.below (below_step HBB.out HBC.out)) (by omega)).mono ?_
                      rintro e w3 ⟨Ac, cc, rfl, hO9, hb9⟩
                      have HBK := Lib.hid (below_step HBC.out hb9)
                      have HCP := Lib.hid hO9.reads
                      try replace HZ9 := Lib.hid (blk_below HZ9.out hb9)
                      clear hO9 hb9
                      refine hK _ _ ⟨HBK.out, ?_⟩
                      clear hK K
                      refine wpO_step2 rfl rfl (HBK.out) (fun K hK => ?_)
                      go_simp
                      refine (cclear_any ⟨x.room, x.ver, Ac, x.n, cc, x.hits, x.misses⟩ es y.ver w3 (HL.out.below (below_step HBB.out HBK.out)) HCP.out OE.out (by show x.n ≤ _; omega)).mono ?_
                      rw [show clearN ⟨x.room, x.ver, Ac, x.n, cc, x.hits, x.misses⟩ es y.ver = CN from HCN.out]
                      rintro e w4 ⟨z, rfl, hz1, hz2, hb9⟩
                      have HBL := Lib.hid (below_step HBK.out hb9)
                      have HZN := Lib.hid (And.intro hz1 hz2)
                      try replace HZ9 := Lib.hid (blk_below HZ9.out hb9)
                      clear hz1 hz2 hb9
                      refine hK _ _ ⟨HBL.out, ?_⟩
                      clear hK K
                      iterate 3 (refine wpO_step0 rfl rfl (fun K hK => ?_); go_simp; refine hK _ _ ?_; clear hK K)
                      refine wpO_step2 rfl rfl (HBL.out) (fun K hK => ?_)
                      rw [if_pos (show Region.wanted _ _ = true from rfl)]
                      refine oper_store_blk HZ9.out 25 0 z.vv (Nat.le_refl _) (info_cac _) (cac_one _) _ _ rfl rfl rfl ?_
                      intro w5 hg9 hs9 hb9
                      rw [splice_cac] at hb9
                      have HBM := Lib.hid (below_grown HBL.out hg9 (by have h2 := HBC.out.size; have h3 := HBK.out.size; omega))
                      replace HZ9 := Lib.hid hb9
                      clear hg9 hs9 hb9
                      refine hK _ _ ⟨HBM.out, ?_⟩
                      clear hK K
                      iterate 1 (refine wpO_step0 rfl rfl (fun K hK => ?_); go_simp; refine hK _ _ ?_; clear hK K)
                      refine wpO_nil ?_
                      go_wp2_with fail
                      go_meet
                      exact ⟨wk.heap.size, z, rfl, rfl, HZ9.out, HZN.out.1, HZN.out.2, HBM.out⟩
                case rest =>
                  obtain ⟨g21, z, rfl, rfl, HC⟩ := hcut
                  obtain ⟨w16, rfl⟩ : ∃ w16, w16 = wc := ⟨wc, rfl⟩
                  have HB16 := Lib.hid (below_step HBQ.out HC.out.2.2.2)
                  have HZ16 := Lib.hid (cac_at HC.out.1)
                  have HZS := Lib.hid HC.out.2.2.1
                  have HZL := Lib.hid (load_cac HC.out.1)
                  have hzn := HC.out.2.1
                  clear HC
                  cases R with
                  | false =>
                    have hcn : CN = 370 := by rw [← HCN.out]; unfold clearN; rw [HR.out]; rfl
                    subst hcn
                    clear HZS
                    go_wp2_with (first | ((with_reducible show wpList _ _ _ (Oper.mk _ (Op.load _ _) _ _ _ _ :: _) _ _); refine wpList_load_g ((HZ16.out.all _ (Below.refl _ _)).ents) _ rfl rfl (by go_simp) ?_))
                    go_ret
                    exact ⟨rfl, below_step HBE.out HB16.out⟩
                  | true =>
                    by_cases h1 : 4611686018427387904 < y.ver
                    · have hcn : CN = 2 := by rw [← HCN.out]; unfold clearN; rw [HR.out, if_pos rfl, if_pos (.inl h1)]
                      subst hcn
                      have h1b : decide (4611686018427387904 < y.ver) = true := decide_eq_true h1
                      clear HZS h1
                      go_wp2_with (first | ((with_reducible show wpList _ _ _ (Oper.mk _ (Op.load _ _) _ _ _ _ :: _) _ _); refine wpList_load_g ((HZ16.out.all _ (Below.refl _ _)).ents) _ rfl rfl (by go_simp) ?_) | ((with_reducible show wpList _ _ _ (Oper.mk _ (Op.load _ _) _ _ _ _ :: _) _ _); refine wpList_load_g ((HP2.out.all _ HB16.out).ver) _ rfl rfl (by go_simp) ?_))
                      go_ret
                      exact ⟨rfl, below_step HBE.out HB16.out⟩
                    · have h1b : decide (4611686018427387904 < y.ver) = false := decide_eq_false h1
                      by_cases h2 : y.ver < x.ver
                      · have hcn : CN = 2 := by rw [← HCN.out]; unfold clearN; rw [HR.out, if_pos rfl, if_pos (.inr h2)]
                        subst hcn
                        have h2b : decide (y.ver < x.ver) = true := decide_eq_true h2
                        clear HZS h1 h2
                        go_wp2_with (first | ((with_reducible show wpList _ _ _ (Oper.mk _ (Op.load _ _) _ _ _ _ :: _) _ _); refine wpList_load_g ((HZ16.out.all _ (Below.refl _ _)).ents) _ rfl rfl (by go_simp) ?_) | ((with_reducible show wpList _ _ _ (Oper.mk _ (Op.load _ _) _ _ _ _ :: _) _ _); refine wpList_load_g ((HP2.out.all _ HB16.out).ver) _ rfl rfl (by go_simp) ?_) | ((with_reducible show wpList _ _ _ (Oper.mk _ (Op.load _ _) _ _ _ _ :: _) _ _); refine wpList_load_g ((HP1.out.all _ HB16.out).ver) _ rfl rfl (by go_simp) ?_))
                        go_ret
                        exact ⟨rfl, below_step HBE.out HB16.out⟩
                      · have hcn : CN = 0 := by rw [← HCN.out]; unfold clearN; rw [HR.out, if_pos rfl, if_neg (by omega)]
                        subst hcn
                        have h2b : decide (y.ver < x.ver) = false := decide_eq_false h2
                        have HZNN := Lib.hid hzn
                        have HZT := Lib.hid (HZS.out rfl)
                        clear h1 h2 hzn HZS
                        go_wp2_with (first | ((with_reducible show wpList _ _ _ (Oper.mk _ (Op.load _ _) _ _ _ _ :: _) _ _); refine wpList_load_g (HZL.out) _ rfl rfl (by go_simp) ?_) | ((with_reducible show wpList _ _ _ (Oper.mk _ (Op.load _ _) _ _ _ _ :: _) _ _); refine wpList_load_g ((HP2.out.all _ HB16.out).ver) _ rfl rfl (by go_simp) ?_) | ((with_reducible show wpList _ _ _ (Oper.mk _ (Op.load _ _) _ _ _ _ :: _) _ _); refine wpList_load_g ((HP1.out.all _ HB16.out).ver) _ rfl rfl (by go_simp) ?_) | ((with_reducible show wpList _ _ _ (Oper.mk _ (Op.load _ _) _ _ _ _ :: _) _ _); refine wpList_load_g ((HP1.out.all _ HB16.out).room) _ rfl rfl (by go_simp) ?_) | ((with_reducible show wpList _ _ _ (Oper.mk _ (Op.load _ _) _ _ _ _ :: _) _ _); refine wpList_load_g ((HP1.out.all _ HB16.out).hits) _ rfl rfl (by go_simp) ?_) | ((with_reducible show wpList _ _ _ (Oper.mk _ (Op.load _ _) _ _ _ _ :: _) _ _); refine wpList_load_g ((HP1.out.all _ HB16.out).misses) _ rfl rfl (by go_simp) ?_) | ((with_reducible show wpList _ _ _ (Oper.mk _ (Op.build _ _) _ _ _ _ :: _) _ _); refine wpList_exw rfl (exec_build4 rfl rfl rfl rfl rfl (run_build_cac4 _ x.room y.ver x.hits x.misses)) ?_))
                        refine (refcsame_any z [] ⟨x.room, y.ver, none, 0, 0, x.hits, x.misses⟩ [] w16 (by rw [HZNN.out]; exact RS.nil _ _ _ _) (RS.nil _ _ _ _) (fun e he => by cases he) (fun e he => by cases he) (by rw [HZNN.out]; exact Nat.zero_le _) (Nat.zero_le _)).mono ?_
                        rintro e w17 ⟨rfl, hb17⟩
                        rw [show cacSame z [] ⟨x.room, y.ver, none, 0, 0, x.hits, x.misses⟩ [] = true from cacSame_iff.2 ⟨HZT.out.1, HZT.out.2.1, HZT.out.2.2.1, HZT.out.2.2.2, rfl⟩]
                        have HB17 := Lib.hid (below_step HB16.out hb17)
                        clear hb17
                        go_wp2_with fail
                        go_ret
                        exact ⟨rfl, below_step HBE.out HB17.out⟩
end Go.Proofs.YtihfaknflfmohaaDoor

/- The walk of CacheTells, as the row asks it. -/
namespace Go.Proofs.YtihfaknflfmohaaDoor
open Go.RowKit
set_option linter.unusedVariables false
set_option linter.unusedSimpArgs false
set_option maxRecDepth 4000
theorem cacheTells_walk (x : Cac) (es : List Ent) (y : Cac) (fs : List Ent) (A : Option Addr) (n c : Nat) (t : List Row) (w : World) (hL : Laid w) (he : RE w x.A x.n x.c es) (oe : Oke es) (hx : x.ok) (h0 : x.n * 72 ≤ 140737488351232) (hf : RE w y.A y.n y.c fs) (of : Oke fs) (hy : y.ok) (h1 : y.n * 72 ≤ 140737488351232) (ht : RT w A n c t) (ot : Oks t) (h2 : n * 40 ≤ 140737488351232) : Calls Tryd.prog 7 #[.agg x.vv, .agg y.vv, .agg (tabV A n c)] w fun e w' => e = .returned (.bool true) ∧ Below w.heap.size w w' := tells27_any x es y fs A n c t w hL he oe hx hf of hy ht ot
end Go.Proofs.YtihfaknflfmohaaDoor
