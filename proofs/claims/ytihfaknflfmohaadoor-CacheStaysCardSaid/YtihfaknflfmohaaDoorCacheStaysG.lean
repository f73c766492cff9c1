/- Layer 9 (table): both, the rows of two tables in pairs, as an iterator. -/
import Derived.Test.YtihfaknflfmohaaDoorCacheStaysB
import Derived.Test.YtihfaknflfmohaaDoorCacheStaysC
import Derived.Test.YtihfaknflfmohaaDoorCacheStaysD
import Derived.Test.YtihfaknflfmohaaDoorCacheStaysE
import Derived.Test.YtihfaknflfmohaaDoorCacheStaysF
namespace Go.Proofs.YtihfaknflfmohaaDoor
open Go.RowKit
set_option linter.unusedVariables false
set_option linter.unusedSimpArgs false
set_option maxRecDepth 4000
theorem KeptB.of_grownB {w w1 : World} {g b : Nat} (h : Below w.heap.size w w1) (hb : b ≤ w.heap.size) : KeptB w w1 g b := KeptB.of_below (h.mono hb)
theorem RS.keptB {α : Type} {S : Shape α} {w w1 : World} {A : Option Addr} {n c : Nat} {l : List α} {g b : Nat} (h : RS S w A n c l) (hk : KeptB w w1 g b) (ha : 0 < n → ∀ ad, A = some ad → ad.block < b ∧ ad.block ≠ g) : RS S w1 A n c l :=
  ⟨⟨h.rv.len, h.rv.cap, h.rv.small, fun hn => by
    obtain ⟨ad, e, hc⟩ := h.rv.cells hn
    obtain ⟨h1, h2⟩ := ha hn ad e
    exact ⟨ad, e, fun j v hj => (World.cell?_of_block (a := ad.add j) (by rw [add_block]; exact hk.block ad.block h1 h2)).trans (hc j v hj)⟩⟩, h.fits⟩
theorem RS.blk_lt {α : Type} {S : Shape α} {w : World} {A : Option Addr} {n c : Nat} {l : List α} (h : RS S w A n c l) (hn : 0 < n) : ∀ ad, A = some ad → ad.block < w.heap.size := fun ad e => by
  obtain ⟨ad', e', hc⟩ := h.rv.cells hn
  rw [e] at e'
  injection e' with e'
  subst e'
  have hl := h.rv.len
  have hp : 0 < n * S.sz := Nat.mul_pos hn S.pos
  obtain ⟨v, hv⟩ : ∃ v, (Shape.cells S l)[0]? = some v := ⟨_, List.getElem?_eq_getElem (by omega)⟩
  exact World.block_lt_of_cell? _ _ (hc 0 v hv)
/-- A pair of rows, as both yields it. -/
abbrev RR := { x : Row × Row // x.1.ok ∧ x.2.ok }
def rrV (x : RR) : Array Value := #[.agg (rowV x.1.1), .agg (rowV x.1.2)]
/-- What both reads, round after round. -/
structure BothR (W : World) (B1 B2 : Nat) (A : Option Addr) (n c : Nat) (a : List Row) (A2 : Option Addr) (m c2 : Nat) (b : List Row) : Prop where
  t1 : W.heap[B1]? = some (.cells (tabV A n c) 28 (0, 0))
  t2 : W.heap[B2]? = some (.cells (tabV A2 m c2) 28 (0, 0))
  r1 : RT W A n c a
  r2 : RT W A2 m c2 b
theorem BothR.below {W W' : World} {B1 B2 : Nat} {A : Option Addr} {n c : Nat} {a : List Row} {A2 : Option Addr} {m c2 : Nat} {b : List Row} (h : BothR W B1 B2 A n c a A2 m c2 b) (hb : Below W.heap.size W W') : BothR W' B1 B2 A n c a A2 m c2 b :=
  ⟨blk_below h.t1 hb, blk_below h.t2 hb, h.r1.below hb, h.r2.below hb⟩
/-- What the rows' blocks are: below n₀, and none of them bo. -/
structure BothB (n₀ bo B1 B2 : Nat) (A : Option Addr) (n : Nat) (A2 : Option Addr) (m : Nat) : Prop where
  b1 : B1 < n₀ ∧ B1 ≠ bo
  b2 : B2 < n₀ ∧ B2 ≠ bo
  a1 : 0 < n → ∀ ad, A = some ad → ad.block < n₀ ∧ ad.block ≠ bo
  a2 : 0 < m → ∀ ad, A2 = some ad → ad.block < n₀ ∧ ad.block ≠ bo
theorem BothR.kept {W W' : World} {n₀ bo B1 B2 : Nat} {A : Option Addr} {n c : Nat} {a : List Row} {A2 : Option Addr} {m c2 : Nat} {b : List Row} (h : BothR W B1 B2 A n c a A2 m c2 b) (hb : BothB n₀ bo B1 B2 A n A2 m) (hk : KeptB W W' bo n₀) : BothR W' B1 B2 A n c a A2 m c2 b :=
  ⟨(hk.block _ hb.b1.1 hb.b1.2).trans h.t1, (hk.block _ hb.b2.1 hb.b2.2).trans h.t2, h.r1.keptB hk hb.a1, h.r2.keptB hk hb.a2⟩
theorem load_row {w : World} {g : Nat} {r : Row} (hf : r.fits) (h : w.heap[g]? = some (.cells (rowV r) 38 (0, 0))) : (Instr.loadAt 38 (.pointer (some ⟨g, 0, none⟩))).run Tryd.prog w = .ok (.agg (rowV r)) w := (rowLd_of hf (cells_blk h)).row
theorem rowZ_ok : rowZ.ok := ⟨⟨zero16_B, by decide, by decide⟩, by decide⟩
set_option maxRecDepth 100000 in
set_option maxHeartbeats 8000000 in
theorem both1_any (nn l B1 B2 n₀ bo : Nat) (A : Option Addr) (n c : Nat) (a : List Row) (A2 : Option Addr) (m c2 : Nat) (b : List Row) (oa : Oks a) (ob : Oks b) (hn : n ≤ 100000) (hm : m ≤ 100000) (hBB : BothB n₀ bo B1 B2 A n A2 m)
    (J Jx : List RR → World → Prop) (W : World) (hW : n₀ ≤ W.heap.size) (hJ : AbidesFrom W.heap.size J)
    (hY : ∀ pre x W1, J pre W1 → pre.length < (mrgP a b).length → YieldAt Fence.wide (nn - 1) Tryd.prog l (rrV x) W1 fun e W' =>
      (e = .returned (.bool true) ∧ J (pre ++ [x]) W' ∧ KeptB W1 W' bo n₀) ∨ (e = .returned (.bool false) ∧ Jx (pre ++ [x]) W'))
    (hR : BothR W B1 B2 A n c a A2 m c2 b) (h0 : J [] W) :
    Calls Tryd.prog 111 #[.func (.yield l) #[] #[], .pointer (some ⟨B1, 0, none⟩), .pointer (some ⟨B2, 0, none⟩)] W fun e W' => (∃ v, e = .returned v) ∧ ((∃ xs : List RR, xs.map (·.1) = mrgP a b ∧ J xs W') ∨ (∃ pre, True ∧ Jx pre W')) := by
  have HR := Lib.hid hR
  have HY := Lib.hid hY
  have H0 := Lib.hid h0
  have HJ := Lib.hid hJ
  have OA := Lib.hid oa
  have OB2 := Lib.hid ob
  have hla := hR.r1.len
  have hlb := hR.r2.len
  have HBB := Lib.hid hBB
  clear hR hY h0 hJ oa ob hBB
  go_enter Tryd.func111, Tryd.ntmps111
  go_wp2_with fail
  go_loopw [4, 5] (fun s4 s5 wr => ∃ (i k : Nat) (pre : List RR), s4 = .int .i64 i ∧ s5 = .int .i64 k ∧ Hid (i ≤ n ∧ k ≤ m ∧ J pre wr ∧ pre.map (·.1) ++ mrgP (a.drop i) (b.drop k) = mrgP a b ∧ BothR wr B1 B2 A n c a A2 m c2 b ∧ W.heap.size ≤ wr.heap.size)) (fun s4 s5 _ => n + m - ((intOf s4).toNat + (intOf s5).toNat))
  case atStart => exact ⟨0, 0, [], rfl, rfl, Nat.zero_le _, Nat.zero_le _, H0.out, rfl, HR.out, Nat.le_refl _⟩
  case round =>
    obtain ⟨i, k, pre, rfl, rfl, HH⟩ := hrel
    have hl1 := ((tab_at HH.out.2.2.2.2.1.t1).all wr (Below.refl _ _)).2
    have hl2 := ((tab_at HH.out.2.2.2.2.1.t2).all wr (Below.refl _ _)).2
    have hin := HH.out.1
    have hkm := HH.out.2.1
    by_cases hi : i < n
    · have hi' : (i : Int) < n := by omega
      obtain ⟨ba, oa, rfl, hca⟩ := RT.at_ HH.out.2.2.2.2.1.r1 (by omega)
      have hfa := HH.out.2.2.2.2.1.r1.fits_at hi
      have HLA : Hid (∀ w0, Below wr.heap.size wr w0 → RowLd w0 ba (oa + i * 19) (rowAt a i)) := Lib.hid (fun w0 h0 => rowLd_of hfa ((hca i hi).below h0))
      clear hca
      by_cases hk : k < m
      · have hk' : (k : Int) < m := by omega
        obtain ⟨bb, o, rfl, hc⟩ := RT.at_ HH.out.2.2.2.2.1.r2 (by omega)
        have hfb := HH.out.2.2.2.2.1.r2.fits_at hk
        have HLB : Hid (∀ w0, Below wr.heap.size wr w0 → RowLd w0 bb (o + k * 19) (rowAt b k)) := Lib.hid (fun w0 h0 => rowLd_of hfb ((hc k hk).below h0))
        clear hc
        have hni : ((i : Int) == n) = false := by simp; omega
        have hnk : ((k : Int) == m) = false := by simp; omega
        go_upto_region 3 with (first | ((with_reducible show wpList _ _ _ (Oper.mk _ (Op.load _ _) _ _ _ _ :: _) _ _); refine wpList_load_g hl1 _ rfl rfl (by go_simp) ?_) | ((with_reducible show wpList _ _ _ (Oper.mk _ (Op.load _ _) _ _ _ _ :: _) _ _); refine wpList_load_g hl2 _ rfl rfl (by go_simp) ?_))
        have hz1 := blk_below (blk_new wr (.cells (rowV rowZ) 38)) (below_alloc (Below.refl _ _) (.cells (rowV rowZ) 38))
        have hz2 := blk_new (wr.alloc (.cells (rowV rowZ) 38)) (.cells (rowV rowZ) 38)
        rw [show (wr.alloc (.cells (rowV rowZ) 38)).heap.size = wr.heap.size + 1 by simp] at hz2
        have hb5 : Below wr.heap.size wr ((wr.alloc (.cells (rowV rowZ) 38)).alloc (.cells (rowV rowZ) 38)) := below_alloc (below_alloc (Below.refl _ _) _) _
        obtain ⟨w5, hw5⟩ : ∃ w5, ((wr.alloc (.cells (rowV rowZ) 38)).alloc (.cells (rowV rowZ) 38)) = w5 := ⟨_, rfl⟩
        rw [show ((wr.alloc (.cells #[.int .i64 0, .int .u8 0, .int .u8 0, .int .u8 0, .int .u8 0, .int .u8 0, .int .u8 0, .int .u8 0, .int .u8 0, .int .u8 0, .int .u8 0, .int .u8 0, .int .u8 0, .int .u8 0, .int .u8 0, .int .u8 0, .int .u8 0, .int .i64 0, .int .i64 0] 38)).alloc (.cells #[.int .i64 0, .int .u8 0, .int .u8 0, .int .u8 0, .int .u8 0, .int .u8 0, .int .u8 0, .int .u8 0, .int .u8 0, .int .u8 0, .int .u8 0, .int .u8 0, .int .u8 0, .int .u8 0, .int .u8 0, .int .u8 0, .int .u8 0, .int .i64 0, .int .i64 0] 38)) = w5 from hw5]
        rw [hw5] at hz1 hz2 hb5
        have HZ1 := Lib.hid hz1
        have HZ2 := Lib.hid hz2
        have HB5 := Lib.hid hb5
        have HR5 := Lib.hid (HH.out.2.2.2.2.1.below hb5)
        have hl1 := ((tab_at HR5.out.t1).all w5 (Below.refl _ _)).2
        have hl2 := ((tab_at HR5.out.t2).all w5 (Below.refl _ _)).2
        clear hz1 hz2 hb5 hw5
        go_wp2_with (first | ((with_reducible show wpList _ _ _ (Oper.mk _ (Op.load _ _) _ _ _ _ :: _) _ _); refine wpList_load_g hl1 _ rfl rfl (by go_simp) ?_) | ((with_reducible show wpList _ _ _ (Oper.mk _ (Op.load _ _) _ _ _ _ :: _) _ _); refine wpList_load_g hl2 _ rfl rfl (by go_simp) ?_))
        clear hl1 hl2
        refine wp_region_mix (fun w0 => Below (w5).heap.size (w5) w0) [(0, 0), (1, 0), (2, 0), (3, 0), (4, 0), (5, 0), (6, 0), (7, 0), (8, 0), (9, 0), (10, 0), (11, 0), (12, 2), (13, 0)] (by kernel_rfl) (by kernel_rfl) (below_drew1 _) ?_
        simp only [List.map_cons, List.map_nil]
        iterate 1 (refine wpO_step0 rfl rfl (fun K hK => ?_); go_simp; refine hK _ _ ?_; clear hK K)
        refine wpO_loadW (t := 26) (ad := ⟨B1, 0, none⟩) rfl rfl ?hw rfl rfl ((fun w0 hS => ((tab_at (HR5.out.below hS).t1).all w0 (Below.refl _ _)).2)) ?_
        case hw => go_simp
        iterate 3 (refine wpO_step0 rfl rfl (fun K hK => ?_); go_simp; refine hK _ _ ?_; clear hK K)
        refine wpO_loadW (t := 36) (ad := ⟨ba, (oa+i*19), none⟩) rfl rfl ?hw rfl rfl ((fun w0 hS => (HLA.out w0 (below_step HB5.out hS)).pfx)) ?_
        case hw => go_simp
        iterate 1 (refine wpO_step0 rfl rfl (fun K hK => ?_); go_simp; refine hK _ _ ?_; clear hK K)
        refine wpO_loadW (t := 26) (ad := ⟨B2, 0, none⟩) rfl rfl ?hw rfl rfl ((fun w0 hS => ((tab_at (HR5.out.below hS).t2).all w0 (Below.refl _ _)).2)) ?_
        case hw => go_simp
        iterate 3 (refine wpO_step0 rfl rfl (fun K hK => ?_); go_simp; refine hK _ _ ?_; clear hK K)
        refine wpO_loadW (t := 36) (ad := ⟨bb, (o+k*19), none⟩) rfl rfl ?hw rfl rfl ((fun w0 hS => (HLB.out w0 (below_step HB5.out hS)).pfx)) ?_
        case hw => go_simp
        refine wpO_step2 rfl rfl (below_drew1 _) (fun K hK => ?_)
        go_simp
        refine (compare_any (rowAt a i).p (rowAt b k).p _ hfa hfb).mono ?_
        rintro e w7 ⟨rfl, hb7⟩
        have HB57 := Lib.hid (below_step (below_drew1 w5) hb7)
        clear hb7
        refine hK _ _ ⟨HB57.out, ?_⟩
        clear hK K
        iterate 1 (refine wpO_step0 rfl rfl (fun K hK => ?_); go_simp; refine hK _ _ ?_; clear hK K)
        refine wpO_nil ?_
        have HB7 := Lib.hid (below_step HB5.out HB57.out)
        have HY1 := Lib.hid (blk_below HZ1.out HB57.out)
        have HY2 := Lib.hid (blk_below HZ2.out HB57.out)
        have HR7 := Lib.hid (HR5.out.below HB57.out)
        have hl1 := ((tab_at HR7.out.t1).all w7 (Below.refl _ _)).2
        have hl2 := ((tab_at HR7.out.t2).all w7 (Below.refl _ _)).2
        have hrowa := (HLA.out w7 HB7.out).row
        have hrowb := (HLB.out w7 HB7.out).row
        clear HZ1 HZ2 HB5 HR5 HB57
        obtain ⟨C, hC⟩ : ∃ C, (rowAt a i).p.cmp (rowAt b k).p = C := ⟨_, rfl⟩
        rw [hC]
        rcases Int.lt_trichotomy C 0 with h | h | h
        · have hs := mrgP_lt (a := a) (b := b) (i := i) (k := k) (by omega) (by omega) (by rw [hC]; exact h)
          have hc1 : decide (C ≤ 0) = true := decide_eq_true (by omega)
          have hc2 : decide (0 ≤ C) = false := decide_eq_false (by omega)
          clear hC h
          go_upto_region 15 with (first | ((with_reducible show wpList _ _ _ (Oper.mk _ (Op.load _ _) _ _ _ _ :: _) _ _); refine wpList_load_g hl1 _ rfl rfl (by go_simp) ?_) | ((with_reducible show wpList _ _ _ (Oper.mk _ (Op.load _ _) _ _ _ _ :: _) _ _); refine wpList_load_g hl2 _ rfl rfl (by go_simp) ?_) | ((with_reducible show wpList _ _ _ (Oper.mk _ (Op.load _ _) _ _ _ _ :: _) _ _); refine wpList_load_g hrowa _ rfl rfl (by go_simp) ?_) | ((with_reducible show wpList _ _ _ (Oper.mk _ (Op.store _ _ _) _ _ _ _ :: _) _ _); refine wpList_store_blk HY1.out 38 0 (rowV (rowAt a i)) (store_row_fit hfa rfl) (info_row hfa) (rowV_one _) _ _ rfl rfl rfl rfl ?_; intro w6 hg9 hs9 hb9; rw [splice_row hfa rfl] at hb9; have H6 := Lib.hid (And.intro hg9 hb9); clear hg9 hs9 hb9))
          have HB6 := Lib.hid (below_grown HB7.out H6.out.1 (Nat.le_refl _))
          have hYY := load_row rowZ_fits (blk_grown HY2.out H6.out.1 (fun e => by injection e with e; omega))
          have hX := load_row hfa H6.out.2
          have HJ6 := Lib.hid (HJ.out pre wr w6 none HH.out.2.2.1 (grown_of_below HB6.out none) (fun r e => by cases e))
          refine (wpIn_wide (n := nn)).1 ?_
          refine regionIn_of_take open_wide 3 (by rfl) ?_
          simp only [List.take_succ_cons, List.take_zero, List.drop_succ_cons, List.drop_zero]
          go_wp2_with (first | ((with_reducible show wpList _ _ _ (Oper.mk _ (Op.load _ _) _ _ _ _ :: _) _ _); refine wpList_load_g hX _ rfl rfl (by go_simp) ?_) | ((with_reducible show wpList _ _ _ (Oper.mk _ (Op.load _ _) _ _ _ _ :: _) _ _); refine wpList_load_g hYY _ rfl rfl (by go_simp) ?_))
          refine onlyNormal_in ?_
          have hpl := congrArg List.length HH.out.2.2.2.1
          rw [hs, List.length_append, List.length_map, List.length_cons] at hpl
          obtain ⟨fn, tmps, assign, body, hy, hR⟩ := HY.out pre ⟨((rowAt a i), rowZ), OA.out.at_ (by omega), rowZ_ok⟩ w6 HJ6.out (by omega)
          have HRD := Lib.hid hR
          simp only [rrV] at hy
          clear hR hX hYY hpl
          gi_wp2
          refine ⟨fun hd => (by cases hd), HRD.out.mono ?_⟩
          rintro e W3 (⟨rfl, hJ3, hk3⟩ | ⟨rfl, hJx3⟩)
          · have H3 := Lib.hid (And.intro hJ3 hk3)
            clear hJ3 hk3 hy
            gi_wp2
            go_wp2
            go_roundw
            case measure => simp [intOf]; omega
            case rel => exact ⟨i+1, k, pre ++ [⟨((rowAt a i), rowZ), OA.out.at_ (by omega), rowZ_ok⟩], by go_num, by go_num, by omega, by omega, H3.out.1, by rw [List.map_append, List.append_assoc]; rw [← HH.out.2.2.2.1, hs]; rfl, (HH.out.2.2.2.2.1.below HB6.out).kept HBB.out H3.out.2, Nat.le_trans HH.out.2.2.2.2.2 (Nat.le_trans HB6.out.size H3.out.2.size)⟩
          · have H3 := Lib.hid hJx3
            clear hJx3 hy
            gi_wp2
            go_wp2
            refine bodyPost_ret (results_none rfl _ _ _) rfl ?_
            exact ⟨⟨_, rfl⟩, .inr ⟨_, trivial, H3.out⟩⟩
        · have hs := mrgP_eq (a := a) (b := b) (i := i) (k := k) (by omega) (by omega) (by rw [hC]; exact h)
          subst h
          clear hC
          go_upto_region 12 with (first | ((with_reducible show wpList _ _ _ (Oper.mk _ (Op.load _ _) _ _ _ _ :: _) _ _); refine wpList_load_g hl1 _ rfl rfl (by go_simp) ?_) | ((with_reducible show wpList _ _ _ (Oper.mk _ (Op.load _ _) _ _ _ _ :: _) _ _); refine wpList_load_g hl2 _ rfl rfl (by go_simp) ?_) | ((with_reducible show wpList _ _ _ (Oper.mk _ (Op.load _ _) _ _ _ _ :: _) _ _); refine wpList_load_g hrowa _ rfl rfl (by go_simp) ?_) | ((with_reducible show wpList _ _ _ (Oper.mk _ (Op.store _ _ _) _ _ _ _ :: _) _ _); refine wpList_store_blk HY1.out 38 0 (rowV (rowAt a i)) (store_row_fit hfa rfl) (info_row hfa) (rowV_one _) _ _ rfl rfl rfl rfl ?_; intro w8 hg9 hs9 hb9; rw [splice_row hfa rfl] at hb9; have H8 := Lib.hid (And.intro hg9 hb9); clear hg9 hs9 hb9))
          have HB8 := Lib.hid (below_grown HB7.out H8.out.1 (Nat.le_refl _))
          have hz2 := blk_grown HY2.out H8.out.1 (fun e => by injection e with e; omega)
          have hl2 := ((tab_at (HH.out.2.2.2.2.1.below HB8.out).t2).all w8 (Below.refl _ _)).2
          have hrowb := (HLB.out w8 HB8.out).row
          go_upto_region 15 with (first | ((with_reducible show wpList _ _ _ (Oper.mk _ (Op.load _ _) _ _ _ _ :: _) _ _); refine wpList_load_g hl2 _ rfl rfl (by go_simp) ?_) | ((with_reducible show wpList _ _ _ (Oper.mk _ (Op.load _ _) _ _ _ _ :: _) _ _); refine wpList_load_g hrowb _ rfl rfl (by go_simp) ?_) | ((with_reducible show wpList _ _ _ (Oper.mk _ (Op.store _ _ _) _ _ _ _ :: _) _ _); refine wpList_store_blk hz2 38 0 (rowV (rowAt b k)) (store_row_fit hfb rfl) (info_row hfb) (rowV_one _) _ _ rfl rfl rfl rfl ?_; intro w6 hg9 hs9 hb9; rw [splice_row hfb rfl] at hb9; have H6 := Lib.hid (And.intro hg9 hb9); clear hg9 hs9 hb9))
          have HB6 := Lib.hid (below_grown HB8.out H6.out.1 (by omega))
          have hX := load_row hfa (blk_grown H8.out.2 H6.out.1 (fun e => by injection e with e; omega))
          have hYY := load_row hfb H6.out.2
          clear hz2
          have HJ6 := Lib.hid (HJ.out pre wr w6 none HH.out.2.2.1 (grown_of_below HB6.out none) (fun r e => by cases e))
          refine (wpIn_wide (n := nn)).1 ?_
          refine regionIn_of_take open_wide 3 (by rfl) ?_
          simp only [List.take_succ_cons, List.take_zero, List.drop_succ_cons, List.drop_zero]
          go_wp2_with (first | ((with_reducible show wpList _ _ _ (Oper.mk _ (Op.load _ _) _ _ _ _ :: _) _ _); refine wpList_load_g hX _ rfl rfl (by go_simp) ?_) | ((with_reducible show wpList _ _ _ (Oper.mk _ (Op.load _ _) _ _ _ _ :: _) _ _); refine wpList_load_g hYY _ rfl rfl (by go_simp) ?_))
          refine onlyNormal_in ?_
          have hpl := congrArg List.length HH.out.2.2.2.1
          rw [hs, List.length_append, List.length_map, List.length_cons] at hpl
          obtain ⟨fn, tmps, assign, body, hy, hR⟩ := HY.out pre ⟨((rowAt a i), (rowAt b k)), OA.out.at_ (by omega), OB2.out.at_ (by omega)⟩ w6 HJ6.out (by omega)
          have HRD := Lib.hid hR
          simp only [rrV] at hy
          clear hR hX hYY hpl
          gi_wp2
          refine ⟨fun hd => (by cases hd), HRD.out.mono ?_⟩
          rintro e W3 (⟨rfl, hJ3, hk3⟩ | ⟨rfl, hJx3⟩)
          · have H3 := Lib.hid (And.intro hJ3 hk3)
            clear hJ3 hk3 hy
            gi_wp2
            go_wp2
            go_roundw
            case measure => simp [intOf]; omega
            case rel => exact ⟨i+1, k+1, pre ++ [⟨((rowAt a i), (rowAt b k)), OA.out.at_ (by omega), OB2.out.at_ (by omega)⟩], by go_num, by go_num, by omega, by omega, H3.out.1, by rw [List.map_append, List.append_assoc]; rw [← HH.out.2.2.2.1, hs]; rfl, (HH.out.2.2.2.2.1.below HB6.out).kept HBB.out H3.out.2, Nat.le_trans HH.out.2.2.2.2.2 (Nat.le_trans HB6.out.size H3.out.2.size)⟩
          · have H3 := Lib.hid hJx3
            clear hJx3 hy
            gi_wp2
            go_wp2
            refine bodyPost_ret (results_none rfl _ _ _) rfl ?_
            exact ⟨⟨_, rfl⟩, .inr ⟨_, trivial, H3.out⟩⟩
        · have hs := mrgP_gt (a := a) (b := b) (i := i) (k := k) (by omega) (by omega) (by rw [hC]; exact h)
          have hc1 : decide (C ≤ 0) = false := decide_eq_false (by omega)
          have hc2 : decide (0 ≤ C) = true := decide_eq_true (by omega)
          clear hC h
          go_upto_region 15 with (first | ((with_reducible show wpList _ _ _ (Oper.mk _ (Op.load _ _) _ _ _ _ :: _) _ _); refine wpList_load_g hl1 _ rfl rfl (by go_simp) ?_) | ((with_reducible show wpList _ _ _ (Oper.mk _ (Op.load _ _) _ _ _ _ :: _) _ _); refine wpList_load_g hl2 _ rfl rfl (by go_simp) ?_) | ((with_reducible show wpList _ _ _ (Oper.mk _ (Op.load _ _) _ _ _ _ :: _) _ _); refine wpList_load_g hrowb _ rfl rfl (by go_simp) ?_) | ((with_reducible show wpList _ _ _ (Oper.mk _ (Op.store _ _ _) _ _ _ _ :: _) _ _); refine wpList_store_blk HY2.out 38 0 (rowV (rowAt b k)) (store_row_fit hfb rfl) (info_row hfb) (rowV_one _) _ _ rfl rfl rfl rfl ?_; intro w6 hg9 hs9 hb9; rw [splice_row hfb rfl] at hb9; have H6 := Lib.hid (And.intro hg9 hb9); clear hg9 hs9 hb9))
          have HB6 := Lib.hid (below_grown HB7.out H6.out.1 (by omega))
          have hX := load_row rowZ_fits (blk_grown HY1.out H6.out.1 (fun e => by injection e with e; omega))
          have hYY := load_row hfb H6.out.2
          have HJ6 := Lib.hid (HJ.out pre wr w6 none HH.out.2.2.1 (grown_of_below HB6.out none) (fun r e => by cases e))
          refine (wpIn_wide (n := nn)).1 ?_
          refine regionIn_of_take open_wide 3 (by rfl) ?_
          simp only [List.take_succ_cons, List.take_zero, List.drop_succ_cons, List.drop_zero]
          go_wp2_with (first | ((with_reducible show wpList _ _ _ (Oper.mk _ (Op.load _ _) _ _ _ _ :: _) _ _); refine wpList_load_g hX _ rfl rfl (by go_simp) ?_) | ((with_reducible show wpList _ _ _ (Oper.mk _ (Op.load _ _) _ _ _ _ :: _) _ _); refine wpList_load_g hYY _ rfl rfl (by go_simp) ?_))
          refine onlyNormal_in ?_
          have hpl := congrArg List.length HH.out.2.2.2.1
          rw [hs, List.length_append, List.length_map, List.length_cons] at hpl
          obtain ⟨fn, tmps, assign, body, hy, hR⟩ := HY.out pre ⟨(rowZ, (rowAt b k)), rowZ_ok, OB2.out.at_ (by omega)⟩ w6 HJ6.out (by omega)
          have HRD := Lib.hid hR
          simp only [rrV] at hy
          clear hR hX hYY hpl
          gi_wp2
          refine ⟨fun hd => (by cases hd), HRD.out.mono ?_⟩
          rintro e W3 (⟨rfl, hJ3, hk3⟩ | ⟨rfl, hJx3⟩)
          · have H3 := Lib.hid (And.intro hJ3 hk3)
            clear hJ3 hk3 hy
            gi_wp2
            go_wp2
            go_roundw
            case measure => simp [intOf]; omega
            case rel => exact ⟨i, k+1, pre ++ [⟨(rowZ, (rowAt b k)), rowZ_ok, OB2.out.at_ (by omega)⟩], by go_num, by go_num, by omega, by omega, H3.out.1, by rw [List.map_append, List.append_assoc]; rw [← HH.out.2.2.2.1, hs]; rfl, (HH.out.2.2.2.2.1.below HB6.out).kept HBB.out H3.out.2, Nat.le_trans HH.out.2.2.2.2.2 (Nat.le_trans HB6.out.size H3.out.2.size)⟩
          · have H3 := Lib.hid hJx3
            clear hJx3 hy
            gi_wp2
            go_wp2
            refine bodyPost_ret (results_none rfl _ _ _) rfl ?_
            exact ⟨⟨_, rfl⟩, .inr ⟨_, trivial, H3.out⟩⟩
      · have hk0 : k = m := by omega
        subst hk0
        have hs := mrgP_left (a := a) (b := b) (i := i) (k := k) (by omega) (by omega)
        have hni : ((i : Int) == n) = false := by simp; omega
        go_upto_region 3 with (first | ((with_reducible show wpList _ _ _ (Oper.mk _ (Op.load _ _) _ _ _ _ :: _) _ _); refine wpList_load_g hl1 _ rfl rfl (by go_simp) ?_) | ((with_reducible show wpList _ _ _ (Oper.mk _ (Op.load _ _) _ _ _ _ :: _) _ _); refine wpList_load_g hl2 _ rfl rfl (by go_simp) ?_))
        have hz1 := blk_below (blk_new wr (.cells (rowV rowZ) 38)) (below_alloc (Below.refl _ _) (.cells (rowV rowZ) 38))
        have hz2 := blk_new (wr.alloc (.cells (rowV rowZ) 38)) (.cells (rowV rowZ) 38)
        rw [show (wr.alloc (.cells (rowV rowZ) 38)).heap.size = wr.heap.size + 1 by simp] at hz2
        have hb5 : Below wr.heap.size wr ((wr.alloc (.cells (rowV rowZ) 38)).alloc (.cells (rowV rowZ) 38)) := below_alloc (below_alloc (Below.refl _ _) _) _
        obtain ⟨w5, hw5⟩ : ∃ w5, ((wr.alloc (.cells (rowV rowZ) 38)).alloc (.cells (rowV rowZ) 38)) = w5 := ⟨_, rfl⟩
        rw [show ((wr.alloc (.cells #[.int .i64 0, .int .u8 0, .int .u8 0, .int .u8 0, .int .u8 0, .int .u8 0, .int .u8 0, .int .u8 0, .int .u8 0, .int .u8 0, .int .u8 0, .int .u8 0, .int .u8 0, .int .u8 0, .int .u8 0, .int .u8 0, .int .u8 0, .int .i64 0, .int .i64 0] 38)).alloc (.cells #[.int .i64 0, .int .u8 0, .int .u8 0, .int .u8 0, .int .u8 0, .int .u8 0, .int .u8 0, .int .u8 0, .int .u8 0, .int .u8 0, .int .u8 0, .int .u8 0, .int .u8 0, .int .u8 0, .int .u8 0, .int .u8 0, .int .u8 0, .int .i64 0, .int .i64 0] 38)) = w5 from hw5]
        rw [hw5] at hz1 hz2 hb5
        have HZ1 := Lib.hid hz1
        have HZ2 := Lib.hid hz2
        have HB5 := Lib.hid hb5
        have HR5 := Lib.hid (HH.out.2.2.2.2.1.below hb5)
        have hl1 := ((tab_at HR5.out.t1).all w5 (Below.refl _ _)).2
        have hl2 := ((tab_at HR5.out.t2).all w5 (Below.refl _ _)).2
        clear hz1 hz2 hb5 hw5
        have hrow := (HLA.out w5 HB5.out).row
        go_upto_region 15 with (first | ((with_reducible show wpList _ _ _ (Oper.mk _ (Op.load _ _) _ _ _ _ :: _) _ _); refine wpList_load_g hl1 _ rfl rfl (by go_simp) ?_) | ((with_reducible show wpList _ _ _ (Oper.mk _ (Op.load _ _) _ _ _ _ :: _) _ _); refine wpList_load_g hl2 _ rfl rfl (by go_simp) ?_) | ((with_reducible show wpList _ _ _ (Oper.mk _ (Op.load _ _) _ _ _ _ :: _) _ _); refine wpList_load_g hrow _ rfl rfl (by go_simp) ?_) | ((with_reducible show wpList _ _ _ (Oper.mk _ (Op.store _ _ _) _ _ _ _ :: _) _ _); refine wpList_store_blk HZ1.out 38 0 (rowV (rowAt a i)) (store_row_fit hfa rfl) (info_row hfa) (rowV_one _) _ _ rfl rfl rfl rfl ?_; intro w6 hg9 hs9 hb9; rw [splice_row hfa rfl] at hb9; have H6 := Lib.hid (And.intro hg9 hb9); clear hg9 hs9 hb9))
        have HB6 := Lib.hid (below_grown HB5.out H6.out.1 (Nat.le_refl _))
        have hYY := load_row rowZ_fits (blk_grown HZ2.out H6.out.1 (fun e => by injection e with e; omega))
        have hX := load_row hfa H6.out.2
        have HJ6 := Lib.hid (HJ.out pre wr w6 none HH.out.2.2.1 (grown_of_below HB6.out none) (fun r e => by cases e))
        refine (wpIn_wide (n := nn)).1 ?_
        refine regionIn_of_take open_wide 3 (by rfl) ?_
        simp only [List.take_succ_cons, List.take_zero, List.drop_succ_cons, List.drop_zero]
        go_wp2_with (first | ((with_reducible show wpList _ _ _ (Oper.mk _ (Op.load _ _) _ _ _ _ :: _) _ _); refine wpList_load_g hX _ rfl rfl (by go_simp) ?_) | ((with_reducible show wpList _ _ _ (Oper.mk _ (Op.load _ _) _ _ _ _ :: _) _ _); refine wpList_load_g hYY _ rfl rfl (by go_simp) ?_))
        refine onlyNormal_in ?_
        have hpl := congrArg List.length HH.out.2.2.2.1
        rw [hs, List.length_append, List.length_map, List.length_cons] at hpl
        obtain ⟨fn, tmps, assign, body, hy, hR⟩ := HY.out pre ⟨((rowAt a i), rowZ), OA.out.at_ (by omega), rowZ_ok⟩ w6 HJ6.out (by omega)
        have HRD := Lib.hid hR
        simp only [rrV] at hy
        clear hR hX hYY hpl
        gi_wp2
        refine ⟨fun hd => (by cases hd), HRD.out.mono ?_⟩
        rintro e W3 (⟨rfl, hJ3, hk3⟩ | ⟨rfl, hJx3⟩)
        · have H3 := Lib.hid (And.intro hJ3 hk3)
          clear hJ3 hk3 hy
          gi_wp2
          go_wp2
          go_roundw
          case measure => simp [intOf]; omega
          case rel => exact ⟨i+1, k, pre ++ [⟨((rowAt a i), rowZ), OA.out.at_ (by omega), rowZ_ok⟩], by go_num, by go_num, by omega, by omega, H3.out.1, by rw [List.map_append, List.append_assoc]; rw [← HH.out.2.2.2.1, hs]; rfl, (HH.out.2.2.2.2.1.below HB6.out).kept HBB.out H3.out.2, Nat.le_trans HH.out.2.2.2.2.2 (Nat.le_trans HB6.out.size H3.out.2.size)⟩
        · have H3 := Lib.hid hJx3
          clear hJx3 hy
          gi_wp2
          go_wp2
          refine bodyPost_ret (results_none rfl _ _ _) rfl ?_
          exact ⟨⟨_, rfl⟩, .inr ⟨_, trivial, H3.out⟩⟩
    · have hi0 : i = n := by omega
      subst hi0
      by_cases hk : k < m
      · have hk' : (k : Int) < m := by omega
        have hs := mrgP_right (a := a) (b := b) (i := i) (k := k) (by omega) (by omega)
        obtain ⟨bb, o, rfl, hc⟩ := RT.at_ HH.out.2.2.2.2.1.r2 (by omega)
        have hfb := HH.out.2.2.2.2.1.r2.fits_at hk
        have HLB : Hid (∀ w0, Below wr.heap.size wr w0 → RowLd w0 bb (o + k * 19) (rowAt b k)) := Lib.hid (fun w0 h0 => rowLd_of hfb ((hc k hk).below h0))
        clear hc
        go_upto_region 3 with (first | ((with_reducible show wpList _ _ _ (Oper.mk _ (Op.load _ _) _ _ _ _ :: _) _ _); refine wpList_load_g hl1 _ rfl rfl (by go_simp) ?_) | ((with_reducible show wpList _ _ _ (Oper.mk _ (Op.load _ _) _ _ _ _ :: _) _ _); refine wpList_load_g hl2 _ rfl rfl (by go_simp) ?_))
        have hz1 := blk_below (blk_new wr (.cells (rowV rowZ) 38)) (below_alloc (Below.refl _ _) (.cells (rowV rowZ) 38))
        have hz2 := blk_new (wr.alloc (.cells (rowV rowZ) 38)) (.cells (rowV rowZ) 38)
        rw [show (wr.alloc (.cells (rowV rowZ) 38)).heap.size = wr.heap.size + 1 by simp] at hz2
        have hb5 : Below wr.heap.size wr ((wr.alloc (.cells (rowV rowZ) 38)).alloc (.cells (rowV rowZ) 38)) := below_alloc (below_alloc (Below.refl _ _) _) _
        obtain ⟨w5, hw5⟩ : ∃ w5, ((wr.alloc (.cells (rowV rowZ) 38)).alloc (.cells (rowV rowZ) 38)) = w5 := ⟨_, rfl⟩
        rw [show ((wr.alloc (.cells #[.int .i64 0, .int .u8 0, .int .u8 0, .int .u8 0, .int .u8 0, .int .u8 0, .int .u8 0, .int .u8 0, .int .u8 0, .int .u8 0, .int .u8 0, .int .u8 0, .int .u8 0, .int .u8 0, .int .u8 0, .int .u8 0, .int .u8 0, .int .i64 0, .int .i64 0] 38)).alloc (.cells #[.int .i64 0, .int .u8 0, .int .u8 0, .int .u8 0, .int .u8 0, .int .u8 0, .int .u8 0, .int .u8 0, .int .u8 0, .int .u8 0, .int .u8 0, .int .u8 0, .int .u8 0, .int .u8 0, .int .u8 0, .int .u8 0, .int .u8 0, .int .i64 0, .int .i64 0] 38)) = w5 from hw5]
        rw [hw5] at hz1 hz2 hb5
        have HZ1 := Lib.hid hz1
        have HZ2 := Lib.hid hz2
        have HB5 := Lib.hid hb5
        have HR5 := Lib.hid (HH.out.2.2.2.2.1.below hb5)
        have hl1 := ((tab_at HR5.out.t1).all w5 (Below.refl _ _)).2
        have hl2 := ((tab_at HR5.out.t2).all w5 (Below.refl _ _)).2
        clear hz1 hz2 hb5 hw5
        have hrow := (HLB.out w5 HB5.out).row
        go_upto_region 15 with (first | ((with_reducible show wpList _ _ _ (Oper.mk _ (Op.load _ _) _ _ _ _ :: _) _ _); refine wpList_load_g hl1 _ rfl rfl (by go_simp) ?_) | ((with_reducible show wpList _ _ _ (Oper.mk _ (Op.load _ _) _ _ _ _ :: _) _ _); refine wpList_load_g hl2 _ rfl rfl (by go_simp) ?_) | ((with_reducible show wpList _ _ _ (Oper.mk _ (Op.load _ _) _ _ _ _ :: _) _ _); refine wpList_load_g hrow _ rfl rfl (by go_simp) ?_) | ((with_reducible show wpList _ _ _ (Oper.mk _ (Op.store _ _ _) _ _ _ _ :: _) _ _); refine wpList_store_blk HZ2.out 38 0 (rowV (rowAt b k)) (store_row_fit hfb rfl) (info_row hfb) (rowV_one _) _ _ rfl rfl rfl rfl ?_; intro w6 hg9 hs9 hb9; rw [splice_row hfb rfl] at hb9; have H6 := Lib.hid (And.intro hg9 hb9); clear hg9 hs9 hb9))
        have HB6 := Lib.hid (below_grown HB5.out H6.out.1 (by omega))
        have hX := load_row rowZ_fits (blk_grown HZ1.out H6.out.1 (fun e => by injection e with e; omega))
        have hYY := load_row hfb H6.out.2
        have HJ6 := Lib.hid (HJ.out pre wr w6 none HH.out.2.2.1 (grown_of_below HB6.out none) (fun r e => by cases e))
        refine (wpIn_wide (n := nn)).1 ?_
        refine regionIn_of_take open_wide 3 (by rfl) ?_
        simp only [List.take_succ_cons, List.take_zero, List.drop_succ_cons, List.drop_zero]
        go_wp2_with (first | ((with_reducible show wpList _ _ _ (Oper.mk _ (Op.load _ _) _ _ _ _ :: _) _ _); refine wpList_load_g hX _ rfl rfl (by go_simp) ?_) | ((with_reducible show wpList _ _ _ (Oper.mk _ (Op.load _ _) _ _ _ _ :: _) _ _); refine wpList_load_g hYY _ rfl rfl (by go_simp) ?_))
        refine onlyNormal_in ?_
        have hpl := congrArg List.length HH.out.2.2.2.1
        rw [hs, List.length_append, List.length_map, List.length_cons] at hpl
        obtain ⟨fn, tmps, assign, body, hy, hR⟩ := HY.out pre ⟨(rowZ, (rowAt b k)), rowZ_ok, OB2.out.at_ (by omega)⟩ w6 HJ6.out (by omega)
        have HRD := Lib.hid hR
        simp only [rrV] at hy
        clear hR hX hYY hpl
        gi_wp2
        refine ⟨fun hd => (by cases hd), HRD.out.mono ?_⟩
        rintro e W3 (⟨rfl, hJ3, hk3⟩ | ⟨rfl, hJx3⟩)
        · have H3 := Lib.hid (And.intro hJ3 hk3)
          clear hJ3 hk3 hy
          gi_wp2
          go_wp2
          go_roundw
          case measure => simp [intOf]; omega
          case rel => exact ⟨i, k+1, pre ++ [⟨(rowZ, (rowAt b k)), rowZ_ok, OB2.out.at_ (by omega)⟩], by go_num, by go_num, by omega, by omega, H3.out.1, by rw [List.map_append, List.append_assoc]; rw [← HH.out.2.2.2.1, hs]; rfl, (HH.out.2.2.2.2.1.below HB6.out).kept HBB.out H3.out.2, Nat.le_trans HH.out.2.2.2.2.2 (Nat.le_trans HB6.out.size H3.out.2.size)⟩
        · have H3 := Lib.hid hJx3
          clear hJx3 hy
          gi_wp2
          go_wp2
          refine bodyPost_ret (results_none rfl _ _ _) rfl ?_
          exact ⟨⟨_, rfl⟩, .inr ⟨_, trivial, H3.out⟩⟩
      · have hk0 : k = m := by omega
        subst hk0
        have hend := HH.out.2.2.2.1
        rw [mrgP_end (by omega) (by omega), List.append_nil] at hend
        have HEND := Lib.hid hend
        clear hend
        go_wp2_with (first | ((with_reducible show wpList _ _ _ (Oper.mk _ (Op.load _ _) _ _ _ _ :: _) _ _); refine wpList_load_g hl1 _ rfl rfl (by go_simp) ?_) | ((with_reducible show wpList _ _ _ (Oper.mk _ (Op.load _ _) _ _ _ _ :: _) _ _); refine wpList_load_g hl2 _ rfl rfl (by go_simp) ?_))
        go_end0
        exact ⟨⟨_, rfl⟩, .inl ⟨_, HEND.out, HH.out.2.2.1⟩⟩
end Go.Proofs.YtihfaknflfmohaaDoor

/- Plain laws of tables (layer 9), fourth part: as bytes, and back. -/
namespace Go.Proofs.YtihfaknflfmohaaDoor
set_option linter.unusedVariables false
set_option linter.unusedSimpArgs false
set_option maxRecDepth 4000

def encR (r : Row) : List Int := encP r.p ++ [r.h % 256]
def encRs (t : List Row) : List Int := t.flatMap encR
def encT (t : List Row) : List Int := ((t.length : Int) % 256) :: encRs t
theorem encRs_snoc (t : List Row) (r : Row) : encRs (t ++ [r]) = encRs t ++ encR r := by simp [encRs]
theorem encRs_cons (t : List Row) (r : Row) : encRs (r :: t) = encR r ++ encRs t := by simp [encRs]
def decAcc : Nat → List Row → List Int → Int × List Row × List Int
  | 0, acc, xs => (0, acc, xs)
  | k + 1, acc, xs => if decPE xs = 7 then (7, [], []) else if decPE xs ≠ 0 then (190, [], []) else if xs.length ≤ (decPN xs).toNat then (7, [], []) else decAcc k (acc ++ [⟨decP xs, rd xs (decPN xs)⟩]) (xs.drop ((decPN xs).toNat + 1))
def decTR (xs : List Int) : Int × List Row × List Int := decAcc (rd xs 0).toNat [] (xs.drop 1)
def decTE (xs : List Int) : Int := if xs.length = 0 then 7 else if (decTR xs).1 ≠ 0 then (decTR xs).1 else if (decTR xs).2.2.length = 0 ∧ tabB (decTR xs).2.1 = true then 0 else 190
def decTL (xs : List Int) : List Row := if decTE xs = 0 then (decTR xs).2.1 else []

theorem rd_at (xs ys : List Int) (a : Int) : rd (xs ++ a :: ys) (xs.length : Int) = a := by
  unfold rd
  simp
theorem decAcc_row {r : Row} (hf : r.fits) (hr : r.okB = true) (k : Nat) (acc : List Row) (raw : List Int) : decAcc (k + 1) acc (encR r ++ raw) = decAcc k (acc ++ [r]) raw := by
  obtain ⟨h1, h2, h3⟩ := (okB_iff r).1 hr
  obtain ⟨d1, d2, d3⟩ := dec_enc hf h1 (r.h % 256 :: raw)
  have e : encR r ++ raw = encP r.p ++ (r.h % 256 :: raw) := by simp [encR]
  have hh : r.h % 256 = r.h := by omega
  rw [e, decAcc, if_neg (by rw [d1]; decide), if_neg (by rw [d1]; simp), if_neg (by rw [d3]; simp), d2, d3, rd_at, hh]
  have : (encP r.p ++ r.h :: raw).drop (((encP r.p).length : Int).toNat + 1) = raw := by
    rw [Int.toNat_natCast, List.drop_append, List.drop_eq_nil_of_le (by omega)]
    simp
  rw [this]
theorem decAcc_rows : ∀ {t : List Row}, Fits t → (∀ r ∈ t, r.okB = true) → ∀ acc raw, decAcc t.length acc (encRs t ++ raw) = (0, acc ++ t, raw)
  | [], _, _, acc, raw => by simp [decAcc, encRs]
  | r :: t, hf, hr, acc, raw => by
    rw [encRs_cons, List.append_assoc, List.length_cons, decAcc_row (hf r (by simp)) (hr r (by simp)), decAcc_rows hf.tail (fun x hx => hr x (by simp [hx]))]
    simp
theorem decT_enc {t : List Row} (hf : Fits t) (ht : tabB t = true) : decTE (encT t) = 0 ∧ decTL (encT t) = t := by
  obtain ⟨h1, h2, h3⟩ := tabB_to ht
  have e : decTR (encT t) = (0, t, []) := by
    unfold decTR encT
    rw [rd_0, List.drop_one, List.tail_cons, show (((t.length : Int) % 256).toNat) = t.length by omega]
    have := decAcc_rows hf h2 [] []
    simpa using this
  have e1 : decTE (encT t) = 0 := by
    unfold decTE
    rw [if_neg (by simp [encT]), e, if_neg (by simp), if_pos ⟨rfl, ht⟩]
  refine ⟨e1, ?_⟩
  unfold decTL
  rw [if_pos e1, e]
theorem decAcc_cut : ∀ {t : List Row}, Fits t → (∀ r ∈ t, r.okB = true) → ∀ acc m, m < (encRs t).length → (decAcc t.length acc ((encRs t).take m)).1 = 7
  | [], _, _, acc, m, hm => by simp [encRs] at hm
  | r :: t, hf, hr, acc, m, hm => by
    have hr0 := hr r (by simp)
    have hf0 := hf r (by simp)
    obtain ⟨h1, _, _⟩ := (okB_iff r).1 hr0
    have hlen : (encR r).length = (encP r.p).length + 1 := by simp [encR]
    rw [encRs_cons] at hm ⊢
    rw [List.length_append] at hm
    by_cases hge : (encR r).length ≤ m
    · have e : (encR r ++ encRs t).take m = encR r ++ (encRs t).take (m - (encR r).length) := by
        rw [List.take_append, List.take_of_length_le hge]
      rw [e, List.length_cons, decAcc_row hf0 hr0]
      exact decAcc_cut hf.tail (fun x hx => hr x (by simp [hx])) _ _ (by omega)
    · have e : (encR r ++ encRs t).take m = (encP r.p).take m := by
        rw [List.take_append_of_le_length (by omega)]
        unfold encR
        rw [List.take_append_of_le_length (by omega)]
      rw [e, List.length_cons, decAcc]
      by_cases hlt : m < (encP r.p).length
      · rw [if_pos (dec_cut hf0 h1 m hlt)]
      · obtain ⟨d1, d2, d3⟩ := dec_enc hf0 h1 []
        rw [List.append_nil] at d1 d3
        rw [List.take_of_length_le (by omega), if_neg (by rw [d1]; decide), if_neg (by rw [d1]; simp), if_pos (by rw [d3]; simp)]
theorem decT_cut {t : List Row} (hf : Fits t) (ht : tabB t = true) (k : Nat) (hk : k < (encT t).length) : decTE ((encT t).take k) = 7 := by
  obtain ⟨h1, h2, h3⟩ := tabB_to ht
  cases k with
  | zero => rfl
  | succ m =>
    have hm : m < (encRs t).length := by simpa [encT] using hk
    have e : (decTR ((encT t).take (m + 1))).1 = 7 := by
      unfold decTR encT
      rw [List.take_succ_cons, rd_0, List.drop_one, List.tail_cons, show (((t.length : Int) % 256).toNat) = t.length by omega]
      exact decAcc_cut hf h2 [] m hm
    unfold decTE
    rw [if_neg (by simp [encT]), e, if_pos (by decide)]
theorem decAcc_fits : ∀ (k : Nat) (acc : List Row) (xs : List Int), Bytes xs → Fits acc → Fits (decAcc k acc xs).2.1
  | 0, acc, xs, _, ha => ha
  | k + 1, acc, xs, hx, ha => by
    rw [decAcc]
    split
    · intro r hr; cases hr
    · split
      · intro r hr; cases hr
      · rename_i h7 h0
        split
        · intro r hr; cases hr
        · have h0' : decPE xs = 0 := by simpa using h0
          have hb := (enc_dec hx h0').2.1
          refine decAcc_fits k _ _ (hx.drop _) (fun r hr => ?_)
          rcases List.mem_append.1 hr with h | h
          · exact ha r h
          · rw [List.mem_singleton] at h
            rw [h]
            exact hb
end Go.Proofs.YtihfaknflfmohaaDoor

/- Layer 9 (table): Encode, and the document's bytes. -/
namespace Go.Proofs.YtihfaknflfmohaaDoor
open Go.RowKit
set_option linter.unusedVariables false
set_option linter.unusedSimpArgs false
set_option maxRecDepth 4000
theorem encR_bytes {r : Row} (hf : r.fits) : Bytes (encR r) := by
  intro x hx
  unfold encR encP at hx
  simp only [List.cons_append, List.mem_cons, List.mem_append, List.not_mem_nil, or_false] at hx
  rcases hx with rfl | rfl | hx | rfl
  · omega
  · omega
  · exact hf.rng x (List.mem_of_mem_take hx)
  · omega
theorem encR_len {r : Row} (hf : r.fits) (hr : r.p.right = true) : (encR r).length ≤ 19 := by
  have h1 := encP_len hf hr
  obtain ⟨b, hb, _, hb2⟩ := right_b hr
  have h2 := fullB_le hb2
  unfold encR
  rw [List.length_append, h1, hb]
  simp
  omega
theorem encRs_take {t : List Row} {i : Nat} (hi : i < t.length) : encRs (t.take (i + 1)) = encRs (t.take i) ++ encP (rowAt t i).p ++ [(rowAt t i).h % 256] := by
  rw [show t.take (i + 1) = t.take i ++ [rowAt t i] from Shape.take_succ (S := rowK) hi, encRs_snoc]
  simp [encR]
theorem blk_own2 {w w1 : World} {g : Nat} {o : Obj} {A : Option Addr} {n c : Nat} (h : w.heap[g]? = some o) (hg : w.grownBy w1 ((Value.slice A n c).ownBlock)) (ha : ∀ ad, A = some ad → ad.block ≠ g) : w1.heap[g]? = some o :=
  blk_grown h hg (fun e => by
    obtain ⟨ad, e1, e2⟩ := own_of e.symm
    exact ha ad e1 e2)
def encTE (t : List Row) : List Int := if tabB t then encT t else []
set_option maxHeartbeats 4000000 in
theorem tencode_any (A : Option Addr) (n c : Nat) (t : List Row) (w : World) (hL : Laid w) (ht : RT w A n c t) (hn : n ≤ 100000) : Calls Tryd.prog 51 #[.agg (tabV A n c)] w fun e w' => ∃ A' n' c', e = .returned (.tuple #[.slice A' n' c', .int .i64 (errT t)]) ∧ OB w' w.heap.size A' n' c' (encTE t) ∧ Below w.heap.size w w' := by
  have hblk1 := blk_new w (.cells (tabV A n c) 28)
  have hbel1 : Below w.heap.size w (w.alloc (.cells (tabV A n c) 28)) := below_alloc (Below.refl _ _) _
  have HP1 := Lib.hid (tab_at hblk1)
  have HBK1 := Lib.hid hblk1
  have HBE := Lib.hid hbel1
  have HL := Lib.hid (hL.below HBE.out)
  obtain ⟨cs1, hcs1⟩ : ∃ cs, tabV A n c = cs := ⟨_, rfl⟩
  simp only [hcs1] at HBE HL HP1 HBK1 ⊢
  have HC1 := Lib.hid hcs1
  clear hL hcs1 hblk1 hbel1
  have HT := Lib.hid (ht.below HBE.out)
  have hl1 := (HP1.out.all _ (Below.refl _ _)).1
  rw [HC1.out] at hl1
  clear ht
  go_enter Tryd.func51, Tryd.ntmps51
  go_wp2_with (first | ((with_reducible show wpList _ _ _ (Oper.mk _ (Op.load _ _) _ _ _ _ :: _) _ _); refine wpList_load_g hl1 _ rfl rfl (by go_simp) ?_))
  have hch := tcheck_any A n c t _ HL.out HT.out hn
  rw [HC1.out] at hch
  refine hch.mono ?_
  clear hch hl1
  rintro e w1 ⟨rfl, hb1⟩
  have HB1 := Lib.hid hb1
  clear hb1
  cases hR : tabB t with
  | false =>
    have HE := Lib.hid (And.intro (show encTE t = [] by unfold encTE; rw [hR]; rfl) (errT_false hR))
    rw [errT_false hR]
    clear hR
    go_wp2
    go_ret2
    rw [HE.out.1, HE.out.2]
    exact ⟨_, _, _, rfl, OB.nil _ _, below_step HBE.out HB1.out⟩
  | true =>
    have HE := Lib.hid (And.intro (show encTE t = (n : Int) :: encRs t by
      unfold encTE encT
      have := (tabB_to hR).1
      rw [hR, if_pos rfl, HT.out.len, show ((n : Int) % 256) = n by rw [HT.out.len] at this; omega]) (errT_true hR))
    have HALL := Lib.hid (tabB_to hR).2.1
    have hn40 : n ≤ 40 := by have := (tabB_to hR).1; rw [HT.out.len] at this; exact this
    rw [errT_true hR]
    clear hR
    have hl1 := (HP1.out.all w1 HB1.out).2
    have hl2 := (HP1.out.all (w1.alloc (.cells #[.int .u8 (n : Int)] 5)) (below_step HB1.out (below_alloc (Below.refl _ _) _))).2
    have HO0 := Lib.hid (OB.one w1 (n : Int) (by omega) w1.heap.size (Nat.le_refl _))
    go_wp2_with (first | ((with_reducible show wpList _ _ _ (Oper.mk _ (Op.load _ _) _ _ _ _ :: _) _ _); refine wpList_load_g hl1 _ rfl rfl (by go_simp) ?_) | ((with_reducible show wpList _ _ _ (Oper.mk _ (Op.load _ _) _ _ _ _ :: _) _ _); refine wpList_load_g hl2 _ rfl rfl (by go_simp) ?_))
    clear hl1 hl2
    go_loopw [5, 23] (fun y x wr => ∃ (i : Nat) (A1 : Option Addr) (n1 c1 : Nat), x = .int .i64 i ∧ y = .slice A1 n1 c1 ∧ Hid (i ≤ n ∧ n1 ≤ 1 + 19 * i ∧ OB wr w1.heap.size A1 n1 c1 ((n : Int) :: encRs (t.take i)) ∧ Below w1.heap.size w1 wr)) (fun _ x _ => n - (intOf x).toNat)
    case atStart => exact ⟨0, _, 1, 1, rfl, rfl, Nat.zero_le _, by omega, HO0.out, below_alloc (Below.refl _ _) _⟩
    case round =>
      obtain ⟨i, A1, n1, c1, rfl, rfl, HH⟩ := hrel
      have hn1 := HH.out.2.1
      have HBR := Lib.hid (below_step HB1.out HH.out.2.2.2)
      by_cases hlt : i < n
      · have hlt' : (i : Int) < n := by omega
        obtain ⟨b, o, rfl, hc⟩ := RT.at_ HT.out (by omega)
        have HC3 := Lib.hid (hc i hlt)
        have HF := Lib.hid (RT.fits_at HT.out hlt)
        have hilt : i < t.length := by rw [HT.out.len]; exact hlt
        have hrr := ((okB_iff _).1 (HALL.out _ (row_mem hilt))).1
        have HTS := Lib.hid (encRs_take hilt)
        have hrow := (rowLd_of HF.out (HC3.out.below HBR.out)).row
        have HRR := Lib.hid hrr
        clear hc hilt hrr
        go_wp2_with (first | ((with_reducible show wpList _ _ _ (Oper.mk _ (Op.load _ _) _ _ _ _ :: _) _ _); refine wpList_load_g hrow _ rfl rfl (by go_simp) ?_) | ((with_reducible show wpList _ _ _ (Oper.mk _ (Op.store _ _ _) _ _ _ _ :: _) _ _); refine wpList_store_blk (blk_new wr _) 38 0 (rowV (rowAt t i)) (store_row_fit HF.out rfl) (info_row HF.out) (rowV_one _) _ _ rfl rfl rfl rfl ?_; intro w3 hg9 hs9 hb9; rw [splice_row HF.out rfl] at hb9; have H3 := Lib.hid (And.intro hg9 hb9); clear hg9 hs9 hb9) | ((with_reducible show wpList _ _ _ (Oper.mk _ (Op.load _ _) _ _ _ _ :: _) _ _); refine wpList_load_g (((row_at HF.out H3.out.2).all _ (Below.refl _ _)).pfx) _ rfl rfl (by go_simp) ?_))
        have HB3 := Lib.hid (below_grown (below_alloc (Below.refl wr.heap.size wr) (.cells (rowV rowZ) 38)) H3.out.1 (Nat.le_refl _))
        refine (encode_any (rowAt t i).p w3 (HL.out.below (below_step HBR.out HB3.out)) HF.out).mono ?_
        rw [encPE_yes HRR.out]
        rintro e w4 ⟨A2, n2, c2, rfl, hO2, hb4⟩
        have HB4 := Lib.hid (below_step HB3.out hb4)
        have HR4 := Lib.hid (blk_below H3.out.2 hb4)
        have HO4 := Lib.hid (HH.out.2.2.1.below HB4.out)
        have HE4 := Lib.hid hO2.reads
        have HBW := Lib.hid (below_step HH.out.2.2.2 HB4.out)
        have hA1 := HH.out.2.2.1.lt
        have hA1b := HH.out.2.2.1.base_
        have hn2 : n2 + 1 ≤ 19 := by
          have h1 := hO2.len
          have h2 := encR_len HF.out HRR.out
          unfold encR at h2
          rw [List.length_append] at h2
          simp at h2
          omega
        have hg4 := blk_lt HR4.out
        have hs1 := HH.out.2.2.2.size
        have hsw := HBW.out.size
        clear hO2 hb4 hrow H3 HB3
        go_wp2_with fail
        have hn40' : n1 ≤ 761 := by omega
        refine wp_region_fork ((fun w0 => w0.heap[wr.heap.size]? = some (.cells (rowV (rowAt t i)) 38 (0, 0)))) (OrdT.fork [0, 1, 3, 4, 5] 2 6 (OrdT.lin [6, 7, 8]) (OrdT.lin [2, 7, 8])) [(0, 0), (1, 0), (2, 2), (3, 0), (4, 0), (5, 0), (6, 2), (7, 2), (8, 0)] (by kernel_rfl) (by kernel_rfl) (HR4.out) ?_
        simp only [wpF]
        iterate 3 (refine wpO_step0 rfl rfl (fun K hK => ?_); go_simp; refine hK _ _ ?_; clear hK K)
        refine wpO_loadW (t := 3) (ad := ⟨wr.heap.size, 18, none⟩) rfl rfl ?hw rfl rfl ((fun w0 hS => ((row_at HF.out hS).all _ (Below.refl _ _)).hop)) ?_
        case hw => go_simp
        iterate 1 (refine wpO_step0 rfl rfl (fun K hK => ?_); go_simp; refine hK _ _ ?_; clear hK K)
        have hy0 : 0 ≤ (rowAt t i).h % 256 := by omega
        have hy1 : (rowAt t i).h % 256 < 256 := by omega
        refine wpO_nil ⟨?_, ?_⟩
        · refine wpO_step2 rfl rfl (HR4.out) (fun K hK => ?_)
          rw [if_pos (show Region.wanted _ _ = true from rfl)]
          refine oper_append_bytes (.tmp 33) (.tmp 34) rfl rfl rfl (HO4.out.below (below_drew1 _)) (HE4.out.below (below_drew1 _)) hsw (by omega) ?_
          intro A5 c5 w5 h1 h2 h3
          have hR5 := blk_own2 (show (w4.drew).heap[wr.heap.size]? = _ from HR4.out) h2 (fun ad e => by have := hA1 ad e; omega)
          have hb5 : Below w1.heap.size w1 w5 := below_own (below_step HBW.out (below_drew1 _)) h2 hA1b
          have hA5 : ∀ ad, A5 = some ad → ad.block ≠ wr.heap.size := fun ad e => by
            rcases h3 with h | h
            · have := hA1 ad (h ▸ e); omega
            · have := h ad e
              have h4 : wr.heap.size < w4.drew.heap.size := hg4
              omega
          have H5 := Lib.hid (And.intro h1 (And.intro hb5 (And.intro hR5 hA5)))
          have hs5 := hb5.size
          clear h1 h2 h3 hR5 hb5 hA5
          refine hK _ _ ⟨H5.out.2.2.1, ?_⟩
          clear hK K
          refine wpO_nil ?_
          refine wpO_step2 rfl rfl (H5.out.2.2.1) (fun K hK => ?_)
          go_simp
          have HA5 := Lib.hid (below_alloc (Below.refl w5.heap.size w5) (.cells #[.int .u8 ((rowAt t i).h % 256)] 5))
          refine hK _ _ ⟨blk_below H5.out.2.2.1 HA5.out, ?_⟩
          clear hK K
          refine wpO_step2 rfl rfl (blk_below H5.out.2.2.1 HA5.out) (fun K hK => ?_)
          rw [if_pos (show Region.wanted _ _ = true from rfl)]
          refine oper_append_bytes (.tmp 35) (.tmp 39) rfl rfl rfl (H5.out.1.below HA5.out) (OB.one w5 ((rowAt t i).h % 256) ⟨hy0, hy1⟩ w1.heap.size hs5).reads (by simp; omega) (by omega) ?_
          intro A6 c6 w6 h1 h2 h3
          have H6 := Lib.hid (And.intro h1 (below_own (below_step H5.out.2.1 HA5.out) h2 H5.out.1.base_))
          have hR6 := blk_own2 (blk_below H5.out.2.2.1 HA5.out) h2 H5.out.2.2.2
          clear h1 h2 h3
          refine hK _ _ ⟨hR6, ?_⟩
          clear hK K
          iterate 1 (refine wpO_step0 rfl rfl (fun K hK => ?_); go_simp; refine hK _ _ ?_; clear hK K)
          refine wpO_nil ?_
          go_wp2_with fail
          go_roundw
          case measure => simp [intOf]; omega
          case rel => exact ⟨i + 1, A6, n1 + n2 + 1, c6, by go_num, rfl, by omega, by omega, by rw [HTS.out]; exact H6.out.1, H6.out.2⟩
        · refine wpO_step2 rfl rfl (HR4.out) (fun K hK => ?_)
          go_simp
          have HA5 := Lib.hid (below_step (below_alloc (Below.refl w4.heap.size w4) (.cells #[.int .u8 ((rowAt t i).h % 256)] 5)) (below_drew1 _))
          have HR5 := Lib.hid (blk_below HR4.out HA5.out)
          have HY := Lib.hid ((OB.one w4 ((rowAt t i).h % 256) ⟨hy0, hy1⟩ 0 (Nat.zero_le _)).below (below_drew1 _))
          refine hK _ _ ⟨HR5.out, ?_⟩
          clear hK K
          refine wpO_nil ?_
          refine wpO_step2 rfl rfl (HR5.out) (fun K hK => ?_)
          rw [if_pos (show Region.wanted _ _ = true from rfl)]
          refine oper_append_bytes (.tmp 33) (.tmp 34) rfl rfl rfl (HO4.out.below HA5.out) (HE4.out.below HA5.out) (Nat.le_trans hsw HA5.out.size) (by omega) ?_
          intro A5 c5 w5 h1 h2 h3
          have hR5 := blk_own2 HR5.out h2 (fun ad e => by have := hA1 ad e; omega)
          have hb5 : Below w1.heap.size w1 w5 := below_own (below_step HBW.out HA5.out) h2 hA1b
          have hA5 : ∀ ad, A5 = some ad → ad.block ≠ wr.heap.size := fun ad e => by
            rcases h3 with h | h
            · have := hA1 ad (h ▸ e); omega
            · exact Nat.ne_of_gt (Nat.lt_of_lt_of_le hg4 (Nat.le_trans HA5.out.size (h ad e)))
          have hY5 := HY.out.reads.grown h2 (fun ad e h => by
            injection e with e
            subst e
            obtain ⟨ad2, e1, e2⟩ := own_of h.symm
            have := hA1 ad2 e1
            simp only at e2
            omega)
          have H5 := Lib.hid (And.intro h1 (And.intro hb5 (And.intro hR5 hA5)))
          have HY5 := Lib.hid hY5
          have hs5 := hb5.size
          clear h1 h2 h3 hR5 hb5 hA5 hY5
          refine hK _ _ ⟨H5.out.2.2.1, ?_⟩
          clear hK K
          refine wpO_step2 rfl rfl (H5.out.2.2.1) (fun K hK => ?_)
          rw [if_pos (show Region.wanted _ _ = true from rfl)]
          refine oper_append_bytes (.tmp 35) (.tmp 39) rfl rfl rfl H5.out.1 HY5.out hs5 (by omega) ?_
          intro A6 c6 w6 h1 h2 h3
          have H6 := Lib.hid (And.intro h1 (below_own H5.out.2.1 h2 H5.out.1.base_))
          have hR6 := blk_own2 H5.out.2.2.1 h2 H5.out.2.2.2
          clear h1 h2 h3
          refine hK _ _ ⟨hR6, ?_⟩
          clear hK K
          iterate 1 (refine wpO_step0 rfl rfl (fun K hK => ?_); go_simp; refine hK _ _ ?_; clear hK K)
          refine wpO_nil ?_
          go_wp2_with fail
          go_roundw
          case measure => simp [intOf]; omega
          case rel => exact ⟨i + 1, A6, n1 + n2 + 1, c6, by go_num, rfl, by omega, by omega, by rw [HTS.out]; exact H6.out.1, H6.out.2⟩
      · have hlt' : decide (i < n) = false := decide_eq_false hlt
        have htk : t.take i = t := List.take_of_length_le (by rw [HT.out.len]; omega)
        have hO := HH.out.2.2.1
        rw [htk] at hO
        have HO := Lib.hid hO
        clear hlt htk hO
        go_wp2
        go_ret2
        rw [HE.out.1, HE.out.2]
        have hs := (below_step HBE.out HB1.out).size
        exact ⟨_, _, _, rfl, HO.out.lower hs, below_step HBE.out HBR.out⟩
end Go.Proofs.YtihfaknflfmohaaDoor

/- Layer 9 (table): Differ. -/
namespace Go.Proofs.YtihfaknflfmohaaDoor
open Go.RowKit
set_option linter.unusedVariables false
set_option linter.unusedSimpArgs false
set_option maxRecDepth 4000
theorem fold_rr (x : RR) (T : Array Value) : ((#[20, 21] : Array Tmp).zip (rrV x)).foldl (fun t (p, v) => t.setIfInBounds p v) T = (T.setIfInBounds 20 (.agg (rowV x.1.1))).setIfInBounds 21 (.agg (rowV x.1.2)) := by
  simp [rrV]
theorem difsOf_len : ∀ l : List (Row × Row), (difsOf l).length ≤ l.length
  | [] => Nat.le_refl _
  | x :: l => by
    have := difsOf_len l
    show (difOf x ++ difsOf l).length ≤ _
    have h1 : (difOf x).length ≤ 1 := by
      unfold difOf
      split
      · simp
      · split <;> simp
    rw [List.length_append, List.length_cons]
    omega
theorem load_pfxs {w : World} {ad : Addr} {v : Value} (h : w.cell? ad = some v) : (Instr.loadAt 86 (.pointer (some ad))).run Tryd.prog w = .ok v w := by
  go_simp
theorem tboth_any (A : Option Addr) (n c : Nat) (A2 : Option Addr) (m c2 : Nat) (w : World) : Calls Tryd.prog 87 #[.agg (tabV A n c), .agg (tabV A2 m c2)] w fun e w' =>
    e = .returned (.func (.func 111) #[] #[.pointer (some ⟨w.heap.size, 0, none⟩), .pointer (some ⟨w.heap.size + 1, 0, none⟩)]) ∧ w' = (w.alloc (.cells (tabV A n c) 28)).alloc (.cells (tabV A2 m c2) 28) := by
  go_enter Tryd.func87, Tryd.ntmps87
  go_wp2
  go_ret
  exact ⟨rfl, rfl⟩
theorem both1_stops (nn B1 B2 n₀ bo : Nat) (A : Option Addr) (n c : Nat) (a : List Row) (A2 : Option Addr) (m c2 : Nat) (b : List Row) (oa : Oks a) (ob : Oks b) (hn : n ≤ 100000) (hm : m ≤ 100000) (hBB : BothB n₀ bo B1 B2 A n A2 m) (w0 : World) (h0 : n₀ ≤ w0.heap.size) (hR : BothR w0 B1 B2 A n c a A2 m c2 b) :
    SeqStopsK Fence.wide nn Tryd.prog 111 #[.pointer (some ⟨B1, 0, none⟩), .pointer (some ⟨B2, 0, none⟩)] rrV (fun W W' => KeptB W W' bo n₀) (fun xs => xs.map (·.1) = mrgP a b) (fun _ => True) (mrgP a b).length w0 :=
  fun l J Jx W hW hJ _ hY hJ0 => callsIn_wide.2 (both1_any nn l B1 B2 n₀ bo A n c a A2 m c2 b oa ob hn hm hBB J Jx W (Nat.le_trans h0 hW.size) hJ hY (hR.below hW) hJ0)
theorem keptB_put {n₀ bo : Nat} (W : World) (l : Nat) (o' : Obj) (hl : n₀ ≤ l) : KeptB W (W.putObj l o') bo n₀ := by
  have hg := grownBy_putObj' W l o'
  exact ⟨hg.os, hg.tape, hg.output, hg.size, fun k hk _ => by
    by_cases hlt : k < W.heap.size
    · exact hg.block k hlt (fun e => by injection e with e; omega)
    · exact World.putObj_heap_other (by omega)⟩
/-- Between two rounds: the box holds the prefixes that the pairs have not alike. -/
structure DifI (w0 : World) (bo n₀ : Nat) (pre : List RR) (W : World) : Prop where
  box : ∃ A' n' c', W.heap[bo]? = some (.cells #[.slice A' n' c'] 86 (0, 0)) ∧ OS pfxK W n₀ A' n' c' (difsOf (pre.map (·.1)))
  kept : KeptB w0 W bo n₀
theorem difI_own (w0 : World) (bo n₀ : Nat) (hb : bo < n₀) (h0 : n₀ ≤ w0.heap.size) : OwnFrom n₀ (DifI w0 bo n₀) := fun s X Y row hs hg hr => by
  obtain ⟨⟨A', n', c', h1, h2⟩, hk⟩ := hs
  have hX : KeptB X Y bo n₀ := ⟨hg.os, hg.tape, hg.output, hg.size, fun k hk1 _ => hg.block k (Nat.lt_of_lt_of_le hk1 (Nat.le_trans h0 hk.size)) (fun e => by have := (hr k e.symm).1; omega)⟩
  refine ⟨⟨A', n', c', blk_grown h1 hg (fun e => ?_), h2.grown hg (fun ad e hh => ?_)⟩, hk.trans hX⟩
  · have := (hr bo e.symm).1
    omega
  · obtain ⟨_, o, ho, hc⟩ := hr _ hh.symm
    obtain ⟨_, _, _, hf, _⟩ := h2.ov.form ad e
    rw [hf] at ho
    cases ho
    cases hc
structure DifA (n₀ : Nat) (f : Nat → Nat → Array Value) (x : RR) (a' : Act) (W : World) : Prop where
  ex : ∃ Bx By, n₀ ≤ Bx ∧ n₀ ≤ By ∧ W.heap[Bx]? = some (.cells (rowV x.1.1) 38 (0, 0)) ∧ W.heap[By]? = some (.cells (rowV x.1.2) 38 (0, 0)) ∧ a' = { tmps := f Bx By, defers := [] }
theorem difA_own (B n₀ : Nat) (f : Nat → Nat → Array Value) (x : RR) (a' : Act) : OwnFrom B (fun (_ : Unit) W => DifA n₀ f x a' W) := fun s X Y row hs hg hr => by
  obtain ⟨Bx, By, h1, h2, h3, h4, h5⟩ := hs.ex
  refine ⟨Bx, By, h1, h2, blk_grown h3 hg (fun e => ?_), blk_grown h4 hg (fun e => ?_), h5⟩
  · obtain ⟨_, o, ho, hc⟩ := hr _ e.symm
    rw [h3] at ho
    cases ho
    cases hc
  · obtain ⟨_, o, ho, hc⟩ := hr _ e.symm
    rw [h4] at ho
    cases ho
    cases hc
def difE (a b : List Row) : Int := if tabB a && tabB b then 0 else 190
def difL (a b : List Row) : List Pfx := if tabB a && tabB b then mrg a b else []
set_option maxRecDepth 100000 in
set_option maxHeartbeats 8000000 in
theorem tdiffer_any (A : Option Addr) (n c : Nat) (a : List Row) (A2 : Option Addr) (m c2 : Nat) (b : List Row) (w : World) (hL : Laid w) (ha : RT w A n c a) (hb : RT w A2 m c2 b) (oa : Oks a) (ob : Oks b) (hn : n ≤ 1000) (hm : m ≤ 1000) :
    Calls Tryd.prog 47 #[.agg (tabV A n c), .agg (tabV A2 m c2)] w fun e w' => ∃ A' n' c', e = .returned (.tuple #[.slice A' n' c', .int .i64 (difE a b)]) ∧ OS pfxK w' w.heap.size A' n' c' (difL a b) ∧ Below w.heap.size w w' := by
  have hblk1 := blk_new w (.cells (tabV A n c) 28)
  have hbel1 : Below w.heap.size w (w.alloc (.cells (tabV A n c) 28)) := below_alloc (Below.refl _ _) _
  have hblk2 := blk_new (w.alloc (.cells (tabV A n c) 28)) (.cells (tabV A2 m c2) 28)
  have hbel2 : Below w.heap.size w ((w.alloc (.cells (tabV A n c) 28)).alloc (.cells (tabV A2 m c2) 28)) := below_alloc (hbel1) _
  rw [show (w.alloc (.cells (tabV A n c) 28)).heap.size = w.heap.size + 1 by simp] at hblk2
  replace hblk1 := blk_below hblk1 (below_alloc (Below.refl _ _) (.cells (tabV A2 m c2) 28))
  have HP1 := Lib.hid (tab_at hblk1)
  have HBK1 := Lib.hid hblk1
  have HP2 := Lib.hid (tab_at hblk2)
  have HBK2 := Lib.hid hblk2
  have HBE := Lib.hid hbel2
  have HL := Lib.hid (hL.below HBE.out)
  obtain ⟨cs1, hcs1⟩ : ∃ cs, tabV A n c = cs := ⟨_, rfl⟩
  obtain ⟨cs2, hcs2⟩ : ∃ cs, tabV A2 m c2 = cs := ⟨_, rfl⟩
  simp only [hcs1, hcs2] at HBE HL HP1 HP2 HBK1 HBK2 ⊢
  have HC1 := Lib.hid hcs1
  have HC2 := Lib.hid hcs2
  clear hL hcs1 hblk1 hbel1 hcs2 hblk2 hbel2
  have H1 := Lib.hid (ha.below HBE.out)
  have H2 := Lib.hid (hb.below HBE.out)
  have OA := Lib.hid oa
  have OB2 := Lib.hid ob
  have hl1 := (HP1.out.all _ (Below.refl _ _)).1
  rw [HC1.out] at hl1
  clear ha hb oa ob
  refine (callsIn_wide (n := 9)).1 (callsIn_of_wp_marks Tryd.func47 rfl trivial ?_ rfl)
  refine wpIn_wide.2 ?_
  simp only [Tryd.ntmps47, List.size_toArray, List.length_cons, List.length_nil, Nat.reduceAdd, Nat.reduceSub, Array.replicate_succ, Array.replicate_zero, List.push_toArray, List.append_toArray, List.nil_append, List.cons_append]
  go_wp2_with (first | ((with_reducible show wpList _ _ _ (Oper.mk _ (Op.load _ _) _ _ _ _ :: _) _ _); refine wpList_load_g hl1 _ rfl rfl (by go_simp) ?_))
  have hch := tcheck_any A n c a _ HL.out H1.out (by omega)
  rw [HC1.out] at hch
  refine hch.mono ?_
  clear hch hl1
  rintro e w1 ⟨rfl, hb1⟩
  have HB1 := Lib.hid hb1
  clear hb1
  cases hRa : tabB a with
  | false =>
    have HE := Lib.hid (show difE a b = 190 ∧ difL a b = [] by unfold difE difL; rw [hRa]; exact ⟨rfl, rfl⟩)
    rw [errT_false hRa]
    clear hRa
    go_wp2
    refine ⟨_, results_tmp2 rfl _ _ _, ?_⟩
    rw [HE.out.1, HE.out.2]
    exact ⟨_, _, _, rfl, OS.nil _ _ _, below_step HBE.out HB1.out⟩
  | true =>
    have hl2 := (HP2.out.all w1 HB1.out).1
    rw [HC2.out] at hl2
    rw [errT_true hRa]
    have HRA := Lib.hid hRa
    clear hRa
    go_wp2_with (first | ((with_reducible show wpList _ _ _ (Oper.mk _ (Op.load _ _) _ _ _ _ :: _) _ _); refine wpList_load_g hl2 _ rfl rfl (by go_simp) ?_))
    have hch := tcheck_any A2 m c2 b w1 (HL.out.below HB1.out) (H2.out.below HB1.out) (by omega)
    rw [HC2.out] at hch
    refine hch.mono ?_
    clear hch hl2
    rintro e w2 ⟨rfl, hb2⟩
    have HB2 := Lib.hid (below_step HB1.out hb2)
    clear hb2
    cases hRb : tabB b with
    | false =>
      have HE := Lib.hid (show difE a b = 190 ∧ difL a b = [] by unfold difE difL; rw [HRA.out, hRb]; exact ⟨rfl, rfl⟩)
      rw [errT_false hRb]
      clear hRb
      go_wp2
      refine ⟨_, results_tmp2 rfl _ _ _, ?_⟩
      rw [HE.out.1, HE.out.2]
      exact ⟨_, _, _, rfl, OS.nil _ _ _, below_step HBE.out HB2.out⟩
    | true =>
      have HRB := Lib.hid hRb
      rw [errT_true hRb]
      clear hRb
      obtain ⟨bo, hbo⟩ : ∃ bo, w2.heap.size = bo := ⟨_, rfl⟩
      have HBA := Lib.hid (below_step HB2.out (below_alloc (Below.refl w2.heap.size w2) (.cells #[.slice none 0 0] 86)))
      have hl1 := (HP1.out.all _ HBA.out).1
      have hl2 := (HP2.out.all _ HBA.out).1
      go_wp2_with (first | ((with_reducible show wpList _ _ _ (Oper.mk _ (Op.load _ _) _ _ _ _ :: _) _ _); refine wpList_load_g hl1 _ rfl rfl (by go_simp) ?_) | ((with_reducible show wpList _ _ _ (Oper.mk _ (Op.load _ _) _ _ _ _ :: _) _ _); refine wpList_load_g hl2 _ rfl rfl (by go_simp) ?_))
      refine (tboth_any A n c A2 m c2 _).mono ?_
      rintro e w3 ⟨rfl, hw3⟩
      have HW3 := Lib.hid hw3
      clear hl1 hl2 hw3
      go_wp2
      have hsz : w2.heap.size = bo := hbo
      have hs3 : w3.heap.size = bo + 3 := by rw [HW3.out]; simp; omega
      have hb23 : Below w2.heap.size w2 w3 := by rw [HW3.out]; exact below_alloc (below_alloc (below_alloc (Below.refl _ _) _) _) _
      have HB3 := Lib.hid (below_step HB2.out hb23)
      have hx1 : w3.heap[bo + 1]? = some (.cells (tabV A n c) 28 (0, 0)) := by
        rw [HW3.out]
        have := blk_new (w2.alloc (.cells #[.slice none 0 0] 86)) (.cells (tabV A n c) 28)
        rw [show (w2.alloc (.cells #[.slice none 0 0] 86)).heap.size = bo + 1 by simp; omega] at this
        exact blk_below this (below_alloc (Below.refl _ _) _)
      have hx2 : w3.heap[bo + 2]? = some (.cells (tabV A2 m c2) 28 (0, 0)) := by
        rw [HW3.out]
        have := blk_new ((w2.alloc (.cells #[.slice none 0 0] 86)).alloc (.cells (tabV A n c) 28)) (.cells (tabV A2 m c2) 28)
        rw [show ((w2.alloc (.cells #[.slice none 0 0] 86)).alloc (.cells (tabV A n c) 28)).heap.size = bo + 2 by simp; omega] at this
        exact this
      have hx0 : w3.heap[bo]? = some (.cells #[.slice none 0 0] 86 (0, 0)) := by
        rw [HW3.out, ← hbo]
        exact blk_below (blk_below (blk_new w2 _) (below_alloc (Below.refl _ _) _)) (below_alloc (Below.refl _ _) _)
      have HBR := Lib.hid (BothR.mk (a := a) (b := b) hx1 hx2 (H1.out.below HB3.out) (H2.out.below HB3.out))
      have hle : ((w.alloc (.cells cs1 28)).alloc (.cells cs2 28)).heap.size ≤ bo := by rw [← hbo]; exact HB2.out.size
      have HBB := Lib.hid (show BothB (bo + 3) bo (bo + 1) (bo + 2) A n A2 m from ⟨⟨by omega, by omega⟩, ⟨by omega, by omega⟩, fun h0 ad e => by have := H1.out.blk_lt h0 ad e; exact ⟨by omega, by omega⟩, fun h0 ad e => by have := H2.out.blk_lt h0 ad e; exact ⟨by omega, by omega⟩⟩)
      refine (wpIn_wide (n := 9)).1 ?_
      refine wpIn_rangeFunc_ownH rfl (by omega) (gf := 111) (lb := #[.pointer (some ⟨bo + 1, 0, none⟩), .pointer (some ⟨bo + 2, 0, none⟩)]) rfl trivial (enters_of Tryd.func111 (by kernel_rfl) rfl)
        (both1_stops (9 - 1) (bo + 1) (bo + 2) (bo + 3) bo A n c a A2 m c2 b OA.out OB2.out (by omega) (by omega) HBB.out w3 (by omega) HBR.out) (fun h k => h.trans k) (fun W l o o' hl _ _ _ => keptB_put W l o' (by omega)) (Below.refl _ _) (fun _ => rfl)
        (DifI w3 bo (bo + 3)) (fun _ _ _ => False) (by rw [hs3]; exact difI_own w3 bo (bo + 3) (by omega) (by omega)) (fun _ _ _ _ _ hs _ _ => hs)
        ⟨⟨none, 0, 0, hx0, OS.nil _ _ _⟩, KeptB.refl _ _ _⟩
        (fun x a' W => DifA (bo + 3) (fun Bx By => #[.agg cs1, .agg cs2, .pointer (some ⟨w.heap.size, 0, none⟩), .pointer (some ⟨w.heap.size + 1, 0, none⟩), .slice none 0 0, .int .i64 0, .pointer (some ⟨bo, 0, none⟩), .pointer (some ⟨Bx, 0, none⟩), .pointer (some ⟨By, 0, none⟩), .agg cs1, .int .i64 0,
          .bool false, .bool false, .agg cs2, .int .i64 0, .bool false, .bool false, .agg (tabV A n c), .agg (tabV A2 m c2), .func (.func 111) #[] #[.pointer (some ⟨bo + 1, 0, none⟩), .pointer (some ⟨bo + 1 + 1, 0, none⟩)], .agg (rowV x.1.1), .agg (rowV x.1.2), undef, undef, undef, undef, undef, undef, undef, undef, undef, undef, undef, undef, undef, undef, undef, undef, undef, undef, undef]) x a' W)
        (fun x a' => difA_own _ _ _ x a') ?assign ?body ?done ?stop
      case stop => exact fun D c pre W _ _ h _ => h.elim
      case assign =>
        intro l pre x W K hi hK
        have HK := Lib.hid hK
        clear hK
        have hWs : bo + 3 ≤ W.heap.size := by rw [← hs3]; exact hi.kept.size
        have HI := Lib.hid hi
        clear hi
        have hz1 := blk_new W (.cells (rowV rowZ) 38)
        have hf1 : x.1.1.fits := x.2.1.fits
        have hf2 : x.1.2.fits := x.2.2.fits
        rw [fold_rr]
        refine wpIn_seq_k (fun K2 hK2 => ?_)
        refine regionIn_of_all (open_round l) (by rfl) ?_
        go_simp
        go_wp2_with (first | ((with_reducible show wpList _ _ _ (Oper.mk _ (Op.store _ _ _) _ _ _ _ :: _) _ _); refine wpList_store_blk hz1 38 0 (rowV x.1.1) (store_row_fit hf1 rfl) (info_row hf1) (rowV_one _) _ _ rfl rfl rfl rfl ?_; intro w5 hg9 hs9 hb9; rw [splice_row hf1 rfl] at hb9; have H5 := Lib.hid (And.intro hg9 hb9); clear hg9 hs9 hb9))
        refine onlyNormal_in ?_
        refine hK2 _ _ ?_
        have hz2 := blk_new w5 (.cells (rowV rowZ) 38)
        have HB5 := Lib.hid (below_grown (below_alloc (Below.refl W.heap.size W) (.cells (rowV rowZ) 38)) H5.out.1 (Nat.le_refl _))
        have hlt5 := blk_lt H5.out.2
        refine regionIn_of_all (open_round l) (by rfl) ?_
        go_simp
        go_wp2_with (first | ((with_reducible show wpList _ _ _ (Oper.mk _ (Op.store _ _ _) _ _ _ _ :: _) _ _); refine wpList_store_blk hz2 38 0 (rowV x.1.2) (store_row_fit hf2 rfl) (info_row hf2) (rowV_one _) _ _ rfl rfl rfl rfl ?_; intro w6 hg9 hs9 hb9; rw [splice_row hf2 rfl] at hb9; have H6 := Lib.hid (And.intro hg9 hb9); clear hg9 hs9 hb9))
        refine onlyNormal_in ?_
        have hb56 : Below w5.heap.size w5 w6 := below_grown (below_alloc (Below.refl _ _) _) H6.out.1 (Nat.le_refl _)
        have hb06 := below_step HB5.out hb56
        obtain ⟨A', n', c', hi1, hi2⟩ := HI.out.box
        exact HK.out _ _ ⟨hb06.size, fun k o _ hk _ => blk_below hk hb06⟩ (KeptB.of_below (hb06.mono hWs)) ⟨⟨A', n', c', blk_below hi1 hb06, hi2.below hb06⟩, HI.out.kept.trans (KeptB.of_below (hb06.mono hWs))⟩ ⟨W.heap.size, w5.heap.size, by omega, by omega, blk_below H5.out.2 hb56, H6.out.2, rfl⟩
      case body =>
        rintro l pre x a' W hl hrec hi ⟨Bx, By, hBx, hBy, hx, hy, rfl⟩ hlen
        have HI := Lib.hid hi
        clear hi
        obtain ⟨A', n', c', hi1, hi2⟩ := HI.out.box
        have hok1 := x.2.1
        have hok2 := x.2.2
        have hX := load_row hok1.fits hx
        have hY := load_row hok2.fits hy
        have hWs : bo + 3 ≤ W.heap.size := by rw [← hs3]; exact HI.out.kept.size
        refine wpIn_block ?_
        refine wpIn_block ?_
        refine wpIn_seq_k (fun K2 hK2 => ?_)
        refine regionIn_of_all (open_round l) (by rfl) ?_
        go_simp
        have heq := row_equal x.1.1 x.1.2 hok1 hok2
        go_wp2_with (first | ((with_reducible show wpList _ _ _ (Oper.mk _ (Op.load _ _) _ _ _ _ :: _) _ _); refine wpList_load_g hX _ rfl rfl (by go_simp) ?_) | ((with_reducible show wpList _ _ _ (Oper.mk _ (Op.load _ _) _ _ _ _ :: _) _ _); refine wpList_load_g hY _ rfl rfl (by go_simp) ?_) | ((with_reducible show wpList _ _ _ (Oper.mk _ (Op.binOp _ _ _ _ _) _ _ _ _ :: _) _ _); refine wpList_exw rfl (row_eql_exec rfl x.1.1 x.1.2 rfl rfl hok1 hok2 _) ?_))
        refine onlyNormal_in ?_
        refine hK2 _ _ ?_
        have HS := Lib.hid (difsOf_snoc (pre.map (·.1)) x.1)
        have hdl := difsOf_len (pre.map (·.1))
        have hml := mrgP_len a b
        rw [List.length_map] at hdl
        rw [H1.out.len, H2.out.len] at hml
        have hn' : n' ≤ 2000 := by rw [← hi2.len]; omega
        have hlo := load_pfxs (show W.cell? ⟨bo, 0, none⟩ = some (.slice A' n' c') by rw [blk_cell hi1]; rfl)
        cases hq : x.1.1.eqB x.1.2 with
        | true =>
          refine wpIn_cond_true (by rfl) ?_
          refine wpIn_skip ?_
          refine ⟨KeepsFrom.refl _ _, KeptB.refl _ _ _, ⟨A', n', c', hi1, ?_⟩, HI.out.kept⟩
          rw [List.map_append, List.map_singleton, HS.out, show difOf x.1 = [] by unfold difOf; rw [hq]; rfl, List.append_nil]
          exact hi2
        | false =>
          refine wpIn_cond_false (by rfl) ?_
          refine wpIn_seq_k (fun K2 hK2 => ?_)
          refine regionIn_of_all (open_round l) (by rfl) ?_
          have hhop := (rowLd_of hok1.fits (cells_blk hx)).hop
          go_simp
          go_wp2_with (first | ((with_reducible show wpList _ _ _ (Oper.mk _ (Op.load _ _) _ _ _ _ :: _) _ _); refine wpList_load_g hhop _ rfl rfl (by go_simp) ?_))
          refine onlyNormal_in ?_
          refine hK2 _ _ ?_
          by_cases hp : 0 < x.1.1.h
          · have hpd : decide (0 < x.1.1.h) = true := decide_eq_true hp
            have HDO := Lib.hid (show difOf x.1 = [x.1.1.p] by unfold difOf; rw [hq, if_pos hp]; rfl)
            have hlp := (rowLd_of hok1.fits (cells_blk hx)).pfx
            have hokp : pfxK.ok x.1.1.p := hok1.fits
            refine wpIn_cond_true (by rw [← hpd]; rfl) ?_
            refine regionIn_of_all (open_round l) (by rfl) ?_
            go_simp
            go_wp2_with (first | ((with_reducible show wpList _ _ _ (Oper.mk _ (Op.load _ _) _ _ _ _ :: _) _ _); refine wpList_load_g hlo _ rfl rfl (by go_simp) ?_) | ((with_reducible show wpList _ _ _ (Oper.mk _ (Op.load _ _) _ _ _ _ :: _) _ _); refine wpList_load_g hlp _ rfl rfl (by go_simp) ?_) | ((with_reducible show wpList _ _ _ (Oper.mk _ (Op.buildSlice _ _ _) _ _ _ _ :: _) _ _); refine wpList_exw rfl (exec_lit1 pfxK (x := .tmp 37) rfl x.1.1.p rfl hokp (by show 18 ≤ _; omega) _) ?_) | (at_builtin; refine wpList_append_shp pfxK rfl (.tmp 35) (.tmp 38) rfl rfl rfl (OS.below hi2 (below_alloc (Below.refl _ _) _)) (OS.one pfxK W 0 x.1.1.p (Nat.zero_le _) hokp).reads (by simp; omega) (by omega) ?_; intro A4 c4 w4 h1 h2 h3; have H4 := Lib.hid (And.intro h1 (And.intro h2 h3)); clear h1 h2 h3) | ((with_reducible show wpList _ _ _ (Oper.mk _ (Op.store _ _ _) _ _ _ _ :: _) _ _); refine wpList_store_cell (blk_own2 (blk_below hi1 (below_alloc (Below.refl _ _) _)) H4.out.2.1 (fun ad e => by have := hi2.base_ ad e; omega)) 86 0 (.slice A4 (n' + 1) c4) (Nat.le_refl _) (by kernel_rfl) rfl rfl _ _ rfl rfl rfl rfl ?_; intro w5 hg9 hs9 hb9; have H5 := Lib.hid (And.intro hg9 hb9); clear hg9 hs9 hb9))
            refine onlyNormal_in ?_
            have hcl := fun (ad : Addr) (e : A' = some ad) => hi2.ov.form ad e
            have hbW : Below W.heap.size W (W.alloc (.cells (pfxK.enc x.1.1.p).toArray pfxK.t)) := below_alloc (Below.refl _ _) _
            have hk4 : ∀ k o, W.heap[k]? = some o → (∀ ad, A' = some ad → ad.block ≠ k) → k ≠ bo → w5.heap[k]? = some o := fun k o hk h0 h1 => blk_grown (blk_own2 (blk_below hk hbW) H4.out.2.1 h0) H5.out.1 (fun e => by injection e with e; exact h1 e)
            have hK : KeptB W w5 bo (bo + 3) := by
              have hg4 := H4.out.2.1
              have hg5 := H5.out.1
              have hs4 := hg4.size
              have hs5 := hg5.size
              have hsW := hbW.size
              refine ⟨hg5.os.trans (hg4.os.trans hbW.os), hg5.tape.trans (hg4.tape.trans hbW.tape), hg5.output.trans (hg4.output.trans hbW.output), by omega, fun k hk hne => ?_⟩
              rw [hg5.block k (by omega) (fun e => by injection e with e; exact hne e), hg4.block k (by omega) (fun e => by
                obtain ⟨ad, e1, e2⟩ := own_of e.symm
                have := hi2.base_ ad e1
                omega)]
              exact hbW.block k (by omega)
            refine ⟨⟨hK.size, fun k o hB hk ho => hk4 k o hk (fun ad e hh => ?_) (by omega)⟩, hK, ⟨A4, n' + 1, c4, H5.out.2, ?_⟩, HI.out.kept.trans hK⟩
            · obtain ⟨_, _, _, hf, _⟩ := hcl ad e
              rw [hh, hk] at hf
              cases hf
              cases ho
            · rw [List.map_append, List.map_singleton, HS.out, HDO.out]
              exact H4.out.1.grown H5.out.1 (fun ad e hh => by have := H4.out.1.base_ ad e; injection hh with hh; omega)
          · have hpd : decide (0 < x.1.1.h) = false := decide_eq_false hp
            have HDO := Lib.hid (show difOf x.1 = [x.1.2.p] by unfold difOf; rw [hq, if_neg hp]; rfl)
            have hlp := (rowLd_of hok2.fits (cells_blk hy)).pfx
            have hokp : pfxK.ok x.1.2.p := hok2.fits
            refine wpIn_cond_false (by rw [← hpd]; rfl) ?_
            refine regionIn_of_all (open_round l) (by rfl) ?_
            go_simp
            go_wp2_with (first | ((with_reducible show wpList _ _ _ (Oper.mk _ (Op.load _ _) _ _ _ _ :: _) _ _); refine wpList_load_g hlo _ rfl rfl (by go_simp) ?_) | ((with_reducible show wpList _ _ _ (Oper.mk _ (Op.load _ _) _ _ _ _ :: _) _ _); refine wpList_load_g hlp _ rfl rfl (by go_simp) ?_) | ((with_reducible show wpList _ _ _ (Oper.mk _ (Op.buildSlice _ _ _) _ _ _ _ :: _) _ _); refine wpList_exw rfl (exec_lit1 pfxK (x := .tmp 24) rfl x.1.2.p rfl hokp (by show 18 ≤ _; omega) _) ?_) | (at_builtin; refine wpList_append_shp pfxK rfl (.tmp 22) (.tmp 25) rfl rfl rfl (OS.below hi2 (below_alloc (Below.refl _ _) _)) (OS.one pfxK W 0 x.1.2.p (Nat.zero_le _) hokp).reads (by simp; omega) (by omega) ?_; intro A4 c4 w4 h1 h2 h3; have H4 := Lib.hid (And.intro h1 (And.intro h2 h3)); clear h1 h2 h3) | ((with_reducible show wpList _ _ _ (Oper.mk _ (Op.store _ _ _) _ _ _ _ :: _) _ _); refine wpList_store_cell (blk_own2 (blk_below hi1 (below_alloc (Below.refl _ _) _)) H4.out.2.1 (fun ad e => by have := hi2.base_ ad e; omega)) 86 0 (.slice A4 (n' + 1) c4) (Nat.le_refl _) (by kernel_rfl) rfl rfl _ _ rfl rfl rfl rfl ?_; intro w5 hg9 hs9 hb9; have H5 := Lib.hid (And.intro hg9 hb9); clear hg9 hs9 hb9))
            refine onlyNormal_in ?_
            have hcl := fun (ad : Addr) (e : A' = some ad) => hi2.ov.form ad e
            have hbW : Below W.heap.size W (W.alloc (.cells (pfxK.enc x.1.2.p).toArray pfxK.t)) := below_alloc (Below.refl _ _) _
            have hk4 : ∀ k o, W.heap[k]? = some o → (∀ ad, A' = some ad → ad.block ≠ k) → k ≠ bo → w5.heap[k]? = some o := fun k o hk h0 h1 => blk_grown (blk_own2 (blk_below hk hbW) H4.out.2.1 h0) H5.out.1 (fun e => by injection e with e; exact h1 e)
            have hK : KeptB W w5 bo (bo + 3) := by
              have hg4 := H4.out.2.1
              have hg5 := H5.out.1
              have hs4 := hg4.size
              have hs5 := hg5.size
              have hsW := hbW.size
              refine ⟨hg5.os.trans (hg4.os.trans hbW.os), hg5.tape.trans (hg4.tape.trans hbW.tape), hg5.output.trans (hg4.output.trans hbW.output), by omega, fun k hk hne => ?_⟩
              rw [hg5.block k (by omega) (fun e => by injection e with e; exact hne e), hg4.block k (by omega) (fun e => by
                obtain ⟨ad, e1, e2⟩ := own_of e.symm
                have := hi2.base_ ad e1
                omega)]
              exact hbW.block k (by omega)
            refine ⟨⟨hK.size, fun k o hB hk ho => hk4 k o hk (fun ad e hh => ?_) (by omega)⟩, hK, ⟨A4, n' + 1, c4, H5.out.2, ?_⟩, HI.out.kept.trans hK⟩
            · obtain ⟨_, _, _, hf, _⟩ := hcl ad e
              rw [hh, hk] at hf
              cases hf
              cases ho
            · rw [List.map_append, List.map_singleton, HS.out, HDO.out]
              exact H4.out.1.grown H5.out.1 (fun ad e hh => by have := H4.out.1.base_ ad e; injection hh with hh; omega)
      case done =>
        rintro D ys W hD hS hI hKd
        obtain ⟨A', n', c', hi1, hi2⟩ := hI.box
        have HI := Lib.hid (And.intro hi2 hI.kept)
        have hlo := load_pfxs (show W.cell? ⟨bo, 0, none⟩ = some (.slice A' n' c') by rw [blk_cell hi1]; rfl)
        have HE := Lib.hid (show difE a b = 0 ∧ difL a b = difsOf (ys.map (·.1)) by
          unfold difE difL
          rw [HRA.out, HRB.out, hS, mrgP_dif a b (Tab.of H1.out.fits HRA.out) (Tab.of H2.out.fits HRB.out)]
          exact ⟨rfl, rfl⟩)
        have HK := Lib.hid hKd
        clear hI hS
        go_wp2_with (first | ((with_reducible show wpList _ _ _ (Oper.mk _ (Op.load _ _) _ _ _ _ :: _) _ _); refine wpList_load_g hlo _ rfl rfl (by go_simp) ?_))
        refine ⟨by simp, .inl ⟨_, _, rfl, run_takeDeferred HK.out, ?_⟩⟩
        refine ⟨_, results_tmp2 rfl _ _ _, ?_⟩
        rw [HE.out.1, HE.out.2]
        have hlow : Below w.heap.size w w3 := below_step HBE.out HB3.out
        have hbw : w.heap.size ≤ bo := Nat.le_trans HBE.out.size hle
        have hk := HI.out.2
        have hfin : Below w.heap.size w W := ⟨hk.os.trans hlow.os, hk.tape.trans hlow.tape, hk.output.trans hlow.output, Nat.le_trans hlow.size hk.size, fun i hi => (hk.block i (by omega) (by omega)).trans (hlow.block i hi)⟩
        refine ⟨A', _, c', rfl, ?_, hfin.trans (belowK_b (w := w) (Nat.le_refl _) W D _ _ (by omega) HK.out rfl rfl)⟩
        refine (HI.out.1.grown (grownBy_putObj' W D (.deferred none)) (fun ad e hh => ?_)).lower (by omega)
        obtain ⟨_, _, _, hf, _⟩ := HI.out.1.ov.form ad e
        injection hh with hh
        rw [hh, HK.out] at hf
        cases hf
end Go.Proofs.YtihfaknflfmohaaDoor

/- Layer 27 (cache): Move. -/
namespace Go.Proofs.YtihfaknflfmohaaDoor
open Go.RowKit
set_option linter.unusedVariables false
set_option linter.unusedSimpArgs false
set_option maxRecDepth 4000
def goesB (was ver : Int) (ds : List Pfx) (e : Ent) : Bool := decide (ver ≠ was + 1) || ds.any fun p => p.has e.v e.l
set_option maxHeartbeats 1000000 in
theorem cmove1_any (e : Ent) (x : Cac) (ver : Int) (gv gc gl : Nat) (L : Option Addr) (nl cl : Nat) (ds : List Pfx) (w : World) (hL : Laid w) (heo : e.fits) (hv : w.heap[gv]? = some (.cells #[.int .u64 ver] 22 (0, 0))) (hc : w.heap[gc]? = some (.cells x.vv 25 (0, 0)))
    (hl : w.heap[gl]? = some (.cells #[.slice L nl cl] 86 (0, 0))) (hd : RS pfxK w L nl cl ds) (hn : nl ≤ 1000000) (hx0 : 0 ≤ x.ver) (hx1 : x.ver ≤ 4611686018427387904) :
    Calls Tryd.prog 81 #[.agg (entV e), .pointer (some ⟨gv, 0, none⟩), .pointer (some ⟨gc, 0, none⟩), .pointer (some ⟨gl, 0, none⟩)] w fun r w' => r = .returned (.bool (goesB x.ver ver ds e)) ∧ Below w.heap.size w w' := by
  have he := heo
  have hblk1 := blk_new w (.cells (entV e) 43)
  have hbel1 : Below w.heap.size w (w.alloc (.cells (entV e) 43)) := below_alloc (Below.refl _ _) _
  have HP1 := Lib.hid (ent_at he hblk1)
  have HBK1 := Lib.hid hblk1
  have HBE := Lib.hid hbel1
  have HL := Lib.hid (hL.below HBE.out)
  obtain ⟨cs1, hcs1⟩ : ∃ cs, entV e = cs := ⟨_, rfl⟩
  simp only [hcs1] at HBE HL HP1 HBK1 ⊢
  have HC1 := Lib.hid hcs1
  clear hL hcs1 hblk1 hbel1
  have hlv : (Instr.loadAt 22 (.pointer (some ⟨gv, 0, none⟩))).run Tryd.prog (w.alloc (.cells cs1 43)) = .ok (.int .u64 ver) (w.alloc (.cells cs1 43)) := load_u64c (by rw [blk_cell (blk_below hv HBE.out)]; rfl)
  have hlc := ((cac_at (blk_below hc HBE.out)).all _ (Below.refl _ _)).ver
  have hll : (Instr.loadAt 86 (.pointer (some ⟨gl, 0, none⟩))).run Tryd.prog (w.alloc (.cells cs1 43)) = .ok (.slice L nl cl) (w.alloc (.cells cs1 43)) := load_pfxs (by rw [blk_cell (blk_below hl HBE.out)]; rfl)
  have HD := Lib.hid (hd.below HBE.out)
  have hwr : IntKind.u64.wrap (x.ver + 1) = x.ver + 1 := by
    simp only [IntKind.wrap, IntKind.bits, IntKind.signed]
    simp
    omega
  clear hv hc hl hd
  go_enter Tryd.func81, Tryd.ntmps81
  by_cases hver : ver = x.ver + 1
  · subst hver
    have HG := Lib.hid (show goesB x.ver (x.ver + 1) ds e = ds.any fun p => p.has e.v e.l by unfold goesB; rw [decide_eq_false (by omega)]; rfl)
    go_wp2_with (first | ((with_reducible show wpList _ _ _ (Oper.mk _ (Op.load _ _) _ _ _ _ :: _) _ _); refine wpList_load_g hlv _ rfl rfl (by go_simp) ?_) | ((with_reducible show wpList _ _ _ (Oper.mk _ (Op.load _ _) _ _ _ _ :: _) _ _); refine wpList_load_g hlc _ rfl rfl (by go_simp) ?_) | ((with_reducible show wpList _ _ _ (Oper.mk _ (Op.load _ _) _ _ _ _ :: _) _ _); refine wpList_load_g hll _ rfl rfl (by go_simp) ?_))
    refine (containsV_any L nl cl ds _ w.heap.size HD.out hn (fun p => p.has e.v e.l) (fun i hi w1 hb => cmove11_any (pfxK.at_ ds i) e w.heap.size w1 (HL.out.below hb) (RS.fits_at HD.out hi) he ⟨fun w0 h0 => HP1.out.all w0 (below_step hb h0), fun w0 h0 => HP1.out.found w0 (below_step hb h0)⟩)).mono ?_
    rintro r w1 ⟨rfl, hb1⟩
    have HB1 := Lib.hid (below_step HBE.out hb1)
    clear hb1
    go_wp2
    go_ret
    rw [HG.out]
    exact ⟨rfl, HB1.out⟩
  · have hvb : (ver == x.ver + 1) = false := by simpa using hver
    have hvb2 : (ver != x.ver + 1) = true := by simpa using hver
    have HG := Lib.hid (show goesB x.ver ver ds e = true by unfold goesB; rw [decide_eq_true hver]; rfl)
    clear hver
    go_wp2_with (first | ((with_reducible show wpList _ _ _ (Oper.mk _ (Op.load _ _) _ _ _ _ :: _) _ _); refine wpList_load_g hlv _ rfl rfl (by go_simp) ?_) | ((with_reducible show wpList _ _ _ (Oper.mk _ (Op.load _ _) _ _ _ _ :: _) _ _); refine wpList_load_g hlc _ rfl rfl (by go_simp) ?_))
    go_ret
    rw [HG.out]
    exact ⟨rfl, HBE.out⟩
set_option maxHeartbeats 1000000 in
theorem indexfM_any (A : Option Addr) (n c : Nat) (t : List Ent) (w : World) (gv gc gl : Nat) (hr : RS entK w A n c t) (hn : n ≤ 1000000) (q : Ent → Bool)
    (hq : ∀ i, i < n → ∀ w1, Below w.heap.size w w1 → Calls Tryd.prog 81 #[entK.val (entK.at_ t i), .pointer (some ⟨gv, 0, none⟩), .pointer (some ⟨gc, 0, none⟩), .pointer (some ⟨gl, 0, none⟩)] w1 fun e w2 => e = .returned (.bool (q (entK.at_ t i))) ∧ Below w1.heap.size w1 w2) :
    Calls Tryd.prog 101 #[.slice A n c, .func (Fn.func 81) #[] #[.pointer (some ⟨gv, 0, none⟩), .pointer (some ⟨gc, 0, none⟩), .pointer (some ⟨gl, 0, none⟩)]] w fun e w' => e = .returned (.int .i64 (idxE q t)) ∧ Below w.heap.size w w' := by
  have HR := Lib.hid hr
  have HQ := Lib.hid hq
  clear hr hq
  go_enter Tryd.func101, Tryd.ntmps101
  go_wp2_with fail
  go_loopw [8] (fun x wr => ∃ i : Nat, x = .int .i64 i ∧ Hid (i ≤ n ∧ (∀ k, k < i → q (entK.at_ t k) = false) ∧ Below w.heap.size w wr)) (fun x _ => n - (intOf x).toNat)
  case atStart => exact ⟨0, rfl, Nat.zero_le _, fun k h => by omega, Below.refl _ _⟩
  case round =>
    obtain ⟨i, rfl, HH⟩ := hrel
    by_cases hlt : i < n
    · have hlt' : (i : Int) < n := by omega
      obtain ⟨b, o, rfl, hc⟩ := RS.at_ HR.out (by omega)
      have hld := Shape.ld entK wr b _ _ (RS.fits_at HR.out hlt) ((hc i hlt).below HH.out.2.2)
      have HIL := Lib.hid (show i < t.length by rw [HR.out.len]; exact hlt)
      clear hc
      go_wp2_with (first | ((with_reducible show wpList _ _ _ (Oper.mk _ (Op.load _ _) _ _ _ _ :: _) _ _); refine wpList_load_g hld _ rfl rfl (by go_simp) ?_))
      refine (HQ.out i hlt wr HH.out.2.2).mono ?_
      rintro e w2 ⟨rfl, hb2⟩
      have HB2 := Lib.hid (below_step HH.out.2.2 hb2)
      clear hb2 hld
      cases hqq : q (entK.at_ t i) with
      | true =>
        have HE : Hid (idxE q t = (i : Int)) := Lib.hid (idxE_at (S := entK) HIL.out hqq HH.out.2.1)
        clear hqq
        go_wp2
        go_ret
        rw [HE.out]
        exact ⟨rfl, HB2.out⟩
      | false =>
        have HN := Lib.hid hqq
        clear hqq
        go_wp2_with fail
        go_roundw
        case measure => simp [intOf]; omega
        case rel =>
          refine ⟨i + 1, by go_num, by omega, fun k hk => ?_, HB2.out⟩
          by_cases hki : k < i
          · exact HH.out.2.1 k hki
          · rw [show k = i by omega]; exact HN.out
    · have hlt' : decide (i < n) = false := decide_eq_false hlt
      have HE : Hid (idxE q t = -1) := Lib.hid (idxE_none (S := entK) (fun k hk => HH.out.2.1 k (by rw [HR.out.len] at hk; omega)))
      clear hlt
      go_wp2
      go_ret
      rw [HE.out]
      exact ⟨rfl, HH.out.2.2⟩
set_option maxHeartbeats 2000000 in
theorem deletefM_any (base : Nat) (A : Option Addr) (n c : Nat) (t : List Ent) (w : World) (gv gc gl : Nat) (ho : OS entK w base A n c t) (hn : n ≤ 1000000) (q : Ent → Bool)
    (hq : ∀ e, e ∈ t → ∀ w1, w.grownBy w1 ((Value.slice A n c).ownBlock) → Calls Tryd.prog 81 #[entK.val e, .pointer (some ⟨gv, 0, none⟩), .pointer (some ⟨gc, 0, none⟩), .pointer (some ⟨gl, 0, none⟩)] w1 fun r w2 => r = .returned (.bool (q e)) ∧ Below w1.heap.size w1 w2) :
    Calls Tryd.prog 108 #[.slice A n c, .func (Fn.func 81) #[] #[.pointer (some ⟨gv, 0, none⟩), .pointer (some ⟨gc, 0, none⟩), .pointer (some ⟨gl, 0, none⟩)]] w fun r w' => ∃ k, r = .returned (.slice A k c) ∧ OS entK w' base A k c (t.filter fun e => !q e) ∧ w.grownBy w' ((Value.slice A n c).ownBlock) := by
  have HO := Lib.hid ho
  have HQ := Lib.hid hq
  have hlen := ho.len
  have hcap := ho.cap
  have hcmax : c ≤ 9223372036854775807 := ho.ov.capmax
  clear ho hq
  go_enter Tryd.func108, Tryd.ntmps108
  go_wp2_with fail
  refine (indexfM_any A n c t w gv gc gl HO.out.reads hn q (fun i hi w1 hb => HQ.out _ (List.mem_of_getElem? (Shape.at_get (S := entK) (by rw [hlen]; exact hi))) w1 (grown_of_below hb _))).mono ?_
  rintro e w1 ⟨rfl, hb1⟩
  have HB1 := Lib.hid hb1
  clear hb1
  rcases idx_cases q t with hm | ⟨i, hi, hm, hpre⟩
  · rw [hm.1]
    have HF := Lib.hid hm.2
    clear hm
    go_wp2
    go_ret
    exact ⟨n, rfl, by rw [HF.out]; exact HO.out.below HB1.out, grown_of_below HB1.out _⟩
  · rw [hm]
    have HPRE := Lib.hid hpre
    have hin : i < n := by rw [← hlen]; exact hi
    obtain ⟨b, o, rfl, -⟩ := RS.at_ HO.out.reads (by omega)
    have hiv : ((i : Int) == -1) = false := by simp
    have hi1 : IntKind.i64.wrap ((i : Int) + 1) = i + 1 := IntWalk.i64_in _ (by omega)
    have HO1 := Lib.hid (HO.out.below HB1.out)
    have hblt : b < w.heap.size := HO.out.lt _ rfl
    have HBL := Lib.hid (show b < w1.heap.size from Nat.lt_of_lt_of_le hblt HB1.out.size)
    clear hm hpre hi hblt
    go_wp2_with fail
    clear hi1 hiv
    go_loopw [5, 6] (fun s5 s6 wr => ∃ (i j : Nat) (cur : List Ent), s5 = .int .i64 i ∧ s6 = .int .i64 j ∧ Hid (i < j ∧ j ≤ n ∧ OS entK wr base (some ⟨b, o, none⟩) n c cur ∧ cur.take i = (t.take j).filter (fun e => !q e) ∧ cur.drop j = t.drop j ∧ w.grownBy wr (some b) ∧ w1.heap.size ≤ wr.heap.size)) (fun _ y _ => n - (intOf y).toNat)
    case atStart => exact ⟨i, i + 1, t, rfl, by go_num, by omega, by omega, HO1.out, HPRE.out.symm, rfl, grown_of_below HB1.out _, Nat.le_refl _⟩
    case round =>
      obtain ⟨i, j, cur, rfl, rfl, HI⟩ := hrel
      have hij := HI.out.1
      by_cases hlt : j < n
      · have hlt' : (j : Int) < n := by omega
        have hcl := HI.out.2.2.1.len
        obtain ⟨b2, o2, hbo, hc⟩ := RS.at_ HI.out.2.2.1.reads (by omega)
        obtain ⟨rfl, rfl⟩ : b = b2 ∧ o = o2 := by injection hbo with hbo; injection hbo with h1 h2; exact ⟨h1, h2⟩
        have HF := Lib.hid (RS.fits_at HI.out.2.2.1.reads hlt)
        have hld := Shape.ld entK wr b _ _ (RS.fits_at HI.out.2.2.1.reads hlt) (hc j hlt)
        have hjt : entK.at_ cur j = entK.at_ t j := at_drop_eq HI.out.2.2.2.2.1 (by rw [hcl]; exact hlt) (by rw [hlen]; exact hlt)
        obtain ⟨e, he⟩ : ∃ e, entK.at_ cur j = e := ⟨_, rfl⟩
        have HMEM : Hid (e ∈ t) := Lib.hid (by rw [← he, hjt]; exact List.mem_of_getElem? (Shape.at_get (S := entK) (by rw [hlen]; exact hlt)))
        have HSTEP := Lib.hid (filter_step (S := entK) (p := fun e => !q e) (t := t) (j := j) (by rw [hlen]; exact hlt))
        rw [← hjt, he] at HSTEP
        rw [he] at hld HF
        have hld : (Instr.loadAt 43 (.pointer (some ⟨b, o + j * 37, none⟩))).run Tryd.prog wr = .ok (entK.val e) wr := hld
        clear hc hbo hjt
        go_wp2_with (first | ((with_reducible show wpList _ _ _ (Oper.mk _ (Op.load _ _) _ _ _ _ :: _) _ _); refine wpList_load_g hld _ rfl rfl (by go_simp) ?_) | ((with_reducible show wpList _ _ _ (Oper.mk _ (Op.store _ _ _) _ _ _ _ :: _) _ _); refine wpList_store_blk (blk_new wr _) 43 0 (entV e) (store_ent_fit HF.out rfl) (info_ent HF.out) (entV_one _) _ _ rfl rfl rfl rfl ?_; intro w3 hg9 hs9 hb9; rw [splice_ent HF.out rfl] at hb9; have H3 := Lib.hid (And.intro hg9 hb9); clear hg9 hs9 hb9) | ((with_reducible show wpList _ _ _ (Oper.mk _ (Op.load _ _) _ _ _ _ :: _) _ _); refine wpList_load_g ((Shape.ld entK w3 _ 0 _ HF.out (cells_blk H3.out.2))) _ rfl rfl (by go_simp) ?_))
        have HB3 := Lib.hid (below_grown (below_alloc (Below.refl wr.heap.size wr) (.cells (entV entZ) 43)) H3.out.1 (Nat.le_refl _))
        refine (HQ.out e HMEM.out w3 (grown_trans HI.out.2.2.2.2.2.1 (grown_of_below HB3.out _))).mono ?_
        rintro r w4 ⟨rfl, hb4⟩
        have HB4 := Lib.hid (below_step HB3.out hb4)
        have HX4 := Lib.hid (blk_below H3.out.2 hb4)
        have HO4 := Lib.hid (HI.out.2.2.1.below HB4.out)
        have HG4 := Lib.hid (grown_trans HI.out.2.2.2.2.2.1 (grown_of_below HB4.out (some b)))
        have HS4 := Lib.hid (Nat.le_trans HI.out.2.2.2.2.2.2 HB4.out.size)
        clear hb4 hld
        cases hqe : q e with
        | true =>
          have HST : Hid ((t.take (j + 1)).filter (fun e => !q e) = (t.take j).filter (fun e => !q e)) := Lib.hid (by rw [HSTEP.out, if_neg (by rw [hqe]; decide), List.append_nil])
          clear hqe
          go_wp2_with fail
          go_roundw
          case measure => simp [intOf]; omega
          case rel => exact ⟨i, j + 1, cur, rfl, by go_num, by omega, by omega, HO4.out, by rw [HST.out]; exact HI.out.2.2.2.1, drop_more HI.out.2.2.2.2.1, HG4.out, HS4.out⟩
        | false =>
          have HST : Hid ((t.take (j + 1)).filter (fun e => !q e) = (t.take j).filter (fun e => !q e) ++ [e]) := Lib.hid (by rw [HSTEP.out, if_pos (by rw [hqe]; rfl)])
          clear hqe
          have hin2 : (i : Int) < n := by omega
          have hi2 : IntKind.i64.wrap ((i : Int) + 1) = i + 1 := IntWalk.i64_in _ (by omega)
          go_wp2_with (first | ((with_reducible show wpList _ _ _ (Oper.mk _ (Op.load _ _) _ _ _ _ :: _) _ _); refine wpList_load_g ((Shape.ld entK w4 _ 0 _ HF.out (cells_blk HX4.out))) _ rfl rfl (by go_simp) ?_) | ((with_reducible show wpList _ _ _ (Oper.mk _ (Op.store _ _ _) _ _ _ _ :: _) _ _); refine wpList_store_elem HO4.out i (by omega) e HF.out rfl _ _ rfl rfl rfl rfl ?_; intro w5 hg5 hs5 ho5; have H5 := Lib.hid (And.intro hg5 (And.intro hs5 ho5)); clear hg5 hs5 ho5))
          go_roundw
          case measure => simp [intOf]; omega
          case rel =>
            have hl2 := HI.out.2.2.2.1
            exact ⟨i + 1, j + 1, _, by go_num, by go_num, by omega, by omega, H5.out.2.2, by rw [HST.out, ← hl2]; exact put_take (by omega), put_drop HI.out.2.2.2.2.1 (by omega) (by omega), grown_trans HG4.out H5.out.1, by rw [H5.out.2.1]; exact HS4.out⟩
      · have hlt' : decide (j < n) = false := decide_eq_false hlt
        have hjn : j = n := by have := HI.out.2.1; omega
        have HE : Hid (cur.take i = t.filter (fun e => !q e)) := Lib.hid (by
          have := HI.out.2.2.2.1
          rwa [hjn, ← hlen, List.take_length] at this)
        have HT := Lib.hid (HI.out.2.2.1.take i c (by omega) (by omega) (Nat.le_refl _))
        obtain ⟨D, hD⟩ : ∃ D, (if c = i then some (⟨b, o, none⟩ : Addr) else some ((⟨b, o, none⟩ : Addr).add (i * 37))) = D := ⟨_, rfl⟩
        have hcut : ∀ W : World, (Instr.slice 23 (.slice (some ⟨b, o, none⟩) n c) (some (.int .i64 (i : Int))) none none).run Tryd.prog W = .ok (.slice D (n - i) (c - i)) W := fun W => by
          rw [← hD]
          exact cutL entK (some ⟨b, o, none⟩) n c _ i rfl (by omega) W
        have hcut2 : ∀ W : World, (Instr.slice 23 (.slice (some ⟨b, o, none⟩) n c) none (some (.int .i64 (i : Int))) none).run Tryd.prog W = .ok (.slice (some ⟨b, o, none⟩) i c) W := fun W => cutH entK (some ⟨b, o, none⟩) n c _ i rfl (by omega) W
        obtain ⟨w6, hr2, hO6, hg6⟩ := run_clear_shp entK wr 23 ⟨b, o, none⟩ i c (n - i) _ HT.out (by omega) (d := D) hD.symm (c - i)
        have H6 := Lib.hid (And.intro hO6 hg6)
        clear hO6 hg6 hD hjn hlt
        go_wp2_with (refine wpList_exec rfl (exec_clear (.tmp 38) _ rfl rfl hr2) ?_)
        go_ret
        exact ⟨i, rfl, by rw [← HE.out]; exact H6.out.1, grown_trans HI.out.2.2.2.2.2.1 H6.out.2⟩
set_option maxHeartbeats 2000000 in
theorem cwithoutM_any (x : Cac) (es : List Ent) (ver : Int) (w : World) (gv gc gl : Nat) (hre : RE w x.A x.n x.c es) (hn : x.n ≤ 100000) (q : Ent → Bool)
    (hq : ∀ e, e ∈ es → ∀ w1, Below w.heap.size w w1 → Calls Tryd.prog 81 #[.agg (entV e), .pointer (some ⟨gv, 0, none⟩), .pointer (some ⟨gc, 0, none⟩), .pointer (some ⟨gl, 0, none⟩)] w1 fun r w2 => r = .returned (.bool (q e)) ∧ Below w1.heap.size w1 w2) :
    Calls Tryd.prog 79 #[.agg x.vv, .int .u64 ver, .func (Fn.func 81) #[] #[.pointer (some ⟨gv, 0, none⟩), .pointer (some ⟨gc, 0, none⟩), .pointer (some ⟨gl, 0, none⟩)]] w fun r w' => ∃ A' k c', r = .returned (.agg (Cac.vv ⟨x.room, ver, A', k, c', x.hits, x.misses⟩)) ∧ RE w' A' k c' (es.filter fun e => !q e) ∧ (∀ ad, A' = some ad → w.heap.size ≤ ad.block) ∧ Below w.heap.size w w' := by
  have HQ := Lib.hid hq
  clear hq
  have hblk1 := blk_new w (.cells (x.vv) 25)
  have hbel1 : Below w.heap.size w (w.alloc (.cells (x.vv) 25)) := below_alloc (Below.refl _ _) _
  have HP1 := Lib.hid (cac_at hblk1)
  have HBK1 := Lib.hid hblk1
  have HBE := Lib.hid hbel1
  obtain ⟨cs1, hcs1⟩ : ∃ cs, x.vv = cs := ⟨_, rfl⟩
  simp only [hcs1] at HBE HP1 HBK1 ⊢
  have HC1 := Lib.hid hcs1
  clear hcs1 hblk1 hbel1
  have HE := Lib.hid (hre.below HBE.out)
  have hs : (w.alloc (.cells cs1 25)).heap.size = w.heap.size + 1 := by simp
  obtain ⟨W1, hW1⟩ : ∃ W1, (w.alloc (.cells cs1 25)).alloc (.cells #[.int .i64 0, .int .u64 0, .slice none 0 0, .int .u64 0, .int .u64 0] 25) = W1 := ⟨_, rfl⟩
  have HZ : Hid (W1.heap[w.heap.size + 1]? = some (.cells cacZ.vv 25 (0, 0))) := Lib.hid (by
    rw [← hW1, ← hs]
    exact blk_new _ _)
  have HB1 : Hid (Below (w.alloc (.cells cs1 25)).heap.size (w.alloc (.cells cs1 25)) W1) := Lib.hid (hW1 ▸ below_alloc (Below.refl _ _) _)
  have HK : Hid (W1.heap[w.heap.size]? = some (.cells x.vv 25 (0, 0))) := Lib.hid (blk_below (by rw [HC1.out]; exact HBK1.out) HB1.out)
  have hl1 := (HP1.out.all _ HB1.out).ents
  clear hre hs
  go_enter Tryd.func79, Tryd.ntmps79
  go_wp2_with (first | ((with_reducible show wpList _ _ _ (Oper.mk _ (Op.load _ _) _ _ _ _ :: _) _ _); refine wpList_load_g hl1 _ rfl rfl (by go_simp) ?_))
  refine (cloneE_any x.A x.n x.c es W1 (HE.out.below HB1.out) (by omega)).mono ?_
  rintro r w2 ⟨A2, c2, rfl, hO2, hb2⟩
  have HO2 := Lib.hid hO2
  have HB2 := Lib.hid (below_step HBE.out (below_step HB1.out hb2))
  have HK2 := Lib.hid (blk_below HK.out hb2)
  have HZ2 := Lib.hid (blk_below HZ.out hb2)
  have HZL := Lib.hid (blk_lt HZ.out)
  clear hO2 hb2 hl1 HK HZ
  go_wp2_with fail
  refine (deletefM_any W1.heap.size A2 x.n c2 es w2 gv gc gl HO2.out (by omega) q (fun e he w1 hg => HQ.out e he w1 (below_own HB2.out hg (fun ad h => by have := HO2.out.base_ ad h; have := HZL.out; omega)))).mono ?_
  rintro r w3 ⟨k, rfl, hO3, hg3⟩
  have HO3 := Lib.hid hO3
  have hb := HO2.out.base_
  have hzl := HZL.out
  have HB3 := Lib.hid (below_own HB2.out hg3 (fun ad h => by have := hb ad h; omega))
  have HK3 := Lib.hid (blk_ownC HK2.out hg3 (fun ad h => by have := hb ad h; omega))
  have HZ3 := Lib.hid (blk_ownC HZ2.out hg3 (fun ad h => by have := hb ad h; omega))
  clear hO3 hg3 HK2 HZ2
  go_wp2_with (first | ((with_reducible show wpList _ _ _ (Oper.mk _ (Op.store _ _ _) _ _ _ _ :: _) _ _); refine wpList_store_cell HK3.out 23 2 (.slice A2 k c2) (by show 2 < 5; omega) (by kernel_rfl) rfl rfl _ _ rfl rfl rfl rfl ?_; intro w4 hg9 hs9 hb9; have H4 := Lib.hid (And.intro hg9 (show (World.heap w4)[(w.heap.size)]? = some (.cells (Cac.vv ⟨x.room, x.ver, A2, k, c2, x.hits, x.misses⟩) 25 (0, 0)) from hb9)); clear hg9 hs9 hb9) | ((with_reducible show wpList _ _ _ (Oper.mk _ (Op.store _ _ _) _ _ _ _ :: _) _ _); refine wpList_store_cell H4.out.2 22 1 (.int .u64 ver) (by show 1 < 5; omega) (by kernel_rfl) rfl rfl _ _ rfl rfl rfl rfl ?_; intro w5 hg9 hs9 hb9; have H5 := Lib.hid (And.intro hg9 (show (World.heap w5)[(w.heap.size)]? = some (.cells (Cac.vv ⟨x.room, ver, A2, k, c2, x.hits, x.misses⟩) 25 (0, 0)) from hb9)); clear hg9 hs9 hb9) | ((with_reducible show wpList _ _ _ (Oper.mk _ (Op.load _ _) _ _ _ _ :: _) _ _); refine wpList_load_g (load_cac H5.out.2) _ rfl rfl (by go_simp) ?_) | ((with_reducible show wpList _ _ _ (Oper.mk _ (Op.store _ _ _) _ _ _ _ :: _) _ _); refine wpList_store_blk (blk_grown (blk_grown HZ3.out H4.out.1 (by simp)) H5.out.1 (by simp)) 25 0 (Cac.mk x.room ver A2 k c2 x.hits x.misses).vv (Nat.le_refl _) (info_cac _) (cac_one _) _ _ rfl rfl rfl rfl ?_; intro w6 hg9 hs9 hb9; rw [splice_cac] at hb9; have H6 := Lib.hid (And.intro hg9 hb9); clear hg9 hs9 hb9))
  refine bodyPost_ret (results_c1 rfl rfl (load_cac H6.out.2)) rfl ?_
  have hb3 := HO3.out.base_
  refine ⟨A2, k, c2, rfl, ?_, fun ad h => by have := hb3 ad h; omega, below_grown (below_grown (below_grown HB3.out H4.out.1 (by omega)) H5.out.1 (by omega)) H6.out.1 (by omega)⟩
  exact ((HO3.out.reads.grown H4.out.1 (fun ad e h => by have := hb3 ad e; injection h with h; omega)).grown H5.out.1 (fun ad e h => by have := hb3 ad e; injection h with h; omega)).grown H6.out.1 (fun ad e h => by have := hb3 ad e; injection h with h; omega)
end Go.Proofs.YtihfaknflfmohaaDoor

/- Layer 27 (cache): Move. -/
namespace Go.Proofs.YtihfaknflfmohaaDoor
open Go.RowKit
set_option linter.unusedVariables false
set_option linter.unusedSimpArgs false
set_option maxRecDepth 4000
theorem mrg_len : ∀ t u : List Row, (mrg t u).length ≤ t.length + u.length
  | [], [] => by rw [mrg]; simp
  | a :: t, [] => by have := mrg_len t []; rw [mrg]; simp only [List.length_cons, List.length_nil] at *; omega
  | [], b :: u => by have := mrg_len [] u; rw [mrg]; simp only [List.length_cons, List.length_nil] at *; omega
  | a :: t, b :: u => by
    have h1 := mrg_len t (b :: u)
    have h2 := mrg_len t u
    have h3 := mrg_len (a :: t) u
    rw [mrg]
    split
    · simp only [List.length_cons] at *; omega
    · split
      · split
        · simp only [List.length_cons] at *; omega
        · simp only [List.length_cons] at *; omega
      · simp only [List.length_cons] at *; omega
termination_by t u => t.length + u.length
theorem exec_lit2 {α : Type} (S : Shape α) {r : Operand → Value} {o : Oper} {x y : Operand} (ho : o.op = .buildSlice S.ts 2 #[(0, x), (1, y)]) (a b : α) (hx : r x = S.val a) (hy : r y = S.val b) (ha : S.ok a) (hb : S.ok b) (hs : S.sz ≤ 1000000) (W : World) :
    (execOp r o).run Tryd.prog W = .ok (.value (.slice (some ⟨W.heap.size, 0, none⟩) 2 2)) (W.alloc (.cells (S.cells [a, b]).toArray S.t)) := by
  have h := run_lit_shp S W [a, b] (fun c hc => by
    rcases List.mem_cons.1 hc with rfl | hc
    · exact ha
    · rw [List.mem_singleton] at hc; rw [hc]; exact hb) (by simp) (by simp; omega) #[(0, S.val a), (1, S.val b)] rfl
  unfold execOp
  have e : (#[(0, x), (1, y)].map fun (p : Nat × Operand) => (p.1, r p.2)) = #[(0, S.val a), (1, S.val b)] := by simp [hx, hy]
  simp only [ho, Sem.run_bind]
  have h2 : (Instr.buildSlice S.ts 2 (#[(0, x), (1, y)].map fun (p : Nat × Operand) => (p.1, r p.2))).run Tryd.prog W = .ok (.slice (some ⟨W.heap.size, 0, none⟩) 2 2) (W.alloc (.cells (S.cells [a, b]).toArray S.t)) := by rw [e]; exact h
  rw [h2]
  rfl
theorem OS.two {α : Type} (S : Shape α) (W : World) (base : Nat) (a b : α) (hb : base ≤ W.heap.size) (ha : S.ok a) (hbo : S.ok b) : OS S (W.alloc (.cells (S.cells [a, b]).toArray S.t)) base (some ⟨W.heap.size, 0, none⟩) 2 2 [a, b] :=
  OS.new S W base [a, b] hb (fun c hc => by
    rcases List.mem_cons.1 hc with rfl | hc
    · exact ha
    · rw [List.mem_singleton] at hc; rw [hc]; exact hbo) (by simp)
def moveN (x : Cac) (es : List Ent) (a b : List Row) (ver : Int) : Int := if cacB x es then (if tabB a && tabB b then (if 4611686018427387904 < ver ∨ ver ≤ x.ver then 2 else 0) else 190) else 370
def movedL (x : Cac) (es : List Ent) (a b : List Row) (ver : Int) : List Ent := es.filter fun e => !goesB x.ver ver (mrg a b) e
/-- What a move leaves. -/
def MoveIs (x : Cac) (es : List Ent) (a b : List Row) (ver : Int) (y : Cac) (fs : List Ent) (k : Int) : Prop :=
  if moveN x es a b ver = 0 then y.room = x.room ∧ y.ver = ver ∧ fs = movedL x es a b ver ∧ y.hits = x.hits ∧ y.misses = x.misses ∧ k = (es.length : Int) - fs.length
  else y = cacZ ∧ fs = [] ∧ k = 0
theorem moveIs_err {x : Cac} {es : List Ent} {a b : List Row} {ver : Int} (h : moveN x es a b ver ≠ 0) : MoveIs x es a b ver cacZ [] 0 := by
  unfold MoveIs
  rw [if_neg h]
  exact ⟨rfl, rfl, rfl⟩
theorem askE_two (x : Cac) (es : List Ent) (y z : Tb) : askE x es [y, z] = (if cacB x es then (if tabB y.t && tabB z.t then 0 else 190) else 370) := by simp [askE]
set_option maxRecDepth 100000 in
set_option maxHeartbeats 8000000 in
theorem cmove_any (x : Cac) (es : List Ent) (A : Option Addr) (n c : Nat) (a : List Row) (A2 : Option Addr) (m c2 : Nat) (b : List Row) (ver : Int) (w : World) (hL : Laid w) (hre : RE w x.A x.n x.c es) (oe : Oke es) (hxn : x.n ≤ 100000) (hx : x.ok) (ha : RT w A n c a) (oa : Oks a) (hn : n ≤ 1000) (hb : RT w A2 m c2 b) (ob : Oks b) (hm : m ≤ 1000) (hv : (Lit.int .u64 ver).wf = true) :
    Calls Tryd.prog 38 #[.agg x.vv, .agg (tabV A n c), .agg (tabV A2 m c2), .int .u64 ver] w fun r w' => ∃ y fs k, r = .returned (.tuple #[.agg (Cac.vv y), .int .i64 k, .int .i64 (moveN x es a b ver)]) ∧ RE w' y.A y.n y.c fs ∧ (∀ ad, y.A = some ad → w.heap.size ≤ ad.block) ∧ MoveIs x es a b ver y fs k ∧ Below w.heap.size w w' := by
  have hblk1 := blk_new w (.cells (x.vv) 25)
  have hbel1 : Below w.heap.size w (w.alloc (.cells (x.vv) 25)) := below_alloc (Below.refl _ _) _
  have hblk2 := blk_new (w.alloc (.cells (x.vv) 25)) (.cells (tabV A n c) 28)
  have hbel2 : Below w.heap.size w ((w.alloc (.cells (x.vv) 25)).alloc (.cells (tabV A n c) 28)) := below_alloc (hbel1) _
  rw [show (w.alloc (.cells (x.vv) 25)).heap.size = w.heap.size + 1 by simp] at hblk2
  replace hblk1 := blk_below hblk1 (below_alloc (Below.refl _ _) (.cells (tabV A n c) 28))
  have hblk3 := blk_new ((w.alloc (.cells (x.vv) 25)).alloc (.cells (tabV A n c) 28)) (.cells (tabV A2 m c2) 28)
  have hbel3 : Below w.heap.size w (((w.alloc (.cells (x.vv) 25)).alloc (.cells (tabV A n c) 28)).alloc (.cells (tabV A2 m c2) 28)) := below_alloc (hbel2) _
  rw [show ((w.alloc (.cells (x.vv) 25)).alloc (.cells (tabV A n c) 28)).heap.size = w.heap.size + 2 by simp] at hblk3
  replace hblk1 := blk_below hblk1 (below_alloc (Below.refl _ _) (.cells (tabV A2 m c2) 28))
  replace hblk2 := blk_below hblk2 (below_alloc (Below.refl _ _) (.cells (tabV A2 m c2) 28))
  have HP1 := Lib.hid (cac_at hblk1)
  have HBK1 := Lib.hid hblk1
  have HP2 := Lib.hid (tab_at hblk2)
  have HBK2 := Lib.hid hblk2
  have HP3 := Lib.hid (tab_at hblk3)
  have HBK3 := Lib.hid hblk3
  have HBE := Lib.hid hbel3
  have HL := Lib.hid (hL.below HBE.out)
  obtain ⟨cs1, hcs1⟩ : ∃ cs, x.vv = cs := ⟨_, rfl⟩
  obtain ⟨cs2, hcs2⟩ : ∃ cs, tabV A n c = cs := ⟨_, rfl⟩
  obtain ⟨cs3, hcs3⟩ : ∃ cs, tabV A2 m c2 = cs := ⟨_, rfl⟩
  simp only [hcs1, hcs2, hcs3] at HBE HL HP1 HP2 HP3 HBK1 HBK2 HBK3 ⊢
  have HC1 := Lib.hid hcs1
  have HC2 := Lib.hid hcs2
  have HC3 := Lib.hid hcs3
  clear hL hcs1 hblk1 hbel1 hcs2 hblk2 hbel2 hcs3 hblk3 hbel3
  have HE := Lib.hid (hre.below HBE.out)
  have H1 := Lib.hid (ha.below HBE.out)
  have H2 := Lib.hid (hb.below HBE.out)
  have OE := Lib.hid oe
  have OA := Lib.hid oa
  have OB := Lib.hid ob
  have hbc := run_build_cac_nil
  clear hre ha hb oe oa ob
  obtain ⟨W0, hW0⟩ : ∃ W0, W0 = (((w.alloc (.cells cs1 25)).alloc (.cells cs2 28)).alloc (.cells cs3 28)) := ⟨_, rfl⟩
  obtain ⟨W, hW⟩ : ∃ W, W = ((W0.alloc (.cells #[.int .u64 ver] 22)).alloc (.cells cacZ.vv 25)).alloc (.cells (tbK.cells [⟨A, n, c, a⟩, ⟨A2, m, c2, b⟩]).toArray tbK.t) := ⟨_, rfl⟩
  have hs0 : W0.heap.size = w.heap.size + 3 := by rw [hW0]; simp
  have HBW : Hid (Below W0.heap.size W0 W) := Lib.hid (by rw [hW]; exact below_alloc (below_alloc (below_alloc (Below.refl _ _) _) _) _)
  have HGV : Hid (W.heap[w.heap.size + 3]? = some (.cells #[.int .u64 ver] 22 (0, 0))) := Lib.hid (by
    rw [← hs0, hW]
    exact blk_below (blk_new W0 _) (below_alloc (below_alloc (Below.refl _ _) _) _))
  have HG8 : Hid (W.heap[w.heap.size + 4]? = some (.cells cacZ.vv 25 (0, 0))) := Lib.hid (by
    have := blk_below (blk_new (W0.alloc (.cells #[.int .u64 ver] 22)) (.cells cacZ.vv 25)) (below_alloc (Below.refl _ _) (.cells (tbK.cells [⟨A, n, c, a⟩, ⟨A2, m, c2, b⟩]).toArray tbK.t))
    rw [← hW] at this
    rw [show w.heap.size + 4 = (W0.alloc (.cells #[.int .u64 ver] 22)).heap.size by simp [hs0]]
    exact this)
  have HLT : Hid (RS tbK W (some ⟨w.heap.size + 5, 0, none⟩) 2 2 [⟨A, n, c, a⟩, ⟨A2, m, c2, b⟩]) := Lib.hid (by
    have := (OS.two tbK ((W0.alloc (.cells #[.int .u64 ver] 22)).alloc (.cells cacZ.vv 25)) 0 ⟨A, n, c, a⟩ ⟨A2, m, c2, b⟩ (Nat.zero_le _) trivial trivial).reads
    rw [← hW] at this
    rw [show w.heap.size + 5 = ((W0.alloc (.cells #[.int .u64 ver] 22)).alloc (.cells cacZ.vv 25)).heap.size by simp [hs0]]
    exact this)
  clear hs0
  subst hW
  subst hW0
  go_enter Tryd.func38, Tryd.ntmps38
  go_wp2_with (first | ((with_reducible show wpList _ _ _ (Oper.mk _ (Op.load _ _) _ _ _ _ :: _) _ _); refine wpList_load_g ((HP1.out.all _ (below_alloc (below_alloc (Below.refl _ _) _) _)).cac) _ rfl rfl (by go_simp) ?_) | ((with_reducible show wpList _ _ _ (Oper.mk _ (Op.load _ _) _ _ _ _ :: _) _ _); refine wpList_load_g ((HP2.out.all _ (below_alloc (below_alloc (Below.refl _ _) _) _)).1) _ rfl rfl (by go_simp) ?_) | ((with_reducible show wpList _ _ _ (Oper.mk _ (Op.load _ _) _ _ _ _ :: _) _ _); refine wpList_load_g ((HP3.out.all _ (below_alloc (below_alloc (Below.refl _ _) _) _)).1) _ rfl rfl (by go_simp) ?_) | ((with_reducible show wpList _ _ _ (Oper.mk _ (Op.buildSlice _ _ _) _ _ _ _ :: _) _ _); refine wpList_exw rfl (exec_lit2 tbK (x := .tmp 16) (y := .tmp 17) rfl ⟨A, n, c, a⟩ ⟨A2, m, c2, b⟩ rfl rfl trivial trivial (by show 1 ≤ _; omega) _) ?_))
  have hcall := casked_any x es _ 2 2 [⟨A, n, c, a⟩, ⟨A2, m, c2, b⟩] _ (HL.out.below HBW.out) (HE.out.below HBW.out) OE.out hxn HLT.out (by omega) (fun y hy => by
    rcases List.mem_cons.1 hy with rfl | hy
    · exact ⟨H1.out.below HBW.out, by show n ≤ _; omega⟩
    · rw [List.mem_singleton] at hy
      subst hy
      exact ⟨H2.out.below HBW.out, by show m ≤ _; omega⟩)
  refine hcall.mono ?_
  clear hcall
  rintro e w1 ⟨rfl, hb1⟩
  rw [askE_two]
  have HB1 := Lib.hid (below_step HBW.out hb1)
  have HV1 := Lib.hid (blk_below HGV.out hb1)
  have HR1 := Lib.hid (blk_below HG8.out hb1)
  clear hb1 HG8 HLT HBW HGV
  cases hC : cacB x es with
  | false =>
    have HN := Lib.hid (show moveN x es a b ver = 370 by unfold moveN; rw [hC]; rfl)
    clear hC
    simp only [Bool.false_eq_true, if_false]
    go_wp2_with (first | ((with_reducible show wpList _ _ _ (Oper.mk _ (Op.build _ _) _ _ _ _ :: _) _ _); refine wpList_exw rfl (exec_build 25 #[] rfl #[] rfl (hbc _)) ?_) | ((with_reducible show wpList _ _ _ (Oper.mk _ (Op.store _ _ _) _ _ _ _ :: _) _ _); refine wpList_store_blk HR1.out 25 0 cacZ.vv (Nat.le_refl _) (info_cac _) (cac_one _) _ _ rfl rfl rfl rfl ?_; intro w8 hg9 hs9 hb9; rw [splice_cac] at hb9; have H8 := Lib.hid (And.intro hg9 hb9); clear hg9 hs9 hb9))
    refine bodyPost_ret (results_c3 rfl rfl (load_cac H8.out.2)) rfl ?_
    exact ⟨cacZ, [], 0, by rw [HN.out]; rfl, RS.nil _ _ _ _, (fun ad e => by cases e), moveIs_err (by rw [HN.out]; decide), below_grown (below_step HBE.out HB1.out) H8.out.1 (by omega)⟩
  | true =>
    have HCB := Lib.hid hC
    clear hC
    simp only [if_true]
    cases hR : (tabB a && tabB b) with
    | false =>
      have HN := Lib.hid (show moveN x es a b ver = 190 by unfold moveN; rw [HCB.out, hR]; rfl)
      clear hR
      simp only [Bool.false_eq_true, if_false]
      go_wp2_with (first | ((with_reducible show wpList _ _ _ (Oper.mk _ (Op.build _ _) _ _ _ _ :: _) _ _); refine wpList_exw rfl (exec_build 25 #[] rfl #[] rfl (hbc _)) ?_) | ((with_reducible show wpList _ _ _ (Oper.mk _ (Op.store _ _ _) _ _ _ _ :: _) _ _); refine wpList_store_blk HR1.out 25 0 cacZ.vv (Nat.le_refl _) (info_cac _) (cac_one _) _ _ rfl rfl rfl rfl ?_; intro w8 hg9 hs9 hb9; rw [splice_cac] at hb9; have H8 := Lib.hid (And.intro hg9 hb9); clear hg9 hs9 hb9))
      refine bodyPost_ret (results_c3 rfl rfl (load_cac H8.out.2)) rfl ?_
      exact ⟨cacZ, [], 0, by rw [HN.out]; rfl, RS.nil _ _ _ _, (fun ad e => by cases e), moveIs_err (by rw [HN.out]; decide), below_grown (below_step HBE.out HB1.out) H8.out.1 (by omega)⟩
    | true =>
      have HR := Lib.hid hR
      clear hR
      simp only [if_true]
      have hl7 : (Instr.loadAt 22 (.pointer (some ⟨w.heap.size + 3, 0, none⟩))).run Tryd.prog w1 = .ok (.int .u64 ver) w1 := load_u64c (by rw [blk_cell HV1.out]; rfl)
      have hlv := (HP1.out.all w1 HB1.out).ver
      by_cases hv1 : 4611686018427387904 < ver
      · have hv1b : decide (4611686018427387904 < ver) = true := decide_eq_true hv1
        have HN := Lib.hid (show moveN x es a b ver = 2 by unfold moveN; rw [HCB.out, HR.out, if_pos rfl, if_pos rfl, if_pos (.inl hv1)])
        clear hv1 hl7 hlv
        have hcell : w1.cell? ⟨w.heap.size + 1 + 1 + 1, 0, none⟩ = some (.int .u64 ver) := by rw [show w.heap.size + 1 + 1 + 1 = w.heap.size + 3 from rfl, blk_cell HV1.out]; rfl
        go_wp2_with (first | ((with_reducible show wpList _ _ _ (Oper.mk _ (Op.build _ _) _ _ _ _ :: _) _ _); refine wpList_exw rfl (exec_build 25 #[] rfl #[] rfl (hbc _)) ?_) | ((with_reducible show wpList _ _ _ (Oper.mk _ (Op.store _ _ _) _ _ _ _ :: _) _ _); refine wpList_store_blk HR1.out 25 0 cacZ.vv (Nat.le_refl _) (info_cac _) (cac_one _) _ _ rfl rfl rfl rfl ?_; intro w8 hg9 hs9 hb9; rw [splice_cac] at hb9; have H8 := Lib.hid (And.intro hg9 hb9); clear hg9 hs9 hb9))
        refine bodyPost_ret (results_c3 rfl rfl (load_cac H8.out.2)) rfl ?_
        exact ⟨cacZ, [], 0, by rw [HN.out]; rfl, RS.nil _ _ _ _, (fun ad e => by cases e), moveIs_err (by rw [HN.out]; decide), below_grown (below_step HBE.out HB1.out) H8.out.1 (by omega)⟩
      · have hv1b : decide (4611686018427387904 < ver) = false := decide_eq_false hv1
        by_cases hv2 : ver ≤ x.ver
        · have hv2b : decide (ver ≤ x.ver) = true := decide_eq_true hv2
          have HN := Lib.hid (show moveN x es a b ver = 2 by unfold moveN; rw [HCB.out, HR.out, if_pos rfl, if_pos rfl, if_pos (.inr hv2)])
          clear hv1 hv2
          go_wp2_with (first | ((with_reducible show wpList _ _ _ (Oper.mk _ (Op.load _ _) _ _ _ _ :: _) _ _); refine wpList_load_g hl7 _ rfl rfl (by go_simp) ?_) | ((with_reducible show wpList _ _ _ (Oper.mk _ (Op.load _ _) _ _ _ _ :: _) _ _); refine wpList_load_g hlv _ rfl rfl (by go_simp) ?_) | ((with_reducible show wpList _ _ _ (Oper.mk _ (Op.build _ _) _ _ _ _ :: _) _ _); refine wpList_exw rfl (exec_build 25 #[] rfl #[] rfl (hbc _)) ?_) | ((with_reducible show wpList _ _ _ (Oper.mk _ (Op.store _ _ _) _ _ _ _ :: _) _ _); refine wpList_store_blk HR1.out 25 0 cacZ.vv (Nat.le_refl _) (info_cac _) (cac_one _) _ _ rfl rfl rfl rfl ?_; intro w8 hg9 hs9 hb9; rw [splice_cac] at hb9; have H8 := Lib.hid (And.intro hg9 hb9); clear hg9 hs9 hb9))
          refine bodyPost_ret (results_c3 rfl rfl (load_cac H8.out.2)) rfl ?_
          exact ⟨cacZ, [], 0, by rw [HN.out]; rfl, RS.nil _ _ _ _, (fun ad e => by cases e), moveIs_err (by rw [HN.out]; decide), below_grown (below_step HBE.out HB1.out) H8.out.1 (by omega)⟩
        · have hv2b : decide (ver ≤ x.ver) = false := decide_eq_false hv2
          have HN := Lib.hid (show moveN x es a b ver = 0 by unfold moveN; rw [HCB.out, HR.out, if_pos rfl, if_pos rfl, if_neg (by omega)])
          have HVV := Lib.hid (And.intro hv1 hv2)
          clear hv1 hv2
          go_wp2_with (first | ((with_reducible show wpList _ _ _ (Oper.mk _ (Op.load _ _) _ _ _ _ :: _) _ _); refine wpList_load_g hl7 _ rfl rfl (by go_simp) ?_) | ((with_reducible show wpList _ _ _ (Oper.mk _ (Op.load _ _) _ _ _ _ :: _) _ _); refine wpList_load_g hlv _ rfl rfl (by go_simp) ?_) | ((with_reducible show wpList _ _ _ (Oper.mk _ (Op.load _ _) _ _ _ _ :: _) _ _); refine wpList_load_g ((HP2.out.all w1 HB1.out).1) _ rfl rfl (by go_simp) ?_) | ((with_reducible show wpList _ _ _ (Oper.mk _ (Op.load _ _) _ _ _ _ :: _) _ _); refine wpList_load_g ((HP3.out.all w1 HB1.out).1) _ rfl rfl (by go_simp) ?_))
          refine (tdiffer_any A n c a A2 m c2 b w1 (HL.out.below HB1.out) (H1.out.below HB1.out) (H2.out.below HB1.out) OA.out OB.out hn hm).mono ?_
          rintro e w2 ⟨A5, n5, c5, rfl, hO2, hb2⟩
          rw [show difE a b = 0 by unfold difE; rw [HR.out]; rfl]
          have HO2 : Hid (RS pfxK w2 A5 n5 c5 (mrg a b)) := Lib.hid (by
            have := hO2.reads
            rwa [show difL a b = mrg a b by unfold difL; rw [HR.out]; rfl] at this)
          have HO2B := Lib.hid hO2.base_
          have HO2L := Lib.hid hO2.lt
          have HB2 := Lib.hid (below_step HB1.out hb2)
          have HV2 := Lib.hid (blk_below HV1.out hb2)
          have HR2 := Lib.hid (blk_below HR1.out hb2)
          clear hO2 hb2 hl7 hlv HV1 HR1 HB1
          have hS1 := blk_lt HR2.out
          have HKc : Hid (w2.heap[w.heap.size]? = some (.cells x.vv 25 (0, 0))) := Lib.hid (blk_below (by rw [HC1.out]; exact HBK1.out) HB2.out)
          have HBf := Lib.hid (fun (W : World) (h : (w2.alloc (.cells #[.slice none 0 0] 86)).grownBy W (some w2.heap.size)) => below_grown (below_alloc (Below.refl w2.heap.size w2) (.cells #[.slice none 0 0] 86)) h (Nat.le_refl _))
          go_wp2_with (first | ((with_reducible show wpList _ _ _ (Oper.mk _ (Op.store _ _ _) _ _ _ _ :: _) _ _); refine wpList_store_cell (blk_new w2 (.cells #[.slice none 0 0] 86)) 86 0 (.slice A5 n5 c5) (by decide) (by kernel_rfl) rfl rfl _ _ rfl rfl rfl rfl ?_; intro w3 hg9 hs9 hb9; have H3 := Lib.hid (And.intro hg9 (show w3.heap[w2.heap.size]? = some (.cells #[.slice A5 n5 c5] 86 (0, 0)) from hb9)); clear hg9 hs9 hb9) | ((with_reducible show wpList _ _ _ (Oper.mk _ (Op.load _ _) _ _ _ _ :: _) _ _); refine wpList_load_g (load_cac (blk_below HKc.out (HBf.out _ H3.out.1))) _ rfl rfl (by go_simp) ?_) | ((with_reducible show wpList _ _ _ (Oper.mk _ (Op.load _ _) _ _ _ _ :: _) _ _); refine wpList_load_g (load_u64c (by rw [blk_cell (blk_below HV2.out (HBf.out _ H3.out.1))]; rfl)) _ rfl rfl (by go_simp) ?_))
          have HB23 := Lib.hid (HBf.out _ H3.out.1)
          have HB3 := Lib.hid (below_step HB2.out HB23.out)
          have hxo := wfu hx.ver
          have hx62 : x.ver ≤ 4611686018427387904 := by
            have h := HCB.out
            unfold cacB headB at h
            simp at h
            omega
          have hnl : n5 ≤ 1000000 := by
            rw [← HO2.out.len]
            have := mrg_len a b
            rw [H1.out.len, H2.out.len] at this
            omega
          have hO3 : RS pfxK w3 A5 n5 c5 (mrg a b) := HO2.out.below HB23.out
          have HK3 := Lib.hid (blk_below HKc.out HB23.out)
          have HV3 := Lib.hid (blk_below HV2.out HB23.out)
          have HR3 := Lib.hid (blk_below HR2.out HB23.out)
          have HW := Lib.hid (cwithoutM_any x es ver w3 (w.heap.size + 3) w.heap.size w2.heap.size (HE.out.below HB3.out) hxn (goesB x.ver ver (mrg a b)) (fun e he w4 hb4 => cmove1_any e x ver (w.heap.size + 3) w.heap.size w2.heap.size A5 n5 c5 (mrg a b) w4 (HL.out.below (below_step HB3.out hb4)) (OE.out e he).fits (blk_below HV3.out hb4) (blk_below HK3.out hb4) (blk_below H3.out.2 hb4) (hO3.below hb4) hnl hxo.1 hx62))
          clear hO3 HBf HO2
          refine HW.out.mono ?_
          rintro e w4 ⟨A6, k6, c6, rfl, hO4, hF4, hb4⟩
          have HO4 := Lib.hid hO4
          have HF4 := Lib.hid hF4
          have HB4 := Lib.hid (below_step HB3.out hb4)
          have HK4 := Lib.hid (blk_below HK3.out hb4)
          have HR4 := Lib.hid (blk_below HR3.out hb4)
          have HEL := Lib.hid HE.out.len
          have hs3 := blk_lt HR3.out
          clear hO4 hF4 hb4 HW HK3 HV3 hnl hx62 hxo hS1
          go_upto_region 10 with (first | ((with_reducible show wpList _ _ _ (Oper.mk _ (Op.store _ _ _) _ _ _ _ :: _) _ _); refine wpList_store_blk (blk_new w4 (.cells cacZ.vv 25)) 25 0 (Cac.mk x.room ver A6 k6 c6 x.hits x.misses).vv (Nat.le_refl _) (info_cac _) (cac_one _) _ _ rfl rfl rfl rfl ?_; intro w5 hg9 hs9 hb9; rw [splice_cac] at hb9; have H5 := Lib.hid (And.intro hg9 hb9); clear hg9 hs9 hb9))
          have hne := blk_lt HR4.out
          have HK5 := Lib.hid (blk_grown (blk_below HK4.out (below_alloc (Below.refl _ _) (.cells cacZ.vv 25))) H5.out.1 (fun e => by injection e with e; omega))
          have HR5 := Lib.hid (blk_grown (blk_below HR4.out (below_alloc (Below.refl _ _) (.cells cacZ.vv 25))) H5.out.1 (fun e => by injection e with e; omega))
          have HO5 := Lib.hid (RS.grownN HO4.out (HO4.out.below (below_alloc (Below.refl _ _) (.cells cacZ.vv 25))) H5.out.1 (Nat.le_refl _))
          have HB5 := Lib.hid (below_grown (below_alloc HB4.out (.cells cacZ.vv 25)) H5.out.1 HB4.out.size)
          have HX5 := Lib.hid (blk_below H5.out.2 (below_drew1 w5))
          have HK6 := Lib.hid (blk_below HK5.out (below_drew1 w5))
          refine wp_region_mix ((fun w0 => w0.heap[w4.heap.size]? = some (.cells (Cac.vv ⟨x.room, ver, A6, k6, c6, x.hits, x.misses⟩) 25 (0, 0)) ∧ w0.heap[w.heap.size]? = some (.cells x.vv 25 (0, 0)))) [(0, 0), (1, 0), (2, 0), (3, 0), (4, 0), (5, 0), (6, 0), (7, 0), (8, 2), (9, 0), (10, 0)] (by kernel_rfl) (by kernel_rfl) (⟨HX5.out, HK6.out⟩) ?_
          simp only [List.map_cons, List.map_nil]
          refine wpO_loadW (t := 25) (ad := ⟨w4.heap.size, 0, none⟩) rfl rfl ?hw rfl rfl ((fun w0 hS => load_cac hS.1)) ?_
          case hw => go_simp
          iterate 1 (refine wpO_step0 rfl rfl (fun K hK => ?_); go_simp; refine hK _ _ ?_; clear hK K)
          refine wpO_loadW (t := 23) (ad := ⟨w.heap.size, 2, none⟩) rfl rfl ?hw rfl rfl ((fun w0 hS => ((cac_at hS.2).all _ (Below.refl _ _)).ents)) ?_
          case hw => go_simp
          iterate 2 (refine wpO_step0 rfl rfl (fun K hK => ?_); go_simp; refine hK _ _ ?_; clear hK K)
          refine wpO_loadW (t := 23) (ad := ⟨w4.heap.size, 2, none⟩) rfl rfl ?hw rfl rfl ((fun w0 hS => ((cac_at hS.1).all _ (Below.refl _ _)).ents)) ?_
          case hw => go_simp
          obtain ⟨kd, hkd⟩ : ∃ kd : Int, (x.n : Int) - k6 = kd := ⟨_, rfl⟩
          have hk6 : k6 ≤ x.n := by
            rw [← HO4.out.len, ← HEL.out]
            exact List.length_filter_le _ _
          have hwk : IntKind.i64.wrap ((x.n : Int) - k6) = kd := by rw [hkd]; exact IntWalk.i64_in _ (by omega)
          have HKD : Hid (kd = (es.length : Int) - (movedL x es a b ver).length) := Lib.hid (by
            rw [← hkd, HEL.out]
            unfold movedL
            rw [HO4.out.len])
          clear hkd hk6
          iterate 2 (refine wpO_step0 rfl rfl (fun K hK => ?_); go_simp; refine hK _ _ ?_; clear hK K)
          refine wpO_step2 rfl rfl (⟨HX5.out, HK6.out⟩) (fun K hK => ?_)
          rw [if_pos (show Region.wanted _ _ = true from rfl)]
          refine oper_store_blk (blk_below HR5.out (below_drew1 w5)) 25 0 (Cac.vv ⟨x.room, ver, A6, k6, c6, x.hits, x.misses⟩) (Nat.le_refl _) (info_cac _) (cac_one _) _ _ rfl rfl rfl ?_
          intro w6 hg8 hs8 hb8
          rw [splice_cac] at hb8
          have H6 := Lib.hid (And.intro hg8 hb8)
          clear hg8 hs8 hb8
          refine hK _ _ ⟨⟨blk_grown HX5.out H6.out.1 (fun e => by injection e with e; omega), blk_grown HK6.out H6.out.1 (fun e => by injection e with e; omega)⟩, ?_⟩
          clear hK K
          iterate 2 (refine wpO_step0 rfl rfl (fun K hK => ?_); go_simp; refine hK _ _ ?_; clear hK K)
          refine wpO_nil ?_
          go_wp2
          refine bodyPost_ret (results_c3 rfl rfl (load_cac H6.out.2)) rfl ?_
          have hsz := HB3.out.size
          refine ⟨⟨x.room, ver, A6, k6, c6, x.hits, x.misses⟩, movedL x es a b ver, kd, by rw [HN.out]; rfl, ?_, ?_, ?_, below_grown (below_step (below_step HBE.out HB5.out) (below_drew1 w5)) H6.out.1 (by omega)⟩
          · exact (HO5.out.below (below_drew1 w5)).grown H6.out.1 (fun ad e h => by injection h with h; have := HF4.out ad e; have := hs3; omega)
          · intro ad e
            have := HF4.out ad e
            omega
          · unfold MoveIs
            rw [if_pos HN.out]
            exact ⟨rfl, rfl, rfl, rfl, rfl, HKD.out⟩
end Go.Proofs.YtihfaknflfmohaaDoor

/- Layer 9 (table): the walk of TableSets. -/
namespace Go.Proofs.YtihfaknflfmohaaDoor
open Go.RowKit
set_option linter.unusedVariables false
set_option linter.unusedSimpArgs false
set_option maxRecDepth 4000
theorem oks_set {t : List Row} {p : Pfx} {h : Int} (ot : Oks t) (hpo : p.ok) (hf : Fits t) : Oks (setL t p h) := by
  unfold setL
  split
  · rename_i he
    have hh : tabB t = true ∧ 1 ≤ h ∧ h ≤ 255 := by
      unfold setE at he
      cases hb : tabB t with
      | false => rw [hb] at he; simp at he
      | true =>
        rw [hb, if_pos rfl] at he
        split at he
        · rename_i hx
          exact ⟨rfl, hx.2⟩
        · cases he
    intro x hx
    rcases (mem_setT hpo.l hf (tabB_to hh.1).2.2).1 hx with rfl | ⟨hx, _⟩
    · refine ⟨hpo, ?_⟩
      simp [Lit.wf, IntKind.min, IntKind.max, IntKind.bits, IntKind.signed]
      omega
    · exact ot x hx
  · intro x hx
    cases hx
theorem oks_drop {t : List Row} {p : Pfx} (ot : Oks t) : Oks (dropL t p) := by
  unfold dropL
  split
  · exact fun x hx => ot x (mem_dropT_of hx)
  · intro x hx
    cases hx
theorem there_get {t : List Row} {p : Pfx} (ht : tabB t = true) : thereB t p = decide (0 < getT t p) := by
  have h1 := getT_zero (p := p) ht
  cases hth : thereB t p with
  | false => rw [getT_no hth]; rfl
  | true =>
    have hlt := lowN_lt hth
    have h2 : getT t p = (rowAt t (lowN t p)).h := by unfold getT; rw [hth]; rfl
    have h3 := ((okB_iff _).1 ((tabB_to ht).2.1 _ (row_mem hlt))).2
    rw [eq_comm, decide_eq_true_iff]
    omega
theorem setL_len (t : List Row) (p : Pfx) (h : Int) : (setL t p h).length ≤ t.length + 1 := by
  unfold setL
  split
  · rw [len_setT]
    split <;> omega
  · simp
theorem dropL_len (t : List Row) (p : Pfx) : (dropL t p).length ≤ t.length := by
  unfold dropL
  split
  · exact len_dropT t
  · simp
set_option maxRecDepth 100000 in
set_option maxHeartbeats 8000000 in
theorem tableSets_any (A : Option Addr) (n c : Nat) (t : List Row) (p : Pfx) (h : Int) (w : World) (hL : Laid w) (ht : RT w A n c t) (ot : Oks t) (hpo : p.ok) : Calls Tryd.prog 10 #[.agg (tabV A n c), .agg (pfxV p.v p.l p.b), .int .i64 h] w fun e w' => e = .returned (.bool true) ∧ Below w.heap.size w w' := by
  have hp := hpo.l
  have hblk1 := blk_new w (.cells (tabV A n c) 28)
  have hbel1 : Below w.heap.size w (w.alloc (.cells (tabV A n c) 28)) := below_alloc (Below.refl _ _) _
  have hblk2 := blk_new (w.alloc (.cells (tabV A n c) 28)) (.cells (pfxV p.v p.l p.b) 36)
  have hbel2 : Below w.heap.size w ((w.alloc (.cells (tabV A n c) 28)).alloc (.cells (pfxV p.v p.l p.b) 36)) := below_alloc (hbel1) _
  rw [show (w.alloc (.cells (tabV A n c) 28)).heap.size = w.heap.size + 1 by simp] at hblk2
  replace hblk1 := blk_below hblk1 (below_alloc (Below.refl _ _) (.cells (pfxV p.v p.l p.b) 36))
  have HP1 := Lib.hid (tab_at hblk1)
  have HBK1 := Lib.hid hblk1
  have HP2 := Lib.hid (pfx_at hp hblk2)
  have HBK2 := Lib.hid hblk2
  have HBE := Lib.hid hbel2
  have HL := Lib.hid (hL.below HBE.out)
  obtain ⟨cs1, hcs1⟩ : ∃ cs, tabV A n c = cs := ⟨_, rfl⟩
  obtain ⟨cs2, hcs2⟩ : ∃ cs, pfxV p.v p.l p.b = cs := ⟨_, rfl⟩
  simp only [hcs1, hcs2] at HBE HL HP1 HP2 HBK1 HBK2 ⊢
  have HC1 := Lib.hid hcs1
  have HC2 := Lib.hid hcs2
  clear hL hcs1 hblk1 hbel1 hcs2 hblk2 hbel2
  have HT := Lib.hid (ht.below HBE.out)
  have OKS := Lib.hid ot
  clear ht ot
  go_enter Tryd.func10, Tryd.ntmps10
  go_wp2_with fail
  refine (wakes09_any _ HL.out).mono ?_
  rintro e w1 ⟨rfl, hb1⟩
  have HB1 := Lib.hid hb1
  have hl1 := (HP1.out.all w1 HB1.out).2
  clear hb1
  by_cases hn : 200 < n
  · have hn' : decide ((200 : Int) < n) = true := decide_eq_true (by omega)
    go_wp2_with (first | ((with_reducible show wpList _ _ _ (Oper.mk _ (Op.load _ _) _ _ _ _ :: _) _ _); refine wpList_load_g hl1 _ rfl rfl (by go_simp) ?_))
    go_ret
    exact ⟨rfl, below_step HBE.out HB1.out⟩
  · have hn' : decide ((200 : Int) < n) = false := decide_eq_false (by omega)
    have hn200 : n ≤ 200 := by omega
    clear hn
    go_upto_region 5 with (first | ((with_reducible show wpList _ _ _ (Oper.mk _ (Op.load _ _) _ _ _ _ :: _) _ _); refine wpList_load_g hl1 _ rfl rfl (by go_simp) ?_))
    clear hl1
    go_cut [7, 8] (fun s7 s8 wx => ∃ (g : Nat) (A7 : Option Addr) (n7 c7 : Nat), s7 = .pointer (some ⟨g, 0, none⟩) ∧ s8 = .int .i64 (setE t p h) ∧ Hid (wx.heap[g]? = some (.cells (tabV A7 n7 c7) 28 (0, 0)) ∧ RT wx A7 n7 c7 (setL t p h) ∧ Below w1.heap.size w1 wx))
    case first =>
      have HBB := HB1
      have HBD := Lib.hid (below_drew1 w1)
      refine wp_region_fork ((fun w0 => Below w1.heap.size w1 w0)) (OrdT.fork [0, 2, 3] 1 8 (OrdT.fork [] 4 8 (OrdT.lin [5, 6, 7, 8, 9, 10]) (OrdT.lin [4, 5, 6, 7, 9, 10])) (OrdT.lin [1, 4, 5, 6, 7, 9, 10])) [(0, 0), (1, 2), (2, 0), (3, 0), (4, 2), (5, 0), (6, 0), (7, 0), (8, 2), (9, 2), (10, 0)] (by kernel_rfl) (by kernel_rfl) ((below_drew1 _)) ?_
      simp only [wpF]
      refine wpO_loadW (t := 28) (ad := ⟨w.heap.size, 0, none⟩) rfl rfl ?hw rfl rfl ((fun w0 hS => (HP1.out.all w0 (below_step HB1.out hS)).1)) ?_
      case hw => go_simp
      refine wpO_loadW (t := 36) (ad := ⟨(w.heap.size+1), 0, none⟩) rfl rfl ?hw rfl rfl ((fun w0 hS => (HP2.out.all w0 (below_step HB1.out hS)).2.2.2.2)) ?_
      case hw => go_simp
      iterate 1 (refine wpO_step0 rfl rfl (fun K hK => ?_); go_simp; refine hK _ _ ?_; clear hK K)
      refine wpO_nil ⟨?_, ?_⟩
      · refine wpO_step2 rfl rfl (HBD.out) (fun K hK => ?_)
        go_simp
        refine (copiedT_any A n c t _ (HT.out.below (below_step HBB.out HBD.out)) (by omega)).mono ?_
        rintro e w2 ⟨Ac, cc, rfl, hO9, hb9⟩
        have HBC := Lib.hid (below_step HBD.out hb9)
        have HCP := Lib.hid hO9.reads
        have hszc := hb9.size
        try replace HZ9 := Lib.hid (blk_below HZ9.out hb9)
        clear hO9 hb9
        refine hK _ _ ⟨HBC.out, ?_⟩
        clear hK K
        refine wpO_nil (wpO_nil ⟨?_, ?_⟩)
        · refine wpO_step2 rfl rfl (HBC.out) (fun K hK => ?_)
          go_simp
          refine (tset_any Ac n cc t p h w2 (HL.out.below (below_step HBB.out HBC.out)) HCP.out hp (by omega)).mono ?_
          rintro e w3 ⟨A7, n7, c7, rfl, hO9, hb9⟩
          have HBK := Lib.hid (below_step HBC.out hb9)
          have HO9 := Lib.hid hO9.reads
          have HLT9 := Lib.hid hO9.lt
          have HBA9 := Lib.hid hO9.base_
          try replace HZ9 := Lib.hid (blk_below HZ9.out hb9)
          clear hO9 hb9
          refine hK _ _ ⟨HBK.out, ?_⟩
          clear hK K
          refine wpO_nil ?_
          iterate 3 (refine wpO_step0 rfl rfl (fun K hK => ?_); go_simp; refine hK _ _ ?_; clear hK K)
          refine wpO_step2 rfl rfl (HBK.out) (fun K hK => ?_)
          go_simp
          have hz9 := blk_new w3 (.cells (tabV none 0 0) 28)
          obtain ⟨w4, hw9⟩ : ∃ w9, World.alloc w3 (.cells (tabV none 0 0) 28) = w9 := ⟨_, rfl⟩
          have ha9 : Below (World.heap w3).size w3 w4 := hw9 ▸ below_alloc (Below.refl _ _) _
          have HBL := Lib.hid (below_step HBK.out ha9)
          rw [show World.alloc w3 (.cells #[.slice none 0 0] 28) = w4 from hw9]
          rw [hw9] at hz9
          have hzl9 := blk_lt hz9
          have HZ9 := Lib.hid hz9
          try replace HCP := Lib.hid (HCP.out.below ha9)
          try replace HO9 := Lib.hid (HO9.out.below ha9)
          clear hw9 hz9 ha9
          refine hK _ _ ⟨HBL.out, ?_⟩
          clear hK K
          refine wpO_step2 rfl rfl (HBL.out) (fun K hK => ?_)
          rw [if_pos (show Region.wanted _ _ = true from rfl)]
          refine oper_store_blk HZ9.out 28 0 (tabV A7 n7 c7) (Nat.le_refl _) (info_tab _ _ _) (tab_one _ _ _) _ _ rfl rfl rfl ?_
          intro w5 hg9 hs9 hb9
          rw [splice_tab] at hb9
          have HBM := Lib.hid (below_grown HBL.out hg9 (by have h2 := HBC.out.size; have h3 := HBK.out.size; omega))
          replace HO9 := Lib.hid (HO9.out.grown hg9 (fun ad e h => by injection h with h; first | (have := HLT9.out ad e; omega) | (have := HBA9.out ad e; omega)))
          replace HZ9 := Lib.hid hb9
          clear hg9 hs9 hb9
          refine hK _ _ ⟨HBM.out, ?_⟩
          clear hK K
          iterate 1 (refine wpO_step0 rfl rfl (fun K hK => ?_); go_simp; refine hK _ _ ?_; clear hK K)
          refine wpO_nil ?_
          go_wp2_with fail
          go_meet
          exact ⟨w3.heap.size, A7, n7, c7, rfl, rfl, HZ9.out, HO9.out, HBM.out⟩
        · refine wpO_step2 rfl rfl (HBC.out) (fun K hK => ?_)
          go_simp
          have hz9 := blk_new w2 (.cells (tabV none 0 0) 28)
          obtain ⟨w3, hw9⟩ : ∃ w9, World.alloc w2 (.cells (tabV none 0 0) 28) = w9 := ⟨_, rfl⟩
          have ha9 : Below (World.heap w2).size w2 w3 := hw9 ▸ below_alloc (Below.refl _ _) _
          have HBK := Lib.hid (below_step HBC.out ha9)
          rw [show World.alloc w2 (.cells #[.slice none 0 0] 28) = w3 from hw9]
          rw [hw9] at hz9
          have hzl9 := blk_lt hz9
          have HZ9 := Lib.hid hz9
          try replace HCP := Lib.hid (HCP.out.below ha9)
          try replace HO9 := Lib.hid (HO9.out.below ha9)
          clear hw9 hz9 ha9
          refine hK _ _ ⟨HBK.out, ?_⟩
          clear hK K
          refine wpO_nil ?_
          refine wpO_step2 rfl rfl (HBK.out) (fun K hK => ?_)
          go_simp
          refine (tset_any Ac n cc t p h w3 (HL.out.below (below_step HBB.out HBK.out)) HCP.out hp (by omega)).mono ?_
          rintro e w4 ⟨A7, n7, c7, rfl, hO9, hb9⟩
          have HBL := Lib.hid (below_step HBK.out hb9)
          have HO9 := Lib.hid hO9.reads
          have HLT9 := Lib.hid hO9.lt
          have HBA9 := Lib.hid hO9.base_
          try replace HZ9 := Lib.hid (blk_below HZ9.out hb9)
          clear hO9 hb9
          refine hK _ _ ⟨HBL.out, ?_⟩
          clear hK K
          iterate 3 (refine wpO_step0 rfl rfl (fun K hK => ?_); go_simp; refine hK _ _ ?_; clear hK K)
          refine wpO_step2 rfl rfl (HBL.out) (fun K hK => ?_)
          rw [if_pos (show Region.wanted _ _ = true from rfl)]
          refine oper_store_blk HZ9.out 28 0 (tabV A7 n7 c7) (Nat.le_refl _) (info_tab _ _ _) (tab_one _ _ _) _ _ rfl rfl rfl ?_
          intro w5 hg9 hs9 hb9
          rw [splice_tab] at hb9
          have HBM := Lib.hid (below_grown HBL.out hg9 (by have h2 := HBC.out.size; have h3 := HBK.out.size; omega))
          replace HO9 := Lib.hid (HO9.out.grown hg9 (fun ad e h => by injection h with h; first | (have := HLT9.out ad e; omega) | (have := HBA9.out ad e; omega)))
          replace HZ9 := Lib.hid hb9
          clear hg9 hs9 hb9
          refine hK _ _ ⟨HBM.out, ?_⟩
          clear hK K
          iterate 1 (refine wpO_step0 rfl rfl (fun K hK => ?_); go_simp; refine hK _ _ ?_; clear hK K)
          refine wpO_nil ?_
          go_wp2_with fail
          go_meet
          exact ⟨w2.heap.size, A7, n7, c7, rfl, rfl, HZ9.out, HO9.out, HBM.out⟩
      · refine wpO_step2 rfl rfl (HBD.out) (fun K hK => ?_)
        go_simp
        have hz9 := blk_new w1 (.cells (tabV none 0 0) 28)
        obtain ⟨w2, hw9⟩ : ∃ w9, (World.alloc w1 (.cells (tabV none 0 0) 28)).drew = w9 := ⟨_, rfl⟩
        have ha9 : Below (World.heap w1).size w1 w2 := hw9 ▸ below_step (below_alloc (Below.refl _ _) _) (below_drew1 _)
        have HBC := Lib.hid ha9
        rw [show (World.alloc w1 (.cells #[.slice none 0 0] 28)).drew = w2 from hw9]
        replace hz9 : (World.heap w2)[(World.heap w1).size]? = some (.cells (tabV none 0 0) 28 (0, 0)) := by rw [← hw9]; exact hz9
        have hzl9 := blk_lt hz9
        have HZ9 := Lib.hid hz9
        clear hw9 hz9 ha9
        refine hK _ _ ⟨HBC.out, ?_⟩
        clear hK K
        refine wpO_nil ?_
        refine wpO_step2 rfl rfl (HBC.out) (fun K hK => ?_)
        go_simp
        refine (copiedT_any A n c t _ (HT.out.below (below_step HBB.out HBC.out)) (by omega)).mono ?_
        rintro e w3 ⟨Ac, cc, rfl, hO9, hb9⟩
        have HBK := Lib.hid (below_step HBC.out hb9)
        have HCP := Lib.hid hO9.reads
        have hszc := hb9.size
        try replace HZ9 := Lib.hid (blk_below HZ9.out hb9)
        clear hO9 hb9
        refine hK _ _ ⟨HBK.out, ?_⟩
        clear hK K
        refine wpO_step2 rfl rfl (HBK.out) (fun K hK => ?_)
        go_simp
        refine (tset_any Ac n cc t p h w3 (HL.out.below (below_step HBB.out HBK.out)) HCP.out hp (by omega)).mono ?_
        rintro e w4 ⟨A7, n7, c7, rfl, hO9, hb9⟩
        have HBL := Lib.hid (below_step HBK.out hb9)
        have HO9 := Lib.hid hO9.reads
        have HLT9 := Lib.hid hO9.lt
        have HBA9 := Lib.hid hO9.base_
        try replace HZ9 := Lib.hid (blk_below HZ9.out hb9)
        clear hO9 hb9
        refine hK _ _ ⟨HBL.out, ?_⟩
        clear hK K
        iterate 3 (refine wpO_step0 rfl rfl (fun K hK => ?_); go_simp; refine hK _ _ ?_; clear hK K)
        refine wpO_step2 rfl rfl (HBL.out) (fun K hK => ?_)
        rw [if_pos (show Region.wanted _ _ = true from rfl)]
        refine oper_store_blk HZ9.out 28 0 (tabV A7 n7 c7) (Nat.le_refl _) (info_tab _ _ _) (tab_one _ _ _) _ _ rfl rfl rfl ?_
        intro w5 hg9 hs9 hb9
        rw [splice_tab] at hb9
        have HBM := Lib.hid (below_grown HBL.out hg9 (by have h2 := HBC.out.size; have h3 := HBK.out.size; omega))
        replace HO9 := Lib.hid (HO9.out.grown hg9 (fun ad e h => by injection h with h; first | (have := HLT9.out ad e; omega) | (have := HBA9.out ad e; omega)))
        replace HZ9 := Lib.hid hb9
        clear hg9 hs9 hb9
        refine hK _ _ ⟨HBM.out, ?_⟩
        clear hK K
        iterate 1 (refine wpO_step0 rfl rfl (fun K hK => ?_); go_simp; refine hK _ _ ?_; clear hK K)
        refine wpO_nil ?_
        go_wp2_with fail
        go_meet
        exact ⟨w1.heap.size, A7, n7, c7, rfl, rfl, HZ9.out, HO9.out, HBM.out⟩
    case rest =>
      obtain ⟨g1, A1, n1, c1, rfl, rfl, HC⟩ := hcut
      obtain ⟨v1, rfl⟩ : ∃ v1, v1 = wc := ⟨wc, rfl⟩
      have hn1 : n1 ≤ 201 := by
        rw [← HC.out.2.1.len]
        have := setL_len t p h
        rw [HT.out.len] at this
        omega
      have HBV := Lib.hid (below_step HB1.out HC.out.2.2)
      have hl1 := (HP1.out.all v1 HBV.out).1
      have hl2 := (HP2.out.all v1 HBV.out).2.2.2.2
      rw [HC1.out] at hl1
      rw [HC2.out] at hl2
      go_wp2_with (first | ((with_reducible show wpList _ _ _ (Oper.mk _ (Op.load _ _) _ _ _ _ :: _) _ _); refine wpList_load_g hl1 _ rfl rfl (by go_simp) ?_) | ((with_reducible show wpList _ _ _ (Oper.mk _ (Op.load _ _) _ _ _ _ :: _) _ _); refine wpList_load_g hl2 _ rfl rfl (by go_simp) ?_))
      have hpl := refset_any A n c t p h v1 (HT.out.below HBV.out) OKS.out hpo (by omega)
      rw [HC1.out, HC2.out] at hpl
      refine hpl.mono ?_
      clear hpl hl1 hl2
      rintro e v2 ⟨A3, n3, c3, rfl, hO3, hb3⟩
      have HO3 := Lib.hid hO3
      have HBV2 := Lib.hid (below_step HBV.out hb3)
      have HG1 := Lib.hid (blk_below HC.out.1 hb3)
      have HR1 := Lib.hid (HC.out.2.1.below hb3)
      have hg1 := blk_lt HG1.out
      have hn3 : n3 ≤ 201 := by
        rw [← HO3.out.len]
        have := setL_len t p h
        rw [HT.out.len] at this
        omega
      have hz3 := blk_new v2 (.cells (tabV none 0 0) 28)
      clear hO3 hb3 HC
      go_upto_region 7 with (first | ((with_reducible show wpList _ _ _ (Oper.mk _ (Op.store _ _ _) _ _ _ _ :: _) _ _); refine wpList_store_blk hz3 28 0 (tabV A3 n3 c3) (Nat.le_refl _) (info_tab _ _ _) (tab_one _ _ _) _ _ rfl rfl rfl rfl ?_; intro v3 hg9 hs9 hb9; rw [splice_tab] at hb9; have H4 := Lib.hid (And.intro hg9 hb9); clear hg9 hs9 hb9))
      have hb23 : Below v2.heap.size v2 v3 := below_grown (below_alloc (Below.refl _ _) _) H4.out.1 (Nat.le_refl _)
      have HB4 := Lib.hid (below_step HBV2.out hb23)
      have HG4 := Lib.hid (blk_below HG1.out hb23)
      have HR4 := Lib.hid (HR1.out.below hb23)
      have HO4 := Lib.hid (HO3.out.reads.below hb23)
      have HZ4 := Lib.hid H4.out.2
      clear hz3 hb23 H4 HG1 HR1 HO3 HBV
      go_cut [11, 12] (fun s7 s8 wx => ∃ (g : Nat) (A7 : Option Addr) (n7 c7 : Nat), s7 = .pointer (some ⟨g, 0, none⟩) ∧ s8 = .int .i64 (dropE t p) ∧ Hid (wx.heap[g]? = some (.cells (tabV A7 n7 c7) 28 (0, 0)) ∧ RT wx A7 n7 c7 (dropL t p) ∧ Below v3.heap.size v3 wx))
      case first =>
        have HBB := HB4
        have HBD := Lib.hid (below_drew1 v3)
        refine wp_region_fork ((fun w0 => Below v3.heap.size v3 w0)) (OrdT.fork [0, 2] 1 7 (OrdT.fork [] 3 7 (OrdT.lin [4, 5, 6, 7, 8, 9]) (OrdT.lin [3, 4, 5, 6, 8, 9])) (OrdT.lin [1, 3, 4, 5, 6, 8, 9])) [(0, 0), (1, 2), (2, 0), (3, 2), (4, 0), (5, 0), (6, 0), (7, 2), (8, 2), (9, 0)] (by kernel_rfl) (by kernel_rfl) ((below_drew1 _)) ?_
        simp only [wpF]
        refine wpO_loadW (t := 28) (ad := ⟨w.heap.size, 0, none⟩) rfl rfl ?hw rfl rfl ((fun w0 hS => (HP1.out.all w0 (below_step HB4.out hS)).1)) ?_
        case hw => go_simp
        refine wpO_loadW (t := 36) (ad := ⟨(w.heap.size+1), 0, none⟩) rfl rfl ?hw rfl rfl ((fun w0 hS => (HP2.out.all w0 (below_step HB4.out hS)).2.2.2.2)) ?_
        case hw => go_simp
        refine wpO_nil ⟨?_, ?_⟩
        · refine wpO_step2 rfl rfl (HBD.out) (fun K hK => ?_)
          go_simp
          refine (copiedT_any A n c t _ (HT.out.below (below_step HBB.out HBD.out)) (by omega)).mono ?_
          rintro e w2 ⟨Ac, cc, rfl, hO9, hb9⟩
          have HBC := Lib.hid (below_step HBD.out hb9)
          have HCP := Lib.hid hO9.reads
          have hszc := hb9.size
          try replace HZ9 := Lib.hid (blk_below HZ9.out hb9)
          clear hO9 hb9
          refine hK _ _ ⟨HBC.out, ?_⟩
          clear hK K
          refine wpO_nil (wpO_nil ⟨?_, ?_⟩)
          · refine wpO_step2 rfl rfl (HBC.out) (fun K hK => ?_)
            go_simp
            refine (tdrop_any Ac n cc t p w2 (HL.out.below (below_step HBB.out HBC.out)) HCP.out hp (by omega)).mono ?_
            rintro e w3 ⟨A7, n7, c7, rfl, hO9, hb9⟩
            have HBK := Lib.hid (below_step HBC.out hb9)
            have HO9 := Lib.hid hO9.reads
            have HLT9 := Lib.hid hO9.lt
            have HBA9 := Lib.hid hO9.base_
            try replace HZ9 := Lib.hid (blk_below HZ9.out hb9)
            clear hO9 hb9
            refine hK _ _ ⟨HBK.out, ?_⟩
            clear hK K
            refine wpO_nil ?_
            iterate 3 (refine wpO_step0 rfl rfl (fun K hK => ?_); go_simp; refine hK _ _ ?_; clear hK K)
            refine wpO_step2 rfl rfl (HBK.out) (fun K hK => ?_)
            go_simp
            have hz9 := blk_new w3 (.cells (tabV none 0 0) 28)
            obtain ⟨w4, hw9⟩ : ∃ w9, World.alloc w3 (.cells (tabV none 0 0) 28) = w9 := ⟨_, rfl⟩
            have ha9 : Below (World.heap w3).size w3 w4 := hw9 ▸ below_alloc (Below.refl _ _) _
            have HBL := Lib.hid (below_step HBK.out ha9)
            rw [show World.alloc w3 (.cells #[.slice none 0 0] 28) = w4 from hw9]
            rw [hw9] at hz9
            have hzl9 := blk_lt hz9
            have HZ9 := Lib.hid hz9
            try replace HCP := Lib.hid (HCP.out.below ha9)
            try replace HO9 := Lib.hid (HO9.out.below ha9)
            clear hw9 hz9 ha9
            refine hK _ _ ⟨HBL.out, ?_⟩
            clear hK K
            refine wpO_step2 rfl rfl (HBL.out) (fun K hK => ?_)
            rw [if_pos (show Region.wanted _ _ = true from rfl)]
            refine oper_store_blk HZ9.out 28 0 (tabV A7 n7 c7) (Nat.le_refl _) (info_tab _ _ _) (tab_one _ _ _) _ _ rfl rfl rfl ?_
            intro w5 hg9 hs9 hb9
            rw [splice_tab] at hb9
            have HBM := Lib.hid (below_grown HBL.out hg9 (by have h2 := HBC.out.size; have h3 := HBK.out.size; omega))
            replace HO9 := Lib.hid (HO9.out.grown hg9 (fun ad e h => by injection h with h; first | (have := HLT9.out ad e; omega) | (have := HBA9.out ad e; omega)))
            replace HZ9 := Lib.hid hb9
            clear hg9 hs9 hb9
            refine hK _ _ ⟨HBM.out, ?_⟩
            clear hK K
            iterate 1 (refine wpO_step0 rfl rfl (fun K hK => ?_); go_simp; refine hK _ _ ?_; clear hK K)
            refine wpO_nil ?_
            go_wp2_with fail
            go_meet
            exact ⟨w3.heap.size, A7, n7, c7, rfl, rfl, HZ9.out, HO9.out, HBM.out⟩
          · refine wpO_step2 rfl rfl (HBC.out) (fun K hK => ?_)
            go_simp
            have hz9 := blk_new w2 (.cells (tabV none 0 0) 28)
            obtain ⟨w3, hw9⟩ : ∃ w9, World.alloc w2 (.cells (tabV none 0 0) 28) = w9 := ⟨_, rfl⟩
            have ha9 : Below (World.heap w2).size w2 w3 := hw9 ▸ below_alloc (Below.refl _ _) _
            have HBK := Lib.hid (below_step HBC.out ha9)
            rw [show World.alloc w2 (.cells #[.slice none 0 0] 28) = w3 from hw9]
            rw [hw9] at hz9
            have hzl9 := blk_lt hz9
            have HZ9 := Lib.hid hz9
            try replace HCP := Lib.hid (HCP.out.below ha9)
            try replace HO9 := Lib.hid (HO9.out.below ha9)
            clear hw9 hz9 ha9
            refine hK _ _ ⟨HBK.out, ?_⟩
            clear hK K
            refine wpO_nil ?_
            refine wpO_step2 rfl rfl (HBK.out) (fun K hK => ?_)
            go_simp
            refine (tdrop_any Ac n cc t p w3 (HL.out.below (below_step HBB.out HBK.out)) HCP.out hp (by omega)).mono ?_
            rintro e w4 ⟨A7, n7, c7, rfl, hO9, hb9⟩
            have HBL := Lib.hid (below_step HBK.out hb9)
            have HO9 := Lib.hid hO9.reads
            have HLT9 := Lib.hid hO9.lt
            have HBA9 := Lib.hid hO9.base_
            try replace HZ9 := Lib.hid (blk_below HZ9.out hb9)
            clear hO9 hb9
            refine hK _ _ ⟨HBL.out, ?_⟩
            clear hK K
            iterate 3 (refine wpO_step0 rfl rfl (fun K hK => ?_); go_simp; refine hK _ _ ?_; clear hK K)
            refine wpO_step2 rfl rfl (HBL.out) (fun K hK => ?_)
            rw [if_pos (show Region.wanted _ _ = true from rfl)]
            refine oper_store_blk HZ9.out 28 0 (tabV A7 n7 c7) (Nat.le_refl _) (info_tab _ _ _) (tab_one _ _ _) _ _ rfl rfl rfl ?_
            intro w5 hg9 hs9 hb9
            rw [splice_tab] at hb9
            have HBM := Lib.hid (below_grown HBL.out hg9 (by have h2 := HBC.out.size; have h3 := HBK.out.size; omega))
            replace HO9 := Lib.hid (HO9.out.grown hg9 (fun ad e h => by injection h with h; first | (have := HLT9.out ad e; omega) | (have := HBA9.out ad e; omega)))
            replace HZ9 := Lib.hid hb9
            clear hg9 hs9 hb9
            refine hK _ _ ⟨HBM.out, ?_⟩
            clear hK K
            iterate 1 (refine wpO_step0 rfl rfl (fun K hK => ?_); go_simp; refine hK _ _ ?_; clear hK K)
            refine wpO_nil ?_
            go_wp2_with fail
            go_meet
            exact ⟨w2.heap.size, A7, n7, c7, rfl, rfl, HZ9.out, HO9.out, HBM.out⟩
        · refine wpO_step2 rfl rfl (HBD.out) (fun K hK => ?_)
          go_simp
          have hz9 := blk_new v3 (.cells (tabV none 0 0) 28)
          obtain ⟨w2, hw9⟩ : ∃ w9, (World.alloc v3 (.cells (tabV none 0 0) 28)).drew = w9 := ⟨_, rfl⟩
          have ha9 : Below (World.heap v3).size v3 w2 := hw9 ▸ below_step (below_alloc (Below.refl _ _) _) (below_drew1 _)
          have HBC := Lib.hid ha9
          rw [show (World.alloc v3 (.cells #[.slice none 0 0] 28)).drew = w2 from hw9]
          replace hz9 : (World.heap w2)[(World.heap v3).size]? = some (.cells (tabV none 0 0) 28 (0, 0)) := by rw [← hw9]; exact hz9
          have hzl9 := blk_lt hz9
          have HZ9 := Lib.hid hz9
          clear hw9 hz9 ha9
          refine hK _ _ ⟨HBC.out, ?_⟩
          clear hK K
          refine wpO_nil ?_
          refine wpO_step2 rfl rfl (HBC.out) (fun K hK => ?_)
          go_simp
          refine (copiedT_any A n c t _ (HT.out.below (below_step HBB.out HBC.out)) (by omega)).mono ?_
          rintro e w3 ⟨Ac, cc, rfl, hO9, hb9⟩
          have HBK := Lib.hid (below_step HBC.out hb9)
          have HCP := Lib.hid hO9.reads
          have hszc := hb9.size
          try replace HZ9 := Lib.hid (blk_below HZ9.out hb9)
          clear hO9 hb9
          refine hK _ _ ⟨HBK.out, ?_⟩
          clear hK K
          refine wpO_step2 rfl rfl (HBK.out) (fun K hK => ?_)
          go_simp
          refine (tdrop_any Ac n cc t p w3 (HL.out.below (below_step HBB.out HBK.out)) HCP.out hp (by omega)).mono ?_
          rintro e w4 ⟨A7, n7, c7, rfl, hO9, hb9⟩
          have HBL := Lib.hid (below_step HBK.out hb9)
          have HO9 := Lib.hid hO9.reads
          have HLT9 := Lib.hid hO9.lt
          have HBA9 := Lib.hid hO9.base_
          try replace HZ9 := Lib.hid (blk_below HZ9.out hb9)
          clear hO9 hb9
          refine hK _ _ ⟨HBL.out, ?_⟩
          clear hK K
          iterate 3 (refine wpO_step0 rfl rfl (fun K hK => ?_); go_simp; refine hK _ _ ?_; clear hK K)
          refine wpO_step2 rfl rfl (HBL.out) (fun K hK => ?_)
          rw [if_pos (show Region.wanted _ _ = true from rfl)]
          refine oper_store_blk HZ9.out 28 0 (tabV A7 n7 c7) (Nat.le_refl _) (info_tab _ _ _) (tab_one _ _ _) _ _ rfl rfl rfl ?_
          intro w5 hg9 hs9 hb9
          rw [splice_tab] at hb9
          have HBM := Lib.hid (below_grown HBL.out hg9 (by have h2 := HBC.out.size; have h3 := HBK.out.size; omega))
          replace HO9 := Lib.hid (HO9.out.grown hg9 (fun ad e h => by injection h with h; first | (have := HLT9.out ad e; omega) | (have := HBA9.out ad e; omega)))
          replace HZ9 := Lib.hid hb9
          clear hg9 hs9 hb9
          refine hK _ _ ⟨HBM.out, ?_⟩
          clear hK K
          iterate 1 (refine wpO_step0 rfl rfl (fun K hK => ?_); go_simp; refine hK _ _ ?_; clear hK K)
          refine wpO_nil ?_
          go_wp2_with fail
          go_meet
          exact ⟨v3.heap.size, A7, n7, c7, rfl, rfl, HZ9.out, HO9.out, HBM.out⟩
      case rest =>
        obtain ⟨g5, A5, n5, c5, rfl, rfl, HC⟩ := hcut
        obtain ⟨v4, rfl⟩ : ∃ v4, v4 = wc := ⟨wc, rfl⟩
        have hn5 : n5 ≤ 200 := by
          rw [← HC.out.2.1.len]
          have := dropL_len t p
          rw [HT.out.len] at this
          omega
        have HBV := Lib.hid (below_step HB4.out HC.out.2.2)
        have hl1 := (HP1.out.all v4 HBV.out).1
        have hl2 := (HP2.out.all v4 HBV.out).2.2.2.2
        rw [HC1.out] at hl1
        rw [HC2.out] at hl2
        go_wp2_with (first | ((with_reducible show wpList _ _ _ (Oper.mk _ (Op.load _ _) _ _ _ _ :: _) _ _); refine wpList_load_g hl1 _ rfl rfl (by go_simp) ?_) | ((with_reducible show wpList _ _ _ (Oper.mk _ (Op.load _ _) _ _ _ _ :: _) _ _); refine wpList_load_g hl2 _ rfl rfl (by go_simp) ?_))
        have hpl := refdrop_any A n c t p v4 (HT.out.below HBV.out) OKS.out hpo (by omega)
        rw [HC1.out, HC2.out] at hpl
        refine hpl.mono ?_
        clear hpl hl1 hl2
        rintro e v5 ⟨A6, n6, c6, rfl, hO6, hb6⟩
        have HO6 := Lib.hid hO6
        have HBV6 := Lib.hid (below_step HBV.out hb6)
        have hb46 := below_step HC.out.2.2 hb6
        have HG1 := Lib.hid (blk_below HG4.out hb46)
        have HR1 := Lib.hid (HR4.out.below hb46)
        have HG3 := Lib.hid (blk_below HZ4.out hb46)
        have HR3 := Lib.hid (HO4.out.below hb46)
        have HG5 := Lib.hid (blk_below HC.out.1 hb6)
        have HR5 := Lib.hid (HC.out.2.1.below hb6)
        have hn6 : n6 ≤ 200 := by
          rw [← HO6.out.len]
          have := dropL_len t p
          rw [HT.out.len] at this
          omega
        have hz6 := blk_new v5 (.cells (tabV none 0 0) 28)
        clear hO6 hb6 HC hb46 HG4 HR4 HZ4 HO4 HBV
        go_upto_region 9 with (first | ((with_reducible show wpList _ _ _ (Oper.mk _ (Op.store _ _ _) _ _ _ _ :: _) _ _); refine wpList_store_blk hz6 28 0 (tabV A6 n6 c6) (Nat.le_refl _) (info_tab _ _ _) (tab_one _ _ _) _ _ rfl rfl rfl rfl ?_; intro v6 hg9 hs9 hb9; rw [splice_tab] at hb9; have H7 := Lib.hid (And.intro hg9 hb9); clear hg9 hs9 hb9))
        have hb67 : Below v5.heap.size v5 v6 := below_grown (below_alloc (Below.refl _ _) _) H7.out.1 (Nat.le_refl _)
        have HB7 := Lib.hid (below_step HBV6.out hb67)
        have HR7 := Lib.hid (HR1.out.below hb67)
        have HR8 := Lib.hid (HR3.out.below hb67)
        have HR9 := Lib.hid (HR5.out.below hb67)
        have HR10 := Lib.hid (HO6.out.reads.below hb67)
        have hla := load_tab (blk_below HG1.out hb67)
        have hlb := load_tab (blk_below HG3.out hb67)
        have hlcB := blk_below HG5.out hb67
        have HLC := Lib.hid hlcB
        have HLD := Lib.hid H7.out.2
        have ho1 := oks_set (h := h) OKS.out hpo HT.out.fits
        have ho2 := oks_drop (p := p) OKS.out
        have HO1 := Lib.hid ho1
        have HO2 := Lib.hid ho2
        clear hz6 hb67 H7 HG1 HR1 HG3 HR3 HG5 HR5 HO6 hlcB ho1 ho2
        go_wp2_with (first | ((with_reducible show wpList _ _ _ (Oper.mk _ (Op.load _ _) _ _ _ _ :: _) _ _); refine wpList_load_g hla _ rfl rfl (by go_simp) ?_) | ((with_reducible show wpList _ _ _ (Oper.mk _ (Op.load _ _) _ _ _ _ :: _) _ _); refine wpList_load_g hlb _ rfl rfl (by go_simp) ?_))
        refine (refsameT_any A1 n1 c1 (setL t p h) A3 n3 c3 (setL t p h) v6 HR7.out HR8.out HO1.out HO1.out (by omega) (by omega)).mono ?_
        rw [(rowE.eqL_iff _ _).2 rfl]
        rintro e v7 ⟨rfl, hb7⟩
        have HB8 := Lib.hid (below_step HB7.out hb7)
        have hlc := load_tab (blk_below HLC.out hb7)
        have hld := load_tab (blk_below HLD.out hb7)
        have HR11 := Lib.hid (HR9.out.below hb7)
        have HR12 := Lib.hid (HR10.out.below hb7)
        clear hb7 hla hlb
        go_wp2_with (first | ((with_reducible show wpList _ _ _ (Oper.mk _ (Op.load _ _) _ _ _ _ :: _) _ _); refine wpList_load_g hlc _ rfl rfl (by go_simp) ?_) | ((with_reducible show wpList _ _ _ (Oper.mk _ (Op.load _ _) _ _ _ _ :: _) _ _); refine wpList_load_g hld _ rfl rfl (by go_simp) ?_))
        refine (refsameT_any A5 n5 c5 (dropL t p) A6 n6 c6 (dropL t p) v7 HR11.out HR12.out HO2.out HO2.out (by omega) (by omega)).mono ?_
        rw [(rowE.eqL_iff _ _).2 rfl]
        rintro e v8 ⟨rfl, hb8⟩
        have HB9 := Lib.hid (below_step HB8.out hb8)
        clear hb8 hlc hld
        go_wp2_with fail
        refine wp_region_mix (fun w0 => Below (v8).heap.size (v8) w0) [(0, 0), (2, 0), (1, 2), (3, 2), (4, 0), (5, 0), (6, 0), (7, 0), (8, 0)] (by kernel_rfl) (by kernel_rfl) (below_drew1 _) ?_
        simp only [List.map_cons, List.map_nil]
        refine wpO_loadW (t := 28) (ad := ⟨w.heap.size, 0, none⟩) rfl rfl ?hw rfl rfl ((fun w0 hS => (HP1.out.all w0 (below_step HB9.out hS)).1)) ?_
        case hw => go_simp
        refine wpO_loadW (t := 36) (ad := ⟨(w.heap.size+1), 0, none⟩) rfl rfl ?hw rfl rfl ((fun w0 hS => (HP2.out.all w0 (below_step HB9.out hS)).2.2.2.2)) ?_
        case hw => go_simp
        refine wpO_step2 rfl rfl (below_drew1 _) (fun K hK => ?_)
        go_simp
        refine (copiedT_any A n c t _ (HT.out.below (below_step HB9.out (below_drew1 _))) (by omega)).mono ?_
        rintro e v9 ⟨Ac, cc, rfl, hO9, hb9⟩
        have HB10 := Lib.hid (below_step (below_drew1 _) hb9)
        have HCP := Lib.hid hO9.reads
        clear hO9 hb9
        refine hK _ _ ⟨HB10.out, ?_⟩
        clear hK K
        refine wpO_step2 rfl rfl (HB10.out) (fun K hK => ?_)
        go_simp
        refine (tget_any Ac n cc t p v9 (HL.out.below (below_step HB9.out HB10.out)) HCP.out hp (by omega)).mono ?_
        rintro e v10 ⟨rfl, hb10⟩
        have HB11 := Lib.hid (below_step HB10.out hb10)
        clear hb10
        refine hK _ _ ⟨HB11.out, ?_⟩
        clear hK K
        iterate 5 (refine wpO_step0 rfl rfl (fun K hK => ?_); go_simp; refine hK _ _ ?_; clear hK K)
        refine wpO_nil ?_
        have HB12 := Lib.hid (below_step HB9.out HB11.out)
        have hl1 := (HP1.out.all v10 HB12.out).1
        rw [HC1.out] at hl1
        go_wp2_with (first | ((with_reducible show wpList _ _ _ (Oper.mk _ (Op.load _ _) _ _ _ _ :: _) _ _); refine wpList_load_g hl1 _ rfl rfl (by go_simp) ?_))
        have hpl := refRight_any A n c t v10 (HT.out.below HB12.out) OKS.out (by omega)
        rw [HC1.out] at hpl
        refine hpl.mono ?_
        clear hpl hl1
        rintro e v11 ⟨rfl, hb11⟩
        have HB13 := Lib.hid (below_step HB12.out hb11)
        clear hb11
        cases hR : tabB t with
        | false =>
          have hE : tgetN t p = 0 ∧ tgetB t p = false := by unfold tgetN tgetB; rw [hR]; exact ⟨rfl, rfl⟩
          rw [hE.1, hE.2]
          clear hE hR
          go_wp2
          go_ret
          exact ⟨rfl, below_step HBE.out HB13.out⟩
        | true =>
          have hE : tgetN t p = getT t p ∧ tgetB t p = decide (0 < getT t p) := by unfold tgetN tgetB; rw [hR, there_get hR]; exact ⟨rfl, by simp⟩
          have hgt : getR t p = getT t p := getR_get hp HT.out.fits (tabB_to hR).2.2
          rw [hE.1, hE.2]
          have HGT := Lib.hid hgt
          obtain ⟨G, hG⟩ : ∃ G, getT t p = G := ⟨_, rfl⟩
          rw [hG] at HGT ⊢
          have hl1 := (HP1.out.all v11 HB13.out).1
          have hl2 := (HP2.out.all v11 HB13.out).2.2.2.2
          rw [HC1.out] at hl1
          rw [HC2.out] at hl2
          clear hE hR hgt hG
          go_wp2_with (first | ((with_reducible show wpList _ _ _ (Oper.mk _ (Op.load _ _) _ _ _ _ :: _) _ _); refine wpList_load_g hl1 _ rfl rfl (by go_simp) ?_) | ((with_reducible show wpList _ _ _ (Oper.mk _ (Op.load _ _) _ _ _ _ :: _) _ _); refine wpList_load_g hl2 _ rfl rfl (by go_simp) ?_))
          have hpl := refget_any A n c t p v11 (HT.out.below HB13.out) OKS.out hpo (by omega)
          rw [HC1.out, HC2.out, HGT.out] at hpl
          refine hpl.mono ?_
          clear hpl hl1 hl2
          rintro e v12 ⟨rfl, hb12⟩
          have HB14 := Lib.hid (below_step HB13.out hb12)
          clear hb12
          go_wp2
          go_ret
          exact ⟨by simp, below_step HBE.out HB14.out⟩
end Go.Proofs.YtihfaknflfmohaaDoor

/- Layer 9 (table): the document's Differ. -/
namespace Go.Proofs.YtihfaknflfmohaaDoor
open Go.RowKit
set_option linter.unusedVariables false
set_option linter.unusedSimpArgs false
set_option maxRecDepth 4000
theorem putAll_succ {a b all : List Row} {i : Nat} (hi : i < a.length) : putAll all (a.take (i + 1)) b = if getT b (rowAt a i).p ≠ (rowAt a i).h then setT (putAll all (a.take i) b) (rowAt a i).p 1 else putAll all (a.take i) b := by
  rw [show a.take (i + 1) = a.take i ++ [rowAt a i] from Shape.take_succ (S := rowK) hi]
  unfold putAll
  rw [List.foldl_append]
  rfl
theorem one_wf : (Lit.int .i64 1).wf = true := by decide
theorem putAll_oks {b : List Row} : ∀ {a all : List Row}, Oks a → Oks all → Fits all → rising all = true → Oks (putAll all a b)
  | [], all, _, hall, _, _ => hall
  | r :: a, all, ha, hall, hf, hr => by
    have h0 := ha r (by simp)
    show Oks (putAll (if getT b r.p ≠ r.h then setT all r.p 1 else all) a b)
    have ha' : Oks a := fun x hx => ha x (by simp [hx])
    split
    · refine putAll_oks ha' (fun x hx => ?_) (fits_setT h0.p.l hf hr) (rising_setT h0.p.l hf hr)
      rcases (mem_setT h0.p.l hf hr).1 hx with rfl | ⟨hx, _⟩
      · exact ⟨h0.p, one_wf⟩
      · exact hall x hx
    · exact putAll_oks ha' hall hf hr
structure RDif (W0 wr : World) (gt : Nat) (A : Option Addr) (n c : Nat) (t : List Row) : Prop where
  tab : wr.heap[gt]? = some (.cells (tabV A n c) 28 (0, 0))
  own : OT wr (gt + 1) A n c t
  below : Below W0.heap.size W0 wr
theorem RDif.step {W0 wr w2 : World} {gt : Nat} {A : Option Addr} {n c : Nat} {t : List Row} (h : RDif W0 wr gt A n c t) (hb : Below wr.heap.size wr w2) : RDif W0 w2 gt A n c t :=
  ⟨blk_below h.tab hb, h.own.below hb, below_step h.below hb⟩
theorem RDif.put {W0 wr w2 w3 : World} {gt : Nat} {A : Option Addr} {n c : Nat} {t : List Row} {A' : Option Addr} {n' c' : Nat} {t' : List Row} (h : RDif W0 wr gt A n c t) (hb : Below wr.heap.size wr w2) (ho : OT w2 wr.heap.size A' n' c' t') (hg : w2.grownBy w3 (some gt)) (hW : W0.heap.size ≤ gt) (ht : w3.heap[gt]? = some (.cells (tabV A' n' c') 28 (0, 0))) : RDif W0 w3 gt A' n' c' t' :=
  ⟨ht, (ho.grown hg (fun ad e hh => by have := ho.base_ ad e; have h2 := blk_lt h.tab; injection hh with hh; omega)).lower (blk_lt h.tab), below_grown (below_step h.below hb) hg hW⟩
set_option maxRecDepth 100000 in
set_option maxHeartbeats 8000000 in
theorem refdiffer_any (A : Option Addr) (n c : Nat) (a : List Row) (A2 : Option Addr) (m c2 : Nat) (b : List Row) (w : World) (ha : RT w A n c a) (hb : RT w A2 m c2 b) (oa : Oks a) (ob : Oks b) (ra : rising a = true) (rb : rising b = true) (hn : n ≤ 1000) (hm : m ≤ 1000) :
    Calls Tryd.prog 48 #[.agg (tabV A n c), .agg (tabV A2 m c2)] w fun e w' => ∃ A' n' c', e = .returned (.slice A' n' c') ∧ OS pfxK w' w.heap.size A' n' c' (difR a b) ∧ Below w.heap.size w w' := by
  have hblk1 := blk_new w (.cells (tabV A n c) 28)
  have hbel1 : Below w.heap.size w (w.alloc (.cells (tabV A n c) 28)) := below_alloc (Below.refl _ _) _
  have hblk2 := blk_new (w.alloc (.cells (tabV A n c) 28)) (.cells (tabV A2 m c2) 28)
  have hbel2 : Below w.heap.size w ((w.alloc (.cells (tabV A n c) 28)).alloc (.cells (tabV A2 m c2) 28)) := below_alloc (hbel1) _
  rw [show (w.alloc (.cells (tabV A n c) 28)).heap.size = w.heap.size + 1 by simp] at hblk2
  replace hblk1 := blk_below hblk1 (below_alloc (Below.refl _ _) (.cells (tabV A2 m c2) 28))
  have HP1 := Lib.hid (tab_at hblk1)
  have HBK1 := Lib.hid hblk1
  have HP2 := Lib.hid (tab_at hblk2)
  have HBK2 := Lib.hid hblk2
  have HBE := Lib.hid hbel2
  obtain ⟨cs1, hcs1⟩ : ∃ cs, tabV A n c = cs := ⟨_, rfl⟩
  obtain ⟨cs2, hcs2⟩ : ∃ cs, tabV A2 m c2 = cs := ⟨_, rfl⟩
  simp only [hcs1, hcs2] at HBE HP1 HP2 HBK1 HBK2 ⊢
  have HC1 := Lib.hid hcs1
  have HC2 := Lib.hid hcs2
  clear hcs1 hblk1 hbel1 hcs2 hblk2 hbel2
  obtain ⟨W0, hW0⟩ : ∃ W0, ((w.alloc (.cells cs1 28)).alloc (.cells cs2 28)) = W0 := ⟨_, rfl⟩
  have hs0 : W0.heap.size = w.heap.size + 2 := by rw [← hW0]; simp
  have H1 := Lib.hid (ha.below HBE.out)
  have H2 := Lib.hid (hb.below HBE.out)
  rw [hW0] at HBE HP1 HP2 H1 H2
  have OA := Lib.hid oa
  have OB2 := Lib.hid ob
  have RA := Lib.hid ra
  have RB2 := Lib.hid rb
  have HD0 : Hid (RDif W0 (W0.alloc (.cells (tabV none 0 0) 28)) W0.heap.size none 0 0 []) := ⟨blk_new _ _, OS.nil _ _ _, below_alloc (Below.refl _ _) _⟩
  obtain ⟨gt, hgt⟩ : ∃ gt, w.heap.size + 2 = gt := ⟨_, rfl⟩
  rw [hs0, hgt] at HD0
  rw [hgt] at hs0
  clear ha hb oa ob ra rb
  go_enter Tryd.func48, Tryd.ntmps48
  go_wp2_with fail
  go_loopw [6] (fun x wr => ∃ (i : Nat) (A1 : Option Addr) (n1 c1 : Nat), x = .int .i64 i ∧ Hid (i ≤ n ∧ n1 ≤ i ∧ RDif W0 wr gt A1 n1 c1 (putAll [] (a.take i) b))) (fun x _ => n - (intOf x).toNat)
  case atStart => exact ⟨0, none, 0, 0, rfl, Nat.zero_le _, Nat.le_refl _, HD0.out⟩
  case round =>
    obtain ⟨i, A1, n1, c1, rfl, HH⟩ := hrel
    have HB := Lib.hid HH.out.2.2.below
    have hl1 := (HP1.out.all wr HB.out).2
    by_cases hlt : i < n
    · have hlt' : (i : Int) < n := by omega
      have hn1 := HH.out.2.1
      obtain ⟨bb, o, rfl, hc⟩ := RT.at_ H1.out (by omega)
      have HC3 := Lib.hid (hc i hlt)
      have hfi := H1.out.fits_at hlt
      have hia : i < a.length := by rw [H1.out.len]; exact hlt
      have HLD : Hid (∀ w0, Below W0.heap.size W0 w0 → RowLd w0 bb (o + i * 19) (rowAt a i)) := Lib.hid (fun (w0 : World) (h0 : Below W0.heap.size W0 w0) => rowLd_of hfi (HC3.out.below h0))
      have HOI := Lib.hid (OA.out.at_ hia)
      have HSU := Lib.hid (putAll_succ (b := b) (all := []) hia)
      have HPS := Lib.hid (putAll_spec (b := b) (a.take i) [] (H1.out.fits.take i) (fun r hr => by cases hr) rfl)
      have HPO := Lib.hid (putAll_oks (b := b) (a := a.take i) (all := []) (fun x hx => OA.out x (List.mem_of_mem_take hx)) (fun r hr => by cases hr) (fun r hr => by cases hr) rfl)
      have HGE := Lib.hid (getR_get (p := (rowAt a i).p) hfi H2.out.fits RB2.out)
      clear hc hfi hia
      obtain ⟨r, hr⟩ : ∃ r, rowAt a i = r := ⟨_, rfl⟩
      rw [hr] at HLD HOI HSU HGE
      clear hr HC3
      go_wp2_with (first | ((with_reducible show wpList _ _ _ (Oper.mk _ (Op.load _ _) _ _ _ _ :: _) _ _); refine wpList_load_g hl1 _ rfl rfl (by go_simp) ?_))
      clear hl1
      refine wp_region_mix (fun w0 => Below (wr).heap.size (wr) w0) [(0, 0), (1, 0), (2, 0), (3, 0), (4, 0), (5, 0), (6, 0), (8, 0), (9, 0), (10, 0), (11, 0), (12, 0), (13, 0), (7, 2), (14, 0)] (by kernel_rfl) (by kernel_rfl) (below_drew1 _) ?_
      simp only [List.map_cons, List.map_nil]
      refine wpO_loadW (t := 28) (ad := ⟨(w.heap.size+1), 0, none⟩) rfl rfl ?hw rfl rfl ((fun w0 hS => (HP2.out.all w0 (below_step HB.out hS)).1)) ?_
      case hw => go_simp
      iterate 1 (refine wpO_step0 rfl rfl (fun K hK => ?_); go_simp; refine hK _ _ ?_; clear hK K)
      refine wpO_loadW (t := 26) (ad := ⟨w.heap.size, 0, none⟩) rfl rfl ?hw rfl rfl ((fun w0 hS => (HP1.out.all w0 (below_step HB.out hS)).2)) ?_
      case hw => go_simp
      iterate 3 (refine wpO_step0 rfl rfl (fun K hK => ?_); go_simp; refine hK _ _ ?_; clear hK K)
      refine wpO_loadW (t := 36) (ad := ⟨bb, (o+i*19), none⟩) rfl rfl ?hw rfl rfl ((fun w0 hS => (HLD.out w0 (below_step HB.out hS)).pfx)) ?_
      case hw => go_simp
      iterate 1 (refine wpO_step0 rfl rfl (fun K hK => ?_); go_simp; refine hK _ _ ?_; clear hK K)
      refine wpO_loadW (t := 26) (ad := ⟨w.heap.size, 0, none⟩) rfl rfl ?hw rfl rfl ((fun w0 hS => (HP1.out.all w0 (below_step HB.out hS)).2)) ?_
      case hw => go_simp
      iterate 3 (refine wpO_step0 rfl rfl (fun K hK => ?_); go_simp; refine hK _ _ ?_; clear hK K)
      refine wpO_loadW (t := 3) (ad := ⟨bb, (o+i*19+18), none⟩) rfl rfl ?hw rfl rfl ((fun w0 hS => (HLD.out w0 (below_step HB.out hS)).hop)) ?_
      case hw => go_simp
      refine wpO_step2 rfl rfl (below_drew1 _) (fun K hK => ?_)
      go_simp
      refine (refget_any A2 m c2 b r.p _ (H2.out.below (below_step HB.out (below_drew1 _))) OB2.out HOI.out.p (by omega)).mono ?_
      rw [HGE.out]
      rintro e w3 ⟨rfl, hb3⟩
      have HB3 := Lib.hid (below_step (below_drew1 wr) hb3)
      clear hb3
      refine hK _ _ ⟨HB3.out, ?_⟩
      clear hK K
      iterate 1 (refine wpO_step0 rfl rfl (fun K hK => ?_); go_simp; refine hK _ _ ?_; clear hK K)
      refine wpO_nil ?_
      have HD3 := Lib.hid (HH.out.2.2.step HB3.out)
      by_cases hne : getT b r.p = r.h
      · have hne1 : (getT b r.p != r.h) = false := by simpa using hne
        rw [hne1]
        have HNE := Lib.hid hne
        clear hne hne1
        go_wp2_with fail
        go_roundw
        case measure => simp [intOf]; omega
        case rel => exact ⟨i + 1, A1, n1, c1, by go_num, by omega, by omega, by rw [HSU.out, if_neg (by rw [HNE.out]; simp)]; exact HD3.out⟩
      · have hne1 : (getT b r.p != r.h) = true := by simpa using hne
        rw [hne1]
        have HNE := Lib.hid hne
        clear hne hne1
        go_wp2_with fail
        refine wp_region_mix ((fun w0 => w0.heap[gt]? = some (.cells (tabV A1 n1 c1) 28 (0, 0)) ∧ Below W0.heap.size W0 w0)) [(0, 0), (1, 0), (2, 0), (3, 0), (4, 0), (5, 0), (6, 0), (7, 2), (8, 3)] (by kernel_rfl) (by kernel_rfl) (⟨HD3.out.tab, below_step HD3.out.below (below_drew1 _)⟩) ?_
        simp only [List.map_cons, List.map_nil]
        refine wpO_loadW (t := 28) (ad := ⟨gt, 0, none⟩) rfl rfl ?hw rfl rfl ((fun w0 hS => load_tab hS.1)) ?_
        case hw => go_simp
        iterate 1 (refine wpO_step0 rfl rfl (fun K hK => ?_); go_simp; refine hK _ _ ?_; clear hK K)
        refine wpO_loadW (t := 26) (ad := ⟨w.heap.size, 0, none⟩) rfl rfl ?hw rfl rfl ((fun w0 hS => (HP1.out.all w0 hS.2).2)) ?_
        case hw => go_simp
        iterate 3 (refine wpO_step0 rfl rfl (fun K hK => ?_); go_simp; refine hK _ _ ?_; clear hK K)
        refine wpO_loadW (t := 36) (ad := ⟨bb, (o+i*19), none⟩) rfl rfl ?hw rfl rfl ((fun w0 hS => (HLD.out w0 hS.2).pfx)) ?_
        case hw => go_simp
        refine wpO_step2 rfl rfl (⟨HD3.out.tab, below_step HD3.out.below (below_drew1 _)⟩) (fun K hK => ?_)
        go_simp
        refine (refput_any A1 n1 c1 (putAll [] (a.take i) b) r.p 1 _ (HD3.out.own.reads.below (below_drew1 _)) HPO.out HOI.out.p (by omega)).mono ?_
        rw [show ((1 : Int) == 0) = false from rfl, putR_set HOI.out.p.l HPS.out.1 HPS.out.2.1]
        rintro e w4 ⟨A4, n4, c4, rfl, hO4, hb4⟩
        have HO4 := Lib.hid hO4
        have HB4 := Lib.hid (below_step (below_drew1 w3) hb4)
        have HD4 := Lib.hid (HD3.out.step HB4.out)
        clear hO4 hb4
        refine hK _ _ ⟨⟨HD4.out.tab, HD4.out.below⟩, ?_⟩
        clear hK K
        refine wpO_step3 rfl rfl (fun K hK => ?_)
        rw [if_pos (show Region.wanted _ _ = true from rfl)]
        refine oper_store_blk HD4.out.tab 28 0 (tabV A4 n4 c4) (Nat.le_refl _) (info_tab _ _ _) (tab_one _ _ _) _ _ rfl rfl rfl ?_
        intro w5 hg9 hs9 hb9
        rw [splice_tab] at hb9
        have HD5 := Lib.hid (HD3.out.put HB4.out HO4.out hg9 (by omega) hb9)
        have hn4 : n4 ≤ n1 + 1 := by
          rw [← HO4.out.len, len_setT]
          have := HD3.out.own.len
          split <;> omega
        clear hg9 hs9 hb9 HD4 HO4 HB4
        refine hK _ _ ?_
        clear hK K
        refine wpO_nil ?_
        go_wp2_with fail
        go_roundw
        case measure => simp [intOf]; omega
        case rel => exact ⟨i + 1, A4, n4, c4, by go_num, by omega, by omega, by rw [HSU.out, if_pos HNE.out]; exact HD5.out⟩
    · obtain rfl : i = n := by have := HH.out.1; omega
      have hn1 := HH.out.2.1
      have HD1 := Lib.hid HH.out.2.2
      rw [List.take_of_length_le (by rw [H1.out.len]; exact Nat.le_refl _)] at HD1
      clear HH hlt HD0
      go_wp2_with (first | ((with_reducible show wpList _ _ _ (Oper.mk _ (Op.load _ _) _ _ _ _ :: _) _ _); refine wpList_load_g hl1 _ rfl rfl (by go_simp) ?_))
      clear hl1
      obtain ⟨L, hL⟩ : ∃ L, putAll [] a b = L := ⟨_, rfl⟩
      have hpl := putAll_spec (b := b) a [] H1.out.fits (fun r hr => by cases hr) rfl
      have hol := putAll_oks (b := b) (a := a) (all := []) OA.out (fun r hr => by cases hr) (fun r hr => by cases hr) rfl
      rw [hL] at HD1 hpl hol
      have HPL := Lib.hid hpl
      have HOL := Lib.hid hol
      have HL := Lib.hid hL
      obtain ⟨n, rfl⟩ : ∃ n, n = i := ⟨_, rfl⟩
      obtain ⟨AL, rfl⟩ : ∃ AL, AL = A1 := ⟨_, rfl⟩
      obtain ⟨nL, rfl⟩ : ∃ nL, nL = n1 := ⟨_, rfl⟩
      obtain ⟨cL, rfl⟩ : ∃ cL, cL = c1 := ⟨_, rfl⟩
      obtain ⟨v1, rfl⟩ : ∃ v1, v1 = wr := ⟨_, rfl⟩
      obtain ⟨HDL, hHDL⟩ : ∃ h : Hid (RDif W0 v1 gt AL nL cL L), h = HD1 := ⟨_, rfl⟩
      clear hpl hol hL HD1 HB hHDL
      go_loopw [7] (fun x wr => ∃ (i : Nat) (A1 : Option Addr) (n1 c1 : Nat), x = .int .i64 i ∧ Hid (i ≤ m ∧ n1 ≤ n + i ∧ RDif W0 wr gt A1 n1 c1 (putAll L (b.take i) a))) (fun x _ => m - (intOf x).toNat)
      case atStart => exact ⟨0, AL, nL, cL, rfl, Nat.zero_le _, by omega, HDL.out⟩
      case round =>
        obtain ⟨i, A1, n1, c1, rfl, HH⟩ := hrel
        have HB := Lib.hid HH.out.2.2.below
        have hl1 := (HP2.out.all wr HB.out).2
        by_cases hlt : i < m
        · have hlt' : (i : Int) < m := by omega
          have hn1 := HH.out.2.1
          obtain ⟨bb, o, rfl, hc⟩ := RT.at_ H2.out (by omega)
          have HC3 := Lib.hid (hc i hlt)
          have hfi := H2.out.fits_at hlt
          have hia : i < b.length := by rw [H2.out.len]; exact hlt
          have HLD : Hid (∀ w0, Below W0.heap.size W0 w0 → RowLd w0 bb (o + i * 19) (rowAt b i)) := Lib.hid (fun (w0 : World) (h0 : Below W0.heap.size W0 w0) => rowLd_of hfi (HC3.out.below h0))
          have HOI := Lib.hid (OB2.out.at_ hia)
          have HSU := Lib.hid (putAll_succ (b := a) (all := L) hia)
          have HPS := Lib.hid (putAll_spec (b := a) (b.take i) L (H2.out.fits.take i) HPL.out.1 HPL.out.2.1)
          have HPO := Lib.hid (putAll_oks (b := a) (a := b.take i) (all := L) (fun x hx => OB2.out x (List.mem_of_mem_take hx)) HOL.out HPL.out.1 HPL.out.2.1)
          have HGE := Lib.hid (getR_get (p := (rowAt b i).p) hfi H1.out.fits RA.out)
          clear hc hfi hia
          obtain ⟨r, hr⟩ : ∃ r, rowAt b i = r := ⟨_, rfl⟩
          rw [hr] at HLD HOI HSU HGE
          clear hr HC3
          go_wp2_with (first | ((with_reducible show wpList _ _ _ (Oper.mk _ (Op.load _ _) _ _ _ _ :: _) _ _); refine wpList_load_g hl1 _ rfl rfl (by go_simp) ?_))
          clear hl1
          refine wp_region_mix (fun w0 => Below (wr).heap.size (wr) w0) [(0, 0), (1, 0), (2, 0), (3, 0), (4, 0), (5, 0), (6, 0), (8, 0), (9, 0), (10, 0), (11, 0), (12, 0), (13, 0), (7, 2), (14, 0)] (by kernel_rfl) (by kernel_rfl) (below_drew1 _) ?_
          simp only [List.map_cons, List.map_nil]
          refine wpO_loadW (t := 28) (ad := ⟨w.heap.size, 0, none⟩) rfl rfl ?hw rfl rfl ((fun w0 hS => (HP1.out.all w0 (below_step HB.out hS)).1)) ?_
          case hw => go_simp
          iterate 1 (refine wpO_step0 rfl rfl (fun K hK => ?_); go_simp; refine hK _ _ ?_; clear hK K)
          refine wpO_loadW (t := 26) (ad := ⟨(w.heap.size+1), 0, none⟩) rfl rfl ?hw rfl rfl ((fun w0 hS => (HP2.out.all w0 (below_step HB.out hS)).2)) ?_
          case hw => go_simp
          iterate 3 (refine wpO_step0 rfl rfl (fun K hK => ?_); go_simp; refine hK _ _ ?_; clear hK K)
          refine wpO_loadW (t := 36) (ad := ⟨bb, (o+i*19), none⟩) rfl rfl ?hw rfl rfl ((fun w0 hS => (HLD.out w0 (below_step HB.out hS)).pfx)) ?_
          case hw => go_simp
          iterate 1 (refine wpO_step0 rfl rfl (fun K hK => ?_); go_simp; refine hK _ _ ?_; clear hK K)
          refine wpO_loadW (t := 26) (ad := ⟨(w.heap.size+1), 0, none⟩) rfl rfl ?hw rfl rfl ((fun w0 hS => (HP2.out.all w0 (below_step HB.out hS)).2)) ?_
          case hw => go_simp
          iterate 3 (refine wpO_step0 rfl rfl (fun K hK => ?_); go_simp; refine hK _ _ ?_; clear hK K)
          refine wpO_loadW (t := 3) (ad := ⟨bb, (o+i*19+18), none⟩) rfl rfl ?hw rfl rfl ((fun w0 hS => (HLD.out w0 (below_step HB.out hS)).hop)) ?_
          case hw => go_simp
          refine wpO_step2 rfl rfl (below_drew1 _) (fun K hK => ?_)
          go_simp
          refine (refget_any A n c a r.p _ (H1.out.below (below_step HB.out (below_drew1 _))) OA.out HOI.out.p (by omega)).mono ?_
          rw [HGE.out]
          rintro e w3 ⟨rfl, hb3⟩
          have HB3 := Lib.hid (below_step (below_drew1 wr) hb3)
          clear hb3
          refine hK _ _ ⟨HB3.out, ?_⟩
          clear hK K
          iterate 1 (refine wpO_step0 rfl rfl (fun K hK => ?_); go_simp; refine hK _ _ ?_; clear hK K)
          refine wpO_nil ?_
          have HD3 := Lib.hid (HH.out.2.2.step HB3.out)
          by_cases hne : getT a r.p = r.h
          · have hne1 : (getT a r.p != r.h) = false := by simpa using hne
            rw [hne1]
            have HNE := Lib.hid hne
            clear hne hne1
            go_wp2_with fail
            go_roundw
            case measure => simp [intOf]; omega
            case rel => exact ⟨i + 1, A1, n1, c1, by go_num, by omega, by omega, by rw [HSU.out, if_neg (by rw [HNE.out]; simp)]; exact HD3.out⟩
          · have hne1 : (getT a r.p != r.h) = true := by simpa using hne
            rw [hne1]
            have HNE := Lib.hid hne
            clear hne hne1
            go_wp2_with fail
            refine wp_region_mix ((fun w0 => w0.heap[gt]? = some (.cells (tabV A1 n1 c1) 28 (0, 0)) ∧ Below W0.heap.size W0 w0)) [(0, 0), (1, 0), (2, 0), (3, 0), (4, 0), (5, 0), (6, 0), (7, 2), (8, 3)] (by kernel_rfl) (by kernel_rfl) (⟨HD3.out.tab, below_step HD3.out.below (below_drew1 _)⟩) ?_
            simp only [List.map_cons, List.map_nil]
            refine wpO_loadW (t := 28) (ad := ⟨gt, 0, none⟩) rfl rfl ?hw rfl rfl ((fun w0 hS => load_tab hS.1)) ?_
            case hw => go_simp
            iterate 1 (refine wpO_step0 rfl rfl (fun K hK => ?_); go_simp; refine hK _ _ ?_; clear hK K)
            refine wpO_loadW (t := 26) (ad := ⟨(w.heap.size+1), 0, none⟩) rfl rfl ?hw rfl rfl ((fun w0 hS => (HP2.out.all w0 hS.2).2)) ?_
            case hw => go_simp
            iterate 3 (refine wpO_step0 rfl rfl (fun K hK => ?_); go_simp; refine hK _ _ ?_; clear hK K)
            refine wpO_loadW (t := 36) (ad := ⟨bb, (o+i*19), none⟩) rfl rfl ?hw rfl rfl ((fun w0 hS => (HLD.out w0 hS.2).pfx)) ?_
            case hw => go_simp
            refine wpO_step2 rfl rfl (⟨HD3.out.tab, below_step HD3.out.below (below_drew1 _)⟩) (fun K hK => ?_)
            go_simp
            refine (refput_any A1 n1 c1 (putAll L (b.take i) a) r.p 1 _ (HD3.out.own.reads.below (below_drew1 _)) HPO.out HOI.out.p (by omega)).mono ?_
            rw [show ((1 : Int) == 0) = false from rfl, putR_set HOI.out.p.l HPS.out.1 HPS.out.2.1]
            rintro e w4 ⟨A4, n4, c4, rfl, hO4, hb4⟩
            have HO4 := Lib.hid hO4
            have HB4 := Lib.hid (below_step (below_drew1 w3) hb4)
            have HD4 := Lib.hid (HD3.out.step HB4.out)
            clear hO4 hb4
            refine hK _ _ ⟨⟨HD4.out.tab, HD4.out.below⟩, ?_⟩
            clear hK K
            refine wpO_step3 rfl rfl (fun K hK => ?_)
            rw [if_pos (show Region.wanted _ _ = true from rfl)]
            refine oper_store_blk HD4.out.tab 28 0 (tabV A4 n4 c4) (Nat.le_refl _) (info_tab _ _ _) (tab_one _ _ _) _ _ rfl rfl rfl ?_
            intro w5 hg9 hs9 hb9
            rw [splice_tab] at hb9
            have HD5 := Lib.hid (HD3.out.put HB4.out HO4.out hg9 (by omega) hb9)
            have hn4 : n4 ≤ n1 + 1 := by
              rw [← HO4.out.len, len_setT]
              have := HD3.out.own.len
              split <;> omega
            clear hg9 hs9 hb9 HD4 HO4 HB4
            refine hK _ _ ?_
            clear hK K
            refine wpO_nil ?_
            go_wp2_with fail
            go_roundw
            case measure => simp [intOf]; omega
            case rel => exact ⟨i + 1, A4, n4, c4, by go_num, by omega, by omega, by rw [HSU.out, if_pos HNE.out]; exact HD5.out⟩
        · obtain rfl : i = m := by have := HH.out.1; omega
          have hn2 := HH.out.2.1
          have HD1 := Lib.hid HH.out.2.2
          rw [List.take_of_length_le (by rw [H2.out.len]; exact Nat.le_refl _), ← HL.out] at HD1
          clear HH hlt HDL
          go_wp2_with (first | ((with_reducible show wpList _ _ _ (Oper.mk _ (Op.load _ _) _ _ _ _ :: _) _ _); refine wpList_load_g hl1 _ rfl rfl (by go_simp) ?_))
          obtain ⟨v2, rfl⟩ : ∃ v2, v2 = wr := ⟨_, rfl⟩
          obtain ⟨M, hM⟩ : ∃ M, putAll (putAll [] a b) b a = M := ⟨_, rfl⟩
          rw [hM] at HD1
          have HM := Lib.hid hM
          have hlen := HD1.out.own.len
          have hlg := blk_lt HD1.out.tab
          clear hM hl1
          go_loopw [8, 9] (fun y x wr => ∃ (k : Nat) (A3 : Option Addr) (c3 : Nat), x = .int .i64 k ∧ y = .slice A3 k c3 ∧ Hid (k ≤ n1 ∧ OS pfxK wr v2.heap.size A3 k c3 ((M.take k).map Row.p) ∧ Below v2.heap.size v2 wr)) (fun _ x _ => n1 - (intOf x).toNat)
          case atStart => exact ⟨0, none, 0, rfl, rfl, Nat.zero_le _, OS.nil _ _ _, Below.refl _ _⟩
          case round =>
            obtain ⟨k, A3, c3, rfl, rfl, HH⟩ := hrel
            have hl1 := ((tab_at (blk_below HD1.out.tab HH.out.2.2)).all wr (Below.refl _ _)).2
            by_cases hlt : k < n1
            · have hlt' : (k : Int) < n1 := by omega
              obtain ⟨bb, o, rfl, hc⟩ := RT.at_ HD1.out.own.reads (by omega)
              have HC3 := Lib.hid (hc k hlt)
              have hfi := HD1.out.own.reads.fits_at hlt
              have hlp := (rowLd_of hfi (HC3.out.below HH.out.2.2)).pfx
              have hkm : k < M.length := by rw [hlen]; exact hlt
              have HTK : Hid ((M.take (k + 1)).map Row.p = (M.take k).map Row.p ++ [(rowAt M k).p]) := Lib.hid (by rw [show M.take (k + 1) = M.take k ++ [rowAt M k] from Shape.take_succ (S := rowK) hkm]; simp)
              have hok : pfxK.ok (rowAt M k).p := hfi
              have hsz := HH.out.2.2.size
              obtain ⟨r, hr⟩ : ∃ r, rowAt M k = r := ⟨_, rfl⟩
              have hlp2 : (Instr.loadAt 36 (.pointer (some ⟨bb, o + k * 19, none⟩))).run Tryd.prog wr = .ok (.agg (pfxV r.p.v r.p.l r.p.b)) wr := by rw [← hr]; exact hlp
              rw [hr] at HTK hok
              clear hc hlp hr hfi
              go_wp2_with (first | ((with_reducible show wpList _ _ _ (Oper.mk _ (Op.load _ _) _ _ _ _ :: _) _ _); refine wpList_load_g hl1 _ rfl rfl (by go_simp) ?_) | ((with_reducible show wpList _ _ _ (Oper.mk _ (Op.load _ _) _ _ _ _ :: _) _ _); refine wpList_load_g hlp2 _ rfl rfl (by go_simp) ?_) | ((with_reducible show wpList _ _ _ (Oper.mk _ (Op.buildSlice _ _ _) _ _ _ _ :: _) _ _); refine wpList_exw rfl (exec_lit1 pfxK (x := .tmp 83) rfl r.p rfl hok (by show 18 ≤ _; omega) _) ?_) | (at_builtin; refine wpList_append_shp pfxK rfl (.tmp 77) (.tmp 84) rfl rfl rfl (OS.below HH.out.2.1 (below_alloc (Below.refl _ _) _)) (OS.one pfxK wr 0 r.p (Nat.zero_le _) hok).reads (by simp; omega) (by omega) ?_; intro A4 c4 w4 h1 h2 h3; have H4 := Lib.hid (And.intro h1 (And.intro h2 h3)); clear h1 h2 h3))
              go_roundw
              case measure => simp [intOf]; omega
              case rel => exact ⟨k + 1, A4, c4, by go_num, rfl, by omega, by rw [HTK.out]; exact H4.out.1, below_own (below_step HH.out.2.2 (below_alloc (Below.refl _ _) _)) H4.out.2.1 HH.out.2.1.base_⟩
            · obtain rfl : k = n1 := by have := HH.out.1; omega
              have HE : Hid (difR a b = (M.take k).map Row.p) := Lib.hid (by rw [List.take_of_length_le (by rw [hlen]; exact Nat.le_refl _)]; unfold difR; rw [HM.out])
              go_wp2_with (first | ((with_reducible show wpList _ _ _ (Oper.mk _ (Op.load _ _) _ _ _ _ :: _) _ _); refine wpList_load_g hl1 _ rfl rfl (by go_simp) ?_))
              go_ret
              rw [HE.out]
              refine ⟨_, _, _, rfl, HH.out.2.1.lower (by omega), ?_⟩
              exact below_step HBE.out (below_step HD1.out.below HH.out.2.2)
end Go.Proofs.YtihfaknflfmohaaDoor
