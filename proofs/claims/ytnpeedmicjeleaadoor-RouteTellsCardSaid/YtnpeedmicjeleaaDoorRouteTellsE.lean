/- Layer 9 (table): the document's Same and Get. -/
import Derived.IntWalk
import Derived.Test.YtnpeedmicjeleaaDoorRouteTellsB
import Derived.Test.YtnpeedmicjeleaaDoorRouteTellsC
import Derived.Test.YtnpeedmicjeleaaDoorRouteTellsD
namespace Go.Proofs.YtnpeedmicjeleaaDoor
open Go.RowKit
set_option linter.unusedVariables false
set_option linter.unusedSimpArgs false
set_option maxRecDepth 4000
set_option maxHeartbeats 2000000 in
theorem refsameT_any (A : Option Addr) (n c : Nat) (t : List Row) (A2 : Option Addr) (m c2 : Nat) (u : List Row) (w : World) (ht : RT w A n c t) (hu : RT w A2 m c2 u) (ot : Oks t) (ou : Oks u) (hn : n ≤ 100000) (hm : m ≤ 100000) :
    Calls Tryd.prog 28 #[.agg (tabV A n c), .agg (tabV A2 m c2)] w fun e w' => e = .returned (.bool (rowE.eqL t u)) ∧ Below w.heap.size w w' := by
  have hblk1 := blk_new w (.cells (tabV A n c) 39)
  have hbel1 : Below w.heap.size w (w.alloc (.cells (tabV A n c) 39)) := below_alloc (Below.refl _ _) _
  have hblk2 := blk_new (w.alloc (.cells (tabV A n c) 39)) (.cells (tabV A2 m c2) 39)
  have hbel2 : Below w.heap.size w ((w.alloc (.cells (tabV A n c) 39)).alloc (.cells (tabV A2 m c2) 39)) := below_alloc (hbel1) _
  rw [show (w.alloc (.cells (tabV A n c) 39)).heap.size = w.heap.size + 1 by simp] at hblk2
  replace hblk1 := blk_below hblk1 (below_alloc (Below.refl _ _) (.cells (tabV A2 m c2) 39))
  have HP1 := Lib.hid (tab_at hblk1)
  have HBK1 := Lib.hid hblk1
  have HP2 := Lib.hid (tab_at hblk2)
  have HBK2 := Lib.hid hblk2
  have HBE := Lib.hid hbel2
  obtain ⟨cs1, hcs1⟩ : ∃ cs, tabV A n c = cs := ⟨_, rfl⟩
  obtain ⟨cs2, hcs2⟩ : ∃ cs, tabV A2 m c2 = cs := ⟨_, rfl⟩
  simp only [hcs1, hcs2] at HBE HP1 HP2 HBK1 HBK2 ⊢
  have HC1 := Lib.hid hcs1
  have HC2 := Lib.hid hcs2
  clear hcs1 hblk1 hbel1 hcs2 hblk2 hbel2
  have H1 := Lib.hid (ht.below HBE.out)
  have H2 := Lib.hid (hu.below HBE.out)
  have O1 := Lib.hid ot
  have O2 := Lib.hid ou
  have hl1 := (HP1.out.all _ (Below.refl _ _)).2
  have hl2 := (HP2.out.all _ (Below.refl _ _)).2
  clear ht hu ot ou
  by_cases hnm : n = m
  · subst hnm
    have HLEN := Lib.hid (show t.length = u.length by rw [H1.out.len, H2.out.len])
    go_enter Tryd.func28, Tryd.ntmps28
    go_wp2_with (first | ((with_reducible show wpList _ _ _ (Oper.mk _ (Op.load _ _) _ _ _ _ :: _) _ _); refine wpList_load_g hl1 _ rfl rfl (by go_simp) ?_) | ((with_reducible show wpList _ _ _ (Oper.mk _ (Op.load _ _) _ _ _ _ :: _) _ _); refine wpList_load_g hl2 _ rfl rfl (by go_simp) ?_))
    clear hl1 hl2
    go_loopw [5] (fun x wr => ∃ i : Nat, x = .int .i64 i ∧ Hid (i ≤ n ∧ (∀ k, k < i → rowE.eqB (rowAt t k) (rowAt u k) = true) ∧ Below ((w.alloc (.cells cs1 39)).alloc (.cells cs2 39)).heap.size ((w.alloc (.cells cs1 39)).alloc (.cells cs2 39)) wr)) (fun x _ => n - (intOf x).toNat)
    case atStart => exact ⟨0, rfl, Nat.zero_le _, fun k h => by omega, Below.refl _ _⟩
    case round =>
      obtain ⟨i, rfl, HH⟩ := hrel
      have hl1 := (HP1.out.all wr HH.out.2.2).2
      by_cases hlt : i < n
      · have hlt' : (i : Int) < n := by omega
        obtain ⟨b, o, rfl, hc⟩ := RT.at_ H1.out (by omega)
        obtain ⟨b2, o2, rfl, hc2⟩ := RT.at_ H2.out (by omega)
        have HC3 := Lib.hid (hc i hlt)
        have HC4 := Lib.hid (hc2 i hlt)
        clear hc hc2
        go_wp2_with (first | ((with_reducible show wpList _ _ _ (Oper.mk _ (Op.load _ _) _ _ _ _ :: _) _ _); refine wpList_load_g hl1 _ rfl rfl (by go_simp) ?_))
        refine wp_region_mix (fun w0 => Below (wr).heap.size (wr) w0) [(0, 0), (1, 0), (2, 0), (3, 0), (4, 0), (5, 0), (6, 0), (7, 0), (8, 0), (9, 0), (10, 0)] (by kernel_rfl) (by kernel_rfl) (below_drew1 _) ?_
        simp only [List.map_cons, List.map_nil]
        iterate 1 (refine wpO_step0 rfl rfl (fun K hK => ?_); go_simp; refine hK _ _ ?_; clear hK K)
        refine wpO_loadW (t := 37) (ad := ⟨w.heap.size, 0, none⟩) rfl rfl ?hw rfl rfl ((fun w0 hS => (HP1.out.all w0 (below_step HH.out.2.2 hS)).2)) ?_
        case hw => go_simp
        iterate 2 (refine wpO_step0 rfl rfl (fun K hK => ?_); go_simp; refine hK _ _ ?_; clear hK K)
        refine wpO_loadW (t := 79) (ad := ⟨b, (o+i*19), none⟩) rfl rfl ?hw rfl rfl ((fun w0 hS => Shape.ld rowK w0 b _ _ (H1.out.fits_at hlt) (HC3.out.below (below_step HH.out.2.2 hS)))) ?_
        case hw => go_simp
        iterate 1 (refine wpO_step0 rfl rfl (fun K hK => ?_); go_simp; refine hK _ _ ?_; clear hK K)
        refine wpO_loadW (t := 37) (ad := ⟨(w.heap.size+1), 0, none⟩) rfl rfl ?hw rfl rfl ((fun w0 hS => (HP2.out.all w0 (below_step HH.out.2.2 hS)).2)) ?_
        case hw => go_simp
        iterate 2 (refine wpO_step0 rfl rfl (fun K hK => ?_); go_simp; refine hK _ _ ?_; clear hK K)
        refine wpO_loadW (t := 79) (ad := ⟨b2, (o2+i*19), none⟩) rfl rfl ?hw rfl rfl ((fun w0 hS => Shape.ld rowK w0 b2 _ _ (H2.out.fits_at hlt) (HC4.out.below (below_step HH.out.2.2 hS)))) ?_
        case hw => go_simp
        refine wpO_step0 rfl rfl (fun K hK => ?_)
        rw [if_pos (show Region.wanted _ _ = true from rfl)]
        refine ⟨_, fun w0 => ShapeEq.neq rowE rfl (rowAt t i) (rowAt u i) rfl rfl (ShapeEq.all_at (E := rowE) O1.out (by rw [H1.out.len]; exact hlt)) (ShapeEq.all_at (E := rowE) O2.out (by rw [H2.out.len]; exact hlt)) w0, hK _ _ ?_⟩
        clear hK K
        refine wpO_nil ?_
        cases hq : rowE.eqB (rowAt t i) (rowAt u i) with
        | true =>
          have HQ := Lib.hid hq
          clear hq
          go_wp2_with fail
          go_roundw
          case measure => simp [intOf]; omega
          case rel =>
            refine ⟨i + 1, by go_num, by omega, fun k hk => ?_, below_step HH.out.2.2 (below_drew1 _)⟩
            by_cases hki : k < i
            · exact HH.out.2.1 k hki
            · rw [show k = i by omega]; exact HQ.out
        | false =>
          have HE : Hid (rowE.eqL t u = false) := Lib.hid (ShapeEq.eqL_no (by rw [H1.out.len]; exact hlt) (by rw [H2.out.len]; exact hlt) hq)
          clear hq
          go_wp2
          go_ret
          rw [HE.out]
          exact ⟨rfl, below_step HBE.out (below_step HH.out.2.2 (below_drew1 _))⟩
      · have hlt' : decide (i < n) = false := decide_eq_false hlt
        have HE : Hid (rowE.eqL t u = true) := Lib.hid (ShapeEq.eqL_yes HLEN.out (fun k hk => HH.out.2.1 k (by rw [H1.out.len] at hk; have := HH.out.1; omega)))
        clear hlt
        go_wp2_with (first | ((with_reducible show wpList _ _ _ (Oper.mk _ (Op.load _ _) _ _ _ _ :: _) _ _); refine wpList_load_g hl1 _ rfl rfl (by go_simp) ?_))
        go_ret
        rw [HE.out]
        exact ⟨rfl, below_step HBE.out HH.out.2.2⟩
  · have HE : Hid (rowE.eqL t u = false) := Lib.hid (ShapeEq.eqL_len (by rw [H1.out.len, H2.out.len]; exact hnm))
    have hnm' : (n == m) = false := by simpa using hnm
    clear hnm
    go_enter Tryd.func28, Tryd.ntmps28
    go_wp2_with (first | ((with_reducible show wpList _ _ _ (Oper.mk _ (Op.load _ _) _ _ _ _ :: _) _ _); refine wpList_load_g hl1 _ rfl rfl (by go_simp) ?_) | ((with_reducible show wpList _ _ _ (Oper.mk _ (Op.load _ _) _ _ _ _ :: _) _ _); refine wpList_load_g hl2 _ rfl rfl (by go_simp) ?_))
    go_ret
    rw [HE.out]
    exact ⟨rfl, HBE.out⟩
end Go.Proofs.YtnpeedmicjeleaaDoor

/- The document's answer for layer 5: Has, Holds. -/
namespace Go.Proofs.YtnpeedmicjeleaaDoor
open Go.RowKit
set_option linter.unusedVariables false
set_option linter.unusedSimpArgs false
set_option maxRecDepth 4000

end Go.Proofs.YtnpeedmicjeleaaDoor

/- Layer 9 (table): the longest match, by the document. -/
namespace Go.Proofs.YtnpeedmicjeleaaDoor
open Go.RowKit
set_option linter.unusedVariables false
set_option linter.unusedSimpArgs false
set_option maxRecDepth 4000
end Go.Proofs.YtnpeedmicjeleaaDoor

/- Layer 9 (table): Longest. -/
namespace Go.Proofs.YtnpeedmicjeleaaDoor
open Go.RowKit
set_option linter.unusedVariables false
set_option linter.unusedSimpArgs false
set_option maxRecDepth 4000
end Go.Proofs.YtnpeedmicjeleaaDoor

/- Layer 9 (table): the document's Put. -/
namespace Go.Proofs.YtnpeedmicjeleaaDoor
open Go.RowKit
set_option linter.unusedVariables false
set_option linter.unusedSimpArgs false
set_option maxRecDepth 4000
def putF (p : Pfx) (h : Int) (s : Bool × List Row) (r : Row) : Bool × List Row := if eqP r.p p then s else if !s.1 && decide (p.cmp r.p < 0) then (true, s.2 ++ [⟨p, h⟩] ++ [r]) else (s.1, s.2 ++ [r])
theorem putF_end (p : Pfx) (h : Int) : ∀ (t : List Row) (put : Bool) (out : List Row), (t.foldl (putF p h) (put, out)).2 ++ (if (t.foldl (putF p h) (put, out)).1 then [] else [⟨p, h⟩]) = out ++ putR p h put t
  | [], put, out => by cases put <;> simp [putR]
  | r :: t, put, out => by
    rw [List.foldl_cons]
    unfold putF
    simp only
    rw [putR]
    by_cases h1 : eqP r.p p = true
    · rw [if_pos h1, if_pos h1]
      exact putF_end p h t put out
    · rw [if_neg h1, if_neg h1]
      by_cases h2 : (!put && decide (p.cmp r.p < 0)) = true
      · rw [if_pos h2, if_pos h2]
        have := putF_end p h t true (out ++ [⟨p, h⟩] ++ [r])
        unfold putF at this
        rw [this]
        simp
      · rw [if_neg h2, if_neg h2]
        have := putF_end p h t put (out ++ [r])
        unfold putF at this
        rw [this]
        simp
theorem putF_succ (p : Pfx) (h : Int) {t : List Row} {i : Nat} (hi : i < t.length) (s0 : Bool × List Row) : (t.take (i + 1)).foldl (putF p h) s0 = putF p h ((t.take i).foldl (putF p h) s0) (rowAt t i) := by
  rw [show t.take (i + 1) = t.take i ++ [rowAt t i] from Shape.take_succ (S := rowK) hi, List.foldl_append]
  rfl
/-- Behind an append to a slice in a box, stored back. -/
theorem below_push {W w1 w2 : World} {g : Nat} {A : Option Addr} {n c : Nat} {o : Obj} (hg : g < W.heap.size) (h2 : (W.alloc o).grownBy w1 ((Value.slice A n c).ownBlock)) (hA : ∀ ad, A = some ad → g < ad.block) (h3 : w1.grownBy w2 (some g)) : Below g W w2 := by
  refine ⟨h3.os.trans h2.os, h3.tape.trans h2.tape, h3.output.trans h2.output, ?_, fun i hi => ?_⟩
  · have h4 := h2.size
    have h5 := h3.size
    simp at h4
    omega
  · have h4 := h2.size
    simp at h4
    rw [h3.block i (by omega) (fun e => by injection e with e; omega), h2.block i (by simp; omega) (fun e => by
      obtain ⟨ad, e1, e2⟩ := own_of e.symm
      have := hA ad e1
      omega)]
    exact Below.heap_alloc W o i (by omega)
theorem grow_push {w1 w2 : World} {g B m c' : Nat} {A' : Option Addr} {l : List Row} (hO : OT w1 B A' m c' l) (hB : g < B) (h3 : w1.grownBy w2 (some g)) : OT w2 B A' m c' l :=
  hO.grown h3 (fun ad e h => by have := hO.base_ ad e; injection h with h; omega)
theorem below_two {w w1 w2 : World} {g : Nat} (h : Below g w w1) (k : Below g w1 w2) : Below g w w2 := h.trans k
theorem blk_lowB {w w1 : World} {g k : Nat} {o : Obj} (h : w.heap[k]? = some o) (hb : Below g w w1) (hk : k < g) : w1.heap[k]? = some o := (hb.block k hk).trans h
end Go.Proofs.YtnpeedmicjeleaaDoor

/- Layer 9 (table): the document's Put, walked. -/
namespace Go.Proofs.YtnpeedmicjeleaaDoor
open Go.RowKit
set_option linter.unusedVariables false
set_option linter.unusedSimpArgs false
set_option maxRecDepth 4000
set_option maxHeartbeats 8000000 in
theorem refput_any (A : Option Addr) (n c : Nat) (t : List Row) (p : Pfx) (h : Int) (w : World) (ht : RT w A n c t) (ot : Oks t) (hpo : p.ok) (hn : n ≤ 100000) : Calls Tryd.prog 64 #[.agg (tabV A n c), .agg (pfxV p.v p.l p.b), .int .i64 h] w fun e w' => ∃ A' n' c', e = .returned (.agg (tabV A' n' c')) ∧ OT w' w.heap.size A' n' c' (putR p h (h == 0) t) ∧ Below w.heap.size w w' := by
  have hp := hpo.l
  have hblk1 := blk_new w (.cells (tabV A n c) 39)
  have hbel1 : Below w.heap.size w (w.alloc (.cells (tabV A n c) 39)) := below_alloc (Below.refl _ _) _
  have hblk2 := blk_new (w.alloc (.cells (tabV A n c) 39)) (.cells (pfxV p.v p.l p.b) 49)
  have hbel2 : Below w.heap.size w ((w.alloc (.cells (tabV A n c) 39)).alloc (.cells (pfxV p.v p.l p.b) 49)) := below_alloc (hbel1) _
  rw [show (w.alloc (.cells (tabV A n c) 39)).heap.size = w.heap.size + 1 by simp] at hblk2
  replace hblk1 := blk_below hblk1 (below_alloc (Below.refl _ _) (.cells (pfxV p.v p.l p.b) 49))
  have HP1 := Lib.hid (tab_at hblk1)
  have HBK1 := Lib.hid hblk1
  have HP2 := Lib.hid (pfx_at hp hblk2)
  have HBK2 := Lib.hid hblk2
  have HBE := Lib.hid hbel2
  obtain ⟨cs1, hcs1⟩ : ∃ cs, tabV A n c = cs := ⟨_, rfl⟩
  obtain ⟨cs2, hcs2⟩ : ∃ cs, pfxV p.v p.l p.b = cs := ⟨_, rfl⟩
  simp only [hcs1, hcs2] at HBE HP1 HP2 HBK1 HBK2 ⊢
  have HC1 := Lib.hid hcs1
  have HC2 := Lib.hid hcs2
  clear hcs1 hblk1 hbel1 hcs2 hblk2 hbel2
  have HT := Lib.hid (ht.below HBE.out)
  have OKS := Lib.hid ot
  have hsz2 : ((w.alloc (.cells cs1 39)).alloc (.cells cs2 49)).heap.size = w.heap.size + 2 := by simp
  obtain ⟨W1, hW1⟩ : ∃ W1, (((w.alloc (.cells cs1 39)).alloc (.cells cs2 49)).alloc (.cells #[.slice none 0 0] 39)) = W1 := ⟨_, rfl⟩
  have hs1 : W1.heap.size = w.heap.size + 3 := by rw [← hW1]; simp
  have hz : W1.heap[w.heap.size + 2]? = some (.cells (tabV none 0 0) 39 (0, 0)) := by
    rw [← hW1, ← hsz2]
    exact blk_new _ _
  have HB1 : Hid (Below ((w.alloc (.cells cs1 39)).alloc (.cells cs2 49)).heap.size ((w.alloc (.cells cs1 39)).alloc (.cells cs2 49)) W1) := Lib.hid (hW1 ▸ below_alloc (Below.refl _ _) _)
  have HZ := Lib.hid hz
  have HS1 := Lib.hid hs1
  have HG0 := Lib.hid (blk_new W1 (.cells (tabV none 0 0) 39))
  have hbr := fun w => run_build_row w p h hp.len
  rw [HC2.out] at hbr
  clear ht ot hsz2 hz
  go_enter Tryd.func64, Tryd.ntmps64
  go_upto_block 2 with fail
  rw [← HS1.out]
  clear hs1 hW1
  go_loopw [8, 9] (fun y x wr => ∃ (i : Nat) (put : Bool) (A1 : Option Addr) (n1 c1 : Nat) (out : List Row), x = .int .i64 i ∧ y = .bool put ∧ Hid (i ≤ n ∧ n1 ≤ 2 * i ∧ (t.take i).foldl (putF p h) (h == 0, []) = (put, out) ∧ wr.heap[W1.heap.size]? = some (.cells (tabV A1 n1 c1) 39 (0, 0)) ∧ OT wr (W1.heap.size + 1) A1 n1 c1 out ∧ Below W1.heap.size W1 wr)) (fun _ x _ => n - (intOf x).toNat)
  case atStart => exact ⟨0, h == 0, none, 0, 0, [], rfl, rfl, Nat.zero_le _, by omega, rfl, HG0.out, OS.nil _ _ _, below_alloc (Below.refl _ _) _⟩
  case round =>
    obtain ⟨i, put, A1, n1, c1, out, rfl, rfl, HH⟩ := hrel
    have hn1 := HH.out.2.1
    have HBR := Lib.hid (below_step HB1.out HH.out.2.2.2.2.2)
    have hl1 := (HP1.out.all wr HBR.out).2
    have hgl := blk_lt HH.out.2.2.2.1
    by_cases hlt : i < n
    · have hlt' : (i : Int) < n := by omega
      obtain ⟨b, o, rfl, hc⟩ := RT.at_ HT.out (by omega)
      have HC3 := Lib.hid (hc i hlt)
      have HF := Lib.hid (RT.fits_at HT.out hlt)
      have HO := Lib.hid (OKS.out.at_ (i := i) (by rw [HT.out.len]; exact hlt)).p
      have hrow := (rowLd_of HF.out (HC3.out.below HBR.out)).row
      have HST := Lib.hid (putF_succ p h (t := t) (i := i) (by rw [HT.out.len]; exact hlt) (h == 0, []))
      clear hc
      go_upto_if 28 with (first | ((with_reducible show wpList _ _ _ (Oper.mk _ (Op.load _ _) _ _ _ _ :: _) _ _); refine wpList_load_g hl1 _ rfl rfl (by go_simp) ?_) | ((with_reducible show wpList _ _ _ (Oper.mk _ (Op.load _ _) _ _ _ _ :: _) _ _); refine wpList_load_g hrow _ rfl rfl (by go_simp) ?_) | ((with_reducible show wpList _ _ _ (Oper.mk _ (Op.store _ _ _) _ _ _ _ :: _) _ _); refine wpList_store_blk (blk_new wr _) 79 0 (rowV (rowAt t i)) (store_row_fit HF.out rfl) (info_row HF.out) (rowV_one _) _ _ rfl rfl rfl rfl ?_; intro w3 hg9 hs9 hb9; rw [splice_row HF.out rfl] at hb9; have H3 := Lib.hid (And.intro hg9 hb9); clear hg9 hs9 hb9) | ((with_reducible show wpList _ _ _ (Oper.mk _ (Op.load _ _) _ _ _ _ :: _) _ _); refine wpList_load_g (((row_at HF.out H3.out.2).all _ (Below.refl _ _)).pfx) _ rfl rfl (by go_simp) ?_) | (((with_reducible show wpList _ _ _ (Oper.mk _ (Op.load _ _) _ _ _ _ :: _) _ _); refine wpList_load_g ((HP2.out.all w3 (below_grown (below_step HBR.out (below_alloc (Below.refl _ _) _)) H3.out.1 (HBR.out.size))).2.2.2.2) _ rfl rfl (by go_simp) ?_); rw [HC2.out]) | ((with_reducible show wpList _ _ _ (Oper.mk _ (Op.binOp _ _ _ _ _) _ _ _ _ :: _) _ _); refine wpList_exw rfl (pfx_eql_exec rfl (rowAt t i).p p rfl (congrArg Value.agg HC2.out).symm HO.out hpo _) ?_))
      have HB3 := Lib.hid (below_grown (below_alloc (Below.refl wr.heap.size wr) (.cells (rowV rowZ) 79)) H3.out.1 (Nat.le_refl _))
      have HG3 := Lib.hid (blk_below HH.out.2.2.2.1 HB3.out)
      have HO3 := Lib.hid (HH.out.2.2.2.2.1.below HB3.out)
      have HR3 := Lib.hid (row_at HF.out H3.out.2)
      have HF3 := Lib.hid (below_two HH.out.2.2.2.2.2 (show Below W1.heap.size wr w3 from ⟨HB3.out.os, HB3.out.tape, HB3.out.output, HB3.out.size, fun q hq => HB3.out.block q (by omega)⟩))
      have HFL := Lib.hid HH.out.2.2.1
      have HN := Lib.hid HH.out.1
      have HA1L := Lib.hid (HH.out.2.2.2.2.1.lt)
      have HWR := Lib.hid (blk_lt HH.out.2.2.2.1)
      clear HH
      cases hq : (rowAt t i).p.eqB p with
      | true =>
        have HQ := Lib.hid (show eqP (rowAt t i).p p = true from hq)
        clear hq
        go_wp2_with fail
        go_roundw
        case measure => simp [intOf]; omega
        case rel => exact ⟨i + 1, put, A1, n1, c1, out, by go_num, rfl, by omega, by omega, by rw [HST.out, HFL.out]; unfold putF; rw [if_pos HQ.out], HG3.out, HO3.out, HF3.out⟩
      | false =>
        have HQ := Lib.hid (show ¬ eqP (rowAt t i).p p = true by rw [show eqP (rowAt t i).p p = false from hq]; simp)
        clear hq
        cases put with
        | true =>
          go_wp2_with (first | ((with_reducible show wpList _ _ _ (Oper.mk _ (Op.load _ _) _ _ _ _ :: _) _ _); refine wpList_load_g (((tab_at HG3.out).all _ (Below.refl _ _)).2) _ rfl rfl (by go_simp) ?_) | ((with_reducible show wpList _ _ _ (Oper.mk _ (Op.load _ _) _ _ _ _ :: _) _ _); refine wpList_load_g ((HR3.out.all _ (Below.refl _ _)).row) _ rfl rfl (by go_simp) ?_) | ((with_reducible show wpList _ _ _ (Oper.mk _ (Op.buildSlice _ _ _) _ _ _ _ :: _) _ _); refine wpList_exw rfl (exec_lit1 rowK (x := .tmp 48) rfl (rowAt t i) rfl HF.out (by show 19 ≤ _; omega) _) ?_) | (at_builtin; refine wpList_append_shp rowK rfl (.tmp 47) (.tmp 49) rfl rfl rfl (OS.below HO3.out (below_alloc (Below.refl _ _) _)) (OS.one rowK w3 0 (rowAt t i) (Nat.zero_le _) HF.out).reads (by have := blk_lt HG3.out; simp; omega) (by omega) ?_; intro A4 c4 wa4 h1 h2 h3; have HA4 := Lib.hid (And.intro h1 (And.intro h2 h3)); clear h1 h2 h3) | ((with_reducible show wpList _ _ _ (Oper.mk _ (Op.store _ _ _) _ _ _ _ :: _) _ _); refine wpList_store_cell (blk_own (blk_below HG3.out (below_alloc (Below.refl _ _) _)) HA4.out.2.1 (fun ad e => OS.base_ HO3.out ad e)) 37 0 (.slice A4 (n1 + 1) c4) (Nat.le_refl _) (by kernel_rfl) rfl rfl _ _ rfl rfl rfl rfl ?_; intro w4 hg9 hs9 hb9; have HS4 := Lib.hid (And.intro hg9 (show (World.heap w4)[W1.heap.size]? = some (.cells (tabV A4 (n1 + 1) c4) 39 (0, 0)) from hb9)); clear hg9 hs9 hb9))
          have HO4 := Lib.hid (grow_push HA4.out.1 (Nat.lt_succ_self _) HS4.out.1)
          have HG4 := Lib.hid HS4.out.2
          have HB4 := Lib.hid (below_push (blk_lt HG3.out) HA4.out.2.1 (fun ad e => OS.base_ HO3.out ad e) HS4.out.1)
          clear HA4 HS4
          go_roundw
          case measure => simp [intOf]; omega
          case rel => exact ⟨i + 1, true, A4, n1 + 1, c4, out ++ [rowAt t i], by go_num, rfl, by omega, by omega, by rw [HST.out, HFL.out]; unfold putF; rw [if_neg HQ.out, if_neg (by simp)], HG4.out, HO4.out, below_two HF3.out HB4.out⟩
        | false =>
          have hlp := (HP2.out.all w3 (below_step HBR.out HB3.out)).2.2.2.2
          rw [HC2.out] at hlp
          go_wp2_with (first | ((with_reducible show wpList _ _ _ (Oper.mk _ (Op.load _ _) _ _ _ _ :: _) _ _); refine wpList_load_g (hlp) _ rfl rfl (by go_simp) ?_) | ((with_reducible show wpList _ _ _ (Oper.mk _ (Op.load _ _) _ _ _ _ :: _) _ _); refine wpList_load_g ((HR3.out.all _ (Below.refl _ _)).pfx) _ rfl rfl (by go_simp) ?_))
          have hcm := refcompare_any p (rowAt t i).p w3 hp HF.out
          rw [HC2.out] at hcm
          refine hcm.mono ?_
          clear hcm
          rintro e w5 ⟨rfl, hbb5⟩
          have HG5 := Lib.hid (blk_below HG3.out hbb5)
          have HO5 := Lib.hid (HO3.out.below hbb5)
          have HR3B := Lib.hid (blk_below H3.out.2 hbb5)
          have HR5 := Lib.hid (row_at HF.out HR3B.out)
          have HA6L := Lib.hid (fun ad e => HA1L.out ad e)
          have HP5 := Lib.hid (below_step (below_step HBR.out HB3.out) hbb5)
          have HF5 := Lib.hid (below_two HF3.out (show Below W1.heap.size w3 w5 from ⟨hbb5.os, hbb5.tape, hbb5.output, hbb5.size, fun q hq => hbb5.block q (by have := blk_lt HG3.out; omega)⟩))
          clear hbb5 hlp
          by_cases hlc : p.cmp (rowAt t i).p < 0
          · have hlc' : decide (p.cmp (rowAt t i).p < 0) = true := decide_eq_true hlc
            have HLC := Lib.hid hlc'
            have hlp := (HP2.out.all w5 HP5.out).2.2.2.2
            rw [HC2.out] at hlp
            clear hlc
            go_upto_region 10 with (first | ((with_reducible show wpList _ _ _ (Oper.mk _ (Op.load _ _) _ _ _ _ :: _) _ _); refine wpList_load_g (((tab_at HG5.out).all _ (Below.refl _ _)).2) _ rfl rfl (by go_simp) ?_) | ((with_reducible show wpList _ _ _ (Oper.mk _ (Op.load _ _) _ _ _ _ :: _) _ _); refine wpList_load_g (hlp) _ rfl rfl (by go_simp) ?_) | ((with_reducible show wpList _ _ _ (Oper.mk _ (Op.build _ _) _ _ _ _ :: _) _ _); refine wpList_exw rfl (exec_build2 (t := 79) (i0 := 0) (i1 := 1) (x0 := .tmp 40) (x1 := .tmp 41) (v0 := (.agg cs2)) (v1 := (.int .i64 h)) (v := (.agg (rowV ⟨p, h⟩))) rfl rfl rfl (hbr _)) ?_) | ((with_reducible show wpList _ _ _ (Oper.mk _ (Op.buildSlice _ _ _) _ _ _ _ :: _) _ _); refine wpList_exw rfl (exec_lit1 rowK (x := .tmp 42) rfl ⟨p, h⟩ rfl hp (by show 19 ≤ _; omega) _) ?_) | (at_builtin; refine wpList_append_shp rowK rfl (.tmp 39) (.tmp 43) rfl rfl rfl (OS.below HO5.out (below_alloc (Below.refl _ _) _)) (OS.one rowK w5 0 ⟨p, h⟩ (Nat.zero_le _) hp).reads (by have := blk_lt HG5.out; simp; omega) (by omega) ?_; intro A6 c6 wa6 h1 h2 h3; have HA6 := Lib.hid (And.intro h1 (And.intro h2 h3)); clear h1 h2 h3) | ((with_reducible show wpList _ _ _ (Oper.mk _ (Op.store _ _ _) _ _ _ _ :: _) _ _); refine wpList_store_cell (blk_own (blk_below HG5.out (below_alloc (Below.refl _ _) _)) HA6.out.2.1 (fun ad e => OS.base_ HO5.out ad e)) 37 0 (.slice A6 (n1 + 1) c6) (Nat.le_refl _) (by kernel_rfl) rfl rfl _ _ rfl rfl rfl rfl ?_; intro w6 hg9 hs9 hb9; have HS6 := Lib.hid (And.intro hg9 (show (World.heap w6)[W1.heap.size]? = some (.cells (tabV A6 (n1 + 1) c6) 39 (0, 0)) from hb9)); clear hg9 hs9 hb9))
            have HO6 := Lib.hid (grow_push HA6.out.1 (Nat.lt_succ_self _) HS6.out.1)
            have HG6 := Lib.hid HS6.out.2
            have HB6 := Lib.hid (below_push (blk_lt HG5.out) HA6.out.2.1 (fun ad e => OS.base_ HO5.out ad e) HS6.out.1)
            have hgl3 := blk_lt HR3B.out
            have HR6 := Lib.hid (row_at HF.out (blk_grown (blk_grown (blk_below HR3B.out (below_alloc (Below.refl _ _) _)) HA6.out.2.1 (fun e => by
              obtain ⟨ad, e1, e2⟩ := own_of e.symm
              have := HA6L.out ad e1
              omega)) HS6.out.1 (fun e => by injection e with e; have := HWR.out; omega)))
            clear HA6 HS6
            go_wp2_with (first | ((with_reducible show wpList _ _ _ (Oper.mk _ (Op.load _ _) _ _ _ _ :: _) _ _); refine wpList_load_g (((tab_at HG6.out).all _ (Below.refl _ _)).2) _ rfl rfl (by go_simp) ?_) | ((with_reducible show wpList _ _ _ (Oper.mk _ (Op.load _ _) _ _ _ _ :: _) _ _); refine wpList_load_g ((HR6.out.all _ (Below.refl _ _)).row) _ rfl rfl (by go_simp) ?_) | ((with_reducible show wpList _ _ _ (Oper.mk _ (Op.buildSlice _ _ _) _ _ _ _ :: _) _ _); refine wpList_exw rfl (exec_lit1 rowK (x := .tmp 48) rfl (rowAt t i) rfl HF.out (by show 19 ≤ _; omega) _) ?_) | (at_builtin; refine wpList_append_shp rowK rfl (.tmp 47) (.tmp 49) rfl rfl rfl (OS.below HO6.out (below_alloc (Below.refl _ _) _)) (OS.one rowK w6 0 (rowAt t i) (Nat.zero_le _) HF.out).reads (by have := blk_lt HG6.out; simp; omega) (by omega) ?_; intro A4 c4 wa4 h1 h2 h3; have HA4 := Lib.hid (And.intro h1 (And.intro h2 h3)); clear h1 h2 h3) | ((with_reducible show wpList _ _ _ (Oper.mk _ (Op.store _ _ _) _ _ _ _ :: _) _ _); refine wpList_store_cell (blk_own (blk_below HG6.out (below_alloc (Below.refl _ _) _)) HA4.out.2.1 (fun ad e => OS.base_ HO6.out ad e)) 37 0 (.slice A4 ((n1 + 1) + 1) c4) (Nat.le_refl _) (by kernel_rfl) rfl rfl _ _ rfl rfl rfl rfl ?_; intro w4 hg9 hs9 hb9; have HS4 := Lib.hid (And.intro hg9 (show (World.heap w4)[W1.heap.size]? = some (.cells (tabV A4 ((n1 + 1) + 1) c4) 39 (0, 0)) from hb9)); clear hg9 hs9 hb9))
            have HO4 := Lib.hid (grow_push HA4.out.1 (Nat.lt_succ_self _) HS4.out.1)
            have HG4 := Lib.hid HS4.out.2
            have HB4 := Lib.hid (below_push (blk_lt HG6.out) HA4.out.2.1 (fun ad e => OS.base_ HO6.out ad e) HS4.out.1)
            clear HA4 HS4
            go_roundw
            case measure => simp [intOf]; omega
            case rel => exact ⟨i + 1, true, A4, n1 + 1 + 1, c4, out ++ [⟨p, h⟩] ++ [rowAt t i], by go_num, rfl, by omega, by omega, by rw [HST.out, HFL.out]; unfold putF; rw [if_neg HQ.out, if_pos (by simp [HLC.out])], HG4.out, HO4.out, below_two HF5.out (below_two HB6.out HB4.out)⟩
          · have hlc' : decide (p.cmp (rowAt t i).p < 0) = false := decide_eq_false hlc
            have HLC := Lib.hid hlc'
            clear hlc
            go_wp2_with (first | ((with_reducible show wpList _ _ _ (Oper.mk _ (Op.load _ _) _ _ _ _ :: _) _ _); refine wpList_load_g (((tab_at HG5.out).all _ (Below.refl _ _)).2) _ rfl rfl (by go_simp) ?_) | ((with_reducible show wpList _ _ _ (Oper.mk _ (Op.load _ _) _ _ _ _ :: _) _ _); refine wpList_load_g ((HR5.out.all _ (Below.refl _ _)).row) _ rfl rfl (by go_simp) ?_) | ((with_reducible show wpList _ _ _ (Oper.mk _ (Op.buildSlice _ _ _) _ _ _ _ :: _) _ _); refine wpList_exw rfl (exec_lit1 rowK (x := .tmp 48) rfl (rowAt t i) rfl HF.out (by show 19 ≤ _; omega) _) ?_) | (at_builtin; refine wpList_append_shp rowK rfl (.tmp 47) (.tmp 49) rfl rfl rfl (OS.below HO5.out (below_alloc (Below.refl _ _) _)) (OS.one rowK w5 0 (rowAt t i) (Nat.zero_le _) HF.out).reads (by have := blk_lt HG5.out; simp; omega) (by omega) ?_; intro A4 c4 wa4 h1 h2 h3; have HA4 := Lib.hid (And.intro h1 (And.intro h2 h3)); clear h1 h2 h3) | ((with_reducible show wpList _ _ _ (Oper.mk _ (Op.store _ _ _) _ _ _ _ :: _) _ _); refine wpList_store_cell (blk_own (blk_below HG5.out (below_alloc (Below.refl _ _) _)) HA4.out.2.1 (fun ad e => OS.base_ HO5.out ad e)) 37 0 (.slice A4 (n1 + 1) c4) (Nat.le_refl _) (by kernel_rfl) rfl rfl _ _ rfl rfl rfl rfl ?_; intro w4 hg9 hs9 hb9; have HS4 := Lib.hid (And.intro hg9 (show (World.heap w4)[W1.heap.size]? = some (.cells (tabV A4 (n1 + 1) c4) 39 (0, 0)) from hb9)); clear hg9 hs9 hb9))
            have HO4 := Lib.hid (grow_push HA4.out.1 (Nat.lt_succ_self _) HS4.out.1)
            have HG4 := Lib.hid HS4.out.2
            have HB4 := Lib.hid (below_push (blk_lt HG5.out) HA4.out.2.1 (fun ad e => OS.base_ HO5.out ad e) HS4.out.1)
            clear HA4 HS4
            go_roundw
            case measure => simp [intOf]; omega
            case rel => exact ⟨i + 1, false, A4, n1 + 1, c4, out ++ [rowAt t i], by go_num, rfl, by omega, by omega, by rw [HST.out, HFL.out]; unfold putF; rw [if_neg HQ.out, if_neg (by simp [HLC.out])], HG4.out, HO4.out, below_two HF5.out HB4.out⟩
    · have hlt' : decide (i < n) = false := decide_eq_false hlt
      have htk : t.take i = t := List.take_of_length_le (by rw [HT.out.len]; omega)
      have hfl := HH.out.2.2.1
      rw [htk] at hfl
      have HEND := Lib.hid (show putR p h (h == 0) t = out ++ (if put then [] else [⟨p, h⟩]) by
        have := putF_end p h t (h == 0) []
        rw [hfl] at this
        simpa using this.symm)
      have HZ3 := Lib.hid (blk_below HZ.out HH.out.2.2.2.2.2)
      have HG3 := Lib.hid HH.out.2.2.2.1
      have HO3 := Lib.hid HH.out.2.2.2.2.1
      have HF3 := Lib.hid HH.out.2.2.2.2.2
      have HS3 := Lib.hid (show w.heap.size ≤ W1.heap.size + 1 by rw [HS1.out]; omega)
      have HS4 := Lib.hid (show w.heap.size + 2 < W1.heap.size by rw [HS1.out]; omega)
      have hi2 : i ≤ n := HH.out.1
      clear hlt htk hfl HH
      cases put with
      | true =>
        have hlo := load_tab HG3.out
        go_wp2_with (first | ((with_reducible show wpList _ _ _ (Oper.mk _ (Op.load _ _) _ _ _ _ :: _) _ _); refine wpList_load_g hl1 _ rfl rfl (by go_simp) ?_) | ((with_reducible show wpList _ _ _ (Oper.mk _ (Op.load _ _) _ _ _ _ :: _) _ _); refine wpList_load_g hlo _ rfl rfl (by go_simp) ?_) | ((with_reducible show wpList _ _ _ (Oper.mk _ (Op.store _ _ _) _ _ _ _ :: _) _ _); refine wpList_store_blk HZ3.out 39 0 (tabV A1 n1 c1) (Nat.le_refl _) (info_tab _ _ _) (tab_one _ _ _) _ _ rfl rfl rfl rfl ?_; intro w5 hg9 hs9 hb9; rw [splice_tab] at hb9; have H5 := Lib.hid (And.intro hg9 hb9); clear hg9 hs9 hb9))
        have hld := load_tab H5.out.2
        refine bodyPost_ret (results_c1 rfl rfl hld) rfl ?_
        rw [HEND.out]
        refine ⟨_, _, _, rfl, ?_, below_grown (below_step HBE.out HBR.out) H5.out.1 (by omega)⟩
        have h1 := (HO3.out.grown H5.out.1 (fun ad e h => by have := HO3.out.base_ ad e; injection h with h; have := HS4.out; omega)).lower HS3.out
        simpa using h1
      | false =>
        have hlp := (HP2.out.all wr HBR.out).2.2.2.2
        rw [HC2.out] at hlp
        go_upto_region 14 with (first | ((with_reducible show wpList _ _ _ (Oper.mk _ (Op.load _ _) _ _ _ _ :: _) _ _); refine wpList_load_g hl1 _ rfl rfl (by go_simp) ?_) | ((with_reducible show wpList _ _ _ (Oper.mk _ (Op.load _ _) _ _ _ _ :: _) _ _); refine wpList_load_g (((tab_at HG3.out).all _ (Below.refl _ _)).2) _ rfl rfl (by go_simp) ?_) | ((with_reducible show wpList _ _ _ (Oper.mk _ (Op.load _ _) _ _ _ _ :: _) _ _); refine wpList_load_g (hlp) _ rfl rfl (by go_simp) ?_) | ((with_reducible show wpList _ _ _ (Oper.mk _ (Op.build _ _) _ _ _ _ :: _) _ _); refine wpList_exw rfl (exec_build2 (t := 79) (i0 := 0) (i1 := 1) (x0 := .tmp 56) (x1 := .tmp 57) (v0 := (.agg cs2)) (v1 := (.int .i64 h)) (v := (.agg (rowV ⟨p, h⟩))) rfl rfl rfl (hbr _)) ?_) | ((with_reducible show wpList _ _ _ (Oper.mk _ (Op.buildSlice _ _ _) _ _ _ _ :: _) _ _); refine wpList_exw rfl (exec_lit1 rowK (x := .tmp 58) rfl ⟨p, h⟩ rfl hp (by show 19 ≤ _; omega) _) ?_) | (at_builtin; refine wpList_append_shp rowK rfl (.tmp 55) (.tmp 59) rfl rfl rfl (OS.below HO3.out (below_alloc (Below.refl _ _) _)) (OS.one rowK wr 0 ⟨p, h⟩ (Nat.zero_le _) hp).reads (by have := blk_lt HG3.out; simp; omega) (by omega) ?_; intro A6 c6 wa6 h1 h2 h3; have HA6 := Lib.hid (And.intro h1 (And.intro h2 h3)); clear h1 h2 h3) | ((with_reducible show wpList _ _ _ (Oper.mk _ (Op.store _ _ _) _ _ _ _ :: _) _ _); refine wpList_store_cell (blk_own (blk_below HG3.out (below_alloc (Below.refl _ _) _)) HA6.out.2.1 (fun ad e => OS.base_ HO3.out ad e)) 37 0 (.slice A6 (n1 + 1) c6) (Nat.le_refl _) (by kernel_rfl) rfl rfl _ _ rfl rfl rfl rfl ?_; intro w6 hg9 hs9 hb9; have HS6 := Lib.hid (And.intro hg9 (show (World.heap w6)[W1.heap.size]? = some (.cells (tabV A6 (n1 + 1) c6) 39 (0, 0)) from hb9)); clear hg9 hs9 hb9))
        have HO6 := Lib.hid (grow_push HA6.out.1 (Nat.lt_succ_self _) HS6.out.1)
        have HG6 := Lib.hid HS6.out.2
        have HB6 := Lib.hid (below_push (blk_lt HG3.out) HA6.out.2.1 (fun ad e => OS.base_ HO3.out ad e) HS6.out.1)
        have HZ6 := Lib.hid (blk_lowB HZ3.out HB6.out HS4.out)
        have hlo := load_tab HG6.out
        clear HA6 HS6
        go_wp2_with (first | ((with_reducible show wpList _ _ _ (Oper.mk _ (Op.load _ _) _ _ _ _ :: _) _ _); refine wpList_load_g hlo _ rfl rfl (by go_simp) ?_) | ((with_reducible show wpList _ _ _ (Oper.mk _ (Op.store _ _ _) _ _ _ _ :: _) _ _); refine wpList_store_blk HZ6.out 39 0 (tabV A6 (n1 + 1) c6) (Nat.le_refl _) (info_tab _ _ _) (tab_one _ _ _) _ _ rfl rfl rfl rfl ?_; intro w5 hg9 hs9 hb9; rw [splice_tab] at hb9; have H5 := Lib.hid (And.intro hg9 hb9); clear hg9 hs9 hb9))
        have hld := load_tab H5.out.2
        refine bodyPost_ret (results_c1 rfl rfl hld) rfl ?_
        rw [HEND.out]
        have hb6 : Below ((w.alloc (.cells cs1 39)).alloc (.cells cs2 49)).heap.size wr w6 := ⟨HB6.out.os, HB6.out.tape, HB6.out.output, HB6.out.size, fun q hq => HB6.out.block q (by have := HS4.out; simp at hq; omega)⟩
        refine ⟨_, _, _, rfl, (HO6.out.grown H5.out.1 (fun ad e h => by have := HO6.out.base_ ad e; injection h with h; have := HS4.out; omega)).lower HS3.out, below_grown (below_step HBE.out (HBR.out.trans hb6)) H5.out.1 (by omega)⟩
end Go.Proofs.YtnpeedmicjeleaaDoor

/- Layer 11 (route): the document's Best. -/
namespace Go.Proofs.YtnpeedmicjeleaaDoor
open Go.RowKit
set_option linter.unusedVariables false
set_option linter.unusedSimpArgs false
set_option maxRecDepth 4000
/-- What the loops of the document's Best keep. -/
structure BstS (w0 w : World) (g : Nat) (A : Option Addr) (n c : Nat) (t : List Row) : Prop where
  own : OS rowK w w0.heap.size A n c t
  cell : w.heap[g]? = some (.cells (tabV A n c) 39 (0, 0))
  ne : ∀ ad, A = some ad → ad.block ≠ g
  bel : Below w0.heap.size w0 w
  gle : w0.heap.size ≤ g
theorem BstS.step {w0 w w1 : World} {g : Nat} {A : Option Addr} {n c : Nat} {t : List Row} (h : BstS w0 w g A n c t) (hb : Below w.heap.size w w1) : BstS w0 w1 g A n c t := ⟨h.own.below hb, blk_below h.cell hb, h.ne, below_step h.bel hb, h.gle⟩
set_option maxHeartbeats 8000000 in
set_option maxRecDepth 100000 in
theorem refbest_any (A : Option Addr) (n c : Nat) (l : List Rte) (w : World) (hr : RS rteK w A n c l) (ok : Okr l) (hrb : ribB l = true) :
    Calls Tryd.prog 29 #[.agg (tabV A n c)] w fun e w' => ∃ A' n' c', e = .returned (.agg (tabV A' n' c')) ∧ OS rowK w' w.heap.size A' n' c' (bestT l) ∧ Below w.heap.size w w' := by
  have hblk1 := blk_new w (.cells (tabV A n c) 24)
  have hbel1 : Below w.heap.size w (w.alloc (.cells (tabV A n c) 24)) := below_alloc (Below.refl _ _) _
  have HP1 := Lib.hid (rib_at hblk1)
  have HBK1 := Lib.hid hblk1
  have HBE := Lib.hid hbel1
  obtain ⟨cs1, hcs1⟩ : ∃ cs, tabV A n c = cs := ⟨_, rfl⟩
  simp only [hcs1] at HBE HP1 HBK1 ⊢
  have HC1 := Lib.hid hcs1
  clear hcs1 hblk1 hbel1
  have HR := Lib.hid (hr.below HBE.out)
  have OK := Lib.hid ok
  have HRB := Lib.hid hrb
  have hn : n ≤ 160 := by rw [← hr.len]; exact (rib_to hrb).1
  have hs0 : (w.alloc (.cells cs1 24)).heap.size = w.heap.size + 1 := by simp
  obtain ⟨W1, hW1⟩ : ∃ W1, (w.alloc (.cells cs1 24)).alloc (.cells #[.slice none 0 0] 39) = W1 := ⟨_, rfl⟩
  have HZ : Hid (W1.heap[w.heap.size + 1]? = some (.cells (tabV none 0 0) 39 (0, 0))) := Lib.hid (by rw [← hW1, ← hs0]; exact blk_new _ _)
  have HBW : Hid (Below (w.alloc (.cells cs1 24)).heap.size (w.alloc (.cells cs1 24)) W1) := Lib.hid (hW1 ▸ below_alloc (Below.refl _ _) _)
  have HS1 : Hid (W1.heap.size = w.heap.size + 2) := Lib.hid (by rw [← hW1]; simp)
  obtain ⟨W2, hW2⟩ : ∃ W2, W1.alloc (.cells #[.slice none 0 0] 39) = W2 := ⟨_, rfl⟩
  have HF2 : Hid (BstS W1 W2 W1.heap.size none 0 0 []) := Lib.hid ⟨OS.nil _ _ _, hW2 ▸ blk_new _ _, fun ad e => (by cases e), hW2 ▸ below_alloc (Below.refl _ _) _, Nat.le_refl _⟩
  clear hr ok hrb hs0
  go_enter Tryd.func29, Tryd.ntmps29
  go_wp2_with fail
  clear hW1 hW2
  obtain ⟨g3, hg3⟩ : ∃ g, W1.heap.size = g := ⟨_, rfl⟩
  rw [hg3] at HF2 ⊢
  clear hg3
  go_loopw [4] (fun s4 wr => ∃ (f : Nat) (At : Option Addr) (nt ct : Nat) (t : List Row), s4 = .int .i64 f ∧ Hid (f ≤ 256 ∧ BstS W1 wr g3 At nt ct t ∧ PutI l f 4 0 t)) (fun x _ => 256 - (intOf x).toNat)
  case atStart => exact ⟨0, none, 0, 0, [], rfl, by omega, HF2.out, putI_start OK.out HRB.out⟩
  case round =>
    obtain ⟨f, At, nt, ct, t, rfl, HI⟩ := hrel
    obtain ⟨wf, rfl⟩ : ∃ wf, wf = wr := ⟨wr, rfl⟩
    by_cases hf : f ≤ 255
    · have hfb : decide ((f : Int) ≤ 255) = true := decide_eq_true (by omega)
      go_wp2_with fail
      go_loopw [5] (fun s5 wr => ∃ (s : Nat) (As : Option Addr) (ns cs : Nat) (ts : List Row), s5 = .int .i64 s ∧ Hid (s ≤ 4 ∧ BstS W1 wr g3 As ns cs ts ∧ PutI l f s 0 ts)) (fun x _ => (intOf x).toNat)
      case atStart => exact ⟨4, At, nt, ct, t, rfl, by omega, HI.out.2.1, HI.out.2.2⟩
      case round =>
        obtain ⟨s, As, ns, cs, ts, rfl, HJ⟩ := hrel
        obtain ⟨ws, rfl⟩ : ∃ ws, ws = wr := ⟨wr, rfl⟩
        by_cases hs : 1 ≤ s
        · have hsb : decide ((1 : Int) ≤ s) = true := decide_eq_true (by omega)
          have hs4 : s ≤ 4 := HJ.out.1
          go_wp2_with fail
          go_loopw [6] (fun s6 wr => ∃ (i : Nat) (Ai : Option Addr) (ni ci : Nat) (ti : List Row), s6 = .int .i64 i ∧ Hid (i ≤ n ∧ BstS W1 wr g3 Ai ni ci ti ∧ PutI l f s i ti)) (fun x _ => n - (intOf x).toNat)
          case atStart => exact ⟨0, As, ns, cs, ts, rfl, Nat.zero_le _, HJ.out.2.1, HJ.out.2.2⟩
          case round =>
            obtain ⟨i, Ai, ni, ci, ti, rfl, HK⟩ := hrel
            obtain ⟨wi, rfl⟩ : ∃ wi, wi = wr := ⟨wr, rfl⟩
            have HBI := Lib.hid (below_step HBW.out HK.out.2.1.bel)
            by_cases hlt : i < n
            · have hlt' : (i : Int) < n := by omega
              obtain ⟨b, o, hA, hc⟩ := RS.at_ HR.out (by omega)
              have hil : i < l.length := by rw [HR.out.len]; exact hlt
              have HXO := Lib.hid (OK.out.at_ hil)
              have HCX : Hid (CellsAt wi b (o + i * 21) (rteC (rteAt l i))) := Lib.hid ((hc i hlt).below HBI.out)
              have HSK := Lib.hid (fun hn => putI_skip OK.out HRB.out HK.out.2.2 hil hn)
              have HPT := Lib.hid (fun he => putI_put OK.out HRB.out HK.out.2.2 hil he)
              have HFT := Lib.hid (fit_iff (fit_at OK.out HRB.out hil))
              have HFP := Lib.hid (fits_put OK.out HRB.out HK.out.2.2)
              have HRI := Lib.hid HK.out.2.2.ris
              have hni : ni ≤ 160 := by rw [← HK.out.2.1.own.len]; exact putI_len OK.out HRB.out HK.out.2.2
              obtain ⟨x, hx⟩ : ∃ x, rteAt l i = x := ⟨_, rfl⟩
              rw [hx] at HXO HCX HSK HPT HFT
              have hla := (rteLd_of HXO.out.fits HCX.out).all
              have HB6f := Lib.hid (fun (W : World) (h : (wi.alloc (.cells (rteV rteZ) 51)).grownBy W (some wi.heap.size)) => below_grown (below_alloc (Below.refl wi.heap.size wi) (.cells (rteV rteZ) 51)) h (Nat.le_refl _))
              subst hA
              clear hc hx hil
              by_cases he1 : x.f = f
              · have he1b : (x.f == (f : Int)) = true := by simpa using he1
                by_cases he2 : x.s = s
                · have he2b : (x.s == (s : Int)) = true := by simpa using he2
                  have HN := Lib.hid (HPT.out ⟨he1, he2⟩)
                  have hput : putR x.p x.h (x.h == 0) ti = setT ti x.p x.h := by
                    rw [show (x.h == 0) = false by have := HFT.out; simp; omega]
                    exact putR_set HXO.out.p.l HFP.out.2 HRI.out
                  have HPU := Lib.hid hput
                  clear he1 he2 HPT HSK hput
                  go_wp2_with (first | ((with_reducible show wpList _ _ _ (Oper.mk _ (Op.load _ _) _ _ _ _ :: _) _ _); refine wpList_load_g ((HP1.out.all _ HBI.out).2) _ rfl rfl (by go_simp) ?_) | ((with_reducible show wpList _ _ _ (Oper.mk _ (Op.load _ _) _ _ _ _ :: _) _ _); refine wpList_load_g hla _ rfl rfl (by go_simp) ?_) | ((with_reducible show wpList _ _ _ (Oper.mk _ (Op.store _ _ _) _ _ _ _ :: _) _ _); refine wpList_store_blk (blk_new wi _) 51 0 (rteV x) (store_rte_fit HXO.out.fits rfl) (info_rte HXO.out.fits) (rteV_one _) _ _ rfl rfl rfl rfl ?_; intro w6 hg9 hs9 hb9; rw [splice_rte HXO.out.fits rfl] at hb9; have H6 := Lib.hid (And.intro hg9 hb9); clear hg9 hs9 hb9) | ((with_reducible show wpList _ _ _ (Oper.mk _ (Op.load _ _) _ _ _ _ :: _) _ _); refine wpList_load_g (((rte_at HXO.out.fits H6.out.2).all _ (Below.refl _ _)).prf) _ rfl rfl (by go_simp) ?_) | ((with_reducible show wpList _ _ _ (Oper.mk _ (Op.load _ _) _ _ _ _ :: _) _ _); refine wpList_load_g (((rte_at HXO.out.fits H6.out.2).all _ (Below.refl _ _)).src) _ rfl rfl (by go_simp) ?_) | ((with_reducible show wpList _ _ _ (Oper.mk _ (Op.load _ _) _ _ _ _ :: _) _ _); refine wpList_load_g (((rte_at HXO.out.fits H6.out.2).all _ (Below.refl _ _)).pfx) _ rfl rfl (by go_simp) ?_) | ((with_reducible show wpList _ _ _ (Oper.mk _ (Op.load _ _) _ _ _ _ :: _) _ _); refine wpList_load_g (((rte_at HXO.out.fits H6.out.2).all _ (Below.refl _ _)).hop) _ rfl rfl (by go_simp) ?_) | ((with_reducible show wpList _ _ _ (Oper.mk _ (Op.load _ _) _ _ _ _ :: _) _ _); refine wpList_load_g (load_tab (HK.out.2.1.step (HB6f.out _ H6.out.1)).cell) _ rfl rfl (by go_simp) ?_))
                  have HS6 := Lib.hid (HK.out.2.1.step (HB6f.out _ H6.out.1))
                  refine (refput_any Ai ni ci ti x.p x.h w6 HS6.out.own.reads HFP.out.1 HXO.out.p (by omega)).mono ?_
                  rw [HPU.out]
                  rintro e w7 ⟨A7, n7, c7, rfl, hO7, hb7⟩
                  have HO7 := Lib.hid hO7
                  have HS7 := Lib.hid (HS6.out.step hb7)
                  have HL7 := Lib.hid (fun ad e => Nat.lt_of_lt_of_le (blk_lt HS6.out.cell) (hO7.base_ ad e))
                  have HLE := Lib.hid (HS6.out.bel.size)
                  clear hO7 hb7 hla
                  go_wp2_with (first | ((with_reducible show wpList _ _ _ (Oper.mk _ (Op.store _ _ _) _ _ _ _ :: _) _ _); refine wpList_store_blk HS7.out.cell 39 0 (tabV A7 n7 c7) (Nat.le_refl _) (info_tab _ _ _) (tab_one _ _ _) _ _ rfl rfl rfl rfl ?_; intro w8 hg9 hs9 hb9; rw [splice_tab] at hb9; have H8 := Lib.hid (And.intro hg9 hb9); clear hg9 hs9 hb9))
                  go_roundw
                  case measure => simp [intOf]; omega
                  case rel => exact ⟨i + 1, A7, n7, c7, _, by go_num, by omega, ⟨(HO7.out.grown H8.out.1 (fun ad e h => by have h1 := HL7.out ad e; injection h with h; omega)).lower HLE.out, H8.out.2, fun ad e => by have h1 := HL7.out ad e; omega, below_grown HS7.out.bel H8.out.1 HS7.out.gle, HS7.out.gle⟩, HN.out⟩
                · have he2b : (x.s == (s : Int)) = false := by simpa using he2
                  have HN := Lib.hid (HSK.out (fun h => he2 h.2))
                  clear he1 he2 HPT HSK
                  go_wp2_with (first | ((with_reducible show wpList _ _ _ (Oper.mk _ (Op.load _ _) _ _ _ _ :: _) _ _); refine wpList_load_g ((HP1.out.all _ HBI.out).2) _ rfl rfl (by go_simp) ?_) | ((with_reducible show wpList _ _ _ (Oper.mk _ (Op.load _ _) _ _ _ _ :: _) _ _); refine wpList_load_g hla _ rfl rfl (by go_simp) ?_) | ((with_reducible show wpList _ _ _ (Oper.mk _ (Op.store _ _ _) _ _ _ _ :: _) _ _); refine wpList_store_blk (blk_new wi _) 51 0 (rteV x) (store_rte_fit HXO.out.fits rfl) (info_rte HXO.out.fits) (rteV_one _) _ _ rfl rfl rfl rfl ?_; intro w6 hg9 hs9 hb9; rw [splice_rte HXO.out.fits rfl] at hb9; have H6 := Lib.hid (And.intro hg9 hb9); clear hg9 hs9 hb9) | ((with_reducible show wpList _ _ _ (Oper.mk _ (Op.load _ _) _ _ _ _ :: _) _ _); refine wpList_load_g (((rte_at HXO.out.fits H6.out.2).all _ (Below.refl _ _)).prf) _ rfl rfl (by go_simp) ?_) | ((with_reducible show wpList _ _ _ (Oper.mk _ (Op.load _ _) _ _ _ _ :: _) _ _); refine wpList_load_g (((rte_at HXO.out.fits H6.out.2).all _ (Below.refl _ _)).src) _ rfl rfl (by go_simp) ?_))
                  go_roundw
                  case measure => simp [intOf]; omega
                  case rel => exact ⟨i + 1, Ai, ni, ci, ti, by go_num, by omega, HK.out.2.1.step (HB6f.out _ H6.out.1), HN.out⟩
              · have he1b : (x.f == (f : Int)) = false := by simpa using he1
                have HN := Lib.hid (HSK.out (fun h => he1 h.1))
                clear he1 HPT HSK
                go_wp2_with (first | ((with_reducible show wpList _ _ _ (Oper.mk _ (Op.load _ _) _ _ _ _ :: _) _ _); refine wpList_load_g ((HP1.out.all _ HBI.out).2) _ rfl rfl (by go_simp) ?_) | ((with_reducible show wpList _ _ _ (Oper.mk _ (Op.load _ _) _ _ _ _ :: _) _ _); refine wpList_load_g hla _ rfl rfl (by go_simp) ?_) | ((with_reducible show wpList _ _ _ (Oper.mk _ (Op.store _ _ _) _ _ _ _ :: _) _ _); refine wpList_store_blk (blk_new wi _) 51 0 (rteV x) (store_rte_fit HXO.out.fits rfl) (info_rte HXO.out.fits) (rteV_one _) _ _ rfl rfl rfl rfl ?_; intro w6 hg9 hs9 hb9; rw [splice_rte HXO.out.fits rfl] at hb9; have H6 := Lib.hid (And.intro hg9 hb9); clear hg9 hs9 hb9) | ((with_reducible show wpList _ _ _ (Oper.mk _ (Op.load _ _) _ _ _ _ :: _) _ _); refine wpList_load_g (((rte_at HXO.out.fits H6.out.2).all _ (Below.refl _ _)).prf) _ rfl rfl (by go_simp) ?_))
                go_roundw
                case measure => simp [intOf]; omega
                case rel => exact ⟨i + 1, Ai, ni, ci, ti, by go_num, by omega, HK.out.2.1.step (HB6f.out _ H6.out.1), HN.out⟩
            · have hlt' : decide (i < n) = false := decide_eq_false hlt
              have hi : i = l.length := by rw [HR.out.len]; have := HK.out.1; omega
              have HN : Hid (PutI l f ((s : Int) - 1) 0 ti) := Lib.hid (putI_source OK.out HRB.out (by have := HK.out.2.2; rwa [hi] at this))
              have hs1 : ((s - 1 : Nat) : Int) = (s : Int) - 1 := by omega
              clear hlt hi
              go_wp2_with (first | ((with_reducible show wpList _ _ _ (Oper.mk _ (Op.load _ _) _ _ _ _ :: _) _ _); refine wpList_load_g ((HP1.out.all _ HBI.out).2) _ rfl rfl (by go_simp) ?_))
              go_roundw
              case measure => simp [intOf]; omega
              case rel => exact ⟨s - 1, Ai, ni, ci, ti, by rw [hs1], by omega, HK.out.2.1, by rw [hs1]; exact HN.out⟩
        · have hsb : decide ((1 : Int) ≤ s) = false := decide_eq_false (by omega)
          have hs0 : s = 0 := by omega
          have HN : Hid (PutI l ((f : Int) + 1) 4 0 ts) := Lib.hid (putI_pref OK.out HRB.out (by have := HJ.out.2.2; rwa [hs0] at this))
          have hf1 : ((f + 1 : Nat) : Int) = (f : Int) + 1 := by omega
          clear hs
          go_wp2_with fail
          go_roundw
          case measure => simp [intOf]; omega
          case rel => exact ⟨f + 1, As, ns, cs, ts, by rw [hf1], by omega, HJ.out.2.1, by rw [hf1]; exact HN.out⟩
    · have hfb : decide ((f : Int) ≤ 255) = false := decide_eq_false (by omega)
      have hf6 : f = 256 := by have := HI.out.1; omega
      have HE : Hid (t = bestT l) := Lib.hid (putI_end OK.out HRB.out (by have := HI.out.2.2; rwa [hf6] at this))
      clear hf hf6
      go_wp2_with (first | ((with_reducible show wpList _ _ _ (Oper.mk _ (Op.load _ _) _ _ _ _ :: _) _ _); refine wpList_load_g (load_tab HI.out.2.1.cell) _ rfl rfl (by go_simp) ?_) | ((with_reducible show wpList _ _ _ (Oper.mk _ (Op.store _ _ _) _ _ _ _ :: _) _ _); refine wpList_store_blk (blk_below HZ.out HI.out.2.1.bel) 39 0 (tabV At nt ct) (Nat.le_refl _) (info_tab _ _ _) (tab_one _ _ _) _ _ rfl rfl rfl rfl ?_; intro w9 hg9 hs9 hb9; rw [splice_tab] at hb9; have H9 := Lib.hid (And.intro hg9 hb9); clear hg9 hs9 hb9))
      refine bodyPost_ret (results_c1 rfl rfl (load_tab H9.out.2)) rfl ?_
      rw [← HE.out]
      refine ⟨At, nt, ct, rfl, (HI.out.2.1.own.grown H9.out.1 (fun ad e h => ?_)).lower (by have := HS1.out; omega), below_grown (below_step HBE.out (below_step HBW.out HI.out.2.1.bel)) H9.out.1 (by omega)⟩
      have h1 := HI.out.2.1.own.base_ ad e
      have h2 := HS1.out
      injection h with h
      omega
end Go.Proofs.YtnpeedmicjeleaaDoor

/- Layer 11 (route): the law RouteTells. -/
namespace Go.Proofs.YtnpeedmicjeleaaDoor
open Go.RowKit
set_option linter.unusedVariables false
set_option linter.unusedSimpArgs false
set_option maxRecDepth 4000
set_option maxHeartbeats 4000000 in
set_option maxRecDepth 100000 in
theorem tells11_any (A : Option Addr) (n c : Nat) (l : List Rte) (B : Option Addr) (k d : Nat) (l2 : List Rte) (A2 : Option Addr) (m c2 : Nat) (b : List Upd) (w : World) (hL : Laid w) (hr : RS rteK w A n c l) (ok : Okr l) (hs : RS rteK w B k d l2) (ok2 : Okr l2) (hu : RS updK w A2 m c2 b) (oku : Oku b) :
    Calls Tryd.prog 6 #[.agg (tabV A n c), .agg (tabV B k d), .agg (tabV A2 m c2)] w fun e w' => e = .returned (.bool true) ∧ Below w.heap.size w w' := by
  have hblk1 := blk_new w (.cells (tabV A n c) 24)
  have hbel1 : Below w.heap.size w (w.alloc (.cells (tabV A n c) 24)) := below_alloc (Below.refl _ _) _
  have hblk2 := blk_new (w.alloc (.cells (tabV A n c) 24)) (.cells (tabV B k d) 24)
  have hbel2 : Below w.heap.size w ((w.alloc (.cells (tabV A n c) 24)).alloc (.cells (tabV B k d) 24)) := below_alloc (hbel1) _
  rw [show (w.alloc (.cells (tabV A n c) 24)).heap.size = w.heap.size + 1 by simp] at hblk2
  replace hblk1 := blk_below hblk1 (below_alloc (Below.refl _ _) (.cells (tabV B k d) 24))
  have hblk3 := blk_new ((w.alloc (.cells (tabV A n c) 24)).alloc (.cells (tabV B k d) 24)) (.cells (tabV A2 m c2) 27)
  have hbel3 : Below w.heap.size w (((w.alloc (.cells (tabV A n c) 24)).alloc (.cells (tabV B k d) 24)).alloc (.cells (tabV A2 m c2) 27)) := below_alloc (hbel2) _
  rw [show ((w.alloc (.cells (tabV A n c) 24)).alloc (.cells (tabV B k d) 24)).heap.size = w.heap.size + 2 by simp] at hblk3
  replace hblk1 := blk_below hblk1 (below_alloc (Below.refl _ _) (.cells (tabV A2 m c2) 27))
  replace hblk2 := blk_below hblk2 (below_alloc (Below.refl _ _) (.cells (tabV A2 m c2) 27))
  have HP1 := Lib.hid (rib_at hblk1)
  have HBK1 := Lib.hid hblk1
  have HP2 := Lib.hid (rib_at hblk2)
  have HBK2 := Lib.hid hblk2
  have HP3 := Lib.hid (bat_at hblk3)
  have HBK3 := Lib.hid hblk3
  have HBE := Lib.hid hbel3
  have HL := Lib.hid (hL.below HBE.out)
  obtain ⟨cs1, hcs1⟩ : ∃ cs, tabV A n c = cs := ⟨_, rfl⟩
  obtain ⟨cs2, hcs2⟩ : ∃ cs, tabV B k d = cs := ⟨_, rfl⟩
  obtain ⟨cs3, hcs3⟩ : ∃ cs, tabV A2 m c2 = cs := ⟨_, rfl⟩
  simp only [hcs1, hcs2, hcs3] at HBE HL HP1 HP2 HP3 HBK1 HBK2 HBK3 ⊢
  have HC1 := Lib.hid hcs1
  have HC2 := Lib.hid hcs2
  have HC3 := Lib.hid hcs3
  clear hL hcs1 hblk1 hbel1 hcs2 hblk2 hbel2 hcs3 hblk3 hbel3
  have HR := Lib.hid (hr.below HBE.out)
  have HS := Lib.hid (hs.below HBE.out)
  have HU := Lib.hid (hu.below HBE.out)
  have OK := Lib.hid ok
  have OK2 := Lib.hid ok2
  have OKU := Lib.hid oku
  clear hr hs hu ok ok2 oku
  go_enter Tryd.func6, Tryd.ntmps6
  go_wp2_with fail
  refine (wakes11_any _ HL.out).mono ?_
  rintro e w1 ⟨rfl, hb1⟩
  have HB1 := Lib.hid hb1
  clear hb1
  go_wp2_with (first | ((with_reducible show wpList _ _ _ (Oper.mk _ (Op.load _ _) _ _ _ _ :: _) _ _); refine wpList_load_g ((HP1.out.all _ HB1.out).1) _ rfl rfl (by go_simp) ?_) | ((with_reducible show wpList _ _ _ (Oper.mk _ (Op.load _ _) _ _ _ _ :: _) _ _); refine wpList_load_g ((HP3.out.all _ HB1.out).1) _ rfl rfl (by go_simp) ?_))
  refine (over11_any A n c A2 m c2 w1).mono ?_
  rintro e w2 ⟨rfl, hb2⟩
  have HB2 := Lib.hid (below_step HB1.out hb2)
  clear hb2 HB1
  by_cases hov : (decide (300 < n) || decide (100 < m)) = true
  · rw [hov]
    clear hov
    go_wp2
    go_ret
    exact ⟨rfl, below_step HBE.out HB2.out⟩
  · have hof : (decide (300 < n) || decide (100 < m)) = false := by simpa using hov
    rw [hof]
    have hnm : n ≤ 300 ∧ m ≤ 100 := by simp at hof; omega
    have HNM := Lib.hid hnm
    clear hov hof
    go_wp2_with (first | ((with_reducible show wpList _ _ _ (Oper.mk _ (Op.load _ _) _ _ _ _ :: _) _ _); refine wpList_load_g ((HP2.out.all _ HB2.out).1) _ rfl rfl (by go_simp) ?_) | ((with_reducible show wpList _ _ _ (Oper.mk _ (Op.load _ _) _ _ _ _ :: _) _ _); refine wpList_load_g ((HP3.out.all _ HB2.out).1) _ rfl rfl (by go_simp) ?_))
    refine (over11_any B k d A2 m c2 w2).mono ?_
    rintro e w2 ⟨rfl, hb2⟩
    replace HB2 := Lib.hid (below_step HB2.out hb2)
    clear hb2
    by_cases hov : (decide (300 < k) || decide (100 < m)) = true
    · rw [hov]
      clear hov
      go_wp2
      go_ret
      exact ⟨rfl, below_step HBE.out HB2.out⟩
    · have hof : (decide (300 < k) || decide (100 < m)) = false := by simpa using hov
      rw [hof]
      have hk : k ≤ 300 := by simp at hof; omega
      have HKN := Lib.hid hk
      clear hov hof
      go_wp2_with (first | ((with_reducible show wpList _ _ _ (Oper.mk _ (Op.load _ _) _ _ _ _ :: _) _ _); refine wpList_load_g ((HP1.out.all _ HB2.out).1) _ rfl rfl (by go_simp) ?_) | ((with_reducible show wpList _ _ _ (Oper.mk _ (Op.load _ _) _ _ _ _ :: _) _ _); refine wpList_load_g ((HP3.out.all _ HB2.out).1) _ rfl rfl (by go_simp) ?_))
      refine (own11_any A n c l A2 m c2 b w2 (HR.out.below HB2.out) (by omega) (HU.out.below HB2.out) (by omega)).mono ?_
      rintro e w3 ⟨A3, c3, A4, c4, rfl, hO3, hO4, hb3⟩
      have HO3 := Lib.hid (And.intro hO3 hO4)
      have HB3 := Lib.hid (below_step HB2.out hb3)
      clear hO3 hO4 hb3 HB2
      have hbz := blk_new (w3.alloc (.cells (tabV none 0 0) 24)) (.cells (tabV none 0 0) 27)
      rw [show (w3.alloc (.cells (tabV none 0 0) 24)).heap.size = w3.heap.size + 1 by simp] at hbz
      have hbc := blk_below (blk_new w3 (.cells (tabV none 0 0) 24)) (below_alloc (Below.refl _ _) (.cells (tabV none 0 0) 27))
      have HB5f := Lib.hid (fun (W U : World) (h : ((w3.alloc (.cells (tabV none 0 0) 24)).alloc (.cells (tabV none 0 0) 27)).grownBy W (some w3.heap.size)) (h2 : W.grownBy U (some (w3.heap.size + 1))) => below_grown (below_grown (below_alloc (below_alloc (Below.refl w3.heap.size w3) (.cells (tabV none 0 0) 24)) (.cells (tabV none 0 0) 27)) h (Nat.le_refl _)) h2 (Nat.le_succ _))
      go_upto_region 6 with (first | ((with_reducible show wpList _ _ _ (Oper.mk _ (Op.store _ _ _) _ _ _ _ :: _) _ _); refine wpList_store_blk hbc 24 0 (tabV A3 n c3) (Nat.le_refl _) (info_rib _ _ _) (tab_one _ _ _) _ _ rfl rfl rfl rfl ?_; intro w4 hg9 hs9 hb9; rw [splice_tab] at hb9; have H4 := Lib.hid (And.intro hg9 hb9); clear hg9 hs9 hb9) | ((with_reducible show wpList _ _ _ (Oper.mk _ (Op.store _ _ _) _ _ _ _ :: _) _ _); refine wpList_store_blk (blk_grown hbz H4.out.1 (fun e => by injection e with e; omega)) 27 0 (tabV A4 m c4) (Nat.le_refl _) (info_bat _ _ _) (tab_one _ _ _) _ _ rfl rfl rfl rfl ?_; intro w5 hg9 hs9 hb9; rw [splice_tab] at hb9; have H5 := Lib.hid (And.intro hg9 hb9); clear hg9 hs9 hb9))
      have HB35 := Lib.hid (HB5f.out _ _ H4.out.1 H5.out.1)
      have HB5 := Lib.hid (below_step HB3.out HB35.out)
      have HX5 := Lib.hid (blk_grown H4.out.2 H5.out.1 (fun e => by injection e with e; omega))
      have HY5 := Lib.hid H5.out.2
      have HO5 := Lib.hid (And.intro (HO3.out.1.below HB35.out) (HO3.out.2.below HB35.out))
      dsimp only [Act.put]
      obtain ⟨g5, hg5⟩ : ∃ g, w3.heap.size = g := ⟨_, rfl⟩
      rw [hg5] at HX5 HY5 ⊢
      clear hbz hbc HB5f H4 H5 HB35 HO3 HB3 hg5
      refine wp_region_mix (fun w0 => Below (w5).heap.size (w5) w0) [(0, 0), (1, 0), (3, 0), (4, 0), (2, 2), (5, 2), (6, 0), (7, 0), (8, 0), (9, 0), (10, 2), (11, 0), (12, 0)] (by kernel_rfl) (by kernel_rfl) (below_drew1 _) ?_
      simp only [List.map_cons, List.map_nil]
      refine wpO_loadW (t := 24) (ad := ⟨w.heap.size, 0, none⟩) rfl rfl ?hw rfl rfl ((fun w0 hS => (HP1.out.all w0 (below_step HB5.out hS)).1)) ?_
      case hw => go_simp
      refine wpO_loadW (t := 24) (ad := ⟨(w.heap.size+1), 0, none⟩) rfl rfl ?hw rfl rfl ((fun w0 hS => (HP2.out.all w0 (below_step HB5.out hS)).1)) ?_
      case hw => go_simp
      refine wpO_loadW (t := 24) (ad := ⟨w.heap.size, 0, none⟩) rfl rfl ?hw rfl rfl ((fun w0 hS => (HP1.out.all w0 (below_step HB5.out hS)).1)) ?_
      case hw => go_simp
      refine wpO_loadW (t := 24) (ad := ⟨(w.heap.size+1), 0, none⟩) rfl rfl ?hw rfl rfl ((fun w0 hS => (HP2.out.all w0 (below_step HB5.out hS)).1)) ?_
      case hw => go_simp
      refine wpO_step2 rfl rfl (below_drew1 _) (fun K hK => ?_)
      go_simp
      refine (rsame_any A n c l B k d l2 _ (HR.out.below (below_step HB5.out (below_drew1 _))) (HS.out.below (below_step HB5.out (below_drew1 _))) OK.out OK2.out (by omega) (by omega)).mono ?_
      obtain ⟨EQ, hEQ⟩ : ∃ EQ, rteE.eqL l l2 = EQ := ⟨_, rfl⟩
      rw [hEQ]
      rintro e v2 ⟨rfl, hb2⟩
      have HV2 := Lib.hid (below_step (below_drew1 w5) hb2)
      clear hb2
      refine hK _ _ ⟨HV2.out, ?_⟩
      clear hK K
      refine wpO_step2 rfl rfl (HV2.out) (fun K hK => ?_)
      go_simp
      refine (refsameQ_any A n c l B k d l2 _ (HR.out.below (below_step HB5.out HV2.out)) (HS.out.below (below_step HB5.out HV2.out)) OK.out OK2.out (by omega) (by omega)).mono ?_
      rw [hEQ]
      rintro e v3 ⟨rfl, hb3⟩
      have HV3 := Lib.hid (below_step HV2.out hb3)
      clear hb3 hEQ
      refine hK _ _ ⟨HV3.out, ?_⟩
      clear hK K
      have hne : (EQ != EQ) = false := by simp
      iterate 2 (refine wpO_step0 rfl rfl (fun K hK => ?_); go_simp; refine hK _ _ ?_; clear hK K)
      refine wpO_loadW (t := 27) (ad := ⟨(g5+1), 0, none⟩) rfl rfl ?hw rfl rfl ((fun w0 hS => load_bat (blk_below HY5.out hS))) ?_
      case hw => go_simp
      refine wpO_loadW (t := 27) (ad := ⟨(w.heap.size+1+1), 0, none⟩) rfl rfl ?hw rfl rfl ((fun w0 hS => (HP3.out.all w0 (below_step HB5.out hS)).1)) ?_
      case hw => go_simp
      refine wpO_step2 rfl rfl (HV3.out) (fun K hK => ?_)
      go_simp
      refine (rsameb_any A4 m c4 b A2 m c2 b _ (HO5.out.2.below HV3.out) (HU.out.below (below_step HB5.out HV3.out)) OKU.out OKU.out (by omega) (by omega)).mono ?_
      rw [show updE.eqL b b = true from eqL_self updE b]
      rintro e v4 ⟨rfl, hb4⟩
      have HV4 := Lib.hid (below_step HV3.out hb4)
      clear hb4
      refine hK _ _ ⟨HV4.out, ?_⟩
      clear hK K
      iterate 2 (refine wpO_step0 rfl rfl (fun K hK => ?_); go_simp; refine hK _ _ ?_; clear hK K)
      refine wpO_nil ?_
      have HB6 := Lib.hid (below_step HB5.out HV4.out)
      have HX6 := Lib.hid (blk_below HX5.out HV4.out)
      have HY6 := Lib.hid (blk_below HY5.out HV4.out)
      have HO6 := Lib.hid (And.intro (HO5.out.1.below HV4.out) (HO5.out.2.below HV4.out))
      clear HV2 HV3 HV4 HX5 HY5 HO5 HB5
      go_wp2_with (first | ((with_reducible show wpList _ _ _ (Oper.mk _ (Op.load _ _) _ _ _ _ :: _) _ _); refine wpList_load_g ((HP3.out.all _ HB6.out).1) _ rfl rfl (by go_simp) ?_))
      refine (refbatch_any A2 m c2 b v4 (HU.out.below HB6.out) OKU.out (by omega)).mono ?_
      rintro e v5 ⟨rfl, hb5⟩
      have HB7 := Lib.hid (below_step HB6.out hb5)
      have HX7 := Lib.hid (blk_below HX6.out hb5)
      have HY7 := Lib.hid (blk_below HY6.out hb5)
      have HO7 := Lib.hid (And.intro (HO6.out.1.below hb5) (HO6.out.2.below hb5))
      clear hb5 HB6 HX6 HY6 HO6
      obtain ⟨RB, hRB⟩ : ∃ RB, batB b = RB := ⟨_, rfl⟩
      have HRBB := Lib.hid hRB
      rw [hRB]
      clear hRB
      go_upto_region 9 with fail
      try go_simp
      go_cut [56] (fun s wx => s = .bool false ∧ Hid (Below v5.heap.size v5 wx))
      case first =>
        cases RB with
        | true =>
          go_wp2_with (first | ((with_reducible show wpList _ _ _ (Oper.mk _ (Op.load _ _) _ _ _ _ :: _) _ _); refine wpList_load_g (load_bat HY7.out) _ rfl rfl (by go_simp) ?_))
          refine (rcheckb_any A4 m c4 b v5 (HL.out.below HB7.out) HO7.out.2 OKU.out (by omega)).mono ?_
          rintro e v6 ⟨rfl, hb6⟩
          rw [show batE b = 0 by unfold batE; rw [HRBB.out]; rfl]
          have HB67 := Lib.hid hb6
          clear hb6
          go_wp2_with fail
          go_meet
          exact ⟨rfl, HB67.out⟩
        | false =>
          go_wp2_with (first | ((with_reducible show wpList _ _ _ (Oper.mk _ (Op.load _ _) _ _ _ _ :: _) _ _); refine wpList_load_g (load_bat HY7.out) _ rfl rfl (by go_simp) ?_))
          refine (rcheckb_any A4 m c4 b v5 (HL.out.below HB7.out) HO7.out.2 OKU.out (by omega)).mono ?_
          rintro e v6 ⟨rfl, hb6⟩
          rw [show batE b = 210 by unfold batE; rw [HRBB.out]; rfl]
          have HB67 := Lib.hid hb6
          clear hb6
          go_wp2_with (first | ((with_reducible show wpList _ _ _ (Oper.mk _ (Op.load _ _) _ _ _ _ :: _) _ _); refine wpList_load_g (load_bat (blk_below HY7.out HB67.out)) _ rfl rfl (by go_simp) ?_))
          refine (rcheckb_any A4 m c4 b v6 (HL.out.below (below_step HB7.out HB67.out)) (HO7.out.2.below HB67.out) OKU.out (by omega)).mono ?_
          rintro e v7 ⟨rfl, hb7⟩
          rw [show batE b = 210 by unfold batE; rw [HRBB.out]; rfl]
          have HB77 := Lib.hid (below_step HB67.out hb7)
          clear hb7
          go_wp2_with fail
          go_meet
          exact ⟨rfl, HB77.out⟩
      case rest =>
        obtain ⟨rfl, HC⟩ := hcut
        obtain ⟨v8, rfl⟩ : ∃ v8, v8 = wc := ⟨wc, rfl⟩
        have HB8 := Lib.hid (below_step HB7.out HC.out)
        have HX8 := Lib.hid (blk_below HX7.out HC.out)
        have HO8 := Lib.hid (HO7.out.1.below HC.out)
        clear HC HX7 HY7 HO7 HB7
        go_wp2_with (first | ((with_reducible show wpList _ _ _ (Oper.mk _ (Op.load _ _) _ _ _ _ :: _) _ _); refine wpList_load_g (load_rib HX8.out) _ rfl rfl (by go_simp) ?_))
        refine (rbest_any A3 n c3 l v8 (HL.out.below HB8.out) HO8.out OK.out (by omega)).mono ?_
        rintro e v9 ⟨A9, n9, c9, rfl, hO9, hb9⟩
        have HO9 := Lib.hid hO9.reads
        have HB9 := Lib.hid (below_step HB8.out hb9)
        have HX9 := Lib.hid (blk_below HX8.out hb9)
        have HR9 := Lib.hid (HO8.out.below hb9)
        have HN9 := Lib.hid hO9.len
        clear hO9 hb9 HB8 HX8 HO8
        have HBAf := Lib.hid (fun (W : World) (h : (v9.alloc (.cells (tabV none 0 0) 39)).grownBy W (some v9.heap.size)) => below_grown (below_alloc (Below.refl v9.heap.size v9) (.cells (tabV none 0 0) 39)) h (Nat.le_refl _))
        go_wp2_with (first | ((with_reducible show wpList _ _ _ (Oper.mk _ (Op.store _ _ _) _ _ _ _ :: _) _ _); refine wpList_store_blk (blk_new v9 (.cells (tabV none 0 0) 39)) 39 0 (tabV A9 n9 c9) (Nat.le_refl _) (info_tab _ _ _) (tab_one _ _ _) _ _ rfl rfl rfl rfl ?_; intro v10 hg9 hs9 hb9; rw [splice_tab] at hb9; have H10 := Lib.hid (And.intro hg9 hb9); clear hg9 hs9 hb9) | ((with_reducible show wpList _ _ _ (Oper.mk _ (Op.load _ _) _ _ _ _ :: _) _ _); refine wpList_load_g ((HP1.out.all _ (below_step HB9.out (HBAf.out _ H10.out.1))).1) _ rfl rfl (by go_simp) ?_))
        have HB910 := Lib.hid (HBAf.out _ H10.out.1)
        have HB10 := Lib.hid (below_step HB9.out HB910.out)
        have HX10 := Lib.hid (blk_below HX9.out HB910.out)
        have HR10 := Lib.hid (HR9.out.below HB910.out)
        have HO10 := Lib.hid (HO9.out.below HB910.out)
        have HG10 := Lib.hid H10.out.2
        obtain ⟨g9, hg9⟩ : ∃ g, v9.heap.size = g := ⟨_, rfl⟩
        rw [hg9] at HG10 ⊢
        clear HBAf H10 HB910 HX9 HR9 HO9 hg9
        refine (refrib_any A n c l v10 (HR.out.below HB10.out) OK.out (by omega)).mono ?_
        rintro e v11 ⟨rfl, hb11⟩
        have HB11 := Lib.hid (below_step HB10.out hb11)
        have HX11 := Lib.hid (blk_below HX10.out hb11)
        have HR11 := Lib.hid (HR10.out.below hb11)
        have HO11 := Lib.hid (HO10.out.below hb11)
        have HG11 := Lib.hid (blk_below HG10.out hb11)
        clear hb11 HX10 HR10 HO10 HG10
        cases hrb : ribB l with
        | false =>
          have HE : Hid (ribE l = 211) := Lib.hid (by unfold ribE; rw [hrb]; rfl)
          have hn0 : n9 = 0 := by rw [← HN9.out]; unfold bestR; rw [hrb]; rfl
          subst hn0
          rw [HE.out]
          clear hrb
          go_wp2_with (first | ((with_reducible show wpList _ _ _ (Oper.mk _ (Op.load _ _) _ _ _ _ :: _) _ _); refine wpList_load_g (load_rib HX11.out) _ rfl rfl (by go_simp) ?_))
          refine (rcheck_any A3 n c3 l v11 (HL.out.below HB11.out) HR11.out OK.out (by omega)).mono ?_
          rintro e v12 ⟨rfl, hb12⟩
          rw [HE.out]
          have HB12 := Lib.hid (below_step HB11.out hb12)
          have HG12 := Lib.hid ((tab_at (blk_below HG11.out hb12)).all _ (Below.refl _ _)).2
          clear hb12
          go_wp2_with (first | ((with_reducible show wpList _ _ _ (Oper.mk _ (Op.load _ _) _ _ _ _ :: _) _ _); refine wpList_load_g (HG12.out) _ rfl rfl (by go_simp) ?_))
          go_ret
          exact ⟨rfl, below_step HBE.out HB12.out⟩
        | true =>
          have HE : Hid (ribE l = 0) := Lib.hid (by unfold ribE; rw [hrb]; rfl)
          have HBR : Hid (bestR l = bestT l) := Lib.hid (by unfold bestR; rw [hrb]; rfl)
          have HRB := Lib.hid hrb
          have hn9 : n9 ≤ 40 := by
            rw [← HN9.out, HBR.out]
            have h1 := best_len OK.out.fits (rib_to hrb).2.1
            have h2 := (rib_to hrb).2.2
            omega
          rw [HE.out]
          clear hrb
          go_upto_region 14 with fail
          refine wp_region_mix (fun w0 => Below (v11).heap.size (v11) w0) [(0, 0), (1, 2), (2, 0), (3, 0), (4, 0), (5, 0), (6, 0), (7, 0), (8, 0), (9, 0), (10, 2), (11, 2), (12, 0), (13, 0)] (by kernel_rfl) (by kernel_rfl) (below_drew1 _) ?_
          simp only [List.map_cons, List.map_nil]
          refine wpO_loadW (t := 24) (ad := ⟨g5, 0, none⟩) rfl rfl ?hw rfl rfl ((fun w0 hS => load_rib (blk_below HX11.out hS))) ?_
          case hw => go_simp
          refine wpO_step2 rfl rfl (below_drew1 _) (fun K hK => ?_)
          go_simp
          refine (rcheck_any A3 n c3 l _ (HL.out.below (below_step HB11.out (below_drew1 _))) (HR11.out.below (below_drew1 _)) OK.out (by omega)).mono ?_
          rw [HE.out]
          rintro e v12 ⟨rfl, hb12⟩
          have HV12 := Lib.hid (below_step (below_drew1 v11) hb12)
          clear hb12
          refine hK _ _ ⟨HV12.out, ?_⟩
          clear hK K
          iterate 6 (refine wpO_step0 rfl rfl (fun K hK => ?_); go_simp; refine hK _ _ ?_; clear hK K)
          refine wpO_loadW (t := 39) (ad := ⟨g9, 0, none⟩) rfl rfl ?hw rfl rfl ((fun w0 hS => load_tab (blk_below HG11.out hS))) ?_
          case hw => go_simp
          refine wpO_loadW (t := 24) (ad := ⟨w.heap.size, 0, none⟩) rfl rfl ?hw rfl rfl ((fun w0 hS => (HP1.out.all w0 (below_step HB11.out hS)).1)) ?_
          case hw => go_simp
          refine wpO_step2 rfl rfl (HV12.out) (fun K hK => ?_)
          go_simp
          refine (refbest_any A n c l _ (HR.out.below (below_step HB11.out HV12.out)) OK.out HRB.out).mono ?_
          rintro e v13 ⟨A13, n13, c13, rfl, hO13, hb13⟩
          have HV13 := Lib.hid (below_step HV12.out hb13)
          have HO13 := Lib.hid hO13.reads
          have HN13 : Hid (n13 = n9) := Lib.hid (by have h1 := hO13.len; have h2 := HN9.out; rw [HBR.out] at h2; omega)
          clear hO13 hb13
          refine hK _ _ ⟨HV13.out, ?_⟩
          clear hK K
          refine wpO_step2 rfl rfl (HV13.out) (fun K hK => ?_)
          go_simp
          have HOB := Lib.hid (oks_bk OK.out l.length)
          rw [bk_all] at HOB
          refine (refsameT_any A9 n9 c9 (bestT l) A13 n13 c13 (bestT l) _ (by rw [← HBR.out]; exact HO11.out.below HV13.out) HO13.out HOB.out HOB.out (by omega) (by rw [HN13.out]; omega)).mono ?_
          rw [show rowE.eqL (bestT l) (bestT l) = true from eqL_self rowE _]
          rintro e v14 ⟨rfl, hb14⟩
          have HV14 := Lib.hid (below_step HV13.out hb14)
          clear hb14
          refine hK _ _ ⟨HV14.out, ?_⟩
          clear hK K
          iterate 2 (refine wpO_step0 rfl rfl (fun K hK => ?_); go_simp; refine hK _ _ ?_; clear hK K)
          refine wpO_nil ?_
          go_wp2_with fail
          go_ret
          exact ⟨rfl, below_step HBE.out (below_step HB11.out HV14.out)⟩
end Go.Proofs.YtnpeedmicjeleaaDoor

/- The walk of RouteTells, as the row asks it. -/
namespace Go.Proofs.YtnpeedmicjeleaaDoor
open Go.RowKit
set_option linter.unusedVariables false
set_option linter.unusedSimpArgs false
set_option maxRecDepth 4000
theorem routeTells_walk (A : Option Addr) (n c : Nat) (l : List Rte) (B : Option Addr) (k d : Nat) (l2 : List Rte) (A2 : Option Addr) (m c2 : Nat) (b : List Upd) (w : World) (hL : Laid w) (hr : RS rteK w A n c l) (ok : ∀ a ∈ l, a.ok) (h0 : n * 56 ≤ 140737488351232) (hs : RS rteK w B k d l2) (ok2 : ∀ a ∈ l2, a.ok) (h1 : k * 56 ≤ 140737488351232) (hu : RS updK w A2 m c2 b) (oku : ∀ a ∈ b, a.ok) (h2 : m * 64 ≤ 140737488351232) : Calls Tryd.prog 6 #[.agg (tabV A n c), .agg (tabV B k d), .agg (tabV A2 m c2)] w fun e w' => e = .returned (.bool true) ∧ Below w.heap.size w w' := tells11_any A n c l B k d l2 A2 m c2 b w hL hr ok hs ok2 hu oku
end Go.Proofs.YtnpeedmicjeleaaDoor
