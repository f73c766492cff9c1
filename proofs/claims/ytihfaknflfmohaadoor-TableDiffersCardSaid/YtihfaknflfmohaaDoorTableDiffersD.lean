/- Layer 9 (table): the document's Same and Get. -/
import Derived.IntWalk
import Derived.LoopIn
import Derived.LoopNIn
import Derived.OwnWalkIn
import Derived.RangeFuncBound
import Derived.RangeFuncCalls
import Derived.RangeFuncFrom
import Derived.RangeFuncLeaves
import Derived.RangeFuncNested
import Derived.Shelf.Abstract
import Derived.Shelf.RegionOpen
import Derived.TacticsInMore
import Derived.WalkKit
import Derived.Test.YtihfaknflfmohaaDoorTableDiffersA
import Derived.Test.YtihfaknflfmohaaDoorTableDiffersB
import Derived.Test.YtihfaknflfmohaaDoorTableDiffersC
namespace Go.Proofs.YtihfaknflfmohaaDoor
open Go.RowKit
set_option linter.unusedVariables false
set_option linter.unusedSimpArgs false
set_option maxRecDepth 4000
set_option maxHeartbeats 2000000 in
theorem refsameT_any (A : Option Addr) (n c : Nat) (t : List Row) (A2 : Option Addr) (m c2 : Nat) (u : List Row) (w : World) (ht : RT w A n c t) (hu : RT w A2 m c2 u) (ot : Oks t) (ou : Oks u) (hn : n ≤ 100000) (hm : m ≤ 100000) :
    Calls Tryd.prog 43 #[.agg (tabV A n c), .agg (tabV A2 m c2)] w fun e w' => e = .returned (.bool (rowE.eqL t u)) ∧ Below w.heap.size w w' := by
  have hblk1 := blk_new w (.cells (tabV A n c) 28)
  have hbel1 : Below w.heap.size w (w.alloc (.cells (tabV A n c) 28)) := below_alloc (Below.refl _ _) _
  have hblk2 := blk_new (w.alloc (.cells (tabV A n c) 28)) (.cells (tabV A2 m c2) 28)
  have hbel2 : Below w.heap.size w ((w.alloc (.cells (tabV A n c) 28)).alloc (.cells (tabV A2 m c2) 28)) := below_alloc (hbel1) _
  rw [show (w.alloc (.cells (tabV A n c) 28)).heap.size = w.heap.size + 1 by simp] at hblk2
  replace hblk1 := blk_below hblk1 (below_alloc (Below.refl _ _) (.cells (tabV A2 m c2) 28))
  have HP1 := Lib.hid (tab_at hblk1)
  have HBK1 := Lib.hid hblk1
  have HP2 := Lib.hid (tab_at hblk2)
  have HBK2 := Lib.hid hblk2
  have HBE := Lib.hid hbel2
  obtain ⟨cs1, hcs1⟩ : ∃ cs, tabV A n c = cs := ⟨_, rfl⟩
  obtain ⟨cs2, hcs2⟩ : ∃ cs, tabV A2 m c2 = cs := ⟨_, rfl⟩
  simp only [hcs1, hcs2] at HBE HP1 HP2 HBK1 HBK2 ⊢
  have HC1 := Lib.hid hcs1
  have HC2 := Lib.hid hcs2
  clear hcs1 hblk1 hbel1 hcs2 hblk2 hbel2
  have H1 := Lib.hid (ht.below HBE.out)
  have H2 := Lib.hid (hu.below HBE.out)
  have O1 := Lib.hid ot
  have O2 := Lib.hid ou
  have hl1 := (HP1.out.all _ (Below.refl _ _)).2
  have hl2 := (HP2.out.all _ (Below.refl _ _)).2
  clear ht hu ot ou
  by_cases hnm : n = m
  · subst hnm
    have HLEN := Lib.hid (show t.length = u.length by rw [H1.out.len, H2.out.len])
    go_enter Tryd.func43, Tryd.ntmps43
    go_wp2_with (first | ((with_reducible show wpList _ _ _ (Oper.mk _ (Op.load _ _) _ _ _ _ :: _) _ _); refine wpList_load_g hl1 _ rfl rfl (by go_simp) ?_) | ((with_reducible show wpList _ _ _ (Oper.mk _ (Op.load _ _) _ _ _ _ :: _) _ _); refine wpList_load_g hl2 _ rfl rfl (by go_simp) ?_))
    clear hl1 hl2
    go_loopw [5] (fun x wr => ∃ i : Nat, x = .int .i64 i ∧ Hid (i ≤ n ∧ (∀ k, k < i → rowE.eqB (rowAt t k) (rowAt u k) = true) ∧ Below ((w.alloc (.cells cs1 28)).alloc (.cells cs2 28)).heap.size ((w.alloc (.cells cs1 28)).alloc (.cells cs2 28)) wr)) (fun x _ => n - (intOf x).toNat)
    case atStart => exact ⟨0, rfl, Nat.zero_le _, fun k h => by omega, Below.refl _ _⟩
    case round =>
      obtain ⟨i, rfl, HH⟩ := hrel
      have hl1 := (HP1.out.all wr HH.out.2.2).2
      by_cases hlt : i < n
      · have hlt' : (i : Int) < n := by omega
        obtain ⟨b, o, rfl, hc⟩ := RT.at_ H1.out (by omega)
        obtain ⟨b2, o2, rfl, hc2⟩ := RT.at_ H2.out (by omega)
        have HC3 := Lib.hid (hc i hlt)
        have HC4 := Lib.hid (hc2 i hlt)
        clear hc hc2
        go_wp2_with (first | ((with_reducible show wpList _ _ _ (Oper.mk _ (Op.load _ _) _ _ _ _ :: _) _ _); refine wpList_load_g hl1 _ rfl rfl (by go_simp) ?_))
        refine wp_region_mix (fun w0 => Below (wr).heap.size (wr) w0) [(0, 0), (1, 0), (2, 0), (3, 0), (4, 0), (5, 0), (6, 0), (7, 0), (8, 0), (9, 0), (10, 0)] (by kernel_rfl) (by kernel_rfl) (below_drew1 _) ?_
        simp only [List.map_cons, List.map_nil]
        iterate 1 (refine wpO_step0 rfl rfl (fun K hK => ?_); go_simp; refine hK _ _ ?_; clear hK K)
        refine wpO_loadW (t := 26) (ad := ⟨w.heap.size, 0, none⟩) rfl rfl ?hw rfl rfl ((fun w0 hS => (HP1.out.all w0 (below_step HH.out.2.2 hS)).2)) ?_
        case hw => go_simp
        iterate 2 (refine wpO_step0 rfl rfl (fun K hK => ?_); go_simp; refine hK _ _ ?_; clear hK K)
        refine wpO_loadW (t := 38) (ad := ⟨b, (o+i*19), none⟩) rfl rfl ?hw rfl rfl ((fun w0 hS => Shape.ld rowK w0 b _ _ (H1.out.fits_at hlt) (HC3.out.below (below_step HH.out.2.2 hS)))) ?_
        case hw => go_simp
        iterate 1 (refine wpO_step0 rfl rfl (fun K hK => ?_); go_simp; refine hK _ _ ?_; clear hK K)
        refine wpO_loadW (t := 26) (ad := ⟨(w.heap.size+1), 0, none⟩) rfl rfl ?hw rfl rfl ((fun w0 hS => (HP2.out.all w0 (below_step HH.out.2.2 hS)).2)) ?_
        case hw => go_simp
        iterate 2 (refine wpO_step0 rfl rfl (fun K hK => ?_); go_simp; refine hK _ _ ?_; clear hK K)
        refine wpO_loadW (t := 38) (ad := ⟨b2, (o2+i*19), none⟩) rfl rfl ?hw rfl rfl ((fun w0 hS => Shape.ld rowK w0 b2 _ _ (H2.out.fits_at hlt) (HC4.out.below (below_step HH.out.2.2 hS)))) ?_
        case hw => go_simp
        refine wpO_step0 rfl rfl (fun K hK => ?_)
        rw [if_pos (show Region.wanted _ _ = true from rfl)]
        refine ⟨_, fun w0 => ShapeEq.neq rowE rfl (rowAt t i) (rowAt u i) rfl rfl (ShapeEq.all_at (E := rowE) O1.out (by rw [H1.out.len]; exact hlt)) (ShapeEq.all_at (E := rowE) O2.out (by rw [H2.out.len]; exact hlt)) w0, hK _ _ ?_⟩
        clear hK K
        refine wpO_nil ?_
        cases hq : rowE.eqB (rowAt t i) (rowAt u i) with
        | true =>
          have HQ := Lib.hid hq
          clear hq
          go_wp2_with fail
          go_roundw
          case measure => simp [intOf]; omega
          case rel =>
            refine ⟨i + 1, by go_num, by omega, fun k hk => ?_, below_step HH.out.2.2 (below_drew1 _)⟩
            by_cases hki : k < i
            · exact HH.out.2.1 k hki
            · rw [show k = i by omega]; exact HQ.out
        | false =>
          have HE : Hid (rowE.eqL t u = false) := Lib.hid (ShapeEq.eqL_no (by rw [H1.out.len]; exact hlt) (by rw [H2.out.len]; exact hlt) hq)
          clear hq
          go_wp2
          go_ret
          rw [HE.out]
          exact ⟨rfl, below_step HBE.out (below_step HH.out.2.2 (below_drew1 _))⟩
      · have hlt' : decide (i < n) = false := decide_eq_false hlt
        have HE : Hid (rowE.eqL t u = true) := Lib.hid (ShapeEq.eqL_yes HLEN.out (fun k hk => HH.out.2.1 k (by rw [H1.out.len] at hk; have := HH.out.1; omega)))
        clear hlt
        go_wp2_with (first | ((with_reducible show wpList _ _ _ (Oper.mk _ (Op.load _ _) _ _ _ _ :: _) _ _); refine wpList_load_g hl1 _ rfl rfl (by go_simp) ?_))
        go_ret
        rw [HE.out]
        exact ⟨rfl, below_step HBE.out HH.out.2.2⟩
  · have HE : Hid (rowE.eqL t u = false) := Lib.hid (ShapeEq.eqL_len (by rw [H1.out.len, H2.out.len]; exact hnm))
    have hnm' : (n == m) = false := by simpa using hnm
    clear hnm
    go_enter Tryd.func43, Tryd.ntmps43
    go_wp2_with (first | ((with_reducible show wpList _ _ _ (Oper.mk _ (Op.load _ _) _ _ _ _ :: _) _ _); refine wpList_load_g hl1 _ rfl rfl (by go_simp) ?_) | ((with_reducible show wpList _ _ _ (Oper.mk _ (Op.load _ _) _ _ _ _ :: _) _ _); refine wpList_load_g hl2 _ rfl rfl (by go_simp) ?_))
    go_ret
    rw [HE.out]
    exact ⟨rfl, HBE.out⟩
theorem eqP_eqB (p q : Pfx) : eqP p q = p.eqB q := rfl
theorem find_take {t : List Row} {p : Pfx} {i : Nat} (hi : i < t.length) (h : ∀ k, k < i → eqP (rowAt t k).p p = false) (h2 : eqP (rowAt t i).p p = true) : getR t p = (rowAt t i).h := by
  unfold getR
  have : t.find? (fun r => eqP r.p p) = some (rowAt t i) := by
    rw [List.find?_eq_some_iff_getElem]
    refine ⟨h2, i, hi, ?_, fun j hj => ?_⟩
    · have := rowAt_get hi
      rw [List.getElem?_eq_getElem hi] at this
      exact Option.some.inj this
    · have h3 := h j hj
      have h4 := rowAt_get (t := t) (i := j) (by omega)
      rw [List.getElem?_eq_getElem (by omega)] at h4
      rw [Option.some.inj h4]
      simp [h3]
  rw [this]
theorem find_none {t : List Row} {p : Pfx} (h : ∀ k, k < t.length → eqP (rowAt t k).p p = false) : getR t p = 0 := by
  unfold getR
  have : t.find? (fun r => eqP r.p p) = none := by
    rw [List.find?_eq_none]
    intro x hx
    obtain ⟨i, hi, rfl⟩ := List.getElem_of_mem hx
    have h4 := rowAt_get hi
    rw [List.getElem?_eq_getElem hi] at h4
    rw [Option.some.inj h4, h i hi]
    simp
  rw [this]
set_option maxHeartbeats 2000000 in
theorem refget_any (A : Option Addr) (n c : Nat) (t : List Row) (p : Pfx) (w : World) (ht : RT w A n c t) (ot : Oks t) (hpo : p.ok) (hn : n ≤ 100000) : Calls Tryd.prog 45 #[.agg (tabV A n c), .agg (pfxV p.v p.l p.b)] w fun e w' => e = .returned (.int .i64 (getR t p)) ∧ Below w.heap.size w w' := by
  have hp := hpo.l
  have hblk1 := blk_new w (.cells (tabV A n c) 28)
  have hbel1 : Below w.heap.size w (w.alloc (.cells (tabV A n c) 28)) := below_alloc (Below.refl _ _) _
  have hblk2 := blk_new (w.alloc (.cells (tabV A n c) 28)) (.cells (pfxV p.v p.l p.b) 36)
  have hbel2 : Below w.heap.size w ((w.alloc (.cells (tabV A n c) 28)).alloc (.cells (pfxV p.v p.l p.b) 36)) := below_alloc (hbel1) _
  rw [show (w.alloc (.cells (tabV A n c) 28)).heap.size = w.heap.size + 1 by simp] at hblk2
  replace hblk1 := blk_below hblk1 (below_alloc (Below.refl _ _) (.cells (pfxV p.v p.l p.b) 36))
  have HP1 := Lib.hid (tab_at hblk1)
  have HBK1 := Lib.hid hblk1
  have HP2 := Lib.hid (pfx_at hp hblk2)
  have HBK2 := Lib.hid hblk2
  have HBE := Lib.hid hbel2
  obtain ⟨cs1, hcs1⟩ : ∃ cs, tabV A n c = cs := ⟨_, rfl⟩
  obtain ⟨cs2, hcs2⟩ : ∃ cs, pfxV p.v p.l p.b = cs := ⟨_, rfl⟩
  simp only [hcs1, hcs2] at HBE HP1 HP2 HBK1 HBK2 ⊢
  have HC1 := Lib.hid hcs1
  have HC2 := Lib.hid hcs2
  clear hcs1 hblk1 hbel1 hcs2 hblk2 hbel2
  have HT := Lib.hid (ht.below HBE.out)
  have OT := Lib.hid ot
  clear ht ot
  go_enter Tryd.func45, Tryd.ntmps45
  go_wp2_with fail
  go_loopw [5] (fun x wr => ∃ i : Nat, x = .int .i64 i ∧ Hid (i ≤ n ∧ (∀ k, k < i → eqP (rowAt t k).p p = false) ∧ Below ((w.alloc (.cells cs1 28)).alloc (.cells cs2 36)).heap.size ((w.alloc (.cells cs1 28)).alloc (.cells cs2 36)) wr)) (fun x _ => n - (intOf x).toNat)
  case atStart => exact ⟨0, rfl, Nat.zero_le _, fun k h => by omega, Below.refl _ _⟩
  case round =>
    obtain ⟨i, rfl, HH⟩ := hrel
    have hl1 := (HP1.out.all wr HH.out.2.2).2
    by_cases hlt : i < n
    · have hlt' : (i : Int) < n := by omega
      obtain ⟨b, o, rfl, hc⟩ := RT.at_ HT.out (by omega)
      have HC3 := Lib.hid (hc i hlt)
      have HF := Lib.hid (RT.fits_at HT.out hlt)
      have HO := Lib.hid (OT.out.at_ (i := i) (by rw [HT.out.len]; exact hlt)).p
      clear hc
      go_wp2_with (first | ((with_reducible show wpList _ _ _ (Oper.mk _ (Op.load _ _) _ _ _ _ :: _) _ _); refine wpList_load_g hl1 _ rfl rfl (by go_simp) ?_))
      refine wp_region_mix (fun w0 => Below (wr).heap.size (wr) w0) [(0, 0), (1, 0), (2, 0), (3, 0), (4, 0), (5, 0), (6, 0), (7, 0)] (by kernel_rfl) (by kernel_rfl) (below_drew1 _) ?_
      simp only [List.map_cons, List.map_nil]
      iterate 1 (refine wpO_step0 rfl rfl (fun K hK => ?_); go_simp; refine hK _ _ ?_; clear hK K)
      refine wpO_loadW (t := 26) (ad := ⟨w.heap.size, 0, none⟩) rfl rfl ?hw rfl rfl ((fun w0 hS => (HP1.out.all w0 (below_step HH.out.2.2 hS)).2)) ?_
      case hw => go_simp
      iterate 3 (refine wpO_step0 rfl rfl (fun K hK => ?_); go_simp; refine hK _ _ ?_; clear hK K)
      refine wpO_loadW (t := 36) (ad := ⟨b, (o+i*19), none⟩) rfl rfl ?hw rfl rfl ((fun w0 hS => (rowLd_of HF.out (HC3.out.below (below_step HH.out.2.2 hS))).pfx)) ?_
      case hw => go_simp
      refine wpO_loadW (t := 36) (ad := ⟨(w.heap.size+1), 0, none⟩) rfl rfl ?hw rfl rfl ((fun w0 hS => (HP2.out.all w0 (below_step HH.out.2.2 hS)).2.2.2.2)) ?_
      case hw => go_simp
      rw [← HC2.out]
      refine wpO_step0 rfl rfl (fun K hK => ?_)
      rw [if_pos (show Region.wanted _ _ = true from rfl)]
      refine ⟨_, fun w0 => pfx_eql_exec rfl (rowAt t i).p p rfl rfl HO.out hpo w0, hK _ _ ?_⟩
      clear hK K
      refine wpO_nil ?_
      rw [HC2.out]
      cases hq : (rowAt t i).p.eqB p with
      | true =>
        have HE := Lib.hid (find_take (by rw [HT.out.len]; exact hlt) HH.out.2.1 hq)
        have hl2 := (HP1.out.all wr.drew (below_step HH.out.2.2 (below_drew1 _))).2
        have hl3 := (rowLd_of HF.out (HC3.out.below (below_step HH.out.2.2 (below_drew1 _)))).hop
        clear hq
        go_wp2_with (first | ((with_reducible show wpList _ _ _ (Oper.mk _ (Op.load _ _) _ _ _ _ :: _) _ _); refine wpList_load_g hl2 _ rfl rfl (by go_simp) ?_) | ((with_reducible show wpList _ _ _ (Oper.mk _ (Op.load _ _) _ _ _ _ :: _) _ _); refine wpList_load_g hl3 _ rfl rfl (by go_simp) ?_))
        go_ret
        rw [HE.out]
        exact ⟨rfl, below_step HBE.out (below_step HH.out.2.2 (below_drew1 _))⟩
      | false =>
        have HQ := Lib.hid hq
        clear hq
        go_wp2_with fail
        go_roundw
        case measure => simp [intOf]; omega
        case rel =>
          refine ⟨i + 1, by go_num, by omega, fun k hk => ?_, below_step HH.out.2.2 (below_drew1 _)⟩
          by_cases hki : k < i
          · exact HH.out.2.1 k hki
          · rw [show k = i by omega]; exact HQ.out
    · have hlt' : decide (i < n) = false := decide_eq_false hlt
      have HE := Lib.hid (find_none (t := t) (p := p) (fun k hk => HH.out.2.1 k (by rw [HT.out.len] at hk; have := HH.out.1; omega)))
      clear hlt
      go_wp2_with (first | ((with_reducible show wpList _ _ _ (Oper.mk _ (Op.load _ _) _ _ _ _ :: _) _ _); refine wpList_load_g hl1 _ rfl rfl (by go_simp) ?_))
      go_ret
      rw [HE.out]
      exact ⟨rfl, below_step HBE.out HH.out.2.2⟩
end Go.Proofs.YtihfaknflfmohaaDoor

/- The document's answer for layer 5: Has, Holds. -/
namespace Go.Proofs.YtihfaknflfmohaaDoor
open Go.RowKit
set_option linter.unusedVariables false
set_option linter.unusedSimpArgs false
set_option maxRecDepth 4000

set_option maxHeartbeats 2000000 in
theorem refhas_any (p : Pfx) (v : Int) (l : List Int) (w : World) (hp : B16 p.l) (hl : B16 l) (hb1 : p.b ≤ 9223372036854775807) : Calls Tryd.prog 69 #[.agg (pfxV p.v p.l p.b), .agg (adrV v l)] w fun e w' => e = .returned (.bool (p.has v l)) ∧ Below w.heap.size w w' := by
  have hblk1 := blk_new w (.cells (pfxV p.v p.l p.b) 36)
  have hbel1 : Below w.heap.size w (w.alloc (.cells (pfxV p.v p.l p.b) 36)) := below_alloc (Below.refl _ _) _
  have hblk2 := blk_new (w.alloc (.cells (pfxV p.v p.l p.b) 36)) (.cells (adrV v l) 31)
  have hbel2 : Below w.heap.size w ((w.alloc (.cells (pfxV p.v p.l p.b) 36)).alloc (.cells (adrV v l) 31)) := below_alloc (hbel1) _
  rw [show (w.alloc (.cells (pfxV p.v p.l p.b) 36)).heap.size = w.heap.size + 1 by simp] at hblk2
  replace hblk1 := blk_below hblk1 (below_alloc (Below.refl _ _) (.cells (adrV v l) 31))
  have HP1 := Lib.hid (pfx_at hp hblk1)
  have HBK1 := Lib.hid hblk1
  have HP2 := Lib.hid (adr_at hl hblk2)
  have HBK2 := Lib.hid hblk2
  have HBE := Lib.hid hbel2
  obtain ⟨cs1, hcs1⟩ : ∃ cs, pfxV p.v p.l p.b = cs := ⟨_, rfl⟩
  obtain ⟨cs2, hcs2⟩ : ∃ cs, adrV v l = cs := ⟨_, rfl⟩
  simp only [hcs1, hcs2] at HBE HP1 HP2 HBK1 HBK2 ⊢
  have HC1 := Lib.hid hcs1
  have HC2 := Lib.hid hcs2
  clear hcs1 hblk1 hbel1 hcs2 hblk2 hbel2
  have hl1 := (HP1.out.all _ (Below.refl _ _)).2.2.2.2
  go_enter Tryd.func69, Tryd.ntmps69
  go_wp2_with ((with_reducible show wpList _ _ _ (Oper.mk _ (Op.load _ _) _ _ _ _ :: _) _ _); refine wpList_load_g hl1 _ rfl rfl (by go_simp) ?_)
  refine (right_any p.v p.l p.b _ hp hb1).mono ?_
  rintro e w1 ⟨rfl, hbb1⟩
  have HB1 := Lib.hid hbb1
  clear hbb1 hl1
  cases hR : rightP p.v p.l p.b with
  | false =>
    have HE := Lib.hid (show p.has v l = false by unfold Pfx.has Pfx.right; rw [hR]; rfl)
    clear hR
    go_wp2
    go_ret
    rw [HE.out]
    exact ⟨rfl, below_step HBE.out HB1.out⟩
  | true =>
    have hla := (HP2.out.all w1 HB1.out).1
    go_wp2_with ((with_reducible show wpList _ _ _ (Oper.mk _ (Op.load _ _) _ _ _ _ :: _) _ _); refine wpList_load_g hla _ rfl rfl (by go_simp) ?_)
    refine (rightAddr_any v l w1 hl).mono ?_
    rintro e w2 ⟨rfl, hbb2⟩
    have HB2 := Lib.hid (below_step HB1.out hbb2)
    clear hbb2 hla
    cases hA : rightA v l with
    | false =>
      have HE := Lib.hid (show p.has v l = false by unfold Pfx.has; rw [hA]; cases p.right <;> rfl)
      clear hR hA
      go_wp2
      go_ret
      rw [HE.out]
      exact ⟨rfl, below_step HBE.out HB2.out⟩
    | true =>
      have hlv := (HP1.out.all w2 HB2.out).2.2.1
      have hlw := (HP2.out.all w2 HB2.out).2.1
      by_cases hv : p.v = v
      · have hne : (p.v != v) = false := by simp [hv]
        have HIF := Lib.hid (p.has_iff v l hp hl)
        have HRA := Lib.hid (And.intro (show p.right = true from hR) (And.intro hA hv))
        have hwl := widthA_le p.v
        have hb128 : p.b ≤ 128 := by have := (p.right_iff.1 hR).2.2.1; omega
        have hb0 := (p.right_iff.1 hR).2.1
        clear hR hA hv hwl hb1
        obtain ⟨k, hk⟩ := Int.eq_ofNat_of_zero_le hb0
        have HK := Lib.hid hk
        go_wp2_with (first | ((with_reducible show wpList _ _ _ (Oper.mk _ (Op.load _ _) _ _ _ _ :: _) _ _); refine wpList_load_g hlv _ rfl rfl (by go_simp) ?_) | ((with_reducible show wpList _ _ _ (Oper.mk _ (Op.load _ _) _ _ _ _ :: _) _ _); refine wpList_load_g hlw _ rfl rfl (by go_simp) ?_))
        clear hlv hlw hk
        go_loopw [5] (fun i wr => ∃ m : Nat, i = .int .i64 m ∧ Hid ((∀ j : Nat, j < m → bitA p.l j = bitA l j) ∧ Below ((w.alloc (.cells cs1 36)).alloc (.cells cs2 31)).heap.size ((w.alloc (.cells cs1 36)).alloc (.cells cs2 31)) wr)) (fun i _ => 128 - (intOf i).toNat)
        case atStart => exact ⟨0, rfl, fun j h => by omega, HB2.out⟩
        case round =>
          obtain ⟨m, rfl, HH⟩ := hrel
          have hlb := (HP1.out.all wr HH.out.2).2.1
          by_cases hlt : (m : Int) < p.b
          · have hm0 : (0 : Int) ≤ m := by omega
            have hm1 : (m : Int) < 128 := by omega
            go_wp2_with ((with_reducible show wpList _ _ _ (Oper.mk _ (Op.load _ _) _ _ _ _ :: _) _ _); refine wpList_load_g hlb _ rfl rfl (by go_simp) ?_)
            refine wp_region_mix (fun w0 => Below (wr).heap.size (wr) w0) [(0, 0), (1, 0), (2, 0), (3, 0), (5, 0), (6, 0), (7, 0), (4, 2), (8, 2), (9, 0)] (by kernel_rfl) (by kernel_rfl) (below_drew1 _) ?_
            simp only [List.map_cons, List.map_nil]
            iterate 2 (refine wpO_step0 rfl rfl (fun K hK => ?_); go_simp; refine hK _ _ ?_; clear hK K)
            refine wpO_loadW (t := 29) (ad := ⟨w.heap.size, 1, none⟩) rfl rfl ?hw rfl rfl ((fun w0 hS => (HP1.out.all w0 (below_step HH.out.2 hS)).2.2.2.1)) ?_
            case hw => go_simp
            iterate 2 (refine wpO_step0 rfl rfl (fun K hK => ?_); go_simp; refine hK _ _ ?_; clear hK K)
            refine wpO_loadW (t := 29) (ad := ⟨(w.heap.size + 1), 1, none⟩) rfl rfl ?hw rfl rfl ((fun w0 hS => (HP2.out.all w0 (below_step HH.out.2 hS)).2.2)) ?_
            case hw => go_simp
            iterate 1 (refine wpO_step0 rfl rfl (fun K hK => ?_); go_simp; refine hK _ _ ?_; clear hK K)
            refine wpO_step2 rfl rfl (below_drew1 _) (fun K hK => ?_)
            go_simp
            refine (refat_any p.l m _ hp hm0 hm1).mono ?_
            rintro e w3 ⟨rfl, hbb3⟩
            rw [show (m : Int).toNat = m by omega]
            have HB3 := Lib.hid (below_step (below_drew1 _) hbb3)
            clear hbb3
            refine hK _ _ ⟨HB3.out, ?_⟩
            clear hK K
            refine wpO_step2 rfl rfl (HB3.out) (fun K hK => ?_)
            go_simp
            refine (refat_any l m _ hl hm0 hm1).mono ?_
            rintro e w4 ⟨rfl, hbb4⟩
            rw [show (m : Int).toNat = m by omega]
            have HB4 := Lib.hid (below_step HB3.out hbb4)
            clear hbb4
            refine hK _ _ ⟨HB4.out, ?_⟩
            clear hK K
            by_cases hq : bitA p.l m = bitA l m
            · have hqb : (bitA p.l m != bitA l m) = false := by simp [hq]
              have HQ := Lib.hid hq
              clear hq hlb
              iterate 1 (refine wpO_step0 rfl rfl (fun K hK => ?_); go_simp; refine hK _ _ ?_; clear hK K)
              refine wpO_nil ?_
              go_wp2
              go_roundw
              case measure => simp [intOf]; omega
              case rel =>
                refine ⟨m + 1, by go_num, fun j hj => ?_, below_step HH.out.2 HB4.out⟩
                by_cases hj' : j < m
                · exact HH.out.1 j hj'
                · rw [show j = m by omega]
                  exact HQ.out
            · have hqb : (bitA p.l m != bitA l m) = true := by simpa using hq
              have HE := Lib.hid (show p.has v l = false by
                rw [Bool.eq_false_iff]
                intro h
                exact hq ((HIF.out.1 h).2.2.2 m (by omega) hlt))
              clear hq hlb
              iterate 1 (refine wpO_step0 rfl rfl (fun K hK => ?_); go_simp; refine hK _ _ ?_; clear hK K)
              refine wpO_nil ?_
              go_wp2
              go_ret
              rw [HE.out]
              exact ⟨rfl, below_step HBE.out (below_step HH.out.2 HB4.out)⟩
          · have hm1 : decide ((m : Int) < p.b) = false := decide_eq_false hlt
            have HE := Lib.hid (show p.has v l = true from HIF.out.2 ⟨HRA.out.1, HRA.out.2.1, HRA.out.2.2, fun j _ hj => HH.out.1 j (by omega)⟩)
            clear hlt
            go_wp2_with ((with_reducible show wpList _ _ _ (Oper.mk _ (Op.load _ _) _ _ _ _ :: _) _ _); refine wpList_load_g hlb _ rfl rfl (by go_simp) ?_)
            go_ret
            rw [HE.out]
            exact ⟨rfl, below_step HBE.out HH.out.2⟩
      · have hne : (p.v != v) = true := by simpa using hv
        have HE := Lib.hid (show p.has v l = false by unfold Pfx.has; rw [decide_eq_false hv]; cases p.right <;> cases rightA v l <;> rfl)
        clear hR hA hv
        go_wp2_with (first | ((with_reducible show wpList _ _ _ (Oper.mk _ (Op.load _ _) _ _ _ _ :: _) _ _); refine wpList_load_g hlv _ rfl rfl (by go_simp) ?_) | ((with_reducible show wpList _ _ _ (Oper.mk _ (Op.load _ _) _ _ _ _ :: _) _ _); refine wpList_load_g hlw _ rfl rfl (by go_simp) ?_))
        go_ret
        rw [HE.out]
        exact ⟨rfl, below_step HBE.out HB2.out⟩

end Go.Proofs.YtihfaknflfmohaaDoor

/- Layer 9 (table): the longest match, by the document. -/
namespace Go.Proofs.YtihfaknflfmohaaDoor
open Go.RowKit
set_option linter.unusedVariables false
set_option linter.unusedSimpArgs false
set_option maxRecDepth 4000
def longR (t : List Row) (v : Int) (l : List Int) : Row := (longest t v l).getD rowZ
def longB (t : List Row) (v : Int) (l : List Int) : Bool := (longest t v l).isSome
theorem long_top {t : List Row} {v : Int} {l : List Int} {r : Row} (ht : rising t = true) (h : Top t v l r) : longR t v l = r ∧ longB t v l = true := by
  unfold longR longB
  rw [(longest_top ht).2 h]
  exact ⟨rfl, rfl⟩
theorem long_no {t : List Row} {v : Int} {l : List Int} (h : ∀ x ∈ t, x.p.has v l = false) : longR t v l = rowZ ∧ longB t v l = false := by
  unfold longR longB
  rw [longest_no.2 h]
  exact ⟨rfl, rfl⟩
theorem has_bits {p : Pfx} {v : Int} {l : List Int} (h : p.has v l = true) : 0 ≤ p.b ∧ p.b ≤ 128 := by
  have h1 : p.right = true := by
    unfold Pfx.has at h
    simp only [Bool.and_eq_true] at h
    exact h.1.1.1
  obtain ⟨b, hb, _, h3⟩ := right_b h1
  omega
theorem row_mem {t : List Row} {i : Nat} (hi : i < t.length) : rowAt t i ∈ t := List.mem_of_getElem? (rowAt_get hi)
theorem rowZ_fits : rowZ.fits := zero16_B
set_option maxHeartbeats 4000000 in
theorem reflongest_any (A : Option Addr) (n c : Nat) (t : List Row) (v : Int) (l : List Int) (w : World) (ht : RT w A n c t) (ot : Oks t) (hup : rising t = true) (hl : B16 l) (hn : n ≤ 100000) : Calls Tryd.prog 28 #[.agg (tabV A n c), .agg (adrV v l)] w fun e w' => e = .returned (.tuple #[.agg (rowV (longR t v l)), .bool (longB t v l)]) ∧ Below w.heap.size w w' := by
  have hblk1 := blk_new w (.cells (tabV A n c) 28)
  have hbel1 : Below w.heap.size w (w.alloc (.cells (tabV A n c) 28)) := below_alloc (Below.refl _ _) _
  have hblk2 := blk_new (w.alloc (.cells (tabV A n c) 28)) (.cells (adrV v l) 31)
  have hbel2 : Below w.heap.size w ((w.alloc (.cells (tabV A n c) 28)).alloc (.cells (adrV v l) 31)) := below_alloc (hbel1) _
  rw [show (w.alloc (.cells (tabV A n c) 28)).heap.size = w.heap.size + 1 by simp] at hblk2
  replace hblk1 := blk_below hblk1 (below_alloc (Below.refl _ _) (.cells (adrV v l) 31))
  have HP1 := Lib.hid (tab_at hblk1)
  have HBK1 := Lib.hid hblk1
  have HP2 := Lib.hid (adr_at hl hblk2)
  have HBK2 := Lib.hid hblk2
  have HBE := Lib.hid hbel2
  obtain ⟨cs1, hcs1⟩ : ∃ cs, tabV A n c = cs := ⟨_, rfl⟩
  obtain ⟨cs2, hcs2⟩ : ∃ cs, adrV v l = cs := ⟨_, rfl⟩
  simp only [hcs1, hcs2] at HBE HP1 HP2 HBK1 HBK2 ⊢
  have HC1 := Lib.hid hcs1
  have HC2 := Lib.hid hcs2
  clear hcs1 hblk1 hbel1 hcs2 hblk2 hbel2
  have HT := Lib.hid (ht.below HBE.out)
  have OT := Lib.hid ot
  have HUP := Lib.hid hup
  have hsz2 : ((w.alloc (.cells cs1 28)).alloc (.cells cs2 31)).heap.size = w.heap.size + 2 := by simp
  have hz := blk_new ((w.alloc (.cells cs1 28)).alloc (.cells cs2 31)) (.cells (rowV rowZ) 38)
  rw [hsz2] at hz
  obtain ⟨W0, hW0⟩ : ∃ W0, ((w.alloc (.cells cs1 28)).alloc (.cells cs2 31)).alloc (.cells (rowV rowZ) 38) = W0 := ⟨_, rfl⟩
  have hb0 : Below ((w.alloc (.cells cs1 28)).alloc (.cells cs2 31)).heap.size ((w.alloc (.cells cs1 28)).alloc (.cells cs2 31)) W0 := hW0 ▸ below_alloc (Below.refl _ _) _
  rw [hW0] at hz
  have HZ := Lib.hid hz
  have HB0 := Lib.hid hb0
  have HW0 := Lib.hid hW0
  clear ht ot hup hz hsz2 hb0
  go_enter Tryd.func28, Tryd.ntmps28
  go_wp2_with fail
  rw [show (((w.alloc (.cells cs1 28)).alloc (.cells cs2 31)).alloc (.cells #[.int .i64 0, .int .u8 0, .int .u8 0, .int .u8 0, .int .u8 0, .int .u8 0, .int .u8 0, .int .u8 0, .int .u8 0, .int .u8 0, .int .u8 0, .int .u8 0, .int .u8 0, .int .u8 0, .int .u8 0, .int .u8 0, .int .u8 0, .int .i64 0, .int .i64 0] 38)) = W0 from hW0]
  clear hW0
  go_loopw [6] (fun x wr => ∃ bt : Int, x = .int .i64 bt ∧ Hid (-1 ≤ bt ∧ bt ≤ 128 ∧ (∀ x ∈ t, x.p.has v l = true → x.p.b ≤ bt) ∧ Below W0.heap.size W0 wr)) (fun x _ => (intOf x + 1).toNat)
  case atStart => exact ⟨128, rfl, by omega, by omega, fun x _ h => (has_bits h).2, Below.refl _ _⟩
  case round =>
    obtain ⟨bt, rfl, HH⟩ := hrel
    by_cases hb0 : 0 ≤ bt
    · have hb128 : bt ≤ 128 := HH.out.2.1
      have hb0' : decide (0 ≤ bt) = true := decide_eq_true hb0
      go_wp2_with fail
      obtain ⟨wo, hwo⟩ : ∃ wo : World, wo = wr := ⟨_, rfl⟩
      rw [← hwo] at HH ⊢
      clear hwo wr
      go_loopw [7] (fun x wr => ∃ i : Nat, x = .int .i64 i ∧ Hid (i ≤ n ∧ (∀ k, k < i → (rowAt t k).p.has v l = true → (rowAt t k).p.b ≠ bt) ∧ Below W0.heap.size W0 wr)) (fun x _ => n - (intOf x).toNat)
      case atStart => exact ⟨0, rfl, Nat.zero_le _, fun k h => by omega, HH.out.2.2.2⟩
      case round =>
        obtain ⟨i, rfl, HI⟩ := hrel
        have HBI := Lib.hid (below_step HB0.out HI.out.2.2)
        have hl1 := (HP1.out.all wr HBI.out).2
        by_cases hlt : i < n
        · have hlt' : (i : Int) < n := by omega
          obtain ⟨b, o, rfl, hc⟩ := RT.at_ HT.out (by omega)
          have HC3 := Lib.hid (hc i hlt)
          have HF := Lib.hid (RT.fits_at HT.out hlt)
          have hbw := wf_le (OT.out.at_ (i := i) (by rw [HT.out.len]; exact hlt)).p.b
          clear hc
          go_wp2_with (first | ((with_reducible show wpList _ _ _ (Oper.mk _ (Op.load _ _) _ _ _ _ :: _) _ _); refine wpList_load_g hl1 _ rfl rfl (by go_simp) ?_))
          clear hl1
          refine wp_region_mix (fun w0 => Below (wr).heap.size (wr) w0) [(0, 0), (1, 0), (2, 0), (3, 0), (4, 0), (5, 0), (6, 0), (7, 0), (8, 0), (9, 0), (10, 0), (11, 0), (12, 0), (13, 0), (14, 0), (15, 0), (16, 0), (17, 2), (18, 0)] (by kernel_rfl) (by kernel_rfl) (below_drew1 _) ?_
          simp only [List.map_cons, List.map_nil]
          iterate 1 (refine wpO_step0 rfl rfl (fun K hK => ?_); go_simp; refine hK _ _ ?_; clear hK K)
          refine wpO_loadW (t := 26) (ad := ⟨w.heap.size, 0, none⟩) rfl rfl ?hw rfl rfl ((fun w0 hS => (HP1.out.all w0 (below_step HBI.out hS)).2)) ?_
          case hw => go_simp
          iterate 4 (refine wpO_step0 rfl rfl (fun K hK => ?_); go_simp; refine hK _ _ ?_; clear hK K)
          refine wpO_loadW (t := 3) (ad := ⟨b, (o+i*19+17), none⟩) rfl rfl ?hw rfl rfl ((fun w0 hS => (rowLd_of HF.out (HC3.out.below (below_step HBI.out hS))).bit)) ?_
          case hw => go_simp
          by_cases hbb : (rowAt t i).p.b = bt
          · have hbb' : ((rowAt t i).p.b == bt) = true := by simpa using hbb
            have HBB := Lib.hid hbb
            clear hbb
            iterate 4 (refine wpO_step0 rfl rfl (fun K hK => ?_); go_simp; refine hK _ _ ?_; clear hK K)
            refine wpO_loadW (t := 26) (ad := ⟨w.heap.size, 0, none⟩) rfl rfl ?hw rfl rfl ((fun w0 hS => (HP1.out.all w0 (below_step HBI.out hS)).2)) ?_
            case hw => go_simp
            iterate 3 (refine wpO_step0 rfl rfl (fun K hK => ?_); go_simp; refine hK _ _ ?_; clear hK K)
            refine wpO_loadW (t := 36) (ad := ⟨b, (o+i*19), none⟩) rfl rfl ?hw rfl rfl ((fun w0 hS => (rowLd_of HF.out (HC3.out.below (below_step HBI.out hS))).pfx)) ?_
            case hw => go_simp
            refine wpO_loadW (t := 31) (ad := ⟨(w.heap.size+1), 0, none⟩) rfl rfl ?hw rfl rfl ((fun w0 hS => (HP2.out.all w0 (below_step HBI.out hS)).1)) ?_
            case hw => go_simp
            refine wpO_step2 rfl rfl (below_drew1 _) (fun K hK => ?_)
            go_simp
            refine (refhas_any (rowAt t i).p v l _ HF.out hl hbw).mono ?_
            rintro e w3 ⟨rfl, hbb3⟩
            have HB3 := Lib.hid (below_step (below_drew1 _) hbb3)
            clear hbb3
            refine hK _ _ ⟨HB3.out, ?_⟩
            clear hK K
            have HB4 := Lib.hid (below_step HI.out.2.2 HB3.out)
            cases hh : (rowAt t i).p.has v l with
            | true =>
              have HE := Lib.hid (long_top HUP.out (show Top t v l (rowAt t i) from ⟨row_mem (by rw [HT.out.len]; exact hlt), hh, fun x hx hxh => by rw [HBB.out]; exact HH.out.2.2.1 x hx hxh⟩))
              have hl2 := (HP1.out.all w3 (below_step HB0.out HB4.out)).2
              have hl3 := (rowLd_of HF.out (HC3.out.below (below_step HB0.out HB4.out))).row
              have HZ3 := Lib.hid (blk_below HZ.out HB4.out)
              clear hh
              iterate 1 (refine wpO_step0 rfl rfl (fun K hK => ?_); go_simp; refine hK _ _ ?_; clear hK K)
              refine wpO_nil ?_
              go_wp2_with (first | ((with_reducible show wpList _ _ _ (Oper.mk _ (Op.load _ _) _ _ _ _ :: _) _ _); refine wpList_load_g hl2 _ rfl rfl (by go_simp) ?_) | ((with_reducible show wpList _ _ _ (Oper.mk _ (Op.load _ _) _ _ _ _ :: _) _ _); refine wpList_load_g hl3 _ rfl rfl (by go_simp) ?_) | ((with_reducible show wpList _ _ _ (Oper.mk _ (Op.store _ _ _) _ _ _ _ :: _) _ _); refine wpList_store_blk HZ3.out 38 0 (rowV (rowAt t i)) (store_row_fit HF.out (rowV_size rowZ_fits)) (info_row HF.out) (rowV_one _) _ _ rfl rfl rfl rfl ?_; intro w5 hg9 hs9 hb9; rw [splice_row HF.out (rowV_size rowZ_fits)] at hb9; have H5 := Lib.hid (And.intro hg9 hb9); clear hg9 hs9 hb9))
              have hld := Shape.ld rowK w5 _ 0 (rowAt t i) HF.out (cells_blk H5.out.2)
              refine bodyPost_ret (results_c2 rfl rfl hld) rfl ?_
              rw [HE.out.1, HE.out.2]
              exact ⟨rfl, below_grown (below_step HBE.out (below_step HB0.out HB4.out)) H5.out.1 (by omega)⟩
            | false =>
              have HQ := Lib.hid hh
              clear hh
              iterate 1 (refine wpO_step0 rfl rfl (fun K hK => ?_); go_simp; refine hK _ _ ?_; clear hK K)
              refine wpO_nil ?_
              go_wp2_with fail
              go_roundw
              case measure => simp [intOf]; omega
              case rel =>
                refine ⟨i + 1, by go_num, by omega, fun k hk hkh => ?_, HB4.out⟩
                by_cases hki : k < i
                · exact HI.out.2.1 k hki hkh
                · rw [show k = i by omega, HQ.out] at hkh
                  cases hkh
          · have hbb' : ((rowAt t i).p.b == bt) = false := by simpa using hbb
            have HBB := Lib.hid hbb
            clear hbb
            repeat first | (refine wpO_step0 rfl rfl (fun K hK => ?_); go_simp; refine hK _ _ ?_; clear hK K) | (refine wpO_step2 rfl rfl (below_drew1 _) (fun K hK => ?_); go_simp; refine hK _ _ ⟨below_drew1 _, ?_⟩; clear hK K)
            refine wpO_nil ?_
            go_wp2_with fail
            go_roundw
            case measure => simp [intOf]; omega
            case rel =>
              refine ⟨i + 1, by go_num, by omega, fun k hk hkh => ?_, below_step HI.out.2.2 (below_drew1 _)⟩
              by_cases hki : k < i
              · exact HI.out.2.1 k hki hkh
              · rw [show k = i by omega]
                exact HBB.out
        · have hlt' : decide (i < n) = false := decide_eq_false hlt
          have HIN := Lib.hid (show ∀ x ∈ t, x.p.has v l = true → x.p.b ≤ bt - 1 by
            intro x hx hxh
            have h1 := HH.out.2.2.1 x hx hxh
            obtain ⟨k, hk, rfl⟩ := List.getElem_of_mem hx
            have h4 := rowAt_get hk
            rw [List.getElem?_eq_getElem hk] at h4
            rw [Option.some.inj h4] at hxh h1 ⊢
            have h2 := HI.out.2.1 k (by rw [HT.out.len] at hk; have := HI.out.1; omega) hxh
            omega)
          clear hlt
          go_wp2_with (first | ((with_reducible show wpList _ _ _ (Oper.mk _ (Op.load _ _) _ _ _ _ :: _) _ _); refine wpList_load_g hl1 _ rfl rfl (by go_simp) ?_))
          go_roundw
          case measure => simp [intOf]; omega
          case rel => exact ⟨bt - 1, by go_num, by omega, by omega, HIN.out, HI.out.2.2⟩
    · have hb0' : decide (0 ≤ bt) = false := decide_eq_false hb0
      have HE := Lib.hid (long_no (t := t) (v := v) (l := l) (fun x hx => by
        rw [Bool.eq_false_iff]
        intro h
        have h1 := HH.out.2.2.1 x hx h
        have h2 := has_bits h
        omega))
      have HZ3 := Lib.hid (blk_below HZ.out HH.out.2.2.2)
      have hbn := run_build_row_nil
      clear hb0
      go_wp2_with (first | (refine wpList_exec rfl (exec_build 38 #[] rfl #[] rfl (hbn _)) ?_) | ((with_reducible show wpList _ _ _ (Oper.mk _ (Op.store _ _ _) _ _ _ _ :: _) _ _); refine wpList_store_blk HZ3.out 38 0 (rowV rowZ) (store_row_fit rowZ_fits (rowV_size rowZ_fits)) (info_row rowZ_fits) (rowV_one _) _ _ rfl rfl rfl rfl ?_; intro w5 hg9 hs9 hb9; rw [splice_row rowZ_fits (rowV_size rowZ_fits)] at hb9; have H5 := Lib.hid (And.intro hg9 hb9); clear hg9 hs9 hb9))
      have hld := Shape.ld rowK w5 _ 0 rowZ rowZ_fits (cells_blk H5.out.2)
      refine bodyPost_ret (results_c2 rfl rfl hld) rfl ?_
      rw [HE.out.1, HE.out.2]
      exact ⟨rfl, below_grown (below_step HBE.out (below_step HB0.out HH.out.2.2.2)) H5.out.1 (by omega)⟩
end Go.Proofs.YtihfaknflfmohaaDoor

/- Layer 5 (prefix): a whole prefix out of a block. -/
namespace Go.Proofs.YtihfaknflfmohaaDoor
open Go.RowKit
set_option linter.unusedVariables false
set_option linter.unusedSimpArgs false
set_option maxRecDepth 4000

end Go.Proofs.YtihfaknflfmohaaDoor

/- Layer 5 (prefix): Has. -/
namespace Go.Proofs.YtihfaknflfmohaaDoor
open Go.RowKit
set_option linter.unusedVariables false
set_option linter.unusedSimpArgs false
set_option maxRecDepth 4000

set_option maxHeartbeats 2000000 in
theorem has_any (p : Pfx) (v : Int) (l : List Int) (w : World) (hL : Laid w) (hp : B16 p.l) (hl : B16 l) : Calls Tryd.prog 29 #[.agg (pfxV p.v p.l p.b), .agg (adrV v l)] w fun e w' => e = .returned (.bool (p.has v l)) ∧ Below w.heap.size w w' := by
  have hb1 := blk_new w (.cells (pfxV p.v p.l p.b) 36)
  have hbe1 : Below w.heap.size w (w.alloc (.cells (pfxV p.v p.l p.b) 36)) := below_alloc (Below.refl _ _) _
  have hsz : (w.alloc (.cells (pfxV p.v p.l p.b) 36)).heap.size = w.heap.size + 1 := by simp
  have hb2 := blk_new (w.alloc (.cells (pfxV p.v p.l p.b) 36)) (.cells (adrV v l) 31)
  rw [hsz] at hb2
  have hb1' := blk_below hb1 (below_alloc (Below.refl _ _) (.cells (adrV v l) 31))
  have HPA := Lib.hid (pfx_at hp hb1')
  have HAA := Lib.hid (adr_at hl hb2)
  have HLP := Lib.hid (load_pfx hp hb1')
  have HBE := Lib.hid (below_alloc hbe1 (.cells (adrV v l) 31))
  have HL := Lib.hid (hL.below HBE.out)
  obtain ⟨cs, hcs⟩ : ∃ cs, pfxV p.v p.l p.b = cs := ⟨_, rfl⟩
  obtain ⟨ds, hds⟩ : ∃ ds, adrV v l = ds := ⟨_, rfl⟩
  have hlp := HLP.out
  rw [hcs, hds] at HPA HAA HBE HL
  rw [hcs, hds]
  have hlp : (Instr.loadAt 36 (.pointer (some ⟨w.heap.size, 0, none⟩))).run Tryd.prog ((w.alloc (.cells cs 36)).alloc (.cells ds 31)) = .ok (.agg cs) ((w.alloc (.cells cs 36)).alloc (.cells ds 31)) := by
    have := HLP.out
    rw [hcs, hds] at this
    exact this
  have HCS := Lib.hid (And.intro hcs hds)
  clear hcs hds hb1 hb2 hb1' hbe1 hsz hL HLP
  go_enter Tryd.func29, Tryd.ntmps29
  go_wp2_with (refine wpList_load_g hlp _ rfl rfl (by go_simp) ?_)
  rw [← HCS.out.1]
  refine (check_any p.v p.l p.b _ (by rw [HCS.out.1]; exact HL.out) hp).mono ?_
  rintro e w1 ⟨rfl, hbb1⟩
  rw [HCS.out.1] at hbb1 ⊢
  have HB1 := Lib.hid hbb1
  clear hbb1 hlp
  cases hR : rightP p.v p.l p.b with
  | false =>
    have HE : Hid (p.has v l = false) := by unfold Pfx.has Pfx.right; rw [hR]; rfl
    have hE : errP p.v p.l p.b = 151 := by unfold errP; rw [hR]; rfl
    rw [hE]
    clear hR hE
    go_wp2
    go_ret
    rw [HE.out]
    exact ⟨rfl, below_step HBE.out HB1.out⟩
  | true =>
    have hE : errP p.v p.l p.b = 0 := by unfold errP; rw [hR]; rfl
    rw [hE]
    clear hE
    have hla := (HAA.out.all w1 HB1.out).1
    go_wp2_with (refine wpList_load_g hla _ rfl rfl (by go_simp) ?_)
    refine (checkAddr_any v l w1 (HL.out.below HB1.out) hl).mono ?_
    rintro e w2 ⟨rfl, hbb2⟩
    have HB2 := Lib.hid (below_step HB1.out hbb2)
    clear hbb2 hla
    cases hA : rightA v l with
    | false =>
      have HE : Hid (p.has v l = false) := by unfold Pfx.has; rw [hA]; cases p.right <;> rfl
      have hE : errA v l = 150 := by unfold errA; rw [hA]; rfl
      rw [hE]
      clear hR hA hE
      go_wp2
      go_ret
      rw [HE.out]
      exact ⟨rfl, below_step HBE.out HB2.out⟩
    | true =>
      have hE : errA v l = 0 := by unfold errA; rw [hA]; rfl
      rw [hE]
      clear hE
      have hlv := (HPA.out.all w2 HB2.out).2.2.1
      have hlw := (HAA.out.all w2 HB2.out).2.1
      by_cases hv : p.v = v
      · have hne : (p.v != v) = false := by simp [hv]
        have HE : Hid (p.has v l = decide (cutA l p.b = p.l)) := by unfold Pfx.has Pfx.right; rw [hR, hA, decide_eq_true hv]; rfl
        have hpb := ((p.right_iff).1 hR)
        have hwl := widthA_le p.v
        have hb128 : p.b ≤ 128 := by omega
        have hb0 := hpb.2.1
        clear hR hA hv hpb hwl
        go_wp2_with (first | (refine wpList_load_g hlv _ rfl rfl (by go_simp) ?_) | (refine wpList_load_g hlw _ rfl rfl (by go_simp) ?_))
        refine wp_region_mix (fun w0 => Below w2.heap.size w2 w0) [(0, 0), (1, 0), (2, 0), (3, 0), (5, 0), (6, 0), (7, 0), (4, 2), (8, 0), (9, 0)] (by kernel_rfl) (by kernel_rfl) (below_drew1 _) ?_
        simp only [List.map_cons, List.map_nil]
        iterate 1 (refine wpO_step0 rfl rfl (fun K hK => ?_); go_simp; refine hK _ _ ?_; clear hK K)
        refine wpO_loadW (t := 29) (ad := ⟨w.heap.size + 1, 1, none⟩) rfl rfl ?hw rfl rfl (fun w0 hS => (HAA.out.all w0 (below_step HB2.out hS)).2.2) ?_
        case hw => go_simp
        iterate 1 (refine wpO_step0 rfl rfl (fun K hK => ?_); go_simp; refine hK _ _ ?_; clear hK K)
        refine wpO_loadW (t := 3) (ad := ⟨w.heap.size, 17, none⟩) rfl rfl ?hw rfl rfl (fun w0 hS => (HPA.out.all w0 (below_step HB2.out hS)).2.1) ?_
        case hw => go_simp
        iterate 2 (refine wpO_step0 rfl rfl (fun K hK => ?_); go_simp; refine hK _ _ ?_; clear hK K)
        refine wpO_loadW (t := 29) (ad := ⟨w.heap.size, 1, none⟩) rfl rfl ?hw rfl rfl (fun w0 hS => (HPA.out.all w0 (below_step HB2.out hS)).2.2.2.1) ?_
        case hw => go_simp
        refine wpO_step2 rfl rfl (below_drew1 _) (fun K hK => ?_)
        go_simp
        refine (cut_any l p.b _ hl hb0 hb128).mono ?_
        rintro e w3 ⟨rfl, hbb3⟩
        have HB3 := Lib.hid (below_step (below_drew1 _) hbb3)
        clear hbb3
        refine hK _ _ ⟨HB3.out, ?_⟩
        clear hK K
        refine wpO_step0 rfl rfl (fun K hK => ?_)
        rw [if_pos (show Region.wanted _ _ = true from rfl)]
        refine ⟨_, fun w0 => arr_eql_exec rfl (cutA l p.b) p.l rfl rfl (cutA_16 hl _) hp w0, hK _ _ ?_⟩
        clear hK K
        iterate 1 (refine wpO_step0 rfl rfl (fun K hK => ?_); go_simp; refine hK _ _ ?_; clear hK K)
        refine wpO_nil ?_
        go_wp2
        go_ret
        rw [HE.out]
        exact ⟨rfl, below_step HBE.out (below_step HB2.out HB3.out)⟩
      · have hne : (p.v != v) = true := by simpa using hv
        have HE : Hid (p.has v l = false) := by
          unfold Pfx.has
          rw [decide_eq_false hv]
          cases p.right <;> cases rightA v l <;> rfl
        clear hR hA hv
        go_wp2_with (first | (refine wpList_load_g hlv _ rfl rfl (by go_simp) ?_) | (refine wpList_load_g hlw _ rfl rfl (by go_simp) ?_))
        go_ret
        rw [HE.out]
        exact ⟨rfl, below_step HBE.out HB2.out⟩
end Go.Proofs.YtihfaknflfmohaaDoor

/- Layer 5 (prefix): Holds. -/
namespace Go.Proofs.YtihfaknflfmohaaDoor
open Go.RowKit
set_option linter.unusedVariables false
set_option linter.unusedSimpArgs false
set_option maxRecDepth 4000

end Go.Proofs.YtihfaknflfmohaaDoor

/- Layer 9 (table): Longest. -/
namespace Go.Proofs.YtihfaknflfmohaaDoor
open Go.RowKit
set_option linter.unusedVariables false
set_option linter.unusedSimpArgs false
set_option maxRecDepth 4000
def longE (t : List Row) (v : Int) (l : List Int) : Int := if tabB t then errA v l else 190
def longRE (t : List Row) (v : Int) (l : List Int) : Row := if longE t v l = 0 then longR t v l else rowZ
def longBE (t : List Row) (v : Int) (l : List Int) : Bool := if longE t v l = 0 then longB t v l else false
theorem long_nil (v : Int) (l : List Int) : longR [] v l = rowZ ∧ longB [] v l = false := ⟨rfl, rfl⟩
theorem long_skip {t : List Row} {v : Int} {l : List Int} {i : Nat} (hi : i < t.length) (h : (rowAt t i).p.has v l = false) : longR (t.take (i + 1)) v l = longR (t.take i) v l ∧ longB (t.take (i + 1)) v l = longB (t.take i) v l := by
  have e : t.take (i + 1) = t.take i ++ [rowAt t i] := Shape.take_succ (S := rowK) hi
  have e2 : longest (t.take (i + 1)) v l = longest (t.take i) v l := by rw [e, longest_snoc]; unfold bestStep; rw [h]; rfl
  unfold longR longB
  rw [e2]
  exact ⟨rfl, rfl⟩
theorem long_first {t : List Row} {v : Int} {l : List Int} {i : Nat} (hi : i < t.length) (h : (rowAt t i).p.has v l = true) (hb : longB (t.take i) v l = false) : longR (t.take (i + 1)) v l = rowAt t i ∧ longB (t.take (i + 1)) v l = true := by
  have e : t.take (i + 1) = t.take i ++ [rowAt t i] := Shape.take_succ (S := rowK) hi
  have hn : longest (t.take i) v l = none := by
    unfold longB at hb
    cases hx : longest (t.take i) v l with
    | none => rfl
    | some x => rw [hx] at hb; cases hb
  have e2 : longest (t.take (i + 1)) v l = some (rowAt t i) := by rw [e, longest_snoc]; unfold bestStep; rw [h, hn]; rfl
  unfold longR longB
  rw [e2]
  exact ⟨rfl, rfl⟩
theorem long_more {t : List Row} {v : Int} {l : List Int} {i : Nat} (hi : i < t.length) (h : (rowAt t i).p.has v l = true) (hb : longB (t.take i) v l = true) (hc : (longR (t.take i) v l).p.b < (rowAt t i).p.b) : longR (t.take (i + 1)) v l = rowAt t i ∧ longB (t.take (i + 1)) v l = true := by
  have e : t.take (i + 1) = t.take i ++ [rowAt t i] := Shape.take_succ (S := rowK) hi
  have e2 : longest (t.take (i + 1)) v l = some (rowAt t i) := by
    rw [e, longest_snoc]
    unfold bestStep
    rw [h]
    unfold longB at hb
    unfold longR at hc
    cases hx : longest (t.take i) v l with
    | none => rw [hx] at hb; cases hb
    | some x =>
      rw [hx] at hc
      simp only [Option.getD_some] at hc
      simp [hc]
  unfold longR longB
  rw [e2]
  exact ⟨rfl, rfl⟩
theorem long_less {t : List Row} {v : Int} {l : List Int} {i : Nat} (hi : i < t.length) (h : (rowAt t i).p.has v l = true) (hb : longB (t.take i) v l = true) (hc : ¬ (longR (t.take i) v l).p.b < (rowAt t i).p.b) : longR (t.take (i + 1)) v l = longR (t.take i) v l ∧ longB (t.take (i + 1)) v l = true := by
  have e : t.take (i + 1) = t.take i ++ [rowAt t i] := Shape.take_succ (S := rowK) hi
  have e2 : longest (t.take (i + 1)) v l = longest (t.take i) v l := by
    rw [e, longest_snoc]
    unfold bestStep
    rw [h]
    unfold longB at hb
    unfold longR at hc
    cases hx : longest (t.take i) v l with
    | none => rw [hx] at hb; cases hb
    | some x =>
      rw [hx] at hc
      simp only [Option.getD_some] at hc
      simp [hc]
  unfold longR longB at *
  rw [e2]
  exact ⟨rfl, hb⟩
theorem longR_fits {t : List Row} (h : Fits t) (v : Int) (l : List Int) : (longR t v l).fits := by
  unfold longR
  rcases longest_spec v l t with ⟨h1, _⟩ | ⟨i, r, h1, h2⟩
  · rw [h1]; exact zero16_B
  · rw [h1]
    exact h r (List.mem_of_getElem? h2.at_)
set_option maxHeartbeats 4000000 in
theorem tlongest_any (A : Option Addr) (n c : Nat) (t : List Row) (v : Int) (l : List Int) (w : World) (hL : Laid w) (ht : RT w A n c t) (hl : B16 l) (hn : n ≤ 100000) : Calls Tryd.prog 23 #[.agg (tabV A n c), .agg (adrV v l)] w fun e w' => e = .returned (.tuple #[.agg (rowV (longRE t v l)), .bool (longBE t v l), .int .i64 (longE t v l)]) ∧ Below w.heap.size w w' := by
  have hblk1 := blk_new w (.cells (tabV A n c) 28)
  have hbel1 : Below w.heap.size w (w.alloc (.cells (tabV A n c) 28)) := below_alloc (Below.refl _ _) _
  have hblk2 := blk_new (w.alloc (.cells (tabV A n c) 28)) (.cells (adrV v l) 31)
  have hbel2 : Below w.heap.size w ((w.alloc (.cells (tabV A n c) 28)).alloc (.cells (adrV v l) 31)) := below_alloc (hbel1) _
  rw [show (w.alloc (.cells (tabV A n c) 28)).heap.size = w.heap.size + 1 by simp] at hblk2
  replace hblk1 := blk_below hblk1 (below_alloc (Below.refl _ _) (.cells (adrV v l) 31))
  have HP1 := Lib.hid (tab_at hblk1)
  have HBK1 := Lib.hid hblk1
  have HP2 := Lib.hid (adr_at hl hblk2)
  have HBK2 := Lib.hid hblk2
  have HBE := Lib.hid hbel2
  have HL := Lib.hid (hL.below HBE.out)
  obtain ⟨cs1, hcs1⟩ : ∃ cs, tabV A n c = cs := ⟨_, rfl⟩
  obtain ⟨cs2, hcs2⟩ : ∃ cs, adrV v l = cs := ⟨_, rfl⟩
  simp only [hcs1, hcs2] at HBE HL HP1 HP2 HBK1 HBK2 ⊢
  have HC1 := Lib.hid hcs1
  have HC2 := Lib.hid hcs2
  clear hL hcs1 hblk1 hbel1 hcs2 hblk2 hbel2
  have HT := Lib.hid (ht.below HBE.out)
  have hsz2 : ((w.alloc (.cells cs1 28)).alloc (.cells cs2 31)).heap.size = w.heap.size + 2 := by simp
  have hz := blk_new ((w.alloc (.cells cs1 28)).alloc (.cells cs2 31)) (.cells (rowV rowZ) 38)
  rw [hsz2] at hz
  have HZ := Lib.hid hz
  have hl1 := (HP1.out.all _ (below_alloc (Below.refl _ _) (.cells (rowV rowZ) 38))).1
  rw [HC1.out] at hl1
  have hbn := run_build_row_nil
  clear ht hz hsz2
  go_enter Tryd.func23, Tryd.ntmps23
  go_wp2_with (first | ((with_reducible show wpList _ _ _ (Oper.mk _ (Op.load _ _) _ _ _ _ :: _) _ _); refine wpList_load_g hl1 _ rfl rfl (by go_simp) ?_))
  have hch := tcheck_any A n c t _ (HL.out.below (below_alloc (Below.refl _ _) (.cells (rowV rowZ) 38))) (HT.out.below (below_alloc (Below.refl _ _) _)) (by omega)
  rw [HC1.out] at hch
  refine hch.mono ?_
  clear hch
  rintro e w1 ⟨rfl, hbb1⟩
  have HZ1 := Lib.hid (blk_below HZ.out hbb1)
  have HB1 := Lib.hid (below_step (below_alloc (Below.refl _ _) (.cells (rowV rowZ) 38)) hbb1)
  clear hbb1 hl1 HZ
  cases hR : tabB t with
  | false =>
    have HE := Lib.hid (show longE t v l = 190 ∧ longRE t v l = rowZ ∧ longBE t v l = false by
      have h1 : longE t v l = 190 := by unfold longE; rw [hR]; rfl
      unfold longRE longBE
      rw [h1]
      exact ⟨rfl, rfl, rfl⟩)
    rw [errT_false hR]
    clear hR
    go_wp2_with (first | ((with_reducible show wpList _ _ _ (Oper.mk _ (Op.build _ _) _ _ _ _ :: _) _ _); refine wpList_exw rfl (exec_build 38 #[] rfl #[] rfl (hbn _)) ?_) | ((with_reducible show wpList _ _ _ (Oper.mk _ (Op.store _ _ _) _ _ _ _ :: _) _ _); refine wpList_store_blk HZ1.out 38 0 (rowV rowZ) (store_row_fit rowZ_fits (rowV_size rowZ_fits)) (info_row rowZ_fits) (rowV_one _) _ _ rfl rfl rfl rfl ?_; intro w5 hg9 hs9 hb9; rw [splice_row rowZ_fits (rowV_size rowZ_fits)] at hb9; have H5 := Lib.hid (And.intro hg9 hb9); clear hg9 hs9 hb9))
    have hld := Shape.ld rowK w5 _ 0 rowZ rowZ_fits (cells_blk H5.out.2)
    refine bodyPost_ret (results_c3 rfl rfl hld) rfl ?_
    rw [HE.out.1, HE.out.2.1, HE.out.2.2]
    exact ⟨rfl, below_grown (below_step HBE.out HB1.out) H5.out.1 (by omega)⟩
  | true =>
    have HR := Lib.hid hR
    rw [errT_true hR]
    clear hR
    have hl2 := (HP2.out.all w1 HB1.out).1
    rw [HC2.out] at hl2
    go_wp2_with (first | ((with_reducible show wpList _ _ _ (Oper.mk _ (Op.load _ _) _ _ _ _ :: _) _ _); refine wpList_load_g hl2 _ rfl rfl (by go_simp) ?_))
    have hch := checkAddr_any v l w1 (HL.out.below HB1.out) hl
    rw [HC2.out] at hch
    refine hch.mono ?_
    clear hch
    rintro e w2 ⟨rfl, hbb2⟩
    have HZ2 := Lib.hid (blk_below HZ1.out hbb2)
    have HB2 := Lib.hid (below_step HB1.out hbb2)
    have HLE : Hid (longE t v l = errA v l) := Lib.hid (by unfold longE; rw [HR.out]; rfl)
    clear hbb2 hl2 HZ1 HB1
    cases hra : rightA v l with
    | false =>
      have HE := Lib.hid (show longE t v l = 150 ∧ longRE t v l = rowZ ∧ longBE t v l = false by
        have h1 : longE t v l = 150 := by rw [HLE.out, errA_false hra]
        unfold longRE longBE
        rw [h1]
        exact ⟨rfl, rfl, rfl⟩)
      rw [errA_false hra]
      clear hra
      go_wp2_with (first | ((with_reducible show wpList _ _ _ (Oper.mk _ (Op.build _ _) _ _ _ _ :: _) _ _); refine wpList_exw rfl (exec_build 38 #[] rfl #[] rfl (hbn _)) ?_) | ((with_reducible show wpList _ _ _ (Oper.mk _ (Op.store _ _ _) _ _ _ _ :: _) _ _); refine wpList_store_blk HZ2.out 38 0 (rowV rowZ) (store_row_fit rowZ_fits (rowV_size rowZ_fits)) (info_row rowZ_fits) (rowV_one _) _ _ rfl rfl rfl rfl ?_; intro w5 hg9 hs9 hb9; rw [splice_row rowZ_fits (rowV_size rowZ_fits)] at hb9; have H5 := Lib.hid (And.intro hg9 hb9); clear hg9 hs9 hb9))
      have hld := Shape.ld rowK w5 _ 0 rowZ rowZ_fits (cells_blk H5.out.2)
      refine bodyPost_ret (results_c3 rfl rfl hld) rfl ?_
      rw [HE.out.1, HE.out.2.1, HE.out.2.2]
      exact ⟨rfl, below_grown (below_step HBE.out HB2.out) H5.out.1 (by omega)⟩
    | true =>
      have HE := Lib.hid (show longE t v l = 0 ∧ longRE t v l = longR t v l ∧ longBE t v l = longB t v l by
        have h1 : longE t v l = 0 := by rw [HLE.out, errA_true hra]
        unfold longRE longBE
        rw [h1]
        exact ⟨rfl, rfl, rfl⟩)
      rw [errA_true hra]
      clear hra
      have hl3 := (HP1.out.all (w2.alloc (.cells (rowV rowZ) 38)) (below_step HB2.out (below_alloc (Below.refl _ _) _))).2
      have HG := Lib.hid (blk_new w2 (.cells (rowV rowZ) 38))
      have HZ2L := Lib.hid (blk_lt HZ2.out)
      go_wp2_with (first | ((with_reducible show wpList _ _ _ (Oper.mk _ (Op.load _ _) _ _ _ _ :: _) _ _); refine wpList_load_g hl3 _ rfl rfl (by go_simp) ?_))
      clear hl3
      go_loopw [8, 24] (fun y x wr => ∃ (i : Nat) (th : Bool), x = .int .i64 i ∧ y = .bool th ∧ Hid (i ≤ n ∧ longB (t.take i) v l = th ∧ wr.heap[w2.heap.size]? = some (.cells (rowV (longR (t.take i) v l)) 38 (0, 0)) ∧ Below w2.heap.size w2 wr)) (fun _ x _ => n - (intOf x).toNat)
      case atStart => exact ⟨0, false, rfl, rfl, Nat.zero_le _, rfl, HG.out, below_alloc (Below.refl _ _) _⟩
      case round =>
        obtain ⟨i, th, rfl, rfl, HH⟩ := hrel
        have HBR := Lib.hid (below_step HB2.out HH.out.2.2.2)
        by_cases hlt : i < n
        · have hlt' : (i : Int) < n := by omega
          obtain ⟨b, o, rfl, hc⟩ := RT.at_ HT.out (by omega)
          have HC3 := Lib.hid (hc i hlt)
          have HF := Lib.hid (RT.fits_at HT.out hlt)
          have hrow := (rowLd_of HF.out (HC3.out.below HBR.out)).row
          have hilt : i < t.length := by rw [HT.out.len]; exact hlt
          have HIL := Lib.hid hilt
          have hg := blk_lt HH.out.2.2.1
          clear hc hilt
          go_wp2_with (first | ((with_reducible show wpList _ _ _ (Oper.mk _ (Op.load _ _) _ _ _ _ :: _) _ _); refine wpList_load_g hrow _ rfl rfl (by go_simp) ?_) | ((with_reducible show wpList _ _ _ (Oper.mk _ (Op.store _ _ _) _ _ _ _ :: _) _ _); refine wpList_store_blk (blk_new wr _) 38 0 (rowV (rowAt t i)) (store_row_fit HF.out rfl) (info_row HF.out) (rowV_one _) _ _ rfl rfl rfl rfl ?_; intro w3 hg9 hs9 hb9; rw [splice_row HF.out rfl] at hb9; have H3 := Lib.hid (And.intro hg9 hb9); clear hg9 hs9 hb9) | ((with_reducible show wpList _ _ _ (Oper.mk _ (Op.load _ _) _ _ _ _ :: _) _ _); refine wpList_load_g (((row_at HF.out H3.out.2).all _ (Below.refl _ _)).pfx) _ rfl rfl (by go_simp) ?_) | ((with_reducible show wpList _ _ _ (Oper.mk _ (Op.load _ _) _ _ _ _ :: _) _ _); refine wpList_load_g ((HP2.out.all w3 (below_grown (below_step HBR.out (below_alloc (Below.refl _ _) _)) H3.out.1 (HBR.out.size))).1) _ rfl rfl (by go_simp) ?_))
          have HB3 := Lib.hid (below_grown (below_alloc (Below.refl wr.heap.size wr) (.cells (rowV rowZ) 38)) H3.out.1 (Nat.le_refl _))
          refine (has_any (rowAt t i).p v l w3 (HL.out.below (below_step HBR.out HB3.out)) HF.out hl).mono ?_
          rintro e w4 ⟨rfl, hbb4⟩
          have HB4 := Lib.hid (below_step HB3.out hbb4)
          have H4 := Lib.hid (row_at HF.out (blk_below H3.out.2 hbb4))
          have HG4 := Lib.hid (blk_below HH.out.2.2.1 HB4.out)
          clear hbb4 hrow
          cases hh : (rowAt t i).p.has v l with
          | false =>
            have HQ := Lib.hid (long_skip HIL.out hh)
            clear hh
            go_wp2_with fail
            go_roundw
            case measure => simp [intOf]; omega
            case rel => exact ⟨i + 1, th, by go_num, rfl, by omega, by rw [HQ.out.2]; exact HH.out.2.1, by rw [HQ.out.1]; exact HG4.out, below_step HH.out.2.2.2 HB4.out⟩
          | true =>
            cases th with
            | false =>
              have HQ := Lib.hid (long_first HIL.out hh HH.out.2.1)
              have hl4 := (H4.out.all w4 (Below.refl _ _)).row
              clear hh
              go_wp2_with (first | ((with_reducible show wpList _ _ _ (Oper.mk _ (Op.load _ _) _ _ _ _ :: _) _ _); refine wpList_load_g hl4 _ rfl rfl (by go_simp) ?_) | ((with_reducible show wpList _ _ _ (Oper.mk _ (Op.store _ _ _) _ _ _ _ :: _) _ _); refine wpList_store_blk HG4.out 38 0 (rowV (rowAt t i)) (store_row_fit HF.out (rowV_size (longR_fits (HT.out.fits.take i) v l))) (info_row HF.out) (rowV_one _) _ _ rfl rfl rfl rfl ?_; intro w5 hg9 hs9 hb9; rw [splice_row HF.out (rowV_size (longR_fits (HT.out.fits.take i) v l))] at hb9; have H5 := Lib.hid (And.intro hg9 hb9); clear hg9 hs9 hb9))
              go_roundw
              case measure => simp [intOf]; omega
              case rel => exact ⟨i + 1, true, by go_num, rfl, by omega, HQ.out.2, by rw [HQ.out.1]; exact H5.out.2, below_grown (below_step HH.out.2.2.2 HB4.out) H5.out.1 (Nat.le_refl _)⟩
            | true =>
              have hlb := (H4.out.all w4 (Below.refl _ _)).bit
              have hlc := ((row_at (longR_fits (HT.out.fits.take i) v l) HG4.out).all w4 (Below.refl _ _)).bit
              by_cases hcb : (longR (t.take i) v l).p.b < (rowAt t i).p.b
              · have HQ := Lib.hid (long_more HIL.out hh HH.out.2.1 hcb)
                have hl4 := (H4.out.all w4 (Below.refl _ _)).row
                clear hh
                go_wp2_with (first | ((with_reducible show wpList _ _ _ (Oper.mk _ (Op.load _ _) _ _ _ _ :: _) _ _); refine wpList_load_g hlb _ rfl rfl (by go_simp) ?_) | ((with_reducible show wpList _ _ _ (Oper.mk _ (Op.load _ _) _ _ _ _ :: _) _ _); refine wpList_load_g hlc _ rfl rfl (by go_simp) ?_) | ((with_reducible show wpList _ _ _ (Oper.mk _ (Op.load _ _) _ _ _ _ :: _) _ _); refine wpList_load_g hl4 _ rfl rfl (by go_simp) ?_) | ((with_reducible show wpList _ _ _ (Oper.mk _ (Op.store _ _ _) _ _ _ _ :: _) _ _); refine wpList_store_blk HG4.out 38 0 (rowV (rowAt t i)) (store_row_fit HF.out (rowV_size (longR_fits (HT.out.fits.take i) v l))) (info_row HF.out) (rowV_one _) _ _ rfl rfl rfl rfl ?_; intro w5 hg9 hs9 hb9; rw [splice_row HF.out (rowV_size (longR_fits (HT.out.fits.take i) v l))] at hb9; have H5 := Lib.hid (And.intro hg9 hb9); clear hg9 hs9 hb9))
                go_roundw
                case measure => simp [intOf]; omega
                case rel => exact ⟨i + 1, true, by go_num, rfl, by omega, HQ.out.2, by rw [HQ.out.1]; exact H5.out.2, below_grown (below_step HH.out.2.2.2 HB4.out) H5.out.1 (Nat.le_refl _)⟩
              · have HQ := Lib.hid (long_less HIL.out hh HH.out.2.1 hcb)
                have hcb' : decide ((longR (t.take i) v l).p.b < (rowAt t i).p.b) = false := decide_eq_false hcb
                clear hh hcb
                go_wp2_with (first | ((with_reducible show wpList _ _ _ (Oper.mk _ (Op.load _ _) _ _ _ _ :: _) _ _); refine wpList_load_g hlb _ rfl rfl (by go_simp) ?_) | ((with_reducible show wpList _ _ _ (Oper.mk _ (Op.load _ _) _ _ _ _ :: _) _ _); refine wpList_load_g hlc _ rfl rfl (by go_simp) ?_))
                go_roundw
                case measure => simp [intOf]; omega
                case rel => exact ⟨i + 1, true, by go_num, rfl, by omega, HQ.out.2, by rw [HQ.out.1]; exact HG4.out, below_step HH.out.2.2.2 HB4.out⟩
        · have hlt' : decide (i < n) = false := decide_eq_false hlt
          have htk : t.take i = t := List.take_of_length_le (by rw [HT.out.len]; omega)
          have hth := HH.out.2.1
          have hgg := HH.out.2.2.1
          rw [htk] at hth hgg
          have HTH := Lib.hid hth
          have HZ3 := Lib.hid (blk_below HZ2.out HH.out.2.2.2)
          have hfl := longR_fits HT.out.fits v l
          have hl5 := ((row_at hfl hgg).all wr (Below.refl _ _)).row
          clear hlt htk hth
          go_wp2_with (first | ((with_reducible show wpList _ _ _ (Oper.mk _ (Op.load _ _) _ _ _ _ :: _) _ _); refine wpList_load_g hl5 _ rfl rfl (by go_simp) ?_) | ((with_reducible show wpList _ _ _ (Oper.mk _ (Op.store _ _ _) _ _ _ _ :: _) _ _); refine wpList_store_blk HZ3.out 38 0 (rowV (longR t v l)) (store_row_fit hfl (rowV_size rowZ_fits)) (info_row hfl) (rowV_one _) _ _ rfl rfl rfl rfl ?_; intro w5 hg9 hs9 hb9; rw [splice_row hfl (rowV_size rowZ_fits)] at hb9; have H5 := Lib.hid (And.intro hg9 hb9); clear hg9 hs9 hb9))
          have hld := Shape.ld rowK w5 _ 0 (longR t v l) hfl (cells_blk H5.out.2)
          refine bodyPost_ret (results_c3 rfl rfl hld) rfl ?_
          rw [HE.out.1, HE.out.2.1, HE.out.2.2, HTH.out]
          exact ⟨rfl, below_grown (below_step HBE.out HBR.out) H5.out.1 (by omega)⟩
end Go.Proofs.YtihfaknflfmohaaDoor

/- Layer 9 (table): the document's Put. -/
namespace Go.Proofs.YtihfaknflfmohaaDoor
open Go.RowKit
set_option linter.unusedVariables false
set_option linter.unusedSimpArgs false
set_option maxRecDepth 4000
def putF (p : Pfx) (h : Int) (s : Bool × List Row) (r : Row) : Bool × List Row := if eqP r.p p then s else if !s.1 && decide (p.cmp r.p < 0) then (true, s.2 ++ [⟨p, h⟩] ++ [r]) else (s.1, s.2 ++ [r])
theorem putF_end (p : Pfx) (h : Int) : ∀ (t : List Row) (put : Bool) (out : List Row), (t.foldl (putF p h) (put, out)).2 ++ (if (t.foldl (putF p h) (put, out)).1 then [] else [⟨p, h⟩]) = out ++ putR p h put t
  | [], put, out => by cases put <;> simp [putR]
  | r :: t, put, out => by
    rw [List.foldl_cons]
    unfold putF
    simp only
    rw [putR]
    by_cases h1 : eqP r.p p = true
    · rw [if_pos h1, if_pos h1]
      exact putF_end p h t put out
    · rw [if_neg h1, if_neg h1]
      by_cases h2 : (!put && decide (p.cmp r.p < 0)) = true
      · rw [if_pos h2, if_pos h2]
        have := putF_end p h t true (out ++ [⟨p, h⟩] ++ [r])
        unfold putF at this
        rw [this]
        simp
      · rw [if_neg h2, if_neg h2]
        have := putF_end p h t put (out ++ [r])
        unfold putF at this
        rw [this]
        simp
theorem putF_succ (p : Pfx) (h : Int) {t : List Row} {i : Nat} (hi : i < t.length) (s0 : Bool × List Row) : (t.take (i + 1)).foldl (putF p h) s0 = putF p h ((t.take i).foldl (putF p h) s0) (rowAt t i) := by
  rw [show t.take (i + 1) = t.take i ++ [rowAt t i] from Shape.take_succ (S := rowK) hi, List.foldl_append]
  rfl
/-- Behind an append to a slice in a box, stored back. -/
theorem below_push {W w1 w2 : World} {g : Nat} {A : Option Addr} {n c : Nat} {o : Obj} (hg : g < W.heap.size) (h2 : (W.alloc o).grownBy w1 ((Value.slice A n c).ownBlock)) (hA : ∀ ad, A = some ad → g < ad.block) (h3 : w1.grownBy w2 (some g)) : Below g W w2 := by
  refine ⟨h3.os.trans h2.os, h3.tape.trans h2.tape, h3.output.trans h2.output, ?_, fun i hi => ?_⟩
  · have h4 := h2.size
    have h5 := h3.size
    simp at h4
    omega
  · have h4 := h2.size
    simp at h4
    rw [h3.block i (by omega) (fun e => by injection e with e; omega), h2.block i (by simp; omega) (fun e => by
      obtain ⟨ad, e1, e2⟩ := own_of e.symm
      have := hA ad e1
      omega)]
    exact Below.heap_alloc W o i (by omega)
theorem grow_push {w1 w2 : World} {g B m c' : Nat} {A' : Option Addr} {l : List Row} (hO : OT w1 B A' m c' l) (hB : g < B) (h3 : w1.grownBy w2 (some g)) : OT w2 B A' m c' l :=
  hO.grown h3 (fun ad e h => by have := hO.base_ ad e; injection h with h; omega)
theorem below_two {w w1 w2 : World} {g : Nat} (h : Below g w w1) (k : Below g w1 w2) : Below g w w2 := h.trans k
theorem blk_lowB {w w1 : World} {g k : Nat} {o : Obj} (h : w.heap[k]? = some o) (hb : Below g w w1) (hk : k < g) : w1.heap[k]? = some o := (hb.block k hk).trans h
end Go.Proofs.YtihfaknflfmohaaDoor

/- Layer 9 (table): the document's Put, walked. -/
namespace Go.Proofs.YtihfaknflfmohaaDoor
open Go.RowKit
set_option linter.unusedVariables false
set_option linter.unusedSimpArgs false
set_option maxRecDepth 4000
set_option maxHeartbeats 8000000 in
theorem refput_any (A : Option Addr) (n c : Nat) (t : List Row) (p : Pfx) (h : Int) (w : World) (ht : RT w A n c t) (ot : Oks t) (hpo : p.ok) (hn : n ≤ 100000) : Calls Tryd.prog 84 #[.agg (tabV A n c), .agg (pfxV p.v p.l p.b), .int .i64 h] w fun e w' => ∃ A' n' c', e = .returned (.agg (tabV A' n' c')) ∧ OT w' w.heap.size A' n' c' (putR p h (h == 0) t) ∧ Below w.heap.size w w' := by
  have hp := hpo.l
  have hblk1 := blk_new w (.cells (tabV A n c) 28)
  have hbel1 : Below w.heap.size w (w.alloc (.cells (tabV A n c) 28)) := below_alloc (Below.refl _ _) _
  have hblk2 := blk_new (w.alloc (.cells (tabV A n c) 28)) (.cells (pfxV p.v p.l p.b) 36)
  have hbel2 : Below w.heap.size w ((w.alloc (.cells (tabV A n c) 28)).alloc (.cells (pfxV p.v p.l p.b) 36)) := below_alloc (hbel1) _
  rw [show (w.alloc (.cells (tabV A n c) 28)).heap.size = w.heap.size + 1 by simp] at hblk2
  replace hblk1 := blk_below hblk1 (below_alloc (Below.refl _ _) (.cells (pfxV p.v p.l p.b) 36))
  have HP1 := Lib.hid (tab_at hblk1)
  have HBK1 := Lib.hid hblk1
  have HP2 := Lib.hid (pfx_at hp hblk2)
  have HBK2 := Lib.hid hblk2
  have HBE := Lib.hid hbel2
  obtain ⟨cs1, hcs1⟩ : ∃ cs, tabV A n c = cs := ⟨_, rfl⟩
  obtain ⟨cs2, hcs2⟩ : ∃ cs, pfxV p.v p.l p.b = cs := ⟨_, rfl⟩
  simp only [hcs1, hcs2] at HBE HP1 HP2 HBK1 HBK2 ⊢
  have HC1 := Lib.hid hcs1
  have HC2 := Lib.hid hcs2
  clear hcs1 hblk1 hbel1 hcs2 hblk2 hbel2
  have HT := Lib.hid (ht.below HBE.out)
  have OKS := Lib.hid ot
  have hsz2 : ((w.alloc (.cells cs1 28)).alloc (.cells cs2 36)).heap.size = w.heap.size + 2 := by simp
  obtain ⟨W1, hW1⟩ : ∃ W1, (((w.alloc (.cells cs1 28)).alloc (.cells cs2 36)).alloc (.cells #[.slice none 0 0] 28)) = W1 := ⟨_, rfl⟩
  have hs1 : W1.heap.size = w.heap.size + 3 := by rw [← hW1]; simp
  have hz : W1.heap[w.heap.size + 2]? = some (.cells (tabV none 0 0) 28 (0, 0)) := by
    rw [← hW1, ← hsz2]
    exact blk_new _ _
  have HB1 : Hid (Below ((w.alloc (.cells cs1 28)).alloc (.cells cs2 36)).heap.size ((w.alloc (.cells cs1 28)).alloc (.cells cs2 36)) W1) := Lib.hid (hW1 ▸ below_alloc (Below.refl _ _) _)
  have HZ := Lib.hid hz
  have HS1 := Lib.hid hs1
  have HG0 := Lib.hid (blk_new W1 (.cells (tabV none 0 0) 28))
  have hbr := fun w => run_build_row w p h hp.len
  rw [HC2.out] at hbr
  clear ht ot hsz2 hz
  go_enter Tryd.func84, Tryd.ntmps84
  go_upto_block 2 with fail
  rw [← HS1.out]
  clear hs1 hW1
  go_loopw [8, 9] (fun y x wr => ∃ (i : Nat) (put : Bool) (A1 : Option Addr) (n1 c1 : Nat) (out : List Row), x = .int .i64 i ∧ y = .bool put ∧ Hid (i ≤ n ∧ n1 ≤ 2 * i ∧ (t.take i).foldl (putF p h) (h == 0, []) = (put, out) ∧ wr.heap[W1.heap.size]? = some (.cells (tabV A1 n1 c1) 28 (0, 0)) ∧ OT wr (W1.heap.size + 1) A1 n1 c1 out ∧ Below W1.heap.size W1 wr)) (fun _ x _ => n - (intOf x).toNat)
  case atStart => exact ⟨0, h == 0, none, 0, 0, [], rfl, rfl, Nat.zero_le _, by omega, rfl, HG0.out, OS.nil _ _ _, below_alloc (Below.refl _ _) _⟩
  case round =>
    obtain ⟨i, put, A1, n1, c1, out, rfl, rfl, HH⟩ := hrel
    have hn1 := HH.out.2.1
    have HBR := Lib.hid (below_step HB1.out HH.out.2.2.2.2.2)
    have hl1 := (HP1.out.all wr HBR.out).2
    have hgl := blk_lt HH.out.2.2.2.1
    by_cases hlt : i < n
    · have hlt' : (i : Int) < n := by omega
      obtain ⟨b, o, rfl, hc⟩ := RT.at_ HT.out (by omega)
      have HC3 := Lib.hid (hc i hlt)
      have HF := Lib.hid (RT.fits_at HT.out hlt)
      have HO := Lib.hid (OKS.out.at_ (i := i) (by rw [HT.out.len]; exact hlt)).p
      have hrow := (rowLd_of HF.out (HC3.out.below HBR.out)).row
      have HST := Lib.hid (putF_succ p h (t := t) (i := i) (by rw [HT.out.len]; exact hlt) (h == 0, []))
      clear hc
      go_upto_if 28 with (first | ((with_reducible show wpList _ _ _ (Oper.mk _ (Op.load _ _) _ _ _ _ :: _) _ _); refine wpList_load_g hl1 _ rfl rfl (by go_simp) ?_) | ((with_reducible show wpList _ _ _ (Oper.mk _ (Op.load _ _) _ _ _ _ :: _) _ _); refine wpList_load_g hrow _ rfl rfl (by go_simp) ?_) | ((with_reducible show wpList _ _ _ (Oper.mk _ (Op.store _ _ _) _ _ _ _ :: _) _ _); refine wpList_store_blk (blk_new wr _) 38 0 (rowV (rowAt t i)) (store_row_fit HF.out rfl) (info_row HF.out) (rowV_one _) _ _ rfl rfl rfl rfl ?_; intro w3 hg9 hs9 hb9; rw [splice_row HF.out rfl] at hb9; have H3 := Lib.hid (And.intro hg9 hb9); clear hg9 hs9 hb9) | ((with_reducible show wpList _ _ _ (Oper.mk _ (Op.load _ _) _ _ _ _ :: _) _ _); refine wpList_load_g (((row_at HF.out H3.out.2).all _ (Below.refl _ _)).pfx) _ rfl rfl (by go_simp) ?_) | (((with_reducible show wpList _ _ _ (Oper.mk _ (Op.load _ _) _ _ _ _ :: _) _ _); refine wpList_load_g ((HP2.out.all w3 (below_grown (below_step HBR.out (below_alloc (Below.refl _ _) _)) H3.out.1 (HBR.out.size))).2.2.2.2) _ rfl rfl (by go_simp) ?_); rw [HC2.out]) | ((with_reducible show wpList _ _ _ (Oper.mk _ (Op.binOp _ _ _ _ _) _ _ _ _ :: _) _ _); refine wpList_exw rfl (pfx_eql_exec rfl (rowAt t i).p p rfl (congrArg Value.agg HC2.out).symm HO.out hpo _) ?_))
      have HB3 := Lib.hid (below_grown (below_alloc (Below.refl wr.heap.size wr) (.cells (rowV rowZ) 38)) H3.out.1 (Nat.le_refl _))
      have HG3 := Lib.hid (blk_below HH.out.2.2.2.1 HB3.out)
      have HO3 := Lib.hid (HH.out.2.2.2.2.1.below HB3.out)
      have HR3 := Lib.hid (row_at HF.out H3.out.2)
      have HF3 := Lib.hid (below_two HH.out.2.2.2.2.2 (show Below W1.heap.size wr w3 from ⟨HB3.out.os, HB3.out.tape, HB3.out.output, HB3.out.size, fun q hq => HB3.out.block q (by omega)⟩))
      have HFL := Lib.hid HH.out.2.2.1
      have HN := Lib.hid HH.out.1
      have HA1L := Lib.hid (HH.out.2.2.2.2.1.lt)
      have HWR := Lib.hid (blk_lt HH.out.2.2.2.1)
      clear HH
      cases hq : (rowAt t i).p.eqB p with
      | true =>
        have HQ := Lib.hid (show eqP (rowAt t i).p p = true from hq)
        clear hq
        go_wp2_with fail
        go_roundw
        case measure => simp [intOf]; omega
        case rel => exact ⟨i + 1, put, A1, n1, c1, out, by go_num, rfl, by omega, by omega, by rw [HST.out, HFL.out]; unfold putF; rw [if_pos HQ.out], HG3.out, HO3.out, HF3.out⟩
      | false =>
        have HQ := Lib.hid (show ¬ eqP (rowAt t i).p p = true by rw [show eqP (rowAt t i).p p = false from hq]; simp)
        clear hq
        cases put with
        | true =>
          go_wp2_with (first | ((with_reducible show wpList _ _ _ (Oper.mk _ (Op.load _ _) _ _ _ _ :: _) _ _); refine wpList_load_g (((tab_at HG3.out).all _ (Below.refl _ _)).2) _ rfl rfl (by go_simp) ?_) | ((with_reducible show wpList _ _ _ (Oper.mk _ (Op.load _ _) _ _ _ _ :: _) _ _); refine wpList_load_g ((HR3.out.all _ (Below.refl _ _)).row) _ rfl rfl (by go_simp) ?_) | ((with_reducible show wpList _ _ _ (Oper.mk _ (Op.buildSlice _ _ _) _ _ _ _ :: _) _ _); refine wpList_exw rfl (exec_lit1 rowK (x := .tmp 48) rfl (rowAt t i) rfl HF.out (by show 19 ≤ _; omega) _) ?_) | (at_builtin; refine wpList_append_shp rowK rfl (.tmp 47) (.tmp 49) rfl rfl rfl (OS.below HO3.out (below_alloc (Below.refl _ _) _)) (OS.one rowK w3 0 (rowAt t i) (Nat.zero_le _) HF.out).reads (by have := blk_lt HG3.out; simp; omega) (by omega) ?_; intro A4 c4 wa4 h1 h2 h3; have HA4 := Lib.hid (And.intro h1 (And.intro h2 h3)); clear h1 h2 h3) | ((with_reducible show wpList _ _ _ (Oper.mk _ (Op.store _ _ _) _ _ _ _ :: _) _ _); refine wpList_store_cell (blk_own (blk_below HG3.out (below_alloc (Below.refl _ _) _)) HA4.out.2.1 (fun ad e => OS.base_ HO3.out ad e)) 26 0 (.slice A4 (n1 + 1) c4) (Nat.le_refl _) (by kernel_rfl) rfl rfl _ _ rfl rfl rfl rfl ?_; intro w4 hg9 hs9 hb9; have HS4 := Lib.hid (And.intro hg9 (show (World.heap w4)[W1.heap.size]? = some (.cells (tabV A4 (n1 + 1) c4) 28 (0, 0)) from hb9)); clear hg9 hs9 hb9))
          have HO4 := Lib.hid (grow_push HA4.out.1 (Nat.lt_succ_self _) HS4.out.1)
          have HG4 := Lib.hid HS4.out.2
          have HB4 := Lib.hid (below_push (blk_lt HG3.out) HA4.out.2.1 (fun ad e => OS.base_ HO3.out ad e) HS4.out.1)
          clear HA4 HS4
          go_roundw
          case measure => simp [intOf]; omega
          case rel => exact ⟨i + 1, true, A4, n1 + 1, c4, out ++ [rowAt t i], by go_num, rfl, by omega, by omega, by rw [HST.out, HFL.out]; unfold putF; rw [if_neg HQ.out, if_neg (by simp)], HG4.out, HO4.out, below_two HF3.out HB4.out⟩
        | false =>
          have hlp := (HP2.out.all w3 (below_step HBR.out HB3.out)).2.2.2.2
          rw [HC2.out] at hlp
          go_wp2_with (first | ((with_reducible show wpList _ _ _ (Oper.mk _ (Op.load _ _) _ _ _ _ :: _) _ _); refine wpList_load_g (hlp) _ rfl rfl (by go_simp) ?_) | ((with_reducible show wpList _ _ _ (Oper.mk _ (Op.load _ _) _ _ _ _ :: _) _ _); refine wpList_load_g ((HR3.out.all _ (Below.refl _ _)).pfx) _ rfl rfl (by go_simp) ?_))
          have hcm := refcompare_any p (rowAt t i).p w3 hp HF.out
          rw [HC2.out] at hcm
          refine hcm.mono ?_
          clear hcm
          rintro e w5 ⟨rfl, hbb5⟩
          have HG5 := Lib.hid (blk_below HG3.out hbb5)
          have HO5 := Lib.hid (HO3.out.below hbb5)
          have HR3B := Lib.hid (blk_below H3.out.2 hbb5)
          have HR5 := Lib.hid (row_at HF.out HR3B.out)
          have HA6L := Lib.hid (fun ad e => HA1L.out ad e)
          have HP5 := Lib.hid (below_step (below_step HBR.out HB3.out) hbb5)
          have HF5 := Lib.hid (below_two HF3.out (show Below W1.heap.size w3 w5 from ⟨hbb5.os, hbb5.tape, hbb5.output, hbb5.size, fun q hq => hbb5.block q (by have := blk_lt HG3.out; omega)⟩))
          clear hbb5 hlp
          by_cases hlc : p.cmp (rowAt t i).p < 0
          · have hlc' : decide (p.cmp (rowAt t i).p < 0) = true := decide_eq_true hlc
            have HLC := Lib.hid hlc'
            have hlp := (HP2.out.all w5 HP5.out).2.2.2.2
            rw [HC2.out] at hlp
            clear hlc
            go_upto_region 10 with (first | ((with_reducible show wpList _ _ _ (Oper.mk _ (Op.load _ _) _ _ _ _ :: _) _ _); refine wpList_load_g (((tab_at HG5.out).all _ (Below.refl _ _)).2) _ rfl rfl (by go_simp) ?_) | ((with_reducible show wpList _ _ _ (Oper.mk _ (Op.load _ _) _ _ _ _ :: _) _ _); refine wpList_load_g (hlp) _ rfl rfl (by go_simp) ?_) | ((with_reducible show wpList _ _ _ (Oper.mk _ (Op.build _ _) _ _ _ _ :: _) _ _); refine wpList_exw rfl (exec_build2 (t := 38) (i0 := 0) (i1 := 1) (x0 := .tmp 40) (x1 := .tmp 41) (v0 := (.agg cs2)) (v1 := (.int .i64 h)) (v := (.agg (rowV ⟨p, h⟩))) rfl rfl rfl (hbr _)) ?_) | ((with_reducible show wpList _ _ _ (Oper.mk _ (Op.buildSlice _ _ _) _ _ _ _ :: _) _ _); refine wpList_exw rfl (exec_lit1 rowK (x := .tmp 42) rfl ⟨p, h⟩ rfl hp (by show 19 ≤ _; omega) _) ?_) | (at_builtin; refine wpList_append_shp rowK rfl (.tmp 39) (.tmp 43) rfl rfl rfl (OS.below HO5.out (below_alloc (Below.refl _ _) _)) (OS.one rowK w5 0 ⟨p, h⟩ (Nat.zero_le _) hp).reads (by have := blk_lt HG5.out; simp; omega) (by omega) ?_; intro A6 c6 wa6 h1 h2 h3; have HA6 := Lib.hid (And.intro h1 (And.intro h2 h3)); clear h1 h2 h3) | ((with_reducible show wpList _ _ _ (Oper.mk _ (Op.store _ _ _) _ _ _ _ :: _) _ _); refine wpList_store_cell (blk_own (blk_below HG5.out (below_alloc (Below.refl _ _) _)) HA6.out.2.1 (fun ad e => OS.base_ HO5.out ad e)) 26 0 (.slice A6 (n1 + 1) c6) (Nat.le_refl _) (by kernel_rfl) rfl rfl _ _ rfl rfl rfl rfl ?_; intro w6 hg9 hs9 hb9; have HS6 := Lib.hid (And.intro hg9 (show (World.heap w6)[W1.heap.size]? = some (.cells (tabV A6 (n1 + 1) c6) 28 (0, 0)) from hb9)); clear hg9 hs9 hb9))
            have HO6 := Lib.hid (grow_push HA6.out.1 (Nat.lt_succ_self _) HS6.out.1)
            have HG6 := Lib.hid HS6.out.2
            have HB6 := Lib.hid (below_push (blk_lt HG5.out) HA6.out.2.1 (fun ad e => OS.base_ HO5.out ad e) HS6.out.1)
            have hgl3 := blk_lt HR3B.out
            have HR6 := Lib.hid (row_at HF.out (blk_grown (blk_grown (blk_below HR3B.out (below_alloc (Below.refl _ _) _)) HA6.out.2.1 (fun e => by
              obtain ⟨ad, e1, e2⟩ := own_of e.symm
              have := HA6L.out ad e1
              omega)) HS6.out.1 (fun e => by injection e with e; have := HWR.out; omega)))
            clear HA6 HS6
            go_wp2_with (first | ((with_reducible show wpList _ _ _ (Oper.mk _ (Op.load _ _) _ _ _ _ :: _) _ _); refine wpList_load_g (((tab_at HG6.out).all _ (Below.refl _ _)).2) _ rfl rfl (by go_simp) ?_) | ((with_reducible show wpList _ _ _ (Oper.mk _ (Op.load _ _) _ _ _ _ :: _) _ _); refine wpList_load_g ((HR6.out.all _ (Below.refl _ _)).row) _ rfl rfl (by go_simp) ?_) | ((with_reducible show wpList _ _ _ (Oper.mk _ (Op.buildSlice _ _ _) _ _ _ _ :: _) _ _); refine wpList_exw rfl (exec_lit1 rowK (x := .tmp 48) rfl (rowAt t i) rfl HF.out (by show 19 ≤ _; omega) _) ?_) | (at_builtin; refine wpList_append_shp rowK rfl (.tmp 47) (.tmp 49) rfl rfl rfl (OS.below HO6.out (below_alloc (Below.refl _ _) _)) (OS.one rowK w6 0 (rowAt t i) (Nat.zero_le _) HF.out).reads (by have := blk_lt HG6.out; simp; omega) (by omega) ?_; intro A4 c4 wa4 h1 h2 h3; have HA4 := Lib.hid (And.intro h1 (And.intro h2 h3)); clear h1 h2 h3) | ((with_reducible show wpList _ _ _ (Oper.mk _ (Op.store _ _ _) _ _ _ _ :: _) _ _); refine wpList_store_cell (blk_own (blk_below HG6.out (below_alloc (Below.refl _ _) _)) HA4.out.2.1 (fun ad e => OS.base_ HO6.out ad e)) 26 0 (.slice A4 ((n1 + 1) + 1) c4) (Nat.le_refl _) (by kernel_rfl) rfl rfl _ _ rfl rfl rfl rfl ?_; intro w4 hg9 hs9 hb9; have HS4 := Lib.hid (And.intro hg9 (show (World.heap w4)[W1.heap.size]? = some (.cells (tabV A4 ((n1 + 1) + 1) c4) 28 (0, 0)) from hb9)); clear hg9 hs9 hb9))
            have HO4 := Lib.hid (grow_push HA4.out.1 (Nat.lt_succ_self _) HS4.out.1)
            have HG4 := Lib.hid HS4.out.2
            have HB4 := Lib.hid (below_push (blk_lt HG6.out) HA4.out.2.1 (fun ad e => OS.base_ HO6.out ad e) HS4.out.1)
            clear HA4 HS4
            go_roundw
            case measure => simp [intOf]; omega
            case rel => exact ⟨i + 1, true, A4, n1 + 1 + 1, c4, out ++ [⟨p, h⟩] ++ [rowAt t i], by go_num, rfl, by omega, by omega, by rw [HST.out, HFL.out]; unfold putF; rw [if_neg HQ.out, if_pos (by simp [HLC.out])], HG4.out, HO4.out, below_two HF5.out (below_two HB6.out HB4.out)⟩
          · have hlc' : decide (p.cmp (rowAt t i).p < 0) = false := decide_eq_false hlc
            have HLC := Lib.hid hlc'
            clear hlc
            go_wp2_with (first | ((with_reducible show wpList _ _ _ (Oper.mk _ (Op.load _ _) _ _ _ _ :: _) _ _); refine wpList_load_g (((tab_at HG5.out).all _ (Below.refl _ _)).2) _ rfl rfl (by go_simp) ?_) | ((with_reducible show wpList _ _ _ (Oper.mk _ (Op.load _ _) _ _ _ _ :: _) _ _); refine wpList_load_g ((HR5.out.all _ (Below.refl _ _)).row) _ rfl rfl (by go_simp) ?_) | ((with_reducible show wpList _ _ _ (Oper.mk _ (Op.buildSlice _ _ _) _ _ _ _ :: _) _ _); refine wpList_exw rfl (exec_lit1 rowK (x := .tmp 48) rfl (rowAt t i) rfl HF.out (by show 19 ≤ _; omega) _) ?_) | (at_builtin; refine wpList_append_shp rowK rfl (.tmp 47) (.tmp 49) rfl rfl rfl (OS.below HO5.out (below_alloc (Below.refl _ _) _)) (OS.one rowK w5 0 (rowAt t i) (Nat.zero_le _) HF.out).reads (by have := blk_lt HG5.out; simp; omega) (by omega) ?_; intro A4 c4 wa4 h1 h2 h3; have HA4 := Lib.hid (And.intro h1 (And.intro h2 h3)); clear h1 h2 h3) | ((with_reducible show wpList _ _ _ (Oper.mk _ (Op.store _ _ _) _ _ _ _ :: _) _ _); refine wpList_store_cell (blk_own (blk_below HG5.out (below_alloc (Below.refl _ _) _)) HA4.out.2.1 (fun ad e => OS.base_ HO5.out ad e)) 26 0 (.slice A4 (n1 + 1) c4) (Nat.le_refl _) (by kernel_rfl) rfl rfl _ _ rfl rfl rfl rfl ?_; intro w4 hg9 hs9 hb9; have HS4 := Lib.hid (And.intro hg9 (show (World.heap w4)[W1.heap.size]? = some (.cells (tabV A4 (n1 + 1) c4) 28 (0, 0)) from hb9)); clear hg9 hs9 hb9))
            have HO4 := Lib.hid (grow_push HA4.out.1 (Nat.lt_succ_self _) HS4.out.1)
            have HG4 := Lib.hid HS4.out.2
            have HB4 := Lib.hid (below_push (blk_lt HG5.out) HA4.out.2.1 (fun ad e => OS.base_ HO5.out ad e) HS4.out.1)
            clear HA4 HS4
            go_roundw
            case measure => simp [intOf]; omega
            case rel => exact ⟨i + 1, false, A4, n1 + 1, c4, out ++ [rowAt t i], by go_num, rfl, by omega, by omega, by rw [HST.out, HFL.out]; unfold putF; rw [if_neg HQ.out, if_neg (by simp [HLC.out])], HG4.out, HO4.out, below_two HF5.out HB4.out⟩
    · have hlt' : decide (i < n) = false := decide_eq_false hlt
      have htk : t.take i = t := List.take_of_length_le (by rw [HT.out.len]; omega)
      have hfl := HH.out.2.2.1
      rw [htk] at hfl
      have HEND := Lib.hid (show putR p h (h == 0) t = out ++ (if put then [] else [⟨p, h⟩]) by
        have := putF_end p h t (h == 0) []
        rw [hfl] at this
        simpa using this.symm)
      have HZ3 := Lib.hid (blk_below HZ.out HH.out.2.2.2.2.2)
      have HG3 := Lib.hid HH.out.2.2.2.1
      have HO3 := Lib.hid HH.out.2.2.2.2.1
      have HF3 := Lib.hid HH.out.2.2.2.2.2
      have HS3 := Lib.hid (show w.heap.size ≤ W1.heap.size + 1 by rw [HS1.out]; omega)
      have HS4 := Lib.hid (show w.heap.size + 2 < W1.heap.size by rw [HS1.out]; omega)
      have hi2 : i ≤ n := HH.out.1
      clear hlt htk hfl HH
      cases put with
      | true =>
        have hlo := load_tab HG3.out
        go_wp2_with (first | ((with_reducible show wpList _ _ _ (Oper.mk _ (Op.load _ _) _ _ _ _ :: _) _ _); refine wpList_load_g hl1 _ rfl rfl (by go_simp) ?_) | ((with_reducible show wpList _ _ _ (Oper.mk _ (Op.load _ _) _ _ _ _ :: _) _ _); refine wpList_load_g hlo _ rfl rfl (by go_simp) ?_) | ((with_reducible show wpList _ _ _ (Oper.mk _ (Op.store _ _ _) _ _ _ _ :: _) _ _); refine wpList_store_blk HZ3.out 28 0 (tabV A1 n1 c1) (Nat.le_refl _) (info_tab _ _ _) (tab_one _ _ _) _ _ rfl rfl rfl rfl ?_; intro w5 hg9 hs9 hb9; rw [splice_tab] at hb9; have H5 := Lib.hid (And.intro hg9 hb9); clear hg9 hs9 hb9))
        have hld := load_tab H5.out.2
        refine bodyPost_ret (results_c1 rfl rfl hld) rfl ?_
        rw [HEND.out]
        refine ⟨_, _, _, rfl, ?_, below_grown (below_step HBE.out HBR.out) H5.out.1 (by omega)⟩
        have h1 := (HO3.out.grown H5.out.1 (fun ad e h => by have := HO3.out.base_ ad e; injection h with h; have := HS4.out; omega)).lower HS3.out
        simpa using h1
      | false =>
        have hlp := (HP2.out.all wr HBR.out).2.2.2.2
        rw [HC2.out] at hlp
        go_upto_region 14 with (first | ((with_reducible show wpList _ _ _ (Oper.mk _ (Op.load _ _) _ _ _ _ :: _) _ _); refine wpList_load_g hl1 _ rfl rfl (by go_simp) ?_) | ((with_reducible show wpList _ _ _ (Oper.mk _ (Op.load _ _) _ _ _ _ :: _) _ _); refine wpList_load_g (((tab_at HG3.out).all _ (Below.refl _ _)).2) _ rfl rfl (by go_simp) ?_) | ((with_reducible show wpList _ _ _ (Oper.mk _ (Op.load _ _) _ _ _ _ :: _) _ _); refine wpList_load_g (hlp) _ rfl rfl (by go_simp) ?_) | ((with_reducible show wpList _ _ _ (Oper.mk _ (Op.build _ _) _ _ _ _ :: _) _ _); refine wpList_exw rfl (exec_build2 (t := 38) (i0 := 0) (i1 := 1) (x0 := .tmp 56) (x1 := .tmp 57) (v0 := (.agg cs2)) (v1 := (.int .i64 h)) (v := (.agg (rowV ⟨p, h⟩))) rfl rfl rfl (hbr _)) ?_) | ((with_reducible show wpList _ _ _ (Oper.mk _ (Op.buildSlice _ _ _) _ _ _ _ :: _) _ _); refine wpList_exw rfl (exec_lit1 rowK (x := .tmp 58) rfl ⟨p, h⟩ rfl hp (by show 19 ≤ _; omega) _) ?_) | (at_builtin; refine wpList_append_shp rowK rfl (.tmp 55) (.tmp 59) rfl rfl rfl (OS.below HO3.out (below_alloc (Below.refl _ _) _)) (OS.one rowK wr 0 ⟨p, h⟩ (Nat.zero_le _) hp).reads (by have := blk_lt HG3.out; simp; omega) (by omega) ?_; intro A6 c6 wa6 h1 h2 h3; have HA6 := Lib.hid (And.intro h1 (And.intro h2 h3)); clear h1 h2 h3) | ((with_reducible show wpList _ _ _ (Oper.mk _ (Op.store _ _ _) _ _ _ _ :: _) _ _); refine wpList_store_cell (blk_own (blk_below HG3.out (below_alloc (Below.refl _ _) _)) HA6.out.2.1 (fun ad e => OS.base_ HO3.out ad e)) 26 0 (.slice A6 (n1 + 1) c6) (Nat.le_refl _) (by kernel_rfl) rfl rfl _ _ rfl rfl rfl rfl ?_; intro w6 hg9 hs9 hb9; have HS6 := Lib.hid (And.intro hg9 (show (World.heap w6)[W1.heap.size]? = some (.cells (tabV A6 (n1 + 1) c6) 28 (0, 0)) from hb9)); clear hg9 hs9 hb9))
        have HO6 := Lib.hid (grow_push HA6.out.1 (Nat.lt_succ_self _) HS6.out.1)
        have HG6 := Lib.hid HS6.out.2
        have HB6 := Lib.hid (below_push (blk_lt HG3.out) HA6.out.2.1 (fun ad e => OS.base_ HO3.out ad e) HS6.out.1)
        have HZ6 := Lib.hid (blk_lowB HZ3.out HB6.out HS4.out)
        have hlo := load_tab HG6.out
        clear HA6 HS6
        go_wp2_with (first | ((with_reducible show wpList _ _ _ (Oper.mk _ (Op.load _ _) _ _ _ _ :: _) _ _); refine wpList_load_g hlo _ rfl rfl (by go_simp) ?_) | ((with_reducible show wpList _ _ _ (Oper.mk _ (Op.store _ _ _) _ _ _ _ :: _) _ _); refine wpList_store_blk HZ6.out 28 0 (tabV A6 (n1 + 1) c6) (Nat.le_refl _) (info_tab _ _ _) (tab_one _ _ _) _ _ rfl rfl rfl rfl ?_; intro w5 hg9 hs9 hb9; rw [splice_tab] at hb9; have H5 := Lib.hid (And.intro hg9 hb9); clear hg9 hs9 hb9))
        have hld := load_tab H5.out.2
        refine bodyPost_ret (results_c1 rfl rfl hld) rfl ?_
        rw [HEND.out]
        have hb6 : Below ((w.alloc (.cells cs1 28)).alloc (.cells cs2 36)).heap.size wr w6 := ⟨HB6.out.os, HB6.out.tape, HB6.out.output, HB6.out.size, fun q hq => HB6.out.block q (by have := HS4.out; simp at hq; omega)⟩
        refine ⟨_, _, _, rfl, (HO6.out.grown H5.out.1 (fun ad e h => by have := HO6.out.base_ ad e; injection h with h; have := HS4.out; omega)).lower HS3.out, below_grown (below_step HBE.out (HBR.out.trans hb6)) H5.out.1 (by omega)⟩
end Go.Proofs.YtihfaknflfmohaaDoor

/- Layer 9 (table): the document's Set and Drop. -/
namespace Go.Proofs.YtihfaknflfmohaaDoor
open Go.RowKit
set_option linter.unusedVariables false
set_option linter.unusedSimpArgs false
set_option maxRecDepth 4000
theorem getT_zero {t : List Row} {p : Pfx} (ht : tabB t = true) : getT t p = 0 ↔ thereB t p = false := by
  constructor
  · intro h
    rw [Bool.eq_false_iff]
    intro hth
    have hlt := lowN_lt hth
    have h1 : getT t p = (rowAt t (lowN t p)).h := by unfold getT; rw [hth]; rfl
    have h2 := ((okB_iff _).1 ((tabB_to ht).2.1 _ (row_mem hlt))).2
    omega
  · exact getT_no
set_option maxHeartbeats 4000000 in
theorem refset_any (A : Option Addr) (n c : Nat) (t : List Row) (p : Pfx) (h : Int) (w : World) (ht : RT w A n c t) (ot : Oks t) (hpo : p.ok) (hn : n ≤ 100000) : Calls Tryd.prog 40 #[.agg (tabV A n c), .agg (pfxV p.v p.l p.b), .int .i64 h] w fun e w' => ∃ A' n' c', e = .returned (.tuple #[.agg (tabV A' n' c'), .int .i64 (setE t p h)]) ∧ OT w' w.heap.size A' n' c' (setL t p h) ∧ Below w.heap.size w w' := by
  have hp := hpo.l
  have hblk1 := blk_new w (.cells (tabV A n c) 28)
  have hbel1 : Below w.heap.size w (w.alloc (.cells (tabV A n c) 28)) := below_alloc (Below.refl _ _) _
  have hblk2 := blk_new (w.alloc (.cells (tabV A n c) 28)) (.cells (pfxV p.v p.l p.b) 36)
  have hbel2 : Below w.heap.size w ((w.alloc (.cells (tabV A n c) 28)).alloc (.cells (pfxV p.v p.l p.b) 36)) := below_alloc (hbel1) _
  rw [show (w.alloc (.cells (tabV A n c) 28)).heap.size = w.heap.size + 1 by simp] at hblk2
  replace hblk1 := blk_below hblk1 (below_alloc (Below.refl _ _) (.cells (pfxV p.v p.l p.b) 36))
  have HP1 := Lib.hid (tab_at hblk1)
  have HBK1 := Lib.hid hblk1
  have HP2 := Lib.hid (pfx_at hp hblk2)
  have HBK2 := Lib.hid hblk2
  have HBE := Lib.hid hbel2
  obtain ⟨cs1, hcs1⟩ : ∃ cs, tabV A n c = cs := ⟨_, rfl⟩
  obtain ⟨cs2, hcs2⟩ : ∃ cs, pfxV p.v p.l p.b = cs := ⟨_, rfl⟩
  simp only [hcs1, hcs2] at HBE HP1 HP2 HBK1 HBK2 ⊢
  have HC1 := Lib.hid hcs1
  have HC2 := Lib.hid hcs2
  clear hcs1 hblk1 hbel1 hcs2 hblk2 hbel2
  have HT := Lib.hid (ht.below HBE.out)
  have OKS := Lib.hid ot
  have hsz2 : ((w.alloc (.cells cs1 28)).alloc (.cells cs2 36)).heap.size = w.heap.size + 2 := by simp
  have hz := blk_new ((w.alloc (.cells cs1 28)).alloc (.cells cs2 36)) (.cells (tabV none 0 0) 28)
  rw [hsz2] at hz
  have HZ := Lib.hid hz
  have hl1 := (HP1.out.all _ (below_alloc (Below.refl _ _) (.cells (tabV none 0 0) 28))).1
  rw [HC1.out] at hl1
  have hbn := run_build_tab_nil
  clear ht ot hz hsz2
  go_enter Tryd.func40, Tryd.ntmps40
  go_wp2_with (first | ((with_reducible show wpList _ _ _ (Oper.mk _ (Op.load _ _) _ _ _ _ :: _) _ _); refine wpList_load_g hl1 _ rfl rfl (by go_simp) ?_))
  have hch := refRight_any A n c t _ (HT.out.below (below_alloc (Below.refl _ _) (.cells (tabV none 0 0) 28))) OKS.out (by omega)
  rw [HC1.out] at hch
  refine hch.mono ?_
  clear hch
  rintro e w1 ⟨rfl, hbb1⟩
  have HZ1 := Lib.hid (blk_below HZ.out hbb1)
  have HB1 := Lib.hid (below_step (below_alloc (Below.refl _ _) (.cells (tabV none 0 0) 28)) hbb1)
  clear hbb1 hl1 HZ
  cases hR : tabB t with
  | false =>
    have HE := Lib.hid (show setE t p h = 190 ∧ setL t p h = [] by unfold setL setE; rw [hR]; exact ⟨rfl, rfl⟩)
    clear hR
    go_wp2_with (first | ((with_reducible show wpList _ _ _ (Oper.mk _ (Op.store _ _ _) _ _ _ _ :: _) _ _); refine wpList_store_blk HZ1.out 28 0 (tabV none 0 0) (Nat.le_refl _) (info_tab _ _ _) (tab_one _ _ _) _ _ rfl rfl rfl rfl ?_; intro w2 hg9 hs9 hb9; rw [splice_tab] at hb9; have H2 := Lib.hid (And.intro hg9 hb9); clear hg9 hs9 hb9))
    have hld := load_tab H2.out.2
    refine bodyPost_ret (results_c2 rfl rfl hld) rfl ?_
    rw [HE.out.1, HE.out.2]
    exact ⟨_, _, _, rfl, OS.nil _ _ _, below_grown (below_step HBE.out HB1.out) H2.out.1 (by omega)⟩
  | true =>
    have HR := Lib.hid hR
    clear hR
    have hl2 := (HP2.out.all w1 HB1.out).2.2.2.2
    rw [HC2.out] at hl2
    go_wp2_with (first | ((with_reducible show wpList _ _ _ (Oper.mk _ (Op.load _ _) _ _ _ _ :: _) _ _); refine wpList_load_g hl2 _ rfl rfl (by go_simp) ?_))
    have hch := right_any p.v p.l p.b w1 hp (wf_le hpo.b)
    rw [HC2.out] at hch
    refine hch.mono ?_
    clear hch
    rintro e w2 ⟨rfl, hbb2⟩
    have HZ2 := Lib.hid (blk_below HZ1.out hbb2)
    have HB2 := Lib.hid (below_step HB1.out hbb2)
    have H2E : Hid (¬ (p.right = true ∧ 1 ≤ h ∧ h ≤ 255) → setE t p h = 2 ∧ setL t p h = []) := Lib.hid (fun hno => by
      have h3 : setE t p h = 2 := by unfold setE; rw [HR.out, if_pos rfl, if_neg hno]
      unfold setL
      rw [h3]
      exact ⟨rfl, rfl⟩)
    clear hbb2 hl2 HZ1 HB1
    cases hpr : rightP p.v p.l p.b with
    | false =>
      have HE := Lib.hid (H2E.out (fun hh => by rw [show p.right = false from hpr] at hh; cases hh.1))
      clear hpr
      go_wp2_with (first | ((with_reducible show wpList _ _ _ (Oper.mk _ (Op.store _ _ _) _ _ _ _ :: _) _ _); refine wpList_store_blk HZ2.out 28 0 (tabV none 0 0) (Nat.le_refl _) (info_tab _ _ _) (tab_one _ _ _) _ _ rfl rfl rfl rfl ?_; intro w3 hg9 hs9 hb9; rw [splice_tab] at hb9; have H3 := Lib.hid (And.intro hg9 hb9); clear hg9 hs9 hb9))
      have hld := load_tab H3.out.2
      refine bodyPost_ret (results_c2 rfl rfl hld) rfl ?_
      rw [HE.out.1, HE.out.2]
      exact ⟨_, _, _, rfl, OS.nil _ _ _, below_grown (below_step HBE.out HB2.out) H3.out.1 (by omega)⟩
    | true =>
      have HPR := Lib.hid (show p.right = true from hpr)
      clear hpr
      by_cases h1 : h < 1
      · have HE := Lib.hid (H2E.out (fun hh => by omega))
        have h1' : decide (h < 1) = true := decide_eq_true h1
        clear h1
        go_wp2_with (first | ((with_reducible show wpList _ _ _ (Oper.mk _ (Op.store _ _ _) _ _ _ _ :: _) _ _); refine wpList_store_blk HZ2.out 28 0 (tabV none 0 0) (Nat.le_refl _) (info_tab _ _ _) (tab_one _ _ _) _ _ rfl rfl rfl rfl ?_; intro w3 hg9 hs9 hb9; rw [splice_tab] at hb9; have H3 := Lib.hid (And.intro hg9 hb9); clear hg9 hs9 hb9))
        have hld := load_tab H3.out.2
        refine bodyPost_ret (results_c2 rfl rfl hld) rfl ?_
        rw [HE.out.1, HE.out.2]
        exact ⟨_, _, _, rfl, OS.nil _ _ _, below_grown (below_step HBE.out HB2.out) H3.out.1 (by omega)⟩
      · have h1' : decide (h < 1) = false := decide_eq_false h1
        have H1 := Lib.hid h1
        clear h1
        by_cases h2 : 255 < h
        · have HE := Lib.hid (H2E.out (fun hh => by omega))
          have h2' : decide (255 < h) = true := decide_eq_true h2
          clear h2
          go_wp2_with (first | ((with_reducible show wpList _ _ _ (Oper.mk _ (Op.store _ _ _) _ _ _ _ :: _) _ _); refine wpList_store_blk HZ2.out 28 0 (tabV none 0 0) (Nat.le_refl _) (info_tab _ _ _) (tab_one _ _ _) _ _ rfl rfl rfl rfl ?_; intro w3 hg9 hs9 hb9; rw [splice_tab] at hb9; have H3 := Lib.hid (And.intro hg9 hb9); clear hg9 hs9 hb9))
          have hld := load_tab H3.out.2
          refine bodyPost_ret (results_c2 rfl rfl hld) rfl ?_
          rw [HE.out.1, HE.out.2]
          exact ⟨_, _, _, rfl, OS.nil _ _ _, below_grown (below_step HBE.out HB2.out) H3.out.1 (by omega)⟩
        · have h2' : decide (255 < h) = false := decide_eq_false h2
          have HH := Lib.hid (show 1 ≤ h ∧ h ≤ 255 by have := H1.out; omega)
          clear h2
          have hl1 := (HP1.out.all w2 HB2.out).1
          have hl2 := (HP2.out.all w2 HB2.out).2.2.2.2
          rw [HC1.out] at hl1
          rw [HC2.out] at hl2
          go_wp2_with (first | ((with_reducible show wpList _ _ _ (Oper.mk _ (Op.load _ _) _ _ _ _ :: _) _ _); refine wpList_load_g hl1 _ rfl rfl (by go_simp) ?_) | ((with_reducible show wpList _ _ _ (Oper.mk _ (Op.load _ _) _ _ _ _ :: _) _ _); refine wpList_load_g hl2 _ rfl rfl (by go_simp) ?_))
          have hpl := refget_any A n c t p w2 (HT.out.below HB2.out) OKS.out hpo hn
          rw [HC1.out, HC2.out] at hpl
          refine hpl.mono ?_
          clear hpl
          rintro e w3 ⟨rfl, hbb3⟩
          have HZ3 := Lib.hid (blk_below HZ2.out hbb3)
          have HB3 := Lib.hid (below_step HB2.out hbb3)
          have hgt : getR t p = getT t p := getR_get hp HT.out.fits (tabB_to HR.out).2.2
          rw [hgt]
          have HGZ := Lib.hid (getT_zero (p := p) HR.out)
          have hst : setE t p h = if thereB t p = false ∧ n = 40 then 6 else 0 := by
            unfold setE
            rw [HR.out, if_pos rfl, if_pos ⟨HPR.out, HH.out⟩, HT.out.len]
          have HST := Lib.hid hst
          clear hbb3 hl1 hl2 HZ2 HB2 hst hgt
          have hl3 := (HP1.out.all w3 HB3.out).2
          by_cases hfull : thereB t p = false ∧ n = 40
          · have HE := Lib.hid (show setE t p h = 6 ∧ setL t p h = [] by
              have h3 : setE t p h = 6 := by rw [HST.out, if_pos hfull]
              unfold setL
              rw [h3]
              exact ⟨rfl, rfl⟩)
            have hg0 : getT t p = 0 := HGZ.out.2 hfull.1
            have hn40 : ((n : Int) == 40) = true := by simp; omega
            rw [hg0]
            clear hg0 hfull
            go_wp2_with (first | ((with_reducible show wpList _ _ _ (Oper.mk _ (Op.load _ _) _ _ _ _ :: _) _ _); refine wpList_load_g hl3 _ rfl rfl (by go_simp) ?_) | ((with_reducible show wpList _ _ _ (Oper.mk _ (Op.store _ _ _) _ _ _ _ :: _) _ _); refine wpList_store_blk HZ3.out 28 0 (tabV none 0 0) (Nat.le_refl _) (info_tab _ _ _) (tab_one _ _ _) _ _ rfl rfl rfl rfl ?_; intro w4 hg9 hs9 hb9; rw [splice_tab] at hb9; have H4 := Lib.hid (And.intro hg9 hb9); clear hg9 hs9 hb9))
            have hld := load_tab H4.out.2
            refine bodyPost_ret (results_c2 rfl rfl hld) rfl ?_
            rw [HE.out.1, HE.out.2]
            exact ⟨_, _, _, rfl, OS.nil _ _ _, below_grown (below_step HBE.out HB3.out) H4.out.1 (by omega)⟩
          · have hhz : (h == 0) = false := by have := H1.out; simp; omega
            have HE := Lib.hid (show setE t p h = 0 ∧ setL t p h = putR p h (h == 0) t by
              have h3 : setE t p h = 0 := by rw [HST.out, if_neg hfull]
              unfold setL
              rw [h3, if_pos rfl, hhz, putR_set hp HT.out.fits (tabB_to HR.out).2.2]
              exact ⟨rfl, rfl⟩)
            have hl1 := (HP1.out.all w3 HB3.out).1
            have hl2 := (HP2.out.all w3 HB3.out).2.2.2.2
            rw [HC1.out] at hl1
            rw [HC2.out] at hl2
            have HPL := Lib.hid (refput_any A n c t p h w3 (HT.out.below HB3.out) OKS.out hpo hn)
            obtain ⟨G, hG⟩ : ∃ G, getT t p = G := ⟨_, rfl⟩
            rw [hG] at HGZ ⊢
            have HG := Lib.hid hG
            have hcase : (G == 0) = false ∨ (G == 0) = true ∧ ((n : Int) == 40) = false := by
              by_cases hg : G = 0
              · right
                refine ⟨by simpa using hg, ?_⟩
                have := HGZ.out.1 hg
                simp
                intro hn4
                exact hfull ⟨this, by omega⟩
              · left
                simpa using hg
            clear hG hfull hhz
            rcases hcase with hc0 | ⟨hc0, hc1⟩
            all_goals
              go_wp2_with (first | ((with_reducible show wpList _ _ _ (Oper.mk _ (Op.load _ _) _ _ _ _ :: _) _ _); refine wpList_load_g hl3 _ rfl rfl (by go_simp) ?_) | ((with_reducible show wpList _ _ _ (Oper.mk _ (Op.load _ _) _ _ _ _ :: _) _ _); refine wpList_load_g hl1 _ rfl rfl (by go_simp) ?_) | ((with_reducible show wpList _ _ _ (Oper.mk _ (Op.load _ _) _ _ _ _ :: _) _ _); refine wpList_load_g hl2 _ rfl rfl (by go_simp) ?_))
              have hpl := HPL.out
              rw [HC1.out, HC2.out] at hpl
              refine hpl.mono ?_
              clear hpl
              rintro e w4 ⟨A4, n4, c4, rfl, hO4, hb4⟩
              have HZ4 := Lib.hid (blk_below HZ3.out hb4)
              have HO4 := Lib.hid hO4
              have HB4 := Lib.hid (below_step HB3.out hb4)
              have HLT := Lib.hid (blk_lt HZ3.out)
              clear hb4 hO4
              go_wp2_with (first | ((with_reducible show wpList _ _ _ (Oper.mk _ (Op.store _ _ _) _ _ _ _ :: _) _ _); refine wpList_store_blk HZ4.out 28 0 (tabV A4 n4 c4) (Nat.le_refl _) (info_tab _ _ _) (tab_one _ _ _) _ _ rfl rfl rfl rfl ?_; intro w5 hg9 hs9 hb9; rw [splice_tab] at hb9; have H5 := Lib.hid (And.intro hg9 hb9); clear hg9 hs9 hb9))
              have hld := load_tab H5.out.2
              refine bodyPost_ret (results_c2 rfl rfl hld) rfl ?_
              rw [HE.out.1, HE.out.2]
              refine ⟨_, _, _, rfl, (HO4.out.grown H5.out.1 (fun ad e hh => by have := HO4.out.base_ ad e; injection hh with hh; have := HLT.out; omega)).lower (by have := HLT.out; omega), below_grown (below_step HBE.out HB4.out) H5.out.1 (by omega)⟩
theorem refdrop_any (A : Option Addr) (n c : Nat) (t : List Row) (p : Pfx) (w : World) (ht : RT w A n c t) (ot : Oks t) (hpo : p.ok) (hn : n ≤ 100000) : Calls Tryd.prog 42 #[.agg (tabV A n c), .agg (pfxV p.v p.l p.b)] w fun e w' => ∃ A' n' c', e = .returned (.tuple #[.agg (tabV A' n' c'), .int .i64 (dropE t p)]) ∧ OT w' w.heap.size A' n' c' (dropL t p) ∧ Below w.heap.size w w' := by
  have hp := hpo.l
  have hblk1 := blk_new w (.cells (tabV A n c) 28)
  have hbel1 : Below w.heap.size w (w.alloc (.cells (tabV A n c) 28)) := below_alloc (Below.refl _ _) _
  have hblk2 := blk_new (w.alloc (.cells (tabV A n c) 28)) (.cells (pfxV p.v p.l p.b) 36)
  have hbel2 : Below w.heap.size w ((w.alloc (.cells (tabV A n c) 28)).alloc (.cells (pfxV p.v p.l p.b) 36)) := below_alloc (hbel1) _
  rw [show (w.alloc (.cells (tabV A n c) 28)).heap.size = w.heap.size + 1 by simp] at hblk2
  replace hblk1 := blk_below hblk1 (below_alloc (Below.refl _ _) (.cells (pfxV p.v p.l p.b) 36))
  have HP1 := Lib.hid (tab_at hblk1)
  have HBK1 := Lib.hid hblk1
  have HP2 := Lib.hid (pfx_at hp hblk2)
  have HBK2 := Lib.hid hblk2
  have HBE := Lib.hid hbel2
  obtain ⟨cs1, hcs1⟩ : ∃ cs, tabV A n c = cs := ⟨_, rfl⟩
  obtain ⟨cs2, hcs2⟩ : ∃ cs, pfxV p.v p.l p.b = cs := ⟨_, rfl⟩
  simp only [hcs1, hcs2] at HBE HP1 HP2 HBK1 HBK2 ⊢
  have HC1 := Lib.hid hcs1
  have HC2 := Lib.hid hcs2
  clear hcs1 hblk1 hbel1 hcs2 hblk2 hbel2
  have HT := Lib.hid (ht.below HBE.out)
  have OKS := Lib.hid ot
  have hsz2 : ((w.alloc (.cells cs1 28)).alloc (.cells cs2 36)).heap.size = w.heap.size + 2 := by simp
  have hz := blk_new ((w.alloc (.cells cs1 28)).alloc (.cells cs2 36)) (.cells (tabV none 0 0) 28)
  rw [hsz2] at hz
  have HZ := Lib.hid hz
  have hl1 := (HP1.out.all _ (below_alloc (Below.refl _ _) (.cells (tabV none 0 0) 28))).1
  rw [HC1.out] at hl1
  have hbn := run_build_tab_nil
  clear ht ot hz hsz2
  go_enter Tryd.func42, Tryd.ntmps42
  go_wp2_with (first | ((with_reducible show wpList _ _ _ (Oper.mk _ (Op.load _ _) _ _ _ _ :: _) _ _); refine wpList_load_g hl1 _ rfl rfl (by go_simp) ?_))
  have hch := refRight_any A n c t _ (HT.out.below (below_alloc (Below.refl _ _) (.cells (tabV none 0 0) 28))) OKS.out (by omega)
  rw [HC1.out] at hch
  refine hch.mono ?_
  clear hch
  rintro e w1 ⟨rfl, hbb1⟩
  have HZ1 := Lib.hid (blk_below HZ.out hbb1)
  have HB1 := Lib.hid (below_step (below_alloc (Below.refl _ _) (.cells (tabV none 0 0) 28)) hbb1)
  clear hbb1 hl1 HZ
  cases hR : tabB t with
  | false =>
    have HE := Lib.hid (show dropE t p = 190 ∧ dropL t p = [] by unfold dropL dropE; rw [hR]; exact ⟨rfl, rfl⟩)
    clear hR
    go_wp2_with (first | ((with_reducible show wpList _ _ _ (Oper.mk _ (Op.store _ _ _) _ _ _ _ :: _) _ _); refine wpList_store_blk HZ1.out 28 0 (tabV none 0 0) (Nat.le_refl _) (info_tab _ _ _) (tab_one _ _ _) _ _ rfl rfl rfl rfl ?_; intro w2 hg9 hs9 hb9; rw [splice_tab] at hb9; have H2 := Lib.hid (And.intro hg9 hb9); clear hg9 hs9 hb9))
    have hld := load_tab H2.out.2
    refine bodyPost_ret (results_c2 rfl rfl hld) rfl ?_
    rw [HE.out.1, HE.out.2]
    exact ⟨_, _, _, rfl, OS.nil _ _ _, below_grown (below_step HBE.out HB1.out) H2.out.1 (by omega)⟩
  | true =>
    have HR := Lib.hid hR
    clear hR
    have hl1 := (HP1.out.all w1 HB1.out).1
    have hl2 := (HP2.out.all w1 HB1.out).2.2.2.2
    rw [HC1.out] at hl1
    rw [HC2.out] at hl2
    go_wp2_with (first | ((with_reducible show wpList _ _ _ (Oper.mk _ (Op.load _ _) _ _ _ _ :: _) _ _); refine wpList_load_g hl1 _ rfl rfl (by go_simp) ?_) | ((with_reducible show wpList _ _ _ (Oper.mk _ (Op.load _ _) _ _ _ _ :: _) _ _); refine wpList_load_g hl2 _ rfl rfl (by go_simp) ?_))
    have hpl := refget_any A n c t p w1 (HT.out.below HB1.out) OKS.out hpo hn
    rw [HC1.out, HC2.out] at hpl
    refine hpl.mono ?_
    clear hpl
    rintro e w3 ⟨rfl, hbb3⟩
    have HZ3 := Lib.hid (blk_below HZ1.out hbb3)
    have HB3 := Lib.hid (below_step HB1.out hbb3)
    have hgt : getR t p = getT t p := getR_get hp HT.out.fits (tabB_to HR.out).2.2
    rw [hgt]
    have HGZ := Lib.hid (getT_zero (p := p) HR.out)
    clear hbb3 hl1 hl2 HZ1 HB1 hgt
    cases hth : thereB t p with
    | false =>
      have HE := Lib.hid (show dropE t p = 4 ∧ dropL t p = [] by unfold dropL dropE; rw [HR.out, hth]; exact ⟨rfl, rfl⟩)
      rw [HGZ.out.2 hth]
      clear hth
      go_wp2_with (first | ((with_reducible show wpList _ _ _ (Oper.mk _ (Op.store _ _ _) _ _ _ _ :: _) _ _); refine wpList_store_blk HZ3.out 28 0 (tabV none 0 0) (Nat.le_refl _) (info_tab _ _ _) (tab_one _ _ _) _ _ rfl rfl rfl rfl ?_; intro w4 hg9 hs9 hb9; rw [splice_tab] at hb9; have H4 := Lib.hid (And.intro hg9 hb9); clear hg9 hs9 hb9))
      have hld := load_tab H4.out.2
      refine bodyPost_ret (results_c2 rfl rfl hld) rfl ?_
      rw [HE.out.1, HE.out.2]
      exact ⟨_, _, _, rfl, OS.nil _ _ _, below_grown (below_step HBE.out HB3.out) H4.out.1 (by omega)⟩
    | true =>
      have HE := Lib.hid (show dropE t p = 0 ∧ dropL t p = putR p 0 true t by
        have h3 : dropE t p = 0 := by unfold dropE; rw [HR.out, hth]; rfl
        unfold dropL
        rw [h3, if_pos rfl, dropR hp HT.out.fits (tabB_to HR.out).2.2 hth]
        exact ⟨rfl, rfl⟩)
      have hg0 : (getT t p == 0) = false := by
        have : ¬ getT t p = 0 := fun hh => by rw [HGZ.out.1 hh] at hth; cases hth
        simpa using this
      have hl1 := (HP1.out.all w3 HB3.out).1
      have hl2 := (HP2.out.all w3 HB3.out).2.2.2.2
      rw [HC1.out] at hl1
      rw [HC2.out] at hl2
      clear hth
      go_wp2_with (first | ((with_reducible show wpList _ _ _ (Oper.mk _ (Op.load _ _) _ _ _ _ :: _) _ _); refine wpList_load_g hl1 _ rfl rfl (by go_simp) ?_) | ((with_reducible show wpList _ _ _ (Oper.mk _ (Op.load _ _) _ _ _ _ :: _) _ _); refine wpList_load_g hl2 _ rfl rfl (by go_simp) ?_))
      have hpl := refput_any A n c t p 0 w3 (HT.out.below HB3.out) OKS.out hpo hn
      rw [HC1.out, HC2.out] at hpl
      refine hpl.mono ?_
      clear hpl
      rintro e w4 ⟨A4, n4, c4, rfl, hO4, hb4⟩
      have HZ4 := Lib.hid (blk_below HZ3.out hb4)
      have HO4 := Lib.hid hO4
      have HB4 := Lib.hid (below_step HB3.out hb4)
      have HLT := Lib.hid (blk_lt HZ3.out)
      clear hb4 hO4
      go_wp2_with (first | ((with_reducible show wpList _ _ _ (Oper.mk _ (Op.store _ _ _) _ _ _ _ :: _) _ _); refine wpList_store_blk HZ4.out 28 0 (tabV A4 n4 c4) (Nat.le_refl _) (info_tab _ _ _) (tab_one _ _ _) _ _ rfl rfl rfl rfl ?_; intro w5 hg9 hs9 hb9; rw [splice_tab] at hb9; have H5 := Lib.hid (And.intro hg9 hb9); clear hg9 hs9 hb9))
      have hld := load_tab H5.out.2
      refine bodyPost_ret (results_c2 rfl rfl hld) rfl ?_
      rw [HE.out.1, HE.out.2]
      refine ⟨_, _, _, rfl, (HO4.out.grown H5.out.1 (fun ad e hh => by have := HO4.out.base_ ad e; injection hh with hh; have := HLT.out; omega)).lower (by have := HLT.out; omega), below_grown (below_step HBE.out HB4.out) H5.out.1 (by omega)⟩
end Go.Proofs.YtihfaknflfmohaaDoor

/- Layer 5 (prefix): Bit; the document's Bit. -/
namespace Go.Proofs.YtihfaknflfmohaaDoor
open Go.RowKit
set_option linter.unusedVariables false
set_option linter.unusedSimpArgs false
set_option maxRecDepth 4000

end Go.Proofs.YtihfaknflfmohaaDoor

/- Layer 5 (prefix): Nibble; the document's Nibble. -/
namespace Go.Proofs.YtihfaknflfmohaaDoor
open Go.RowKit
set_option linter.unusedVariables false
set_option linter.unusedSimpArgs false
set_option maxRecDepth 4000

theorem bits_and15 (x : Int) (h0 : 0 ≤ x) (h1 : x < 256) : bits .and .u8 x 15 = x % 16 := bits_mask .u8 8 (by decide) wraps_u8 4 (by decide) x h0 h1
end Go.Proofs.YtihfaknflfmohaaDoor

/- Layer 5 (prefix): EncodeAddr, Encode; the document's bytes. -/
namespace Go.Proofs.YtihfaknflfmohaaDoor
open Go.RowKit
set_option linter.unusedVariables false
set_option linter.unusedSimpArgs false
set_option maxRecDepth 4000

def encA (v : Int) (l : List Int) : List Int := v % 256 :: l.take (widthA v / 8)
def encAE (v : Int) (l : List Int) : List Int := if rightA v l then encA v l else []
def encPE (p : Pfx) : List Int := if p.right then encP p else []
theorem encAE_no {v : Int} {l : List Int} (h : rightA v l = false) : encAE v l = [] := by unfold encAE; rw [h]; rfl
theorem encAE_yes {v : Int} {l : List Int} (h : rightA v l = true) : encAE v l = encA v l := by unfold encAE; rw [h]; rfl
theorem encPE_no {p : Pfx} (h : p.right = false) : encPE p = [] := by unfold encPE; rw [h]; rfl
theorem encPE_yes {p : Pfx} (h : p.right = true) : encPE p = encP p := by unfold encPE; rw [h]; rfl
theorem encA_bytes {v : Int} {l : List Int} (hl : B16 l) : Bytes (encA v l) := fun x hx => by
  rcases List.mem_cons.1 hx with rfl | h
  · omega
  · exact hl.rng x (List.mem_of_mem_take h)
theorem encP_bytes {p : Pfx} (hl : B16 p.l) : Bytes (encP p) := fun x hx => by
  rcases List.mem_cons.1 hx with rfl | h
  · omega
  · rcases List.mem_cons.1 h with rfl | h
    · omega
    · exact hl.rng x (List.mem_of_mem_take h)
theorem full_any (b : Int) (w : World) (h0 : 0 ≤ b) (h1 : b ≤ 128) : Calls Tryd.prog 119 #[.int .i64 b] w fun e w' => e = .returned (.int .i64 ((b + 7) / 8)) ∧ w = w' := by
  go_enter Tryd.func119, Tryd.ntmps119
  go_wp2
  go_ret
  exact ⟨rfl, rfl⟩
theorem rb_adr {w : World} {g : Nat} {t : TypeId} {v : Int} {l : List Int} (hl : B16 l) (h : w.heap[g]? = some (.cells (adrV v l) t (0, 0))) : RB w (some ⟨g, 1, none⟩) 16 16 l :=
  ⟨⟨by simp [nums, hl.len], Nat.le_refl _, by omega, fun _ => ⟨_, rfl, fun j u hj => by
    have hlt := (List.getElem?_eq_some_iff.1 hj).1
    simp only [nums, List.length_map, hl.len] at hlt
    rw [nums_get _ _ _ (by rw [hl.len]; exact hlt)] at hj
    rw [add_spot _ rfl, ← hj]
    exact adr_b h j (by rw [hl.len]; exact hlt)⟩⟩, hl.rng⟩
theorem OB.two (W : World) (x y : Int) (hx : 0 ≤ x ∧ x < 256) (hy : 0 ≤ y ∧ y < 256) (base : Nat) (hb : base ≤ W.heap.size) : OB (W.alloc (.cells #[.int .u8 x, .int .u8 y] 5)) base (some ⟨W.heap.size, 0, none⟩) 2 2 [x, y] :=
  OB.new W base [x, y] hb (by simp) (fun z hz => by simp at hz; omega)
theorem OB.one (W : World) (x : Int) (hx : 0 ≤ x ∧ x < 256) (base : Nat) (hb : base ≤ W.heap.size) : OB (W.alloc (.cells #[.int .u8 x] 5)) base (some ⟨W.heap.size, 0, none⟩) 1 1 [x] :=
  OB.new W base [x] hb (by simp) (fun z hz => by simp at hz; omega)

set_option maxHeartbeats 2000000 in
theorem encode_any (p : Pfx) (w : World) (hL : Laid w) (hp : B16 p.l) : Calls Tryd.prog 95 #[.agg (pfxV p.v p.l p.b)] w fun e w' => ∃ A n c, e = .returned (.tuple #[.slice A n c, .int .i64 (errP p.v p.l p.b)]) ∧ OB w' w.heap.size A n c (encPE p) ∧ Below w.heap.size w w' := by
  have hblk1 := blk_new w (.cells (pfxV p.v p.l p.b) 36)
  have hbel1 : Below w.heap.size w (w.alloc (.cells (pfxV p.v p.l p.b) 36)) := below_alloc (Below.refl _ _) _
  have HP1 := Lib.hid (pfx_at hp hblk1)
  have HBK1 := Lib.hid hblk1
  have HBE := Lib.hid hbel1
  have HL := Lib.hid (hL.below HBE.out)
  obtain ⟨cs1, hcs1⟩ : ∃ cs, pfxV p.v p.l p.b = cs := ⟨_, rfl⟩
  simp only [hcs1] at HBE HL HP1 HBK1 ⊢
  have HC1 := Lib.hid hcs1
  clear hL hcs1 hblk1 hbel1
  have hla := (HP1.out.all _ (Below.refl _ _)).2.2.2.2
  go_enter Tryd.func95, Tryd.ntmps95
  go_wp2_with ((with_reducible show wpList _ _ _ (Oper.mk _ (Op.load _ _) _ _ _ _ :: _) _ _); refine wpList_load_g hla _ rfl rfl (by go_simp) ?_)
  refine (check_any p.v p.l p.b _ HL.out hp).mono ?_
  rintro e w1 ⟨rfl, hbb1⟩
  have HB1 := Lib.hid hbb1
  clear hbb1 hla
  cases hR : rightP p.v p.l p.b with
  | false =>
    have HE := Lib.hid (encPE_no (p := p) hR)
    have HE2 := Lib.hid (errP_false hR)
    rw [HE2.out]
    clear hR
    go_wp2
    go_ret2
    rw [HE.out, HE2.out]
    exact ⟨_, _, _, rfl, OB.nil _ _, below_step HBE.out HB1.out⟩
  | true =>
    have HY := Lib.hid (encPE_yes (p := p) hR)
    have HE2 := Lib.hid (errP_true hR)
    rw [HE2.out]
    have hb0 := (p.right_iff.1 hR).2.1
    have hb1 : p.b ≤ 128 := by have := (p.right_iff.1 hR).2.2.1; have := widthA_le p.v; omega
    clear hR
    go_wp2_with fail
    have hfq := fun w0 => full_any p.b w0 hb0 hb1
    have hkb := blk_below HBK1.out HB1.out
    rw [← HC1.out] at hkb
    have HRB := Lib.hid (rb_pfx hp hkb)
    obtain ⟨k, hk⟩ : ∃ k, fullB p.b = k := ⟨_, rfl⟩
    have hkk : (p.b + 7) / 8 = (k : Int) := by rw [← hk]; unfold fullB; omega
    have HE : Hid (encP p = p.v % 256 :: p.b % 256 :: p.l.take k) := by unfold encP; rw [hk]; exact rfl
    have hk16 : (k : Int) ≤ 16 := by omega
    have hk0 : 0 ≤ (k : Int) := by omega
    have hv8 : IntKind.u8.wrap p.v = p.v % 256 := by simp [IntKind.wrap, IntKind.bits, IntKind.signed]
    have hv9 : IntKind.u8.wrap p.b = p.b % 256 := by simp [IntKind.wrap, IntKind.bits, IntKind.signed]
    rw [hkk] at hfq
    clear hkb hk hkk hb0 hb1
    refine wp_region_mix (fun w0 => Below (w1).heap.size (w1) w0) [(0, 0), (1, 0), (2, 0), (3, 0), (4, 0), (5, 0), (6, 0), (8, 0), (9, 0), (10, 0), (11, 0), (12, 0), (13, 0), (7, 2), (14, 2), (15, 0), (16, 0)] (by kernel_rfl) (by kernel_rfl) (below_drew1 _) ?_
    simp only [List.map_cons, List.map_nil]
    iterate 2 (refine wpO_step0 rfl rfl (fun K hK => ?_); go_simp; refine hK _ _ ?_; clear hK K)
    refine wpO_loadW (t := 3) (ad := ⟨w.heap.size, 0, none⟩) rfl rfl ?hw rfl rfl ((fun w0 hS => (HP1.out.all w0 (below_step HB1.out hS)).2.2.1)) ?_
    case hw => go_simp
    iterate 2 (refine wpO_step0 rfl rfl (fun K hK => ?_); go_simp; refine hK _ _ ?_; clear hK K)
    refine wpO_loadW (t := 3) (ad := ⟨w.heap.size, 17, none⟩) rfl rfl ?hw rfl rfl ((fun w0 hS => (HP1.out.all w0 (below_step HB1.out hS)).2.1)) ?_
    case hw => go_simp
    iterate 4 (refine wpO_step0 rfl rfl (fun K hK => ?_); go_simp; refine hK _ _ ?_; clear hK K)
    refine wpO_loadW (t := 3) (ad := ⟨w.heap.size, 17, none⟩) rfl rfl ?hw rfl rfl ((fun w0 hS => (HP1.out.all w0 (below_step HB1.out hS)).2.1)) ?_
    case hw => go_simp
    refine wpO_quiet rfl rfl ?hw Tryd.func119 (by kernel_rfl) (by kernel_rfl) rfl rfl (fun w0 hS => hfq w0) ?_
    case hw => go_simp
    iterate 1 (refine wpO_step0 rfl rfl (fun K hK => ?_); go_simp; refine hK _ _ ?_; clear hK K)
    refine wpO_step2 rfl rfl (below_drew1 _) (fun K hK => ?_)
    go_simp
    have hsz := HB1.out.size
    simp at hsz
    have HO := Lib.hid ((OB.two w1 (p.v % 256) (p.b % 256) (by omega) (by omega) w.heap.size (by omega)).below (below_drew1 _))
    refine hK _ _ ⟨(below_alloc (Below.refl _ _) _).drew, ?_⟩
    clear hK K
    have HR := Lib.hid ((HRB.out.take k (by omega)).below (below_step (below_alloc (Below.refl _ _) (.cells #[.int .u8 (p.v % 256), .int .u8 (p.b % 256)] 5)) (below_drew1 _)))
    refine wpO_step2 rfl rfl ((below_alloc (Below.refl _ _) _).drew) (fun K hK => ?_)
    rw [if_pos (show Region.wanted _ _ = true from rfl)]
    refine oper_append_bytes (.tmp 17) (.tmp 23) rfl rfl rfl HO.out HR.out (by simp; omega) (by omega) ?_
    intro A3 c3 w3 h1 h2 h3
    have hb3 : Below w1.heap.size w1 w3 := (below_step (below_alloc (Below.refl _ _) (.cells #[.int .u8 (p.v % 256), .int .u8 (p.b % 256)] 5)) (below_drew1 _)).grown h2 (by simp) (own_row (fun ad e => by injection e with e; rw [← e]; exact Nat.le_refl _))
    have H3 := Lib.hid (And.intro h1 hb3)
    clear h1 h2 h3 hb3
    refine hK _ _ ⟨H3.out.2, ?_⟩
    clear hK K
    iterate 2 (refine wpO_step0 rfl rfl (fun K hK => ?_); go_simp; refine hK _ _ ?_; clear hK K)
    refine wpO_nil ?_
    go_wp2
    go_ret2
    rw [HY.out, HE.out, HE2.out]
    exact ⟨_, _, _, rfl, H3.out.1, below_step HBE.out (below_step HB1.out H3.out.2)⟩

set_option maxHeartbeats 2000000 in
theorem refbytes_any (p : Pfx) (w : World) (hp : B16 p.l) (hb0 : 0 ≤ p.b) (hb1 : p.b ≤ 128) : Calls Tryd.prog 97 #[.agg (pfxV p.v p.l p.b)] w fun e w' => ∃ A n c, e = .returned (.slice A n c) ∧ OB w' w.heap.size A n c (encP p) ∧ Below w.heap.size w w' := by
  have hblk1 := blk_new w (.cells (pfxV p.v p.l p.b) 36)
  have hbel1 : Below w.heap.size w (w.alloc (.cells (pfxV p.v p.l p.b) 36)) := below_alloc (Below.refl _ _) _
  have HP1 := Lib.hid (pfx_at hp hblk1)
  have HBK1 := Lib.hid hblk1
  have HBE := Lib.hid hbel1
  obtain ⟨cs1, hcs1⟩ : ∃ cs, pfxV p.v p.l p.b = cs := ⟨_, rfl⟩
  simp only [hcs1] at HBE HP1 HBK1 ⊢
  have HC1 := Lib.hid hcs1
  clear hcs1 hblk1 hbel1
  have hlv := (HP1.out.all _ (Below.refl _ _)).2.2.1
  have hlw := (HP1.out.all _ (Below.refl _ _)).2.1
  have hob := OB.two (w.alloc (.cells cs1 36)) (p.v % 256) (p.b % 256) (by omega) (by omega) (w.heap.size + 1) (by simp)
  have hv8 : IntKind.u8.wrap p.v = p.v % 256 := by simp [IntKind.wrap, IntKind.bits, IntKind.signed]
  have hv9 : IntKind.u8.wrap p.b = p.b % 256 := by simp [IntKind.wrap, IntKind.bits, IntKind.signed]
  rw [show (w.alloc (.cells cs1 36)).heap.size = w.heap.size + 1 by simp] at hob
  have HOB := Lib.hid hob
  clear hob
  go_enter Tryd.func97, Tryd.ntmps97
  go_wp2_with (first | ((with_reducible show wpList _ _ _ (Oper.mk _ (Op.load _ _) _ _ _ _ :: _) _ _); refine wpList_load_g hlv _ rfl rfl (by go_simp) ?_) | ((with_reducible show wpList _ _ _ (Oper.mk _ (Op.load _ _) _ _ _ _ :: _) _ _); refine wpList_load_g hlw _ rfl rfl (by go_simp) ?_))
  clear hv8 hlv hlw hv9
  obtain ⟨nb, hnb⟩ : ∃ nb, fullB p.b = nb := ⟨_, rfl⟩
  have hbb : (p.b + 7) / 8 = (nb : Int) := by rw [← hnb]; unfold fullB; omega
  have hn16 : nb ≤ 16 := by omega
  have HE : Hid (encP p = p.v % 256 :: p.b % 256 :: p.l.take nb) := by unfold encP; rw [hnb]; exact rfl
  have HBB := Lib.hid hbb
  clear hbb hnb
  go_loopw [3, 4] (fun x i wr => ∃ (k : Nat) (A : Option Addr) (c : Nat), i = .int .i64 k ∧ x = .slice A (2 + k) c ∧ Hid (k ≤ nb ∧ OB wr (w.heap.size + 1) A (2 + k) c (p.v % 256 :: p.b % 256 :: p.l.take k) ∧ Below (w.alloc (.cells cs1 36)).heap.size (w.alloc (.cells cs1 36)) wr)) (fun _ i _ => 16 - (intOf i).toNat)
  case atStart => exact ⟨0, _, 2, rfl, rfl, Nat.zero_le _, HOB.out, below_alloc (Below.refl _ _) _⟩
  case round =>
    obtain ⟨k, A, c, rfl, rfl, HH⟩ := hrel
    clear HOB
    have hk := HH.out.1
    have hlv := (HP1.out.all wr HH.out.2.2).2.1
    have hsz := HH.out.2.2.size
    simp at hsz
    by_cases hlt : k < nb
    · have hlt' : (k : Int) < (p.b + 7) / 8 := by rw [HBB.out]; omega
      have hk16 : k < 16 := by omega
      have hkb := blk_below HBK1.out HH.out.2.2
      rw [← HC1.out] at hkb
      have hc := pfx_byte hp hkb k hk16
      have hr := hp.rd (k : Int)
      clear hkb
      go_wp2_with (first | ((with_reducible show wpList _ _ _ (Oper.mk _ (Op.load _ _) _ _ _ _ :: _) _ _); refine wpList_load_g hlv _ rfl rfl (by go_simp) ?_) | (at_builtin; refine wpList_append_bytes rfl (.tmp 21) (.tmp 27) rfl rfl rfl (HH.out.2.1.below (below_alloc (Below.refl _ _) _)) (RB.one _ _ hr.1 hr.2) (by simp; omega) (by omega) ?_; intro A3 c3 w3 h1 h2 h3; have H3 := Lib.hid (And.intro h1 ((HH.out.2.2.alloc HH.out.2.2.size _).grown h2 (by simp; omega) (own_row (fun ad e => by have := HH.out.2.1.base_ ad e; simpa using this)))); clear h1 h2 h3))
      go_roundw
      case measure => simp [intOf]; omega
      case rel =>
        refine ⟨k + 1, A3, c3, by go_num, rfl, by omega, ?_, H3.out.2⟩
        have e := H3.out.1
        rw [List.cons_append, List.cons_append, ← take_rd p.l k (by rw [hp.len]; exact hk16)] at e
        exact e
    · obtain rfl : k = nb := by omega
      have hm1 : decide ((k : Int) < (p.b + 7) / 8) = false := decide_eq_false (by rw [HBB.out]; omega)
      clear hlt hk
      go_wp2_with ((with_reducible show wpList _ _ _ (Oper.mk _ (Op.load _ _) _ _ _ _ :: _) _ _); refine wpList_load_g hlv _ rfl rfl (by go_simp) ?_)
      go_ret
      rw [HE.out]
      exact ⟨_, _, _, rfl, HH.out.2.1.lower (by omega), below_step HBE.out HH.out.2.2⟩
end Go.Proofs.YtihfaknflfmohaaDoor

/- Layer 5 (prefix): the reader's version and some. -/
namespace Go.Proofs.YtihfaknflfmohaaDoor
open Go.RowKit
set_option linter.unusedVariables false
set_option linter.unusedSimpArgs false
set_option maxRecDepth 4000

theorem Laid.grown {w w1 : World} (h : Laid w) {g : Nat} (hg : w.grownBy w1 (some g)) (h0 : g ≠ 0) : Laid w1 :=
  ⟨fun i hi => hg.cell (h.at_ i hi) (fun e => by injection e with e; exact h0 e.symm)⟩
theorem grown_of_alloc {w w1 : World} {o : Obj} {g : Nat} (h : (w.alloc o).grownBy w1 (some g)) : w.grownBy w1 (some g) :=
  ⟨h.os, h.tape, h.output, by have := h.size; simp at this; omega, fun k hk hne => by
    rw [h.block k (by simp; omega) hne]
    exact Below.heap_alloc w o k hk⟩
theorem grown_far {w w1 w2 : World} {row : Option Nat} {c : Nat} (h : w.grownBy w1 row) (k : w1.grownBy w2 (some c)) (hc : w.heap.size ≤ c) : w.grownBy w2 row :=
  ⟨k.os.trans h.os, k.tape.trans h.tape, k.output.trans h.output, Nat.le_trans h.size k.size, fun i hi hne =>
    (k.block i (Nat.lt_of_lt_of_le hi h.size) (fun e => by injection e with e; omega)).trans (h.block i hi hne)⟩
theorem grown_then {w w1 w2 : World} {row : Option Nat} (h : w.grownBy w1 row) (k : Below w1.heap.size w1 w2) : w.grownBy w2 row :=
  ⟨k.os.trans h.os, k.tape.trans h.tape, k.output.trans h.output, Nat.le_trans h.size k.size, fun i hi hne =>
    (k.block i (Nat.lt_of_lt_of_le hi h.size)).trans (h.block i hi hne)⟩
theorem Rdr.byte {w : World} {lo g : Nat} {xs : List Int} {e : Int} (h : Rdr w lo g xs e) : Bytes xs := by
  obtain ⟨A, n, c, -, hr, -⟩ := h
  exact hr.range
theorem Rdr.short {w : World} {lo g : Nat} {xs : List Int} {e : Int} (h : Rdr w lo g xs e) : xs.length ≤ 281474976710656 := by
  obtain ⟨A, n, c, -, hr, -⟩ := h
  rw [hr.len]
  exact hr.small
theorem u8_none {lo : Nat} (g : Nat) (w : World) (hr : Rdr w lo g [] 0) :
    Calls Tryd.prog 89 #[.pointer (some ⟨g, 0, none⟩)] w fun e w' => e = .returned (.int .u8 0) ∧ Rdr w' lo g [] 7 ∧ w.grownBy w' (some g) :=
  u8_any g [] 0 w hr
theorem u8_some {lo : Nat} (g : Nat) (x : Int) (r : List Int) (w : World) (hr : Rdr w lo g (x :: r) 0) :
    Calls Tryd.prog 89 #[.pointer (some ⟨g, 0, none⟩)] w fun e w' => e = .returned (.int .u8 x) ∧ Rdr w' lo g r 0 ∧ w.grownBy w' (some g) := by
  have hx := hr.byte x (by simp)
  have hb : offB (x :: r) 0 1 = true := by simp [offB]; omega
  have := u8_any g (x :: r) 0 w hr
  rw [offT_true hb, offL_true hb, offE_true hb] at this
  have e : numOf 0 ((x :: r).take (1 : Int).toNat) % 256 = x := by
    show (0 * 256 + x) % 18446744073709551616 % 256 = x
    omega
  rw [e] at this
  exact this
/-- The reader of the package: a box that holds the pointer. -/
abbrev rdV (g : Nat) : Array Value := #[.pointer (some ⟨g, 0, none⟩)]

set_option maxHeartbeats 2000000 in
theorem version_any {lo : Nat} (g : Nat) (xs : List Int) (wrong : Int) (w : World) (hL : Laid w) (hg0 : g ≠ 0) (hr : Rdr w lo g xs 0) (hwr : wrong ≠ 0) :
    Calls Tryd.prog 114 #[.agg (rdV g), .int .i64 wrong] w fun e w' => e = .returned (.tuple #[.int .i64 (verV xs wrong), .int .i64 (verE xs wrong)]) ∧ Rdr w' lo g (xs.drop 1) (if xs.length = 0 then 7 else 0) ∧ w.grownBy w' (some g) := by
  have hlt := hr.lt
  have HR := Lib.hid (hr.below (below_alloc (Below.refl _ _) (.cells (rdV g) 163)))
  have HB := Lib.hid (blk_new w (.cells (rdV g) 163))
  have HL := Lib.hid (hL.below (below_alloc (Below.refl _ _) (.cells (rdV g) 163)))
  clear hL
  cases xs with
  | nil =>
    have h0 : verV [] wrong = 0 := rfl
    have h1 : verE [] wrong = 7 := rfl
    rw [h0, h1]
    clear h0 h1
    go_enter Tryd.func114, Tryd.ntmps114
    go_wp2_with fail
    refine (u8_none g _ HR.out).mono ?_
    rintro e w1 ⟨rfl, hr1, hg1⟩
    have hb1 := blk_grown HB.out hg1 (fun e => by injection e with e; omega)
    have hc1 : w1.cell? ⟨w.heap.size, 0, none⟩ = some (.pointer (some ⟨g, 0, none⟩)) := by rw [blk_cell hb1]; rfl
    have H1 := Lib.hid (And.intro hr1 hg1)
    clear hr1 hg1 hb1
    go_wp2_with fail
    refine (err_any g _ _ w1 H1.out.1).mono ?_
    rintro e w2 ⟨rfl, rfl⟩
    go_wp2
    go_ret2
    exact ⟨rfl, H1.out.1, grown_of_alloc H1.out.2⟩
  | cons x r =>
    have hx := hr.byte x (by simp)
    clear hr
    go_enter Tryd.func114, Tryd.ntmps114
    go_wp2_with fail
    refine (u8_some g x r _ HR.out).mono ?_
    rintro e w1 ⟨rfl, hr1, hg1⟩
    have hb1 := blk_grown HB.out hg1 (fun e => by injection e with e; omega)
    have hc1 : w1.cell? ⟨w.heap.size, 0, none⟩ = some (.pointer (some ⟨g, 0, none⟩)) := by rw [blk_cell hb1]; rfl
    have H1 := Lib.hid (And.intro hr1 hg1)
    have HL1 := Lib.hid (HL.out.grown hg1 hg0)
    clear hr1 hg1 hb1
    go_wp2_with fail
    refine (err_any g _ _ w1 H1.out.1).mono ?_
    rintro e w2 ⟨rfl, rfl⟩
    go_wp2_with fail
    refine (width_any x w1 HL1.out).mono ?_
    rintro e w2 ⟨rfl, rfl⟩
    have hrd : rd (x :: r) 0 = x := rfl
    by_cases hw : widthA x = 0
    · have HV := Lib.hid (show verE (x :: r) wrong = wrong by rw [verE_cons (by simp), hrd, if_pos hw])
      have HW := Lib.hid (show verV (x :: r) wrong = 0 by unfold verV; rw [HV.out, if_neg hwr])
      rw [hw]
      clear hw hrd
      go_wp2
      go_ret2
      rw [HV.out, HW.out]
      exact ⟨rfl, H1.out.1, grown_of_alloc H1.out.2⟩
    · have HV := Lib.hid (show verE (x :: r) wrong = 0 by rw [verE_cons (by simp), hrd, if_neg hw])
      have HW := Lib.hid (show verV (x :: r) wrong = x by unfold verV; rw [HV.out, hrd]; rfl)
      have hw0 : ((widthA x : Int) == 0) = false := by simp; omega
      have hw1 : ((widthA x) == 0) = false := by simp; omega
      clear hw hrd
      go_wp2
      go_ret2
      rw [HV.out, HW.out]
      exact ⟨rfl, H1.out.1, grown_of_alloc H1.out.2⟩

theorem arr_neq_exec {r : Operand → Value} {o : Oper} {x y : Operand} {ty : TypeId} (ho : o.op = .binOp .neq 29 x y ty) (l m : List Int) (hx : r x = .agg (arrV l)) (hy : r y = .agg (arrV m)) (hl : B16 l) (hm : B16 m) (w : World) :
    (execOp r o).run Tryd.prog w = .ok (.value (.bool (!decide (l = m)))) w := by
  have hgt : Tryd.prog.eqGuardType Tryd.prog.depth 29 = false := by kernel_rfl
  have hg : (eqGuard .neq 29 x y (.agg (arrV l)) (.agg (arrV m))).run Tryd.prog w = .ok () w := by
    simp [eqGuard, Sem.run_bind, run_program, hgt]
  have hq : (binOp .neq 29 (.agg (arrV l)) (.agg (arrV m))).run Tryd.prog w = .ok (.bool (!decide (l = m))) w := by
    show ((do pure (Value.bool (!(← Op.equal 29 (.agg (arrV l)) (.agg (arrV m))))) : Sem Value)).run Tryd.prog w = _
    rw [Sem.run_bind, arr_equal l m hl hm w]
    rfl
  unfold execOp
  simp only [ho, hx, hy, Sem.run_bind, hg, hq, Result.andThen_ok, Sem.run_pure]

def SomeRest (lo g : Nat) (xs : List Int) (bits : Nat) (wrong : Int) (w : World) : Prop := ∃ rest e1, Rdr w lo g rest e1 ∧ (someE xs bits wrong = 0 → rest = xs.drop (fullB bits) ∧ e1 = 0)
theorem drop_rd (xs : List Int) (k : Nat) (h : k < xs.length) : xs.drop k = rd xs (k : Int) :: xs.drop (k + 1) := by
  rw [List.drop_eq_getElem_cons h]
  simp [rd, List.getD_eq_getElem?_getD, h]
set_option maxHeartbeats 4000000 in
theorem some_any {lo : Nat} (g : Nat) (xs : List Int) (bits : Nat) (wrong : Int) (w : World) (hr : Rdr w lo g xs 0) (hwr : wrong ≠ 0) (hbits : bits ≤ 128) :
    Calls Tryd.prog 115 #[.agg (rdV g), .int .i64 bits, .int .i64 wrong] w fun e w' => e = .returned (.tuple #[.agg (arrV (someL xs bits wrong)), .int .i64 (someE xs bits wrong)]) ∧
      SomeRest lo g xs bits wrong w' ∧ w.grownBy w' (some g) := by
  have hlt := hr.lt
  have hxb := hr.byte
  have hst : (((w.alloc (.cells (rdV g) 163)).alloc (.cells (arrV zero16) 29))).heap[w.heap.size]? = some (.cells (rdV g) 163 (0, 0)) :=
    blk_below (blk_new w _) (below_alloc (Below.refl _ _) _)
  have hst2 := blk_new (w.alloc (.cells (rdV g) 163)) (.cells (arrV zero16) 29)
  rw [show (w.alloc (.cells (rdV g) 163)).heap.size = w.heap.size + 1 by simp] at hst2
  have HB : Hid (((w.alloc (.cells (rdV g) 163)).alloc (.cells (arrV zero16) 29)).heap[w.heap.size]? = some (.cells (rdV g) 163 (0, 0)) ∧
      ((w.alloc (.cells (rdV g) 163)).alloc (.cells (arrV zero16) 29)).heap[w.heap.size + 1]? = some (.cells (arrV (pad (xs.take 0))) 29 (0, 0)) ∧
      Rdr ((w.alloc (.cells (rdV g) 163)).alloc (.cells (arrV zero16) 29)) lo g (xs.drop 0) 0 ∧
      w.grownBy ((w.alloc (.cells (rdV g) 163)).alloc (.cells (arrV zero16) 29)) (some g)) :=
    ⟨hst, hst2, hr.below (below_alloc (below_alloc (Below.refl _ _) _) _), grown_of_below (below_alloc (below_alloc (Below.refl _ _) _) _) _⟩
  clear hst hst2 hr
  have hb0 : (0 : Int) ≤ bits := by omega
  have hb1 : (bits : Int) ≤ 128 := by omega
  obtain ⟨nb, hnb⟩ : ∃ nb, fullB (bits : Int) = nb := ⟨_, rfl⟩
  have hnn : ((bits : Int) + 7) / 8 = (nb : Int) := by rw [← hnb]; unfold fullB; omega
  have hn16 : nb ≤ 16 := by omega
  have HNB := Lib.hid hnb
  have hfq := fun w0 => full_any (bits : Int) w0 hb0 hb1
  rw [hnn] at hfq
  clear hnb hnn
  go_enter Tryd.func115, Tryd.ntmps115
  go_wp2_with fail
  refine (hfq _).mono ?_
  rintro e w1 ⟨rfl, rfl⟩
  go_wp2_with fail
  go_loopw [11] (fun i wr => ∃ k : Nat, i = .int .i64 k ∧ Hid (k ≤ nb ∧ k ≤ xs.length ∧ wr.heap[w.heap.size]? = some (.cells (rdV g) 163 (0, 0)) ∧ wr.heap[w.heap.size + 1]? = some (.cells (arrV (pad (xs.take k))) 29 (0, 0)) ∧ Rdr wr lo g (xs.drop k) 0 ∧ w.grownBy wr (some g) ∧ (k = nb → 0 < nb → clearA (pad (xs.take nb)) bits = true))) (fun i _ => 16 - (intOf i).toNat)
  case atStart => exact ⟨0, rfl, Nat.zero_le _, Nat.zero_le _, HB.out.1, HB.out.2.1, HB.out.2.2.1, HB.out.2.2.2, fun h h0 => by omega⟩
  case round =>
    obtain ⟨k, rfl, HH⟩ := hrel
    clear HB
    have hk := HH.out.1
    by_cases hlt2 : k < nb
    · have hlt' : (k : Int) < nb := by omega
      have hc1 : wr.cell? ⟨w.heap.size, 0, none⟩ = some (.pointer (some ⟨g, 0, none⟩)) := by rw [blk_cell HH.out.2.2.1]; rfl
      have hlp : (pad (xs.take k)).length = 16 := pad_len (by rw [List.length_take]; omega)
      by_cases hkx : k < xs.length
      · have hrd := HH.out.2.2.2.2.1
        rw [drop_rd xs k hkx] at hrd
        have HRD := Lib.hid hrd
        clear hrd
        go_wp2_with fail
        refine (u8_some g _ _ wr HRD.out).mono ?_
        rintro e w1 ⟨rfl, hr1, hg1⟩
        have hbx := blk_grown HH.out.2.2.1 hg1 (fun e => by injection e with e; omega)
        have hby := blk_grown HH.out.2.2.2.1 hg1 (fun e => by injection e with e; omega)
        have hcx : w1.cell? ⟨w.heap.size, 0, none⟩ = some (.pointer (some ⟨g, 0, none⟩)) := by rw [blk_cell hbx]; rfl
        have hcy := arr_cell hby k (by rw [hlp]; omega)
        have hfy : w1.frozen? ⟨w.heap.size + 1, k, none⟩ = false := blk_frozen hby k
        have hk16 : (k : Int) < 16 := by omega
        have hk0 : (0 : Int) ≤ k := by omega
        have H1 : Hid (Rdr w1 lo g (xs.drop (k + 1)) 0 ∧ w.grownBy w1 (some g) ∧ w1.heap[w.heap.size]? = some (.cells (rdV g) 163 (0, 0)) ∧ w1.heap[w.heap.size + 1]? = some (.cells (arrV (pad (xs.take k))) 29 (0, 0))) :=
          ⟨hr1, grown_trans HH.out.2.2.2.2.2.1 hg1, hbx, hby⟩
        clear hr1 hg1 hbx hby HRD hc1
        have H2 : Hid (Rdr (w1.setCell ⟨w.heap.size + 1, k, none⟩ (.int .u8 (rd xs (k : Int)))) lo g (xs.drop (k + 1)) 0 ∧ w.grownBy (w1.setCell ⟨w.heap.size + 1, k, none⟩ (.int .u8 (rd xs (k : Int)))) (some g) ∧
            (w1.setCell ⟨w.heap.size + 1, k, none⟩ (.int .u8 (rd xs (k : Int)))).heap[w.heap.size]? = some (.cells (rdV g) 163 (0, 0)) ∧
            (w1.setCell ⟨w.heap.size + 1, k, none⟩ (.int .u8 (rd xs (k : Int)))).heap[w.heap.size + 1]? = some (.cells (arrV (pad (xs.take (k + 1)))) 29 (0, 0))) := by
          refine ⟨H1.out.1.grown (grown_setCell _ _ _) (fun b hb => by injection hb with hb; simp only at hb; omega), grown_far H1.out.2.1 (grown_setCell _ _ _) (by simp), blk_set_far H1.out.2.2.1 (by simp) _, ?_⟩
          have := arr_set H1.out.2.2.2 k (rd xs (k : Int))
          rw [pad_set xs k hkx (by omega)] at this
          exact this
        go_wp2_with fail
        refine (err_any g _ _ _ H2.out.1).mono ?_
        rintro e w2' ⟨rfl, rfl⟩
        obtain ⟨w2, hw2⟩ : ∃ w2, w1.setCell ⟨w.heap.size + 1, k, none⟩ (.int .u8 (rd xs (k : Int))) = w2 := ⟨_, rfl⟩
        rw [hw2] at H2 ⊢
        clear hw2 hcx hcy hfy
        have hp16 : B16 (pad (xs.take (k + 1))) := pad_16 (by rw [List.length_take]; omega) (hxb.take _)
        have HLD : Hid (∀ w0, Below w2.heap.size w2 w0 → (Instr.loadAt 29 (.pointer (some ⟨w.heap.size + 1, 0, none⟩))).run Tryd.prog w0 = .ok (.agg (arrV (pad (xs.take (k + 1))))) w0) :=
          fun w0 h0 => load_arr hp16 (fun i hi => by rw [Nat.zero_add]; exact arr_cell (blk_below H2.out.2.2.2 h0) i (by rw [hp16.len]; exact hi))
        go_wp2_with fail
        refine wp_region_mix (fun w0 => Below (w2).heap.size (w2) w0) [(0, 0), (1, 0), (3, 0), (2, 2), (4, 0), (5, 0)] (by kernel_rfl) (by kernel_rfl) (below_drew1 _) ?_
        simp only [List.map_cons, List.map_nil]
        refine wpO_loadW (t := 29) (ad := ⟨(w.heap.size+1), 0, none⟩) rfl rfl ?hw rfl rfl ((fun w0 hS => HLD.out w0 hS)) ?_
        case hw => go_simp
        iterate 1 (refine wpO_step0 rfl rfl (fun K hK => ?_); go_simp; refine hK _ _ ?_; clear hK K)
        refine wpO_loadW (t := 29) (ad := ⟨(w.heap.size+1), 0, none⟩) rfl rfl ?hw rfl rfl ((fun w0 hS => HLD.out w0 hS)) ?_
        case hw => go_simp
        refine wpO_step2 rfl rfl (below_drew1 _) (fun K hK => ?_)
        go_simp
        refine (cut_any (pad (xs.take (k + 1))) bits _ hp16 hb0 hb1).mono ?_
        rintro e w3 ⟨rfl, hbb3⟩
        have HB3 := Lib.hid (below_step (below_drew1 _) hbb3)
        clear hbb3
        refine hK _ _ ⟨HB3.out, ?_⟩
        clear hK K
        refine wpO_step0 rfl rfl (fun K hK => ?_)
        rw [if_pos (show Region.wanted _ _ = true from rfl)]
        refine ⟨_, fun w0 => arr_neq_exec rfl (cutA (pad (xs.take (k + 1))) bits) (pad (xs.take (k + 1))) rfl rfl (cutA_16 hp16 _) hp16 w0, hK _ _ ?_⟩
        clear hK K
        have H3 : Hid (Rdr w3 lo g (xs.drop (k + 1)) 0 ∧ w.grownBy w3 (some g) ∧ w3.heap[w.heap.size]? = some (.cells (rdV g) 163 (0, 0)) ∧ w3.heap[w.heap.size + 1]? = some (.cells (arrV (pad (xs.take (k + 1)))) 29 (0, 0))) :=
          ⟨H2.out.1.below HB3.out, grown_then H2.out.2.1 HB3.out, blk_below H2.out.2.2.1 HB3.out, blk_below H2.out.2.2.2 HB3.out⟩
        by_cases hcl : clearA (pad (xs.take (k + 1))) bits = true
        · have hdc : (!decide (cutA (pad (xs.take (k + 1))) bits = pad (xs.take (k + 1)))) = false := by rw [decide_eq_true ((cut_clear hp16 bits).2 hcl)]; rfl
          rw [hdc]
          have HC := Lib.hid hcl
          clear hdc hcl
          iterate 1 (refine wpO_step0 rfl rfl (fun K hK => ?_); go_simp; refine hK _ _ ?_; clear hK K)
          refine wpO_nil ?_
          go_wp2_with fail
          go_roundw
          case measure => simp [intOf]; omega
          case rel =>
            exact ⟨k + 1, by go_num, by omega, by omega, H3.out.2.2.1, H3.out.2.2.2, H3.out.1, H3.out.2.1, fun h _ => by rw [← h]; exact HC.out⟩
        · have hcf : clearA (pad (xs.take (k + 1))) bits = false := by simpa using hcl
          have hk1 : k + 1 = nb := by
            rcases Nat.lt_or_ge (k + 1) nb with h | h
            · have := clear_pad (xs.take (k + 1)) bits (by rw [List.length_take]; have := fullB_lt (bits := bits) (i := k) (by rw [HNB.out]; exact h); omega)
              rw [this] at hcf
              cases hcf
            · omega
          have hdc : (!decide (cutA (pad (xs.take (k + 1))) bits = pad (xs.take (k + 1)))) = true := by
            rw [decide_eq_false (fun h => hcl ((cut_clear hp16 bits).1 h))]
            rfl
          rw [hdc]
          have HE := Lib.hid (some_wrong (xs := xs) (bits := bits) (wrong := wrong) (by rw [HNB.out]; omega) (by rw [HNB.out, ← hk1]; exact hcf))
          have HE2 := Lib.hid (someL_no (xs := xs) (bits := bits) (wrong := wrong) (by rw [HE.out]; exact hwr))
          have hbn := run_build_arr_nil
          clear hdc hcl hcf hk1
          iterate 1 (refine wpO_step0 rfl rfl (fun K hK => ?_); go_simp; refine hK _ _ ?_; clear hK K)
          refine wpO_nil ?_
          go_wp2_with (refine wpList_store_blk H3.out.2.2.2 29 0 (arrV zero16) (by rw [arr_size rfl, arr_size hp16.len]; exact Nat.le_refl _) (info_arr rfl) (arr_one _) _ _ rfl rfl rfl rfl ?_; intro w4 hg hs hb; rw [splice_arr0 _ zero16 rfl (arr_size hp16.len)] at hb; have H4 := Lib.hid (And.intro hg hb); clear hg hs hb)
          have hld := load_arr (b := w.heap.size + 1) (o := 0) zero16_B (fun i hi => by rw [Nat.zero_add]; exact arr_cell H4.out.2 i hi)
          refine bodyPost_ret (results_c2 rfl rfl hld) rfl ?_
          rw [HE.out, HE2.out]
          exact ⟨rfl, ⟨_, _, H3.out.1.grown H4.out.1 (fun b hb => by injection hb with hb; omega), fun h => absurd (HE.out.symm.trans h) hwr⟩, grown_far H3.out.2.1 H4.out.1 (by omega)⟩
      · have hkx' : k = xs.length := by have := HH.out.2.1; omega
        have hrd := HH.out.2.2.2.2.1
        rw [List.drop_of_length_le (by omega)] at hrd
        have HRD := Lib.hid hrd
        have HE := Lib.hid (some_short (xs := xs) (bits := bits) (wrong := wrong) (by rw [HNB.out]; omega))
        have HE2 := Lib.hid (someL_no (xs := xs) (bits := bits) (wrong := wrong) (by rw [HE.out]; decide))
        clear hrd hkx hkx'
        go_wp2_with fail
        refine (u8_none g wr HRD.out).mono ?_
        rintro e w1 ⟨rfl, hr1, hg1⟩
        have hbx := blk_grown HH.out.2.2.1 hg1 (fun e => by injection e with e; omega)
        have hby := blk_grown HH.out.2.2.2.1 hg1 (fun e => by injection e with e; omega)
        have hcx : w1.cell? ⟨w.heap.size, 0, none⟩ = some (.pointer (some ⟨g, 0, none⟩)) := by rw [blk_cell hbx]; rfl
        have hcy := arr_cell hby k (by rw [hlp]; omega)
        have hfy : w1.frozen? ⟨w.heap.size + 1, k, none⟩ = false := blk_frozen hby k
        have hk16 : (k : Int) < 16 := by omega
        have hk0 : (0 : Int) ≤ k := by omega
        have H2 : Hid (Rdr (w1.setCell ⟨w.heap.size + 1, k, none⟩ (.int .u8 0)) lo g [] 7 ∧ w.grownBy (w1.setCell ⟨w.heap.size + 1, k, none⟩ (.int .u8 0)) (some g) ∧
            (w1.setCell ⟨w.heap.size + 1, k, none⟩ (.int .u8 0)).heap[w.heap.size + 1]? = some (.cells (arrV ((pad (xs.take k)).set k 0)) 29 (0, 0))) :=
          ⟨hr1.grown (grown_setCell _ _ _) (fun b hb => by injection hb with hb; simp only at hb; omega), grown_far (grown_trans HH.out.2.2.2.2.2.1 hg1) (grown_setCell _ _ _) (by simp), arr_set hby k 0⟩
        clear hr1 hg1 hbx hby HRD hc1
        go_wp2_with fail
        refine (err_any g _ _ _ H2.out.1).mono ?_
        rintro e w2' ⟨rfl, rfl⟩
        obtain ⟨w2, hw2⟩ : ∃ w2, w1.setCell ⟨w.heap.size + 1, k, none⟩ (.int .u8 0) = w2 := ⟨_, rfl⟩
        rw [hw2] at H2 ⊢
        have hbn := run_build_arr_nil
        have hl16 : ((pad (xs.take k)).set k 0).length = 16 := by rw [List.length_set, hlp]
        clear hw2 hcx hcy hfy hlp
        go_wp2_with (refine wpList_store_blk H2.out.2.2 29 0 (arrV zero16) (by rw [arr_size rfl, arr_size hl16]; exact Nat.le_refl _) (info_arr rfl) (arr_one _) _ _ rfl rfl rfl rfl ?_; intro w4 hg hs hb; rw [splice_arr0 _ zero16 rfl (arr_size hl16)] at hb; have H4 := Lib.hid (And.intro hg hb); clear hg hs hb)
        have hld := load_arr (b := w.heap.size + 1) (o := 0) zero16_B (fun i hi => by rw [Nat.zero_add]; exact arr_cell H4.out.2 i hi)
        refine bodyPost_ret (results_c2 rfl rfl hld) rfl ?_
        rw [HE.out, HE2.out]
        exact ⟨rfl, ⟨_, _, H2.out.1.grown H4.out.1 (fun b hb => by injection hb with hb; omega), fun h => absurd (HE.out.symm.trans h) (by decide)⟩, grown_far H2.out.2.1 H4.out.1 (by omega)⟩
    · obtain rfl : k = nb := by omega
      have hm1 : decide ((k : Int) < k) = false := decide_eq_false (by omega)
      have hp16 : B16 (pad (xs.take k)) := pad_16 (by rw [List.length_take]; omega) (hxb.take _)
      have hcl : clearA (pad (xs.take k)) bits = true := by
        rcases Nat.eq_zero_or_pos k with h | h
        · subst h
          exact clear_pad _ _ (by simp)
        · exact HH.out.2.2.2.2.2.2 rfl h
      have HE := Lib.hid (some_ok (xs := xs) (bits := bits) (wrong := wrong) (by rw [HNB.out]; exact HH.out.2.1) (by rw [HNB.out]; exact hcl))
      have HE2 := Lib.hid ((someL_ok HE.out).trans (by rw [HNB.out]))
      have hld0 := load_arr (b := w.heap.size + 1) (o := 0) hp16 (fun i hi => by rw [Nat.zero_add]; exact arr_cell HH.out.2.2.2.1 i (by rw [hp16.len]; exact hi))
      clear hlt2 hcl hk
      go_wp2_with (first | ((with_reducible show wpList _ _ _ (Oper.mk _ (Op.load _ _) _ _ _ _ :: _) _ _); refine wpList_load_g hld0 _ rfl rfl (by go_simp) ?_) | (refine wpList_store_blk HH.out.2.2.2.1 29 0 (arrV (pad (xs.take k))) (by rw [arr_size hp16.len]; exact Nat.le_refl _) (info_arr hp16.len) (arr_one _) _ _ rfl rfl rfl rfl ?_; intro w4 hg hs hb; rw [splice_arr0 _ (pad (xs.take k)) hp16.len (arr_size hp16.len)] at hb; have H4 := Lib.hid (And.intro hg hb); clear hg hs hb))
      have hld := load_arr (b := w.heap.size + 1) (o := 0) hp16 (fun i hi => by rw [Nat.zero_add]; exact arr_cell H4.out.2 i (by rw [hp16.len]; exact hi))
      refine bodyPost_ret (results_c2 rfl rfl hld) rfl ?_
      rw [HE.out, HE2.out]
      exact ⟨rfl, ⟨_, _, HH.out.2.2.2.2.1.grown H4.out.1 (fun b hb => by injection hb with hb; omega), fun _ => ⟨by rw [HNB.out], rfl⟩⟩, grown_far HH.out.2.2.2.2.2.1 H4.out.1 (by omega)⟩
end Go.Proofs.YtihfaknflfmohaaDoor

/- A region that draws its order, where two operations that act may stand in either order: both orders are walked. -/
namespace Go.Proofs.YtihfaknflfmohaaDoor
open Go.RowKit
set_option linter.unusedVariables false
set_option linter.unusedSimpArgs false
set_option maxRecDepth 4000

section
variable {P : Program} {S : World → Prop} {ops : Array Oper} {md : Region.Mode} {cl : Nat → Nat}
theorem notOut (X : Act → World → Prop) : ¬ LetsOut (onlyNormal X) := fun ⟨_, _, h⟩ => h
theorem wpOp_normal {X Y K : Act → World → Prop} {i : Nat} {a : Act} {w : World} (h : wpOp P ops (onlyNormal X) i K a w) : wpOp P ops (onlyNormal Y) i K a w := by
  unfold wpOp at *
  cases hi : ops[i]? with
  | none => rw [hi] at h; exact h
  | some o =>
    rw [hi] at h
    simp only at h ⊢
    split
    · rename_i hw
      rw [if_pos hw] at h
      rcases h with h | ⟨_, h⟩
      · refine .inl ?_
        unfold Oper.wp at *
        generalize (execOp a.eval o).run P w = r at *
        cases r with
        | ok n w' =>
          cases n <;> simp only [Oper.upon] at h ⊢
          case value u => exact h
          case skip => exact h
          case defer d => exact h
          case enter f args =>
            refine Calls.mono h fun e w'' he => ?_
            cases e with
            | returned u => exact he
            | panicked c => exact he.elim
            | outgrown => exact (notOut _ he).elim
          case row row args => exact h
        | halt x w' =>
          cases x <;> simp only [Oper.upon] at h ⊢
          case panic u => exact h.elim
      · exact (notOut _ h).elim
    · rename_i hw
      rw [if_neg hw] at h
      exact h
theorem mOp_normal {X Y K K' : Act → World → Prop} {i : Nat} {a : Act} {w : World} (hk : ∀ a w, K a w → K' a w) (h : mOp P S ops (onlyNormal X) cl i K a w) : mOp P S ops (onlyNormal Y) cl i K' a w := by
  refine mOp_mono hk ?_
  unfold mOp at *
  cases hi : ops[i]? with
  | none => rw [hi] at h; exact h
  | some o =>
    rw [hi] at h
    simp only at h ⊢
    split at h
    · exact h
    · exact h
    · exact wpOp_normal h
    · exact wpOp_normal h

inductive OrdT where
  | lin (l : List Nat)
  | fork (l : List Nat) (i j : Nat) (r s : OrdT)
def OrdT.len : OrdT → Nat
  | .lin l => l.length
  | .fork l _ _ r _ => l.length + (r.len + 1)
def wpF (P : Program) (S : World → Prop) (ops : Array Oper) (cl : Nat → Nat) (K : Act → World → Prop) : OrdT → Act → World → Prop
  | .lin l, a, w => wpO P S ops (onlyNormal K) cl l a w
  | .fork l i j r s, a, w => wpO P S ops (onlyNormal fun a w => wpO P S ops (onlyNormal (wpF P S ops cl K r)) cl [i] a w ∧ wpO P S ops (onlyNormal (wpF P S ops cl K s)) cl [j] a w) cl l a w
def afterL (l : List Nat) (listed : Array Bool) : Array Bool := l.foldl (fun b i => b.setIfInBounds i true) listed
def ordP (md : Region.Mode) (ops : Array Oper) (cl : Nat → Nat) : List Nat → Array Bool → Bool
  | [], _ => true
  | i :: l, listed => (match cl i with
    | 0 => (Region.ready md ops listed).contains i && Region.free md ops listed i
    | 1 => (Region.ready md ops listed).contains i && Region.free md ops listed i && (List.range ops.size).all fun j => listed.getD j true || cl j == 0 || cl j == 1 || reach md ops i ops.size j
    | _ => Region.ready md ops listed == [i]) && ordP md ops cl l (listed.setIfInBounds i true)
def ordF (md : Region.Mode) (ops : Array Oper) (cl : Nat → Nat) : OrdT → Array Bool → Bool
  | .lin l, listed => ordB md ops cl l listed
  | .fork l i j r s, listed => ordP md ops cl l listed && (Region.ready md ops (afterL l listed) == [i, j]) && decide (r.len = s.len) && ordF md ops cl r ((afterL l listed).setIfInBounds i true) && ordF md ops cl s ((afterL l listed).setIfInBounds j true)

theorem wpM_prefix (hf : Fin md ops cl) (hs : Region.noSelect ops = true) {X K : Act → World → Prop} {n : Nat} : ∀ (l : List Nat) (listed : Array Bool) (a : Act) (w : World), Closed md ops listed → ordP md ops cl l listed = true →
    wpO P S ops (onlyNormal X) cl l a w → (∀ a w, Closed md ops (afterL l listed) → X a w → wpM P S md ops (onlyNormal K) cl n (afterL l listed) a w) → wpM P S md ops (onlyNormal K) cl (n + l.length) listed a w
  | [], listed, a, w, hcl, _, h, hX => hX a w hcl h
  | i :: l, listed, a, w, hcl, hB, h, hX => by
    simp only [ordP, Bool.and_eq_true] at hB
    obtain ⟨hB1, hB2⟩ := hB
    simp only [wpO] at h
    have h0 := h
    have hX' : ∀ a w, Closed md ops (afterL l (listed.setIfInBounds i true)) → X a w → wpM P S md ops (onlyNormal K) cl n (afterL l (listed.setIfInBounds i true)) a w := fun a w hc hx => hX a w hc hx
    show wpM P S md ops (onlyNormal K) cl (n + l.length + 1) listed a w
    unfold mOp at h
    split at hB1
    · rename_i hc
      simp only [Bool.and_eq_true, List.contains_iff_mem] at hB1
      obtain ⟨_, oi, hoi, _⟩ := mem_ready.1 hB1.1
      rw [hoi] at h
      simp only [hc] at h
      obtain ⟨v, hy, hk⟩ := h
      exact wpM_first0 hf hoi hc (Region.noSelect_spec hs) (fun c a w h => h) (n + l.length) listed a w hcl (Region.free_spec hoi hB1.2) hB1.1 hy (wpM_prefix hf hs l _ _ w (hcl.set hB1.1) hB2 hk hX')
    · rename_i hc
      simp only [Bool.and_eq_true, List.contains_iff_mem, List.all_eq_true, List.mem_range, Bool.or_eq_true, beq_iff_eq] at hB1
      obtain ⟨_, oi, hoi, _⟩ := mem_ready.1 hB1.1.1
      rw [hoi] at h
      simp only [hc] at h
      obtain ⟨v, hy, hk⟩ := h
      refine wpM_first1 (N := ops.size) hoi hc (Region.noSelect_spec hs) (n + l.length) listed a hcl (fun j oj hj hun => ?_) (Region.free_spec hoi hB1.1.2) hB1.1.1 hy (wpM_prefix hf hs l _ _ w (hcl.set hB1.1.1) hB2 hk hX')
      have := hB1.2 j (Array.getElem?_eq_some_iff.1 hj).1
      rw [hun] at this
      simpa [or_assoc] using this
    · simp only [beq_iff_eq] at hB1
      have hr : i ∈ Region.ready md ops listed := by rw [hB1]; exact List.mem_singleton.2 rfl
      exact wpM_only hB1 (mOp_normal (fun a' w' h' => wpM_prefix hf hs l _ a' w' (hcl.set hr) hB2 h' hX') h0)
theorem wpM_of_wpF (hf : Fin md ops cl) (hs : Region.noSelect ops = true) {K : Act → World → Prop} : ∀ (t : OrdT) (listed : Array Bool) (a : Act) (w : World), Closed md ops listed → ordF md ops cl t listed = true → wpF P S ops cl K t a w →
    wpM P S md ops (onlyNormal K) cl t.len listed a w
  | .lin l, listed, a, w, hcl, hB, h => wpM_of_wpO hf hs (fun c dst v a w h => h) l listed a w hcl hB h
  | .fork l i j r s, listed, a, w, hcl, hB, h => by
    simp only [ordF, Bool.and_eq_true, decide_eq_true_eq, beq_iff_eq] at hB
    obtain ⟨⟨⟨⟨h1, h2⟩, h3⟩, h4⟩, h5⟩ := hB
    show wpM P S md ops (onlyNormal K) cl (l.length + (r.len + 1)) listed a w
    rw [Nat.add_comm]
    refine wpM_prefix hf hs l listed a w hcl h1 h (fun a w hc hx => ?_)
    refine ⟨fun h => (by rw [h2] at h; cases h), fun k hk => ?_⟩
    have hri : i ∈ Region.ready md ops (afterL l listed) := by rw [h2]; simp
    have hrj : j ∈ Region.ready md ops (afterL l listed) := by rw [h2]; simp
    rw [h2] at hk
    rcases List.mem_cons.1 hk with rfl | hk
    · exact mOp_normal (fun a' w' h' => wpM_of_wpF hf hs r _ a' w' (hc.set hri) h4 h') hx.1
    · rw [List.mem_singleton] at hk
      subst hk
      exact mOp_normal (fun a' w' h' => by rw [h3]; exact wpM_of_wpF hf hs s _ a' w' (hc.set hrj) h5 h') hx.2
end
theorem wp_region_fork {P : Program} (S : World → Prop) {ops : Array Oper} {id : Nat} {Q : Exit → Act → World → Prop} {a : Act} {w : World} (t : OrdT) (l : List (Nat × Nat)) (hm : P.follows .mixedOrders = true)
    (hB : (finB .any ops l && Region.noSelect ops && decide (t.len = ops.size) && ordF .any ops (clOf l) t (Array.replicate ops.size false)) = true)
    (hS : S w.drew) (h : wpF P S ops (clOf l) (Q .normal) t a w.drew) : (Code.region id ops true).wp P Q a w := by
  simp only [Bool.and_eq_true, decide_eq_true_eq] at hB
  refine wp_mono (Q := onlyNormal (Q .normal)) (wp_region_any hm (wpAny_of_wpM (S := S) (cl := clOf l) (fin_of hB.1.1.1) _ _ _ _ (Closed.start _) hS ?_)) (fun e a w hq => ?_)
  · have := wpM_of_wpF (P := P) (S := S) (md := .any) (cl := clOf l) (fin_of hB.1.1.1) hB.1.1.2 t (Array.replicate ops.size false) a w.drew (Closed.start _) hB.2 h
    rw [hB.1.2] at this
    exact this
  · cases e <;> first | exact hq | exact hq.elim
end Go.Proofs.YtihfaknflfmohaaDoor

/- Layer 5 (prefix): DecodeAddr. -/
namespace Go.Proofs.YtihfaknflfmohaaDoor
open Go.RowKit
set_option linter.unusedVariables false
set_option linter.unusedSimpArgs false
set_option maxRecDepth 4000

theorem load_rd {w : World} {b g : Nat} (h : w.heap[b]? = some (.cells (rdV g) 163 (0, 0))) : (Instr.loadAt 163 (.pointer (some ⟨b, 0, none⟩))).run Tryd.prog w = .ok (.agg (rdV g)) w := by
  refine run_loadAt_mid w b 0 163 [.pointer (some ⟨g, 0, none⟩)] _ (fun j v hv => ?_) Tryd.underlying163 rfl (by kernel_rfl)
  rw [Nat.zero_add, blk_cell h]
  simpa using hv
theorem load_rp {w : World} {b g : Nat} (h : w.heap[b]? = some (.cells (rdV g) 163 (0, 0))) : (Instr.loadAt 133 (.pointer (some ⟨b, 0, none⟩))).run Tryd.prog w = .ok (.pointer (some ⟨g, 0, none⟩)) w := by
  have hc : w.cell? ⟨b, 0, none⟩ = some (.pointer (some ⟨g, 0, none⟩)) := by rw [blk_cell h]; rfl
  clear h
  go_simp
theorem load_arr0 {w : World} {b : Nat} {l : List Int} (hl : B16 l) (h : w.heap[b]? = some (.cells (arrV l) 29 (0, 0))) : (Instr.loadAt 29 (.pointer (some ⟨b, 0, none⟩))).run Tryd.prog w = .ok (.agg (arrV l)) w :=
  load_arr hl (fun i hi => by rw [Nat.zero_add]; exact arr_cell h i (by rw [hl.len]; exact hi))
theorem load_adr0 {w : World} {b : Nat} {v : Int} {l : List Int} (hl : B16 l) (h : w.heap[b]? = some (.cells (adrV v l) 31 (0, 0))) : (Instr.loadAt 31 (.pointer (some ⟨b, 0, none⟩))).run Tryd.prog w = .ok (.agg (adrV v l)) w :=
  ((adr_at hl h).all w (Below.refl _ _)).1
/-- What holds while the bytes are read: the reader's box, the result's cell. -/
structure DecS (w : World) (rb zb g : Nat) (z : Obj) (w0 : World) : Prop where
  below : Below w.heap.size w w0
  box : w0.heap[rb]? = some (.cells (rdV g) 163 (0, 0))
  zero : w0.heap[zb]? = some z
theorem DecS.step {w w0 w1 : World} {rb zb g : Nat} {z : Obj} (h : DecS w rb zb g z w0) (hb : Below w0.heap.size w0 w1) : DecS w rb zb g z w1 := ⟨below_step h.below hb, blk_below h.box hb, blk_below h.zero hb⟩
theorem DecS.grow {w w0 w1 : World} {rb zb g c : Nat} {z : Obj} (h : DecS w rb zb g z w0) (hg : w0.grownBy w1 (some c)) (h1 : w.heap.size ≤ c) (h2 : rb ≠ c) (h3 : zb ≠ c) : DecS w rb zb g z w1 :=
  ⟨below_grown h.below hg h1, blk_grown h.box hg (fun e => by injection e with e; exact h2 e), blk_grown h.zero hg (fun e => by injection e with e; exact h3 e)⟩

theorem SomeRest.below {lo g : Nat} {xs : List Int} {bits : Nat} {wrong : Int} {w w1 : World} (h : SomeRest lo g xs bits wrong w) (hb : Below w.heap.size w w1) : SomeRest lo g xs bits wrong w1 := by
  obtain ⟨r, e, h1, h2⟩ := h
  exact ⟨r, e, h1.below hb, h2⟩
theorem SomeRest.grown {lo g c : Nat} {xs : List Int} {bits : Nat} {wrong : Int} {w w1 : World} (h : SomeRest lo g xs bits wrong w) (hg : w.grownBy w1 (some c)) (hc : g < c) : SomeRest lo g xs bits wrong w1 := by
  obtain ⟨r, e, h1, h2⟩ := h
  exact ⟨r, e, h1.grown hg (fun b hb => by injection hb with hb; omega), h2⟩
/-- What the reading has left: the bytes in a block of their own, the reader behind them. -/
structure DecR (w : World) (rb zb g gb lo : Nat) (z : Obj) (sl : List Int) (ys : List Int) (bits : Nat) (wrong : Int) (w0 : World) : Prop where
  s : DecS w rb zb g z w0
  arr : w0.heap[gb]? = some (.cells (arrV sl) 29 (0, 0))
  rest : SomeRest lo g ys bits wrong w0
theorem DecR.drew {w w0 : World} {rb zb g gb lo : Nat} {z : Obj} {sl ys : List Int} {bits : Nat} {wrong : Int} (h : DecR w rb zb g gb lo z sl ys bits wrong w0) : DecR w rb zb g gb lo z sl ys bits wrong w0.drew :=
  ⟨h.s.step (below_drew1 _), h.arr, h.rest.below (below_drew1 _)⟩
structure DecT (w : World) (rb g gb : Nat) (sl : List Int) (w0 : World) : Prop where
  below : Below w.heap.size w w0
  box : w0.heap[rb]? = some (.cells (rdV g) 163 (0, 0))
  arr : w0.heap[gb]? = some (.cells (arrV sl) 29 (0, 0))
theorem DecR.t {w w0 : World} {rb zb g gb lo : Nat} {z : Obj} {sl ys : List Int} {bits : Nat} {wrong : Int} (h : DecR w rb zb g gb lo z sl ys bits wrong w0) : DecT w rb g gb sl w0 := ⟨h.s.below, h.s.box, h.arr⟩
theorem DecT.grow {w w0 w1 : World} {rb g gb c : Nat} {sl : List Int} (h : DecT w rb g gb sl w0) (hg : w0.grownBy w1 (some c)) (h1 : w.heap.size ≤ c) (h2 : rb ≠ c) (h3 : gb ≠ c) : DecT w rb g gb sl w1 :=
  ⟨below_grown h.below hg h1, blk_grown h.box hg (fun e => by injection e with e; exact h2 e), blk_grown h.arr hg (fun e => by injection e with e; exact h3 e)⟩

theorem decA_ver {xs : List Int} (h : verE xs 150 ≠ 0) : decAE xs = verE xs 150 ∧ decAV xs = 0 ∧ decAL xs = zero16 ∧ decAN xs = 0 := by
  have e : decAE xs = verE xs 150 := by unfold decAE; rw [if_pos h]
  refine ⟨e, ?_, ?_, ?_⟩
  · unfold decAV; rw [e, if_neg h]
  · unfold decAL; rw [e, if_neg h]
  · unfold decAN; rw [e, if_neg h]
theorem decA_some {xs : List Int} (h : verE xs 150 = 0) (hs : someE (xs.drop 1) (widthA (rd xs 0)) 150 ≠ 0) : decAE xs = someE (xs.drop 1) (widthA (rd xs 0)) 150 ∧ decAV xs = 0 ∧ decAL xs = zero16 ∧ decAN xs = 0 := by
  have e : decAE xs = someE (xs.drop 1) (widthA (rd xs 0)) 150 := by unfold decAE; rw [if_neg (by rw [h]; simp)]
  refine ⟨e, ?_, ?_, ?_⟩
  · unfold decAV; rw [e, if_neg hs]
  · unfold decAL; rw [e, if_neg hs]
  · unfold decAN; rw [e, if_neg hs]
theorem full_width (v : Int) : fullB (widthA v) = widthA v / 8 := by
  rcases width_cases v with h | h | h <;> rw [h] <;> rfl
theorem decA_ok {xs : List Int} (h : verE xs 150 = 0) (hs : someE (xs.drop 1) (widthA (rd xs 0)) 150 = 0) : decAE xs = 0 ∧ decAV xs = rd xs 0 ∧ decAL xs = someL (xs.drop 1) (widthA (rd xs 0)) 150 ∧ decAN xs = 1 + widthA (rd xs 0) / 8 ∧ xs.length - ((xs.drop 1).drop (fullB (widthA (rd xs 0)))).length = 1 + widthA (rd xs 0) / 8 ∧ 1 + widthA (rd xs 0) / 8 ≤ xs.length := by
  have e : decAE xs = 0 := by unfold decAE; rw [if_neg (by rw [h]; simp), hs]
  have hf := full_width (rd xs 0)
  have hlen : fullB (widthA (rd xs 0)) ≤ (xs.drop 1).length := by
    rcases Nat.lt_or_ge (xs.drop 1).length (fullB (widthA (rd xs 0))) with hh | hh
    · rw [some_short hh] at hs; cases hs
    · exact hh
  have hpos : 0 < xs.length := by
    rcases Nat.eq_zero_or_pos xs.length with hh | hh
    · unfold verE at h; rw [if_pos hh] at h; cases h
    · exact hh
  rw [List.length_drop] at hlen
  refine ⟨e, ?_, ?_, ?_, ?_, by omega⟩
  · unfold decAV; rw [e, if_pos rfl]
  · unfold decAL; rw [e, if_pos rfl, someL_ok hs, hf]
  · unfold decAN; rw [e, if_pos rfl]
  · rw [List.length_drop, List.length_drop]
    omega

end Go.Proofs.YtihfaknflfmohaaDoor

/- Layer 5 (prefix): Decode. -/
namespace Go.Proofs.YtihfaknflfmohaaDoor
open Go.RowKit
set_option linter.unusedVariables false
set_option linter.unusedSimpArgs false
set_option maxRecDepth 4000

theorem decP_no {xs : List Int} (h : decPE xs ≠ 0) : decP xs = ⟨0, zero16, 0⟩ ∧ decPN xs = 0 := by
  refine ⟨?_, ?_⟩
  · unfold decP; rw [if_neg h]
  · unfold decPN; rw [if_neg h]
theorem decP_ver {xs : List Int} (h : verE xs 151 ≠ 0) : decPE xs = verE xs 151 := by unfold decPE; rw [if_pos h]
theorem decP_short {xs : List Int} (h : verE xs 151 = 0) (hs : xs.length < 2) : decPE xs = 7 := by unfold decPE; rw [if_neg (by rw [h]; simp), if_pos hs]
theorem decP_wide {xs : List Int} (h : verE xs 151 = 0) (hs : 2 ≤ xs.length) (hw : (widthA (rd xs 0) : Int) < rd xs 1) : decPE xs = 151 := by
  unfold decPE; rw [if_neg (by rw [h]; simp), if_neg (by omega), if_pos hw]
theorem decP_some {xs : List Int} {b : Nat} (h : verE xs 151 = 0) (hs : 2 ≤ xs.length) (hb : rd xs 1 = b) (hw : b ≤ widthA (rd xs 0)) : decPE xs = someE (xs.drop 2) b 151 := by
  unfold decPE; rw [if_neg (by rw [h]; simp), if_neg (by omega), if_neg (by omega), hb]; rfl
theorem decP_ok {xs : List Int} {b : Nat} (h : decPE xs = 0) (he : decPE xs = someE (xs.drop 2) b 151) (hs : 2 ≤ xs.length) (hb : rd xs 1 = b) :
    decP xs = ⟨rd xs 0, someL (xs.drop 2) b 151, b⟩ ∧ decPN xs = 2 + fullB b ∧ xs.length - ((xs.drop 2).drop (fullB b)).length = 2 + fullB b ∧ 2 + fullB b ≤ xs.length := by
  have hse := he.symm.trans h
  have hlen : fullB b ≤ (xs.drop 2).length := by
    rcases Nat.lt_or_ge (xs.drop 2).length (fullB b) with hh | hh
    · rw [some_short hh] at hse; cases hse
    · exact hh
  rw [List.length_drop] at hlen
  refine ⟨?_, ?_, ?_, by omega⟩
  · unfold decP; rw [if_pos h, someL_ok hse, hb]
  · unfold decPN; rw [if_pos h, hb]
  · rw [List.length_drop, List.length_drop]; omega

set_option maxHeartbeats 8000000 in
theorem decode_any (A : Option Addr) (n c : Nat) (xs : List Int) (w : World) (hL : Laid w) (hr : RB w A n c xs) (hn : n ≤ 140737488355328) :
    Calls Tryd.prog 90 #[.slice A n c] w fun e w' => e = .returned (.tuple #[.agg (pfxV (decP xs).v (decP xs).l (decP xs).b), .int .i64 (decPN xs), .int .i64 (decPE xs)]) ∧ Below w.heap.size w w' := by
  have hlen := hr.len
  have hsm := hr.small
  have HZ := Lib.hid (blk_new w (.cells (pfxV 0 zero16 0) 36))
  have HBZ : Hid (Below w.heap.size w (w.alloc (.cells (pfxV 0 zero16 0) 36))) := below_alloc (Below.refl _ _) _
  have HR := Lib.hid (hr.below HBZ.out)
  have HL := Lib.hid hL
  have HLEN := Lib.hid hlen
  clear hr hL hlen
  go_enter Tryd.func90, Tryd.ntmps90
  go_wp2_with fail
  refine (read_any A n c xs _ HR.out hn).mono ?_
  rintro e w1 ⟨g, rfl, hg, hrd, hb1⟩
  simp at hg
  have hglt := hrd.lt
  have hby := Lib.hid hrd.byte
  have HR1 := Lib.hid (hrd.below (below_alloc (Below.refl _ _) (.cells (rdV g) 163)))
  have HD1 : Hid (DecS w w1.heap.size w.heap.size g (.cells (pfxV 0 zero16 0) 36) (w1.alloc (.cells (rdV g) 163))) :=
    ⟨below_alloc (below_step HBZ.out hb1) _, blk_new _ _, blk_below (blk_below HZ.out hb1) (below_alloc (Below.refl _ _) _)⟩
  clear hrd hb1 HR HZ HBZ
  go_wp2_with fail
  refine (version_any g xs 151 _ (HL.out.below HD1.out.below) (by omega) HR1.out (by decide)).mono ?_
  rintro e w2 ⟨rfl, hr2, hg2⟩
  have HD2 := Lib.hid (HD1.out.grow hg2 (by omega) (by omega) (by omega))
  have HR2 := Lib.hid hr2
  clear hr2 hg2 HD1 HR1
  by_cases hve : verE xs 151 = 0
  · have hvv : verV xs 151 = rd xs 0 := by unfold verV; rw [if_pos hve]
    have hpos : xs.length ≠ 0 := fun h => by unfold verE at hve; rw [if_pos h] at hve; cases hve
    have HVE := Lib.hid hve
    have hr2 := HR2.out
    rw [if_neg hpos] at hr2
    rw [hve, hvv]
    have hcx : w2.cell? ⟨w1.heap.size, 0, none⟩ = some (.pointer (some ⟨g, 0, none⟩)) := by rw [blk_cell HD2.out.box]; rfl
    clear hve hvv HR2
    by_cases h2 : xs.length < 2
    · have HE := Lib.hid (decP_short HVE.out h2)
      have HN0 := Lib.hid (decP_no (by rw [HE.out]; decide))
      rw [List.drop_of_length_le (by omega)] at hr2
      have HR3 := Lib.hid hr2
      clear hr2 h2 hpos
      go_wp2_with fail
      refine (u8_none g w2 HR3.out).mono ?_
      rintro e w3 ⟨rfl, hr3, hg3⟩
      have HD3 := Lib.hid (HD2.out.grow hg3 (by omega) (by omega) (by omega))
      have HR4 := Lib.hid hr3
      have hcy : w3.cell? ⟨w1.heap.size, 0, none⟩ = some (.pointer (some ⟨g, 0, none⟩)) := by rw [blk_cell HD3.out.box]; rfl
      have hbn := run_build_pfx_nil
      clear hr3 hg3 hcx
      go_wp2_with fail
      refine (err_any g _ _ w3 HR4.out).mono ?_
      rintro e w4 ⟨rfl, rfl⟩
      go_wp2_with (refine wpList_store_blk HD3.out.zero 36 0 (pfxV 0 zero16 0) (store_pfx_fit rfl rfl) (info_pfx rfl) (pfx_one _ _ _) _ _ rfl rfl rfl rfl ?_; intro w9 hg9 hs9 hb9; rw [splice_pfx _ 0 0 zero16 rfl rfl] at hb9; have H9 := Lib.hid (And.intro hg9 hb9); clear hg9 hs9 hb9)
      have hld := load_pfx zero16_B H9.out.2
      refine bodyPost_ret (results_c3 rfl rfl hld) rfl ?_
      rw [HN0.out.1, HN0.out.2, HE.out]
      exact ⟨rfl, below_grown HD3.out.below H9.out.1 (by omega)⟩
    · have h2' : 2 ≤ xs.length := by omega
      rw [drop_rd xs 1 (by omega)] at hr2
      have hbr : 0 ≤ rd xs 1 ∧ rd xs 1 < 256 := hby.out.getD 1
      obtain ⟨b, hb⟩ := Int.eq_ofNat_of_zero_le hbr.1
      have hr2' : Rdr w2 (w.alloc (.cells (pfxV 0 zero16 0) 36)).heap.size g ((b : Int) :: xs.drop 2) 0 := by rw [← hb]; exact hr2
      rw [hb] at hbr
      have HBQ := Lib.hid hb
      have HR3 := Lib.hid hr2'
      clear hr2 hr2' h2 hpos hb
      go_wp2_with fail
      refine (u8_some g (b : Int) (xs.drop 2) w2 HR3.out).mono ?_
      rintro e w3 ⟨rfl, hr3, hg3⟩
      have HD3 := Lib.hid (HD2.out.grow hg3 (by omega) (by omega) (by omega))
      have HR4 := Lib.hid hr3
      have hcy : w3.cell? ⟨w1.heap.size, 0, none⟩ = some (.pointer (some ⟨g, 0, none⟩)) := by rw [blk_cell HD3.out.box]; rfl
      clear hr3 hg3 hcx
      go_wp2_with fail
      refine (err_any g _ _ w3 HR4.out).mono ?_
      rintro e w4 ⟨rfl, rfl⟩
      clear hcy
      go_wp2_with fail
      refine (width_any (rd xs 0) w3 (HL.out.below HD3.out.below)).mono ?_
      rintro e w4 ⟨rfl, rfl⟩
      have hwl := widthA_le (rd xs 0)
      by_cases hw : (widthA (rd xs 0) : Int) < b
      · have HE := Lib.hid (decP_wide HVE.out h2' (by rw [HBQ.out]; exact hw))
        have HN0 := Lib.hid (decP_no (by rw [HE.out]; decide))
        have hbn := run_build_pfx_nil
        go_wp2_with (refine wpList_store_blk HD3.out.zero 36 0 (pfxV 0 zero16 0) (store_pfx_fit rfl rfl) (info_pfx rfl) (pfx_one _ _ _) _ _ rfl rfl rfl rfl ?_; intro w9 hg9 hs9 hb9; rw [splice_pfx _ 0 0 zero16 rfl rfl] at hb9; have H9 := Lib.hid (And.intro hg9 hb9); clear hg9 hs9 hb9)
        have hld := load_pfx zero16_B H9.out.2
        refine bodyPost_ret (results_c3 rfl rfl hld) rfl ?_
        rw [HN0.out.1, HN0.out.2, HE.out]
        exact ⟨rfl, below_grown HD3.out.below H9.out.1 (by omega)⟩
      · have hw' : b ≤ widthA (rd xs 0) := by omega
        have hd1 : decide ((widthA (rd xs 0) : Int) < b) = false := decide_eq_false hw
        have HPE := Lib.hid (decP_some HVE.out h2' HBQ.out hw')
        have hb128 : b ≤ 128 := by omega
        have hsomeB : B16 (someL (xs.drop 2) b 151) := someL_16 (hby.out.drop 2) hb128
        obtain ⟨sl, hsl⟩ : ∃ sl, someL (xs.drop 2) b 151 = sl := ⟨_, rfl⟩
        obtain ⟨se, hse⟩ : ∃ se, someE (xs.drop 2) b 151 = se := ⟨_, rfl⟩
        rw [hsl] at hsomeB
        have HSL := Lib.hid (And.intro hsl hse)
        have hlr := load_rd HD3.out.box
        clear hsl hse hw
        go_wp2_with ((with_reducible show wpList _ _ _ (Oper.mk _ (Op.load _ _) _ _ _ _ :: _) _ _); refine wpList_load_g hlr _ rfl rfl (by go_simp) ?_)
        clear hlr hd1
        refine (some_any g (xs.drop 2) b 151 w3 HR4.out (by decide) hb128).mono ?_
        rw [HSL.out.1, HSL.out.2]
        rintro e w4 ⟨rfl, hrest, hg4⟩
        have HD4 := Lib.hid (HD3.out.grow hg4 (by omega) (by omega) (by omega))
        have HREST := Lib.hid hrest
        have hnew := blk_new w4 (.cells (arrV zero16) 29)
        have HN : Hid (DecR w w1.heap.size w.heap.size g w4.heap.size (w.alloc (.cells (pfxV 0 zero16 0) 36)).heap.size (.cells (pfxV 0 zero16 0) 36) zero16 (xs.drop 2) b 151 (w4.alloc (.cells (arrV zero16) 29))) :=
          ⟨HD4.out.step (below_alloc (Below.refl _ _) _), hnew, HREST.out.below (below_alloc (Below.refl _ _) _)⟩
        have hl4 := blk_lt HD4.out.box
        have hz4 := blk_lt HD4.out.zero
        clear hrest hg4 hnew
        by_cases hse : se = 0
        · have hpe : decPE xs = 0 := HPE.out.trans (HSL.out.2.trans hse)
          have HE := Lib.hid (And.intro hpe (decP_ok hpe HPE.out h2' HBQ.out))
          subst hse
          go_wp2_with (refine wpList_store_blk HN.out.arr 29 0 (arrV sl) (by rw [arr_size hsomeB.len, arr_size rfl]; exact Nat.le_refl _) (info_arr hsomeB.len) (arr_one _) _ _ rfl rfl rfl rfl ?_; intro w5 hg5 hs5 hb5; rw [splice_arr0 _ sl hsomeB.len rfl] at hb5; have H5 : Hid (DecR w w1.heap.size w.heap.size g w4.heap.size (w.alloc (.cells (pfxV 0 zero16 0) 36)).heap.size (.cells (pfxV 0 zero16 0) 36) sl (xs.drop 2) b 151 w5) := ⟨HN.out.s.grow hg5 (by omega) (by omega) (by omega), hb5, HN.out.rest.grown hg5 (by omega)⟩; clear hg5 hs5 hb5)
          obtain ⟨rest, er, hrr, hrw⟩ := H5.out.rest
          obtain ⟨rfl, rfl⟩ := hrw HSL.out.2
          have HRR := Lib.hid hrr
          have hwv := HE.out.2.2.2
          clear hrr hrw hpe
          obtain ⟨lf, hlf⟩ : ∃ lf, ((xs.drop 2).drop (fullB b)).length = lf := ⟨_, rfl⟩
          obtain ⟨wq, hwq⟩ : ∃ wq, fullB b = wq := ⟨_, rfl⟩
          rw [hlf, hwq, HLEN.out] at hwv
          have hsub : IntKind.i64.wrap ((n : Int) - (lf : Int)) = 2 + wq := by rw [IntWalk.i64_in _ (by omega)]; omega
          have HWQ := Lib.hid (And.intro hlf hwq)
          clear hwv hlf hwq
          refine wp_region_mix ((DecT w w1.heap.size g w4.heap.size sl)) [(0, 0), (1, 0), (2, 0), (3, 0), (4, 0), (5, 0), (6, 0), (7, 0), (8, 0), (9, 2), (10, 0), (11, 2), (12, 0), (13, 0)] (by kernel_rfl) (by kernel_rfl) ((H5.out.drew.t)) ?_
          simp only [List.map_cons, List.map_nil]
          iterate 1 (refine wpO_step0 rfl rfl (fun K hK => ?_); go_simp; refine hK _ _ ?_; clear hK K)
          refine wpO_loadW (t := 29) (ad := ⟨w4.heap.size, 0, none⟩) rfl rfl ?hw rfl rfl ((fun w0 hS => load_arr0 hsomeB hS.arr)) ?_
          case hw => go_simp
          refine wpO_step0 rfl rfl (fun K hK => ?_)
          rw [if_pos (show Region.wanted _ _ = true from rfl)]
          refine ⟨_, fun w0 => exec_build_adr rfl rfl rfl hsomeB.len w0, hK _ _ ?_⟩
          clear hK K
          iterate 1 (refine wpO_step0 rfl rfl (fun K hK => ?_); go_simp; refine hK _ _ ?_; clear hK K)
          refine wpO_step0 rfl rfl (fun K hK => ?_)
          rw [if_pos (show Region.wanted _ _ = true from rfl)]
          refine ⟨_, fun w0 => exec_build_pfx rfl rfl rfl hsomeB.len w0, hK _ _ ?_⟩
          clear hK K
          iterate 3 (refine wpO_step0 rfl rfl (fun K hK => ?_); go_simp; refine hK _ _ ?_; clear hK K)
          refine wpO_loadW (t := 133) (ad := ⟨w1.heap.size, 0, none⟩) rfl rfl ?hw rfl rfl ((fun w0 hS => load_rp hS.box)) ?_
          case hw => go_simp
          refine wpO_step2 rfl rfl (H5.out.drew.t) (fun K hK => ?_)
          go_simp
          refine (left_any g _ _ _ (HRR.out.below (below_drew1 _))).mono ?_
          rintro e w6 ⟨rfl, rfl⟩
          rw [HWQ.out.1]
          refine hK _ _ ⟨H5.out.drew.t, ?_⟩
          clear hK K
          iterate 1 (refine wpO_step0 rfl rfl (fun K hK => ?_); go_simp; refine hK _ _ ?_; clear hK K)
          refine wpO_step2 rfl rfl (H5.out.drew.t) (fun K hK => ?_)
          rw [if_pos (show Region.wanted _ _ = true from rfl)]
          refine oper_store_blk H5.out.drew.s.zero 36 0 (pfxV (rd xs 0) sl b) (store_pfx_fit hsomeB.len rfl) (info_pfx hsomeB.len) (pfx_one _ _ _) _ _ rfl rfl rfl ?_
          intro w6 hg6 hs6 hb6
          rw [splice_pfx _ _ _ sl hsomeB.len rfl] at hb6
          have H6 := Lib.hid (And.intro (H5.out.drew.t.grow hg6 (by omega) (by omega) (by omega)) hb6)
          clear hg6 hs6 hb6
          refine hK _ _ ⟨H6.out.1, ?_⟩
          clear hK K
          iterate 2 (refine wpO_step0 rfl rfl (fun K hK => ?_); go_simp; refine hK _ _ ?_; clear hK K)
          refine wpO_nil ?_
          go_wp2
          have hld := load_pfx hsomeB H6.out.2
          refine bodyPost_ret (results_c3 rfl rfl hld) rfl ?_
          rw [HE.out.1, HE.out.2.1, HE.out.2.2.1, HSL.out.1, HWQ.out.2]
          exact ⟨rfl, H6.out.1.below⟩
        · have HE := Lib.hid (HPE.out.trans HSL.out.2)
          have HN0 := Lib.hid (decP_no (by rw [HE.out]; exact hse))
          have hsb : (se != 0) = true := by simpa using hse
          have hbn := run_build_pfx_nil
          clear hse
          go_wp2_with (first | (refine wpList_store_blk HN.out.arr 29 0 (arrV sl) (by rw [arr_size hsomeB.len, arr_size rfl]; exact Nat.le_refl _) (info_arr hsomeB.len) (arr_one _) _ _ rfl rfl rfl rfl ?_; intro w5 hg5 hs5 hb5; have H5 := Lib.hid (HN.out.s.grow hg5 (by omega) (by omega) (by omega)); clear hg5 hs5 hb5) | (refine wpList_store_blk H5.out.zero 36 0 (pfxV 0 zero16 0) (store_pfx_fit rfl rfl) (info_pfx rfl) (pfx_one _ _ _) _ _ rfl rfl rfl rfl ?_; intro w9 hg9 hs9 hb9; rw [splice_pfx _ 0 0 zero16 rfl rfl] at hb9; have H9 := Lib.hid (And.intro hg9 hb9); clear hg9 hs9 hb9))
          have hld := load_pfx zero16_B H9.out.2
          refine bodyPost_ret (results_c3 rfl rfl hld) rfl ?_
          rw [HN0.out.1, HN0.out.2, HE.out]
          exact ⟨rfl, below_grown H5.out.below H9.out.1 (by omega)⟩
  · have HE := Lib.hid (decP_ver hve)
    have HN0 := Lib.hid (decP_no (by rw [HE.out]; exact hve))
    obtain ⟨ve, hv⟩ : ∃ ve, verE xs 151 = ve := ⟨_, rfl⟩
    rw [hv] at hve HE
    rw [hv]
    have hsb : (ve != 0) = true := by simpa using hve
    have hbn := run_build_pfx_nil
    clear hve hv
    go_wp2_with (refine wpList_store_blk HD2.out.zero 36 0 (pfxV 0 zero16 0) (store_pfx_fit rfl rfl) (info_pfx rfl) (pfx_one _ _ _) _ _ rfl rfl rfl rfl ?_; intro w9 hg9 hs9 hb9; rw [splice_pfx _ 0 0 zero16 rfl rfl] at hb9; have H9 := Lib.hid (And.intro hg9 hb9); clear hg9 hs9 hb9)
    have hld := load_pfx zero16_B H9.out.2
    refine bodyPost_ret (results_c3 rfl rfl hld) rfl ?_
    rw [HN0.out.1, HN0.out.2, HE.out]
    exact ⟨rfl, below_grown HD2.out.below H9.out.1 (by omega)⟩
end Go.Proofs.YtihfaknflfmohaaDoor

/- Layer 5: wakes. -/
namespace Go.Proofs.YtihfaknflfmohaaDoor
open Go.RowKit
set_option linter.unusedVariables false
set_option linter.unusedSimpArgs false
set_option maxRecDepth 4000

def tenL : List Int := [10, 1, 2, 3, 0, 0, 0, 0, 0, 0, 0, 0, 0, 0, 0, 0]
def ten8 : List Int := [10, 0, 0, 0, 0, 0, 0, 0, 0, 0, 0, 0, 0, 0, 0, 0]
theorem tenL_B : B16 tenL := ⟨rfl, fun x hx => by simp [tenL] at hx; omega⟩
theorem ten8_B : B16 ten8 := ⟨rfl, fun x hx => by simp [ten8] at hx; omega⟩
theorem ten_right : rightA 4 tenL = true := by decide
theorem ten_of : ofE 4 tenL 8 = 0 ∧ ofP 4 tenL 8 = ⟨4, ten8, 8⟩ := by
  obtain ⟨h1, h2⟩ := of_ok (k := 8) ten_right (by decide) (by decide)
  rw [h1, h2]
  exact ⟨rfl, rfl⟩
theorem ten_enc : errP 4 ten8 8 = 0 ∧ encPE ⟨4, ten8, 8⟩ = [4, 8, 10] := by
  refine ⟨by decide, by decide⟩
theorem ten_dec : decPE [4, 8, 10] = 0 ∧ decPN [4, 8, 10] = 3 ∧ decP [4, 8, 10] = ⟨4, ten8, 8⟩ := ⟨by decide, by decide, rfl⟩
theorem ten_has : Pfx.has ⟨4, ten8, 8⟩ 4 tenL = true := by decide
theorem ten_nib : nibP 4 tenL 1 = 10 := by decide
theorem ten_ok : Pfx.ok ⟨4, ten8, 8⟩ := ⟨ten8_B, by decide, by decide⟩
/-- A whole prefix stored into a cell just made. -/
structure WakS (w : World) (g h : Nat) (w0 : World) : Prop where
  below : Below w.heap.size w w0
  p : w0.heap[g]? = some (.cells (pfxV 4 ten8 8) 36 (0, 0))
  q : w0.heap[h]? = some (.cells (pfxV 4 ten8 8) 36 (0, 0))
theorem WakS.step {w w0 w1 : World} {g h : Nat} (s : WakS w g h w0) (hb : Below w0.heap.size w0 w1) : WakS w g h w1 := ⟨below_step s.below hb, blk_below s.p hb, blk_below s.q hb⟩
end Go.Proofs.YtihfaknflfmohaaDoor

/- Layer 9 (table): wakes, copied. -/
namespace Go.Proofs.YtihfaknflfmohaaDoor
open Go.RowKit
set_option linter.unusedVariables false
set_option linter.unusedSimpArgs false
set_option maxRecDepth 4000
theorem eight_any (w : World) : Calls Tryd.prog 61 #[] w fun e w' => e = .returned (.agg (pfxV 4 ten8 8)) ∧ Below w.heap.size w w' := by
  have hz := blk_new w (.cells (pfxV 0 zero16 0) 36)
  go_enter Tryd.func61, Tryd.ntmps61
  go_wp2_with (refine wpList_store_blk hz 36 0 (pfxV 4 ten8 8) (store_pfx_fit rfl rfl) (info_pfx rfl) (pfx_one _ _ _) _ _ rfl rfl rfl rfl ?_; intro w9 hg9 hs9 hb9; rw [splice_pfx _ _ _ ten8 rfl rfl] at hb9; have H9 := Lib.hid (And.intro hg9 hb9); clear hg9 hs9 hb9)
  have hld := ((pfx_at ten8_B H9.out.2).all _ (Below.refl _ _)).2.2.2.2
  refine bodyPost_ret (results_c1 rfl rfl hld) rfl ⟨rfl, below_grown (below_alloc (Below.refl _ _) _) H9.out.1 (Nat.le_refl _)⟩
theorem copiedT_any (A : Option Addr) (n c : Nat) (t : List Row) (w : World) (ht : RT w A n c t) (hn : n ≤ 1000000) : Calls Tryd.prog 24 #[.agg (tabV A n c)] w fun e w' => ∃ A' c', e = .returned (.agg (tabV A' n c')) ∧ OT w' w.heap.size A' n c' t ∧ Below w.heap.size w w' := by
  have hblk1 := blk_new w (.cells (tabV A n c) 28)
  have hbel1 : Below w.heap.size w (w.alloc (.cells (tabV A n c) 28)) := below_alloc (Below.refl _ _) _
  have HP1 := Lib.hid (tab_at hblk1)
  have HBK1 := Lib.hid hblk1
  have HBE := Lib.hid hbel1
  obtain ⟨cs1, hcs1⟩ : ∃ cs, tabV A n c = cs := ⟨_, rfl⟩
  simp only [hcs1] at HBE HP1 HBK1 ⊢
  have HC1 := Lib.hid hcs1
  clear hcs1 hblk1 hbel1
  have HT := Lib.hid (ht.below HBE.out)
  have hs : (w.alloc (.cells cs1 28)).heap.size = w.heap.size + 1 := by simp
  obtain ⟨W1, hW1⟩ : ∃ W1, (w.alloc (.cells cs1 28)).alloc (.cells #[.slice none 0 0] 28) = W1 := ⟨_, rfl⟩
  have hz : W1.heap[w.heap.size + 1]? = some (.cells (tabV none 0 0) 28 (0, 0)) := by
    rw [← hW1, ← hs]
    exact blk_new _ _
  have HZ := Lib.hid hz
  have hsz : W1.heap.size = w.heap.size + 2 := by rw [← hW1]; simp
  have HSZ := Lib.hid hsz
  have HB1 : Hid (Below (w.alloc (.cells cs1 28)).heap.size (w.alloc (.cells cs1 28)) W1) := Lib.hid (hW1 ▸ below_alloc (Below.refl _ _) _)
  have hl1 := (HP1.out.all _ (below_step HB1.out (below_alloc (Below.refl _ _) (.cells #[] 38)))).2
  clear ht hz hs hsz
  go_enter Tryd.func24, Tryd.ntmps24
  go_wp2_with (first | ((with_reducible show wpList _ _ _ (Oper.mk _ (Op.load _ _) _ _ _ _ :: _) _ _); refine wpList_load_g hl1 _ rfl rfl (by go_simp) ?_) | (at_builtin; refine wpList_append_shp rowK rfl (.tmp 3) (.tmp 5) rfl rfl rfl (OS.empty rowK W1 W1.heap.size (Nat.le_refl _)) ((HT.out.below HB1.out).below (below_alloc (Below.refl _ _) _)) (by simp) (by omega) ?_; intro A3 c3 w3 h1 h2 h3; rw [Nat.zero_add, List.nil_append] at h1; rw [Nat.zero_add]; have H3 := Lib.hid (And.intro h1 (And.intro (below_own (below_alloc (Below.refl W1.heap.size W1) (.cells #[] 38)) h2 (fun ad h => by injection h with h; subst h; exact Nat.le_refl _)) h1.base_)); clear h1 h2 h3) | ((with_reducible show wpList _ _ _ (Oper.mk _ (Op.store _ _ _) _ _ _ _ :: _) _ _); refine wpList_store_blk (blk_below HZ.out H3.out.2.1) 28 0 (tabV A3 n c3) (Nat.le_refl _) (info_tab _ _ _) (tab_one _ _ _) _ _ rfl rfl rfl rfl ?_; intro w4 hg9 hs9 hb9; rw [splice_tab] at hb9; have H4 := Lib.hid (And.intro hg9 hb9); clear hg9 hs9 hb9))
  have hld := load_tab H4.out.2
  refine bodyPost_ret (results_c1 rfl rfl hld) rfl ?_
  have hsz := HSZ.out
  refine ⟨_, _, rfl, (H3.out.1.grown H4.out.1 (fun ad e h => by have := H3.out.2.2 ad e; injection h with h; omega)).lower (by omega), below_grown (below_step (below_step HBE.out HB1.out) H3.out.2.1) H4.out.1 (by omega)⟩
def tenB : List Int := [10, 1, 0, 0, 0, 0, 0, 0, 0, 0, 0, 0, 0, 0, 0, 0]
def tenD : List Int := [10, 2, 0, 0, 0, 0, 0, 0, 0, 0, 0, 0, 0, 0, 0, 0]
theorem tenB_B : B16 tenB := ⟨rfl, fun x hx => by simp [tenB] at hx; omega⟩
theorem tenD_B : B16 tenD := ⟨rfl, fun x hx => by simp [tenD] at hx; omega⟩
def wkT1 : List Row := setL [] ⟨4, ten8, 8⟩ 1
def wkT2 : List Row := setL wkT1 ⟨4, tenB, 16⟩ 2
theorem wk_e1 : setE [] ⟨4, ten8, 8⟩ 1 = 0 := by decide +kernel
theorem wk_e2 : setE wkT1 ⟨4, tenB, 16⟩ 2 = 0 := by decide +kernel
theorem wk_l1 : wkT1.length = 1 := by decide +kernel
theorem wk_l2 : wkT2.length = 2 := by decide +kernel
theorem wk_q1 : longE wkT2 4 tenL = 0 ∧ longBE wkT2 4 tenL = true ∧ (longRE wkT2 4 tenL).h = 2 := by decide +kernel
theorem wk_q2 : longE wkT2 4 tenD = 0 ∧ longBE wkT2 4 tenD = true ∧ (longRE wkT2 4 tenD).h = 1 := by decide +kernel
theorem longRE_fits {t : List Row} (h : Fits t) (v : Int) (l : List Int) : (longRE t v l).fits := by
  unfold longRE
  split
  · exact longR_fits h v l
  · exact rowZ_fits
set_option maxHeartbeats 4000000 in
theorem wakes09_any (w : World) (hL : Laid w) : Calls Tryd.prog 22 #[] w fun e w' => e = .returned (.bool true) ∧ Below w.heap.size w w' := by
  have HL := Lib.hid hL
  clear hL
  go_enter Tryd.func22, Tryd.ntmps22
  go_wp2_with fail
  refine (eight_any w).mono ?_
  rintro e w1 ⟨rfl, hb1⟩
  have HB1 := Lib.hid hb1
  clear hb1
  go_wp2_with fail
  refine (tset_any none 0 0 [] ⟨4, ten8, 8⟩ 1 w1 (HL.out.below HB1.out) (RS.nil rowK w1 none 0) ten8_B (by omega)).mono ?_
  rw [wk_e1]
  rintro e w2 ⟨A1, n1, c1, rfl, hO2, hb2⟩
  obtain rfl : 1 = n1 := by rw [← wk_l1]; exact hO2.len
  have HB2 := Lib.hid (below_step HB1.out hb2)
  have HO2 := Lib.hid (show OT w2 w1.heap.size A1 1 c1 wkT1 from hO2)
  have hz2 := blk_new w2 (.cells (tabV none 0 0) 28)
  clear hb2 hO2
  go_wp2_with (first | ((with_reducible show wpList _ _ _ (Oper.mk _ (Op.store _ _ _) _ _ _ _ :: _) _ _); refine wpList_store_blk hz2 28 0 (tabV A1 1 c1) (Nat.le_refl _) (info_tab _ _ _) (tab_one _ _ _) _ _ rfl rfl rfl rfl ?_; intro w3 hg9 hs9 hb9; rw [splice_tab] at hb9; have H3 := Lib.hid (And.intro hg9 hb9); clear hg9 hs9 hb9) | ((with_reducible show wpList _ _ _ (Oper.mk _ (Op.load _ _) _ _ _ _ :: _) _ _); refine wpList_load_g (load_tab H3.out.2) _ rfl rfl (by go_simp) ?_))
  clear hz2
  have HB3 := Lib.hid (below_grown (below_alloc HB2.out _) H3.out.1 HB2.out.size)
  have HO3 := Lib.hid ((HO2.out.below (below_alloc (Below.refl _ _) (.cells (tabV none 0 0) 28))).grown H3.out.1 (fun ad e h => by have := HO2.out.lt ad e; injection h with h; omega)).reads
  refine (tset_any A1 1 c1 wkT1 ⟨4, tenB, 16⟩ 2 w3 (HL.out.below HB3.out) HO3.out tenB_B (by omega)).mono ?_
  rw [wk_e2]
  rintro e w4 ⟨A2, n2, c2, rfl, hO4, hb4⟩
  obtain rfl : 2 = n2 := by rw [← wk_l2]; exact hO4.len
  have HB4 := Lib.hid (below_step HB3.out hb4)
  have HO4 := Lib.hid (show OT w4 w3.heap.size A2 2 c2 wkT2 from hO4)
  have HG4 := Lib.hid (blk_below H3.out.2 hb4)
  have hs34 := blk_lt H3.out.2
  clear hb4 hO4
  go_wp2_with (first | ((with_reducible show wpList _ _ _ (Oper.mk _ (Op.store _ _ _) _ _ _ _ :: _) _ _); refine wpList_store_blk HG4.out 28 0 (tabV A2 2 c2) (Nat.le_refl _) (info_tab _ _ _) (tab_one _ _ _) _ _ rfl rfl rfl rfl ?_; intro w5 hg9 hs9 hb9; rw [splice_tab] at hb9; have H5 := Lib.hid (And.intro hg9 hb9); clear hg9 hs9 hb9) | ((with_reducible show wpList _ _ _ (Oper.mk _ (Op.load _ _) _ _ _ _ :: _) _ _); refine wpList_load_g (load_tab H5.out.2) _ rfl rfl (by go_simp) ?_))
  have HB5 := Lib.hid (below_grown HB4.out H5.out.1 HB2.out.size)
  have HO5 := Lib.hid (HO4.out.grown H5.out.1 (fun ad e h => by have := HO4.out.base_ ad e; injection h with h; omega)).reads
  have hfit := HO4.out.fits
  refine (tlongest_any A2 2 c2 wkT2 4 tenL w5 (HL.out.below HB5.out) HO5.out tenL_B (by omega)).mono ?_
  have hR1 := longRE_fits (t := wkT2) hfit 4 tenL
  have hh1 := wk_q1.2.2
  obtain ⟨R1, hr1⟩ : ∃ R, longRE wkT2 4 tenL = R := ⟨_, rfl⟩
  rw [wk_q1.1, wk_q1.2.1, hr1]
  rw [hr1] at hR1 hh1
  have HH1 := Lib.hid hh1
  clear hr1 hh1
  rintro e w6 ⟨rfl, hb6⟩
  have HB6 := Lib.hid (below_step HB5.out hb6)
  have HO6 := Lib.hid (HO5.out.below hb6)
  have HG6 := Lib.hid (blk_below H5.out.2 hb6)
  have hs46 := blk_lt HG6.out
  have hs56 := hb6.size
  clear hb6
  go_wp2_with (first | ((with_reducible show wpList _ _ _ (Oper.mk _ (Op.store _ _ _) _ _ _ _ :: _) _ _); refine wpList_store_blk (blk_new w6 _) 38 0 (rowV R1) (store_row_fit hR1 rfl) (info_row hR1) (rowV_one _) _ _ rfl rfl rfl rfl ?_; intro w7 hg9 hs9 hb9; rw [splice_row hR1 rfl] at hb9; have H7 := Lib.hid (And.intro hg9 hb9); clear hg9 hs9 hb9) | ((with_reducible show wpList _ _ _ (Oper.mk _ (Op.load _ _) _ _ _ _ :: _) _ _); refine wpList_load_g (load_tab (blk_grown (blk_below HG6.out (below_alloc (Below.refl _ _) _)) H7.out.1 (fun e => by injection e with e; omega))) _ rfl rfl (by go_simp) ?_))
  have HA6 := Lib.hid (below_alloc (Below.refl w6.heap.size w6) (.cells (rowV rowZ) 38))
  have HB7 := Lib.hid (below_grown (below_step HB6.out HA6.out) H7.out.1 HB6.out.size)
  have HG7 := Lib.hid (blk_grown (blk_below HG6.out HA6.out) H7.out.1 (fun e => by injection e with e; omega))
  have HO7 := Lib.hid ((HO6.out.below HA6.out).grown H7.out.1 (fun ad e h => by
    have h1 := HO4.out.lt ad e
    have h2 := HB6.out.size
    injection h with h
    have h3 := (H5.out.1).size
    omega))
  refine (tlongest_any A2 2 c2 wkT2 4 tenD w7 (HL.out.below HB7.out) HO7.out tenD_B (by omega)).mono ?_
  have hR2 := longRE_fits (t := wkT2) hfit 4 tenD
  have hh2 := wk_q2.2.2
  obtain ⟨R2, hr2⟩ : ∃ R, longRE wkT2 4 tenD = R := ⟨_, rfl⟩
  rw [wk_q2.1, wk_q2.2.1, hr2]
  rw [hr2] at hR2 hh2
  have HH2 := Lib.hid hh2
  clear hr2 hh2 hfit
  rintro e w8 ⟨rfl, hb8⟩
  have HB8 := Lib.hid (below_step HB7.out hb8)
  have HR7 := Lib.hid (blk_below H7.out.2 hb8)
  have hs78 := blk_lt HR7.out
  clear hb8
  go_upto_region 5 with (first | ((with_reducible show wpList _ _ _ (Oper.mk _ (Op.store _ _ _) _ _ _ _ :: _) _ _); refine wpList_store_blk (blk_new w8 _) 38 0 (rowV R2) (store_row_fit hR2 rfl) (info_row hR2) (rowV_one _) _ _ rfl rfl rfl rfl ?_; intro w9 hg9 hs9 hb9; rw [splice_row hR2 rfl] at hb9; have H9 := Lib.hid (And.intro hg9 hb9); clear hg9 hs9 hb9))
  have HB9 := Lib.hid (below_grown (below_alloc HB8.out _) H9.out.1 HB8.out.size)
  have hla := ((row_at hR1 (blk_grown (blk_below HR7.out (below_alloc (Below.refl _ _) (.cells (rowV rowZ) 38))) H9.out.1 (fun e => by injection e with e; omega))).all w9 (Below.refl _ _)).hop
  have hlb := ((row_at hR2 H9.out.2).all w9 (Below.refl _ _)).hop
  rw [HH1.out] at hla
  rw [HH2.out] at hlb
  go_wp2_with (first | ((with_reducible show wpList _ _ _ (Oper.mk _ (Op.load _ _) _ _ _ _ :: _) _ _); refine wpList_load_g hla _ rfl rfl (by go_simp) ?_) | ((with_reducible show wpList _ _ _ (Oper.mk _ (Op.load _ _) _ _ _ _ :: _) _ _); refine wpList_load_g hlb _ rfl rfl (by go_simp) ?_))
  go_ret
  exact ⟨rfl, HB9.out⟩
end Go.Proofs.YtihfaknflfmohaaDoor

/- From the plain walk to the fenced one (in a loop's round, or at the wide fence): a list of operations, none of which defers, walked plainly serves there too. -/
namespace Go.Proofs.YtihfaknflfmohaaDoor
open Go.RowKit
set_option linter.unusedVariables false
set_option linter.unusedSimpArgs false
set_option maxRecDepth 4000
/-- A fence that shuts nothing out: the wide one, or the wide one in a round. -/
structure Open (F : Fence) : Prop where
  fn : ∀ f, F.fn f
  depth : F.depth = none
  calls : ∀ {n : Nat} {P : Program} {f : FuncId} {args : Array Value} {w : World} {R : Ending → World → Prop}, Calls P f args w R → CallsIn F n P f args w R
  rows : ∀ {n : Nat} {P : Program} {row : String} {args : Array Value} {w : World} {R : Value → World → Prop}, Rows P row args w R → RowsIn F n P row args w R
theorem open_wide : Open Fence.wide := ⟨fun _ => trivial, rfl, fun h => callsIn_wide.2 h, fun h c cs _ => let ⟨v, w', r, s⟩ := h c cs; ⟨v, w', r, stepsIn_wide.2 s⟩⟩
theorem open_round (l : Nat) : Open (Fence.wide.inRound l) := ⟨fun _ => trivial, rfl, fun h => CallsIn.inRound l (callsIn_wide.2 h), fun h c cs _ => let ⟨v, w', r, s⟩ := h c cs; ⟨v, w', r, stepsIn_wide.2 s⟩⟩
def noDefer (o : Oper) : Bool := match o.op with
  | .defer _ => false
  | _ => true
theorem noDefer_ne {o : Oper} (h : noDefer o = true) : ∀ c, o.op ≠ .defer c := by
  intro c e
  unfold noDefer at h
  rw [e] at h
  cases h
theorem listIn_of_list {F : Fence} (hF : Open F) {n : Nat} {P : Program} {ops : Array Oper} {Q : Exit → Act → World → Prop} {rest : List Oper} :
    ∀ (l : List Oper) (a : Act) (w : World), l.all noDefer = true → wpList P ops (onlyNormal (wpListIn F n P ops Q rest)) l a w → wpListIn F n P ops Q (l ++ rest) a w
  | [], a, w, _, h => h
  | o :: l, a, w, hd, h => by
    simp only [List.all_cons, Bool.and_eq_true] at hd
    have hne := noDefer_ne hd.1
    have ih := fun a w => listIn_of_list (P := P) (ops := ops) hF (n := n) (Q := Q) (rest := rest) l a w hd.2
    simp only [List.cons_append, wpListIn]
    unfold wpList at h
    split
    · rename_i hw
      rw [if_pos hw] at h
      rcases h with h | ⟨_, h⟩
      · refine ⟨fun f _ => hF.fn f, ?_⟩
        rw [Oper.semAt_eq _ _ _ hne]
        unfold Oper.wp at h
        generalize (execOp a.eval o).run P w = r at *
        cases r with
        | ok nx w' =>
          cases nx <;> simp only [Oper.upon, Oper.uponIn] at h ⊢
          case value u => exact ih _ _ h
          case skip => exact ih _ _ h
          case defer d => exact ih _ _ h
          case enter f args =>
            refine ⟨fun hs => (by rw [hF.depth] at hs; cases hs), hF.calls (Calls.mono h fun e w'' he => ?_)⟩
            cases e with
            | returned u => exact ih _ _ he
            | panicked c => exact he.elim
            | outgrown => exact (notOut _ he).elim
          case row row args => exact ⟨fun hs => (by rw [hF.depth] at hs; cases hs), hF.rows (Rows.mono h fun v w'' he => ih _ _ he)⟩
        | halt x w' =>
          cases x <;> simp only [Oper.upon, Oper.uponIn] at h ⊢
          case panic u => exact h.elim
      · exact (notOut _ h).elim
    · rename_i hw
      rw [if_neg hw] at h
      exact ⟨fun f _ => hF.fn f, ih _ _ h⟩
theorem regionIn_of_list {F : Fence} (hF : Open F) {n : Nat} {P : Program} {Q : Exit → Act → World → Prop} {id : Nat} (l : List Oper) {a : Act} {w : World} (hd : l.all noDefer = true) (h : wpList P l.toArray (onlyNormal (Q .normal)) l a w) : (Code.region id l.toArray false).wpIn F n P Q a w := by
  refine wpIn_region_lit ?_
  have := listIn_of_list (rest := []) hF (n := n) (Q := Q) (ops := l.toArray) l a w hd h
  rwa [List.append_nil] at this
theorem regionIn_of_part {F : Fence} (hF : Open F) {n : Nat} {P : Program} {Q : Exit → Act → World → Prop} {id : Nat} (l rest : List Oper) {a : Act} {w : World} (hd : l.all noDefer = true) (h : wpList P (l ++ rest).toArray (onlyNormal (wpListIn F n P (l ++ rest).toArray Q rest)) l a w) : (Code.region id (l ++ rest).toArray false).wpIn F n P Q a w :=
  wpIn_region_lit (listIn_of_list hF l a w hd h)
theorem regionIn_of_take {F : Fence} (hF : Open F) (k : Nat) {n : Nat} {P : Program} {Q : Exit → Act → World → Prop} {id : Nat} {ops : Array Oper} {a : Act} {w : World} (hd : (ops.toList.take k).all noDefer = true) (h : wpList P ops (onlyNormal (wpListIn F n P ops Q (ops.toList.drop k))) (ops.toList.take k) a w) : (Code.region id ops false).wpIn F n P Q a w := by
  refine wpIn_region_list ?_
  have := listIn_of_list hF (n := n) (Q := Q) (rest := ops.toList.drop k) (ops.toList.take k) a w hd h
  rwa [List.take_append_drop] at this
theorem regionIn_of_all {F : Fence} (hF : Open F) {n : Nat} {P : Program} {Q : Exit → Act → World → Prop} {id : Nat} {ops : Array Oper} {a : Act} {w : World} (hd : ops.toList.all noDefer = true) (h : wpList P ops (onlyNormal (Q .normal)) ops.toList a w) : (Code.region id ops false).wpIn F n P Q a w := by
  refine wpIn_region_list ?_
  have := listIn_of_list hF (n := n) (Q := Q) (rest := []) (ops := ops) ops.toList a w hd h
  rwa [List.append_nil] at this
theorem onlyNormal_in {K : Act → World → Prop} {a : Act} {w : World} (h : K a w) : onlyNormal K .normal a w := h
end Go.Proofs.YtihfaknflfmohaaDoor
