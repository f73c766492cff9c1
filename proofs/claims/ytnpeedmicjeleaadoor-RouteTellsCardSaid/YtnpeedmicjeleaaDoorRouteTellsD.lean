/- Layer 11 (route): Same, SameBatch; the document's Same, SameBatch, prefixes, Right, RightBatch. -/
import Derived.IntWalk
import Derived.Test.YtnpeedmicjeleaaDoorRouteTellsA
import Derived.Test.YtnpeedmicjeleaaDoorRouteTellsB
import Derived.Test.YtnpeedmicjeleaaDoorRouteTellsC
namespace Go.Proofs.YtnpeedmicjeleaaDoor
open Go.RowKit
set_option linter.unusedVariables false
set_option linter.unusedSimpArgs false
set_option maxRecDepth 4000
set_option maxHeartbeats 2000000 in
theorem refsameQ_any (A1 : Option Addr) (n c : Nat) (t : List Rte) (A2 : Option Addr) (m c2 : Nat) (u : List Rte) (w : World) (ht : RS rteK w A1 n c t) (hu : RS rteK w A2 m c2 u) (ot : rteE.all t) (ou : rteE.all u) (hn : n ≤ 100000) (hm : m ≤ 100000) :
    Calls Tryd.prog 15 #[.agg (tabV A1 n c), .agg (tabV A2 m c2)] w fun e w' => e = .returned (.bool (rteE.eqL t u)) ∧ Below w.heap.size w w' := by
  have hblk1 := blk_new w (.cells (tabV A1 n c) 24)
  have hbel1 : Below w.heap.size w (w.alloc (.cells (tabV A1 n c) 24)) := below_alloc (Below.refl _ _) _
  have hblk2 := blk_new (w.alloc (.cells (tabV A1 n c) 24)) (.cells (tabV A2 m c2) 24)
  have hbel2 : Below w.heap.size w ((w.alloc (.cells (tabV A1 n c) 24)).alloc (.cells (tabV A2 m c2) 24)) := below_alloc (hbel1) _
  rw [show (w.alloc (.cells (tabV A1 n c) 24)).heap.size = w.heap.size + 1 by simp] at hblk2
  replace hblk1 := blk_below hblk1 (below_alloc (Below.refl _ _) (.cells (tabV A2 m c2) 24))
  have HP1 := Lib.hid (rib_at hblk1)
  have HBK1 := Lib.hid hblk1
  have HP2 := Lib.hid (rib_at hblk2)
  have HBK2 := Lib.hid hblk2
  have HBE := Lib.hid hbel2
  obtain ⟨cs1, hcs1⟩ : ∃ cs, tabV A1 n c = cs := ⟨_, rfl⟩
  obtain ⟨cs2, hcs2⟩ : ∃ cs, tabV A2 m c2 = cs := ⟨_, rfl⟩
  simp only [hcs1, hcs2] at HBE HP1 HP2 HBK1 HBK2 ⊢
  have HC1 := Lib.hid hcs1
  have HC2 := Lib.hid hcs2
  clear hcs1 hblk1 hbel1 hcs2 hblk2 hbel2
  have H1 := Lib.hid (ht.below HBE.out)
  have H2 := Lib.hid (hu.below HBE.out)
  have O1 := Lib.hid ot
  have O2 := Lib.hid ou
  have hl1 := (HP1.out.all _ (Below.refl _ _)).2
  have hl2 := (HP2.out.all _ (Below.refl _ _)).2
  clear ht hu ot ou
  by_cases hnm : n = m
  · subst hnm
    have HLEN := Lib.hid (show t.length = u.length by rw [H1.out.len, H2.out.len])
    go_enter Tryd.func15, Tryd.ntmps15
    go_wp2_with (first | ((with_reducible show wpList _ _ _ (Oper.mk _ (Op.load _ _) _ _ _ _ :: _) _ _); refine wpList_load_g hl1 _ rfl rfl (by go_simp) ?_) | ((with_reducible show wpList _ _ _ (Oper.mk _ (Op.load _ _) _ _ _ _ :: _) _ _); refine wpList_load_g hl2 _ rfl rfl (by go_simp) ?_))
    clear hl1 hl2
    go_loopw [5] (fun x wr => ∃ i : Nat, x = .int .i64 i ∧ Hid (i ≤ n ∧ (∀ k, k < i → rteE.eqB (rteK.at_ t k) (rteK.at_ u k) = true) ∧ Below ((w.alloc (.cells cs1 24)).alloc (.cells cs2 24)).heap.size ((w.alloc (.cells cs1 24)).alloc (.cells cs2 24)) wr)) (fun x _ => n - (intOf x).toNat)
    case atStart => exact ⟨0, rfl, Nat.zero_le _, fun k h => by omega, Below.refl _ _⟩
    case round =>
      obtain ⟨i, rfl, HH⟩ := hrel
      have hl1 := (HP1.out.all wr HH.out.2.2).2
      by_cases hlt : i < n
      · have hlt' : (i : Int) < n := by omega
        obtain ⟨b, o, rfl, hc⟩ := RS.at_ H1.out (by omega)
        obtain ⟨b2, o2, rfl, hc2⟩ := RS.at_ H2.out (by omega)
        have HC3 := Lib.hid (hc i hlt)
        have HC4 := Lib.hid (hc2 i hlt)
        clear hc hc2
        go_wp2_with (first | ((with_reducible show wpList _ _ _ (Oper.mk _ (Op.load _ _) _ _ _ _ :: _) _ _); refine wpList_load_g hl1 _ rfl rfl (by go_simp) ?_))
        refine wp_region_mix (fun w0 => Below (wr).heap.size (wr) w0) [(0, 0), (1, 0), (2, 0), (3, 0), (4, 0), (5, 0), (6, 0), (7, 0), (8, 0), (9, 0), (10, 0)] (by kernel_rfl) (by kernel_rfl) (below_drew1 _) ?_
        simp only [List.map_cons, List.map_nil]
        iterate 1 (refine wpO_step0 rfl rfl (fun K hK => ?_); go_simp; refine hK _ _ ?_; clear hK K)
        refine wpO_loadW (t := 22) (ad := ⟨w.heap.size, 0, none⟩) rfl rfl ?hw rfl rfl ((fun w0 hS => (HP1.out.all w0 (below_step HH.out.2.2 hS)).2)) ?_
        case hw => go_simp
        iterate 2 (refine wpO_step0 rfl rfl (fun K hK => ?_); go_simp; refine hK _ _ ?_; clear hK K)
        refine wpO_loadW (t := 51) (ad := ⟨b, (o+i*21), none⟩) rfl rfl ?hw rfl rfl ((fun w0 hS => Shape.ld rteK w0 b _ _ (RS.fits_at H1.out hlt) (HC3.out.below (below_step HH.out.2.2 hS)))) ?_
        case hw => go_simp
        iterate 1 (refine wpO_step0 rfl rfl (fun K hK => ?_); go_simp; refine hK _ _ ?_; clear hK K)
        refine wpO_loadW (t := 22) (ad := ⟨(w.heap.size+1), 0, none⟩) rfl rfl ?hw rfl rfl ((fun w0 hS => (HP2.out.all w0 (below_step HH.out.2.2 hS)).2)) ?_
        case hw => go_simp
        iterate 2 (refine wpO_step0 rfl rfl (fun K hK => ?_); go_simp; refine hK _ _ ?_; clear hK K)
        refine wpO_loadW (t := 51) (ad := ⟨b2, (o2+i*21), none⟩) rfl rfl ?hw rfl rfl ((fun w0 hS => Shape.ld rteK w0 b2 _ _ (RS.fits_at H2.out hlt) (HC4.out.below (below_step HH.out.2.2 hS)))) ?_
        case hw => go_simp
        refine wpO_step0 rfl rfl (fun K hK => ?_)
        rw [if_pos (show Region.wanted _ _ = true from rfl)]
        refine ⟨_, fun w0 => ShapeEq.neq rteE rfl (rteK.at_ t i) (rteK.at_ u i) rfl rfl (ShapeEq.all_at (E := rteE) O1.out (by rw [H1.out.len]; exact hlt)) (ShapeEq.all_at (E := rteE) O2.out (by rw [H2.out.len]; exact hlt)) w0, hK _ _ ?_⟩
        clear hK K
        refine wpO_nil ?_
        cases hq : rteE.eqB (rteK.at_ t i) (rteK.at_ u i) with
        | true =>
          have HQ := Lib.hid hq
          clear hq
          go_wp2_with fail
          go_roundw
          case measure => simp [intOf]; omega
          case rel =>
            refine ⟨i + 1, by go_num, by omega, fun k hk => ?_, below_step HH.out.2.2 (below_drew1 _)⟩
            by_cases hki : k < i
            · exact HH.out.2.1 k hki
            · rw [show k = i by omega]; exact HQ.out
        | false =>
          have HE : Hid (rteE.eqL t u = false) := Lib.hid (ShapeEq.eqL_no (by rw [H1.out.len]; exact hlt) (by rw [H2.out.len]; exact hlt) hq)
          clear hq
          go_wp2
          go_ret
          rw [HE.out]
          exact ⟨rfl, below_step HBE.out (below_step HH.out.2.2 (below_drew1 _))⟩
      · have hlt' : decide (i < n) = false := decide_eq_false hlt
        have HE : Hid (rteE.eqL t u = true) := Lib.hid (ShapeEq.eqL_yes HLEN.out (fun k hk => HH.out.2.1 k (by rw [H1.out.len] at hk; have := HH.out.1; omega)))
        clear hlt
        go_wp2_with (first | ((with_reducible show wpList _ _ _ (Oper.mk _ (Op.load _ _) _ _ _ _ :: _) _ _); refine wpList_load_g hl1 _ rfl rfl (by go_simp) ?_))
        go_ret
        rw [HE.out]
        exact ⟨rfl, below_step HBE.out HH.out.2.2⟩
  · have HE : Hid (rteE.eqL t u = false) := Lib.hid (ShapeEq.eqL_len (by rw [H1.out.len, H2.out.len]; exact hnm))
    have hnm' : (n == m) = false := by simpa using hnm
    clear hnm
    go_enter Tryd.func15, Tryd.ntmps15
    go_wp2_with (first | ((with_reducible show wpList _ _ _ (Oper.mk _ (Op.load _ _) _ _ _ _ :: _) _ _); refine wpList_load_g hl1 _ rfl rfl (by go_simp) ?_) | ((with_reducible show wpList _ _ _ (Oper.mk _ (Op.load _ _) _ _ _ _ :: _) _ _); refine wpList_load_g hl2 _ rfl rfl (by go_simp) ?_))
    go_ret
    rw [HE.out]
    exact ⟨rfl, HBE.out⟩
theorem rsame_any (A : Option Addr) (n c : Nat) (t : List Rte) (A2 : Option Addr) (m c2 : Nat) (u : List Rte) (w : World) (ht : RS rteK w A n c t) (hu : RS rteK w A2 m c2 u) (ot : Okr t) (ou : Okr u) (hn : n ≤ 100000) (hm : m ≤ 100000) :
    Calls Tryd.prog 23 #[.agg (tabV A n c), .agg (tabV A2 m c2)] w fun e w' => e = .returned (.bool (rteE.eqL t u)) ∧ Below w.heap.size w w' := by
  have hblk1 := blk_new w (.cells (tabV A n c) 24)
  have hbel1 : Below w.heap.size w (w.alloc (.cells (tabV A n c) 24)) := below_alloc (Below.refl _ _) _
  have hblk2 := blk_new (w.alloc (.cells (tabV A n c) 24)) (.cells (tabV A2 m c2) 24)
  have hbel2 : Below w.heap.size w ((w.alloc (.cells (tabV A n c) 24)).alloc (.cells (tabV A2 m c2) 24)) := below_alloc (hbel1) _
  rw [show (w.alloc (.cells (tabV A n c) 24)).heap.size = w.heap.size + 1 by simp] at hblk2
  replace hblk1 := blk_below hblk1 (below_alloc (Below.refl _ _) (.cells (tabV A2 m c2) 24))
  have HP1 := Lib.hid (rib_at hblk1)
  have HBK1 := Lib.hid hblk1
  have HP2 := Lib.hid (rib_at hblk2)
  have HBK2 := Lib.hid hblk2
  have HBE := Lib.hid hbel2
  obtain ⟨cs1, hcs1⟩ : ∃ cs, tabV A n c = cs := ⟨_, rfl⟩
  obtain ⟨cs2, hcs2⟩ : ∃ cs, tabV A2 m c2 = cs := ⟨_, rfl⟩
  simp only [hcs1, hcs2] at HBE HP1 HP2 HBK1 HBK2 ⊢
  have HC1 := Lib.hid hcs1
  have HC2 := Lib.hid hcs2
  clear hcs1 hblk1 hbel1 hcs2 hblk2 hbel2
  have H1 := Lib.hid (ht.below HBE.out)
  have H2 := Lib.hid (hu.below HBE.out)
  clear ht hu
  go_enter Tryd.func23, Tryd.ntmps23
  go_wp2_with (first | ((with_reducible show wpList _ _ _ (Oper.mk _ (Op.load _ _) _ _ _ _ :: _) _ _); refine wpList_load_g ((HP1.out.all _ (Below.refl _ _)).2) _ rfl rfl (by go_simp) ?_) | ((with_reducible show wpList _ _ _ (Oper.mk _ (Op.load _ _) _ _ _ _ :: _) _ _); refine wpList_load_g ((HP2.out.all _ (Below.refl _ _)).2) _ rfl rfl (by go_simp) ?_))
  refine (equalQ_any A n c t A2 m c2 u _ H1.out H2.out ot ou (by omega) (by omega)).mono ?_
  rintro e w1 ⟨rfl, hb1⟩
  have HB1 := Lib.hid (below_step HBE.out hb1)
  clear hb1
  go_wp2
  go_ret
  exact ⟨rfl, HB1.out⟩
theorem rsameb_any (A : Option Addr) (n c : Nat) (t : List Upd) (A2 : Option Addr) (m c2 : Nat) (u : List Upd) (w : World) (ht : RS updK w A n c t) (hu : RS updK w A2 m c2 u) (ot : Oku t) (ou : Oku u) (hn : n ≤ 100000) (hm : m ≤ 100000) :
    Calls Tryd.prog 24 #[.agg (tabV A n c), .agg (tabV A2 m c2)] w fun e w' => e = .returned (.bool (updE.eqL t u)) ∧ Below w.heap.size w w' := by
  have hblk1 := blk_new w (.cells (tabV A n c) 27)
  have hbel1 : Below w.heap.size w (w.alloc (.cells (tabV A n c) 27)) := below_alloc (Below.refl _ _) _
  have hblk2 := blk_new (w.alloc (.cells (tabV A n c) 27)) (.cells (tabV A2 m c2) 27)
  have hbel2 : Below w.heap.size w ((w.alloc (.cells (tabV A n c) 27)).alloc (.cells (tabV A2 m c2) 27)) := below_alloc (hbel1) _
  rw [show (w.alloc (.cells (tabV A n c) 27)).heap.size = w.heap.size + 1 by simp] at hblk2
  replace hblk1 := blk_below hblk1 (below_alloc (Below.refl _ _) (.cells (tabV A2 m c2) 27))
  have HP1 := Lib.hid (bat_at hblk1)
  have HBK1 := Lib.hid hblk1
  have HP2 := Lib.hid (bat_at hblk2)
  have HBK2 := Lib.hid hblk2
  have HBE := Lib.hid hbel2
  obtain ⟨cs1, hcs1⟩ : ∃ cs, tabV A n c = cs := ⟨_, rfl⟩
  obtain ⟨cs2, hcs2⟩ : ∃ cs, tabV A2 m c2 = cs := ⟨_, rfl⟩
  simp only [hcs1, hcs2] at HBE HP1 HP2 HBK1 HBK2 ⊢
  have HC1 := Lib.hid hcs1
  have HC2 := Lib.hid hcs2
  clear hcs1 hblk1 hbel1 hcs2 hblk2 hbel2
  have H1 := Lib.hid (ht.below HBE.out)
  have H2 := Lib.hid (hu.below HBE.out)
  clear ht hu
  go_enter Tryd.func24, Tryd.ntmps24
  go_wp2_with (first | ((with_reducible show wpList _ _ _ (Oper.mk _ (Op.load _ _) _ _ _ _ :: _) _ _); refine wpList_load_g ((HP1.out.all _ (Below.refl _ _)).2) _ rfl rfl (by go_simp) ?_) | ((with_reducible show wpList _ _ _ (Oper.mk _ (Op.load _ _) _ _ _ _ :: _) _ _); refine wpList_load_g ((HP2.out.all _ (Below.refl _ _)).2) _ rfl rfl (by go_simp) ?_))
  refine (equalU_any A n c t A2 m c2 u _ H1.out H2.out ot ou (by omega) (by omega)).mono ?_
  rintro e w1 ⟨rfl, hb1⟩
  have HB1 := Lib.hid (below_step HBE.out hb1)
  clear hb1
  go_wp2
  go_ret
  exact ⟨rfl, HB1.out⟩
/-! The document's prefixes. -/
def nots (l : List Rte) (i j : Nat) : Bool := decide (∀ k, k < j → (rteAt l k).p.eqB (rteAt l i).p = false)
theorem nots_succ (l : List Rte) (i j : Nat) : nots l i (j + 1) = (nots l i j && !(rteAt l j).p.eqB (rteAt l i).p) := by
  unfold nots
  rw [Bool.eq_iff_iff, Bool.and_eq_true, decide_eq_true_eq, decide_eq_true_eq, Bool.not_eq_true']
  constructor
  · exact fun h => ⟨fun k hk => h k (by omega), h j (by omega)⟩
  · rintro ⟨h1, h2⟩ k hk
    rcases Nat.lt_or_ge k j with h | h
    · exact h1 k h
    · rw [show k = j by omega]; exact h2
set_option maxHeartbeats 2000000 in
theorem refprefixes_any (A : Option Addr) (n c : Nat) (l : List Rte) (w : World) (hr : RS rteK w A n c l) (ok : Okr l) (hn : n ≤ 100000) : Calls Tryd.prog 48 #[.slice A n c] w fun e w' => e = .returned (.int .i64 (pfxsF l)) ∧ Below w.heap.size w w' := by
  have HR := Lib.hid hr
  have OK := Lib.hid ok
  clear hr ok
  go_enter Tryd.func48, Tryd.ntmps48
  go_wp2_with fail
  go_loopw [3, 4] (fun s3 s4 wr => ∃ i q : Nat, s4 = .int .i64 i ∧ s3 = .int .i64 q ∧ Hid (q = cntF l i ∧ i ≤ n ∧ Below w.heap.size w wr)) (fun _ y _ => n - (intOf y).toNat)
  case atStart => exact ⟨0, 0, rfl, rfl, rfl, Nat.zero_le _, Below.refl _ _⟩
  case round =>
    obtain ⟨i, q, rfl, rfl, HI⟩ := hrel
    obtain ⟨wi, rfl⟩ : ∃ wi, wi = wr := ⟨wr, rfl⟩
    have hqi : q ≤ i := by rw [HI.out.1]; exact cntF_le l i
    by_cases hlt : i < n
    · have hlt' : (i : Int) < n := by omega
      obtain ⟨b, o, rfl, hc⟩ := RS.at_ HR.out (by omega)
      have hil : i < l.length := by rw [HR.out.len]; exact hlt
      have HC := Lib.hid (fun (k : Nat) (hk : k < n) => (hc k hk).below HI.out.2.2)
      have HXO := Lib.hid (OK.out.at_ hil)
      have HSU := Lib.hid (cntF_succ l i)
      clear hc hil
      go_wp2_with fail
      go_loopw [5, 6] (fun s5 s6 wr => ∃ (k : Nat) (U : Bool), s6 = .int .i64 k ∧ s5 = .bool U ∧ Hid (U = nots l i k ∧ k ≤ i ∧ Below wi.heap.size wi wr)) (fun _ y _ => i - (intOf y).toNat)
      case atStart => exact ⟨0, true, rfl, rfl, by simp [nots], Nat.zero_le _, Below.refl _ _⟩
      case round =>
        obtain ⟨k, U, rfl, rfl, HK⟩ := hrel
        by_cases hki : k < i
        · have hki' : (k : Int) < i := by omega
          have hkn' : (k : Int) < n := by omega
          have hkn : k < n := by omega
          have HYO := Lib.hid (OK.out.at_ (show k < l.length by rw [HR.out.len]; exact hkn))
          have HCX : Hid (CellsAt wi b (o + i * 21) (rteC (rteAt l i))) := Lib.hid (HC.out i hlt)
          have HCY : Hid (CellsAt wi b (o + k * 21) (rteC (rteAt l k))) := Lib.hid (HC.out k hkn)
          have HNS := Lib.hid (nots_succ l i k)
          obtain ⟨x, hx⟩ : ∃ x, rteAt l i = x := ⟨_, rfl⟩
          obtain ⟨y, hy⟩ : ∃ y, rteAt l k = y := ⟨_, rfl⟩
          have HXO2 : Hid x.ok := Lib.hid (by rw [← hx]; exact HXO.out)
          rw [hx] at HCX HNS
          rw [hy] at HCY HNS HYO
          clear hx hy
          go_wp2_with fail
          cases he : y.p.eqB x.p with
          | true =>
            have HN : Hid (false = nots l i (k + 1)) := Lib.hid (by rw [HNS.out, he, Bool.not_true, Bool.and_false])
            have HEX := Lib.hid (pfx_eq_hex HYO.out.p HXO2.out.p he)
            clear he
            refine wp_region_mix (fun w0 => Below (wr).heap.size (wr) w0) [(0, 0), (1, 0), (2, 0), (3, 0), (4, 0), (5, 0), (6, 0), (7, 0), (8, 0), (9, 0), (10, 0)] (by kernel_rfl) (by kernel_rfl) (below_drew1 _) ?_
            simp only [List.map_cons, List.map_nil]
            iterate 4 (refine wpO_step0 rfl rfl (fun K hK => ?_); go_simp; refine hK _ _ ?_; clear hK K)
            refine wpO_loadW (t := 49) (ad := ⟨b, (o+k*21), none⟩) rfl rfl ?hw rfl rfl ((fun w0 hS => (rteLd_of HYO.out.fits (HCY.out.below (below_step HK.out.2.2 hS))).pfx)) ?_
            case hw => go_simp
            iterate 4 (refine wpO_step0 rfl rfl (fun K hK => ?_); go_simp; refine hK _ _ ?_; clear hK K)
            refine wpO_loadW (t := 49) (ad := ⟨b, (o+i*21), none⟩) rfl rfl ?hw rfl rfl ((fun w0 hS => (rteLd_of HXO2.out.fits (HCX.out.below (below_step HK.out.2.2 hS))).pfx)) ?_
            case hw => go_simp
            refine wpO_step0 rfl rfl (fun K hK => ?_)
            rw [if_pos (show Region.wanted _ _ = true from rfl)]
            refine ⟨_, fun w0 => HEX.out _ _ _ _ _ rfl rfl rfl w0, hK _ _ ?_⟩
            clear hK K
            refine wpO_nil ?_
            go_wp2_with fail
            go_roundw
            case measure => simp [intOf]; omega
            case rel => exact ⟨k + 1, false, by go_num, rfl, HN.out, by omega, below_step HK.out.2.2 (below_drew1 _)⟩
          | false =>
            have HN : Hid (U = nots l i (k + 1)) := Lib.hid (by rw [HNS.out, he, HK.out.1, Bool.not_false, Bool.and_true])
            have HEX := Lib.hid (pfx_eq_hex HYO.out.p HXO2.out.p he)
            clear he
            refine wp_region_mix (fun w0 => Below (wr).heap.size (wr) w0) [(0, 0), (1, 0), (2, 0), (3, 0), (4, 0), (5, 0), (6, 0), (7, 0), (8, 0), (9, 0), (10, 0)] (by kernel_rfl) (by kernel_rfl) (below_drew1 _) ?_
            simp only [List.map_cons, List.map_nil]
            iterate 4 (refine wpO_step0 rfl rfl (fun K hK => ?_); go_simp; refine hK _ _ ?_; clear hK K)
            refine wpO_loadW (t := 49) (ad := ⟨b, (o+k*21), none⟩) rfl rfl ?hw rfl rfl ((fun w0 hS => (rteLd_of HYO.out.fits (HCY.out.below (below_step HK.out.2.2 hS))).pfx)) ?_
            case hw => go_simp
            iterate 4 (refine wpO_step0 rfl rfl (fun K hK => ?_); go_simp; refine hK _ _ ?_; clear hK K)
            refine wpO_loadW (t := 49) (ad := ⟨b, (o+i*21), none⟩) rfl rfl ?hw rfl rfl ((fun w0 hS => (rteLd_of HXO2.out.fits (HCX.out.below (below_step HK.out.2.2 hS))).pfx)) ?_
            case hw => go_simp
            refine wpO_step0 rfl rfl (fun K hK => ?_)
            rw [if_pos (show Region.wanted _ _ = true from rfl)]
            refine ⟨_, fun w0 => HEX.out _ _ _ _ _ rfl rfl rfl w0, hK _ _ ?_⟩
            clear hK K
            refine wpO_nil ?_
            go_wp2_with fail
            go_roundw
            case measure => simp [intOf]; omega
            case rel => exact ⟨k + 1, U, by go_num, rfl, HN.out, by omega, below_step HK.out.2.2 (below_drew1 _)⟩
        · have hki' : decide (k < i) = false := decide_eq_false hki
          have hk : k = i := by have := HK.out.2.1; omega
          have HU : Hid (U = newF l i) := Lib.hid (by rw [HK.out.1, hk]; rfl)
          clear hki hk
          cases U with
          | true =>
            have HN : Hid (q + 1 = cntF l (i + 1)) := Lib.hid (by rw [HSU.out, HI.out.1, ← HU.out]; rfl)
            go_wp2_with fail
            go_roundw
            case measure => simp [intOf]; omega
            case rel => exact ⟨i + 1, q + 1, by go_num, by go_num, HN.out, by omega, below_step HI.out.2.2 HK.out.2.2⟩
          | false =>
            have HN : Hid (q = cntF l (i + 1)) := Lib.hid (by rw [HSU.out, HI.out.1, ← HU.out]; rfl)
            go_wp2_with fail
            go_roundw
            case measure => simp [intOf]; omega
            case rel => exact ⟨i + 1, q, by go_num, rfl, HN.out, by omega, below_step HI.out.2.2 HK.out.2.2⟩
    · have hlt' : decide (i < n) = false := decide_eq_false hlt
      have hin : i = n := by have := HI.out.2.1; omega
      have HE : Hid (pfxsF l = q) := Lib.hid (by unfold pfxsF; rw [HR.out.len, ← hin, HI.out.1])
      clear hlt hin
      go_wp2
      go_ret
      rw [HE.out]
      exact ⟨rfl, HI.out.2.2⟩
theorem ribB_no {l : List Rte} {i : Nat} (hi : i < l.length) (h : (rteAt l i).fit = false ∨ (0 < i ∧ ¬ cR (rteAt l (i - 1)) (rteAt l i) < 0)) : ribB l = false := by
  have := ribE_no hi (.inr h)
  unfold ribE at this
  split at this
  · cases this
  · simpa using ‹¬ ribB l = true›
theorem Okr.fits {l : List Rte} (h : Okr l) : ∀ r ∈ l, r.fits := fun r hr => (h r hr).fits
set_option maxHeartbeats 4000000 in
theorem refrib_any (A : Option Addr) (n c : Nat) (l : List Rte) (w : World) (hr : RS rteK w A n c l) (ok : Okr l) (hn : n ≤ 100000) : Calls Tryd.prog 27 #[.agg (tabV A n c)] w fun e w' => e = .returned (.bool (ribB l)) ∧ Below w.heap.size w w' := by
  have hblk1 := blk_new w (.cells (tabV A n c) 24)
  have hbel1 : Below w.heap.size w (w.alloc (.cells (tabV A n c) 24)) := below_alloc (Below.refl _ _) _
  have HP1 := Lib.hid (rib_at hblk1)
  have HBK1 := Lib.hid hblk1
  have HBE := Lib.hid hbel1
  obtain ⟨cs1, hcs1⟩ : ∃ cs, tabV A n c = cs := ⟨_, rfl⟩
  simp only [hcs1] at HBE HP1 HBK1 ⊢
  have HC1 := Lib.hid hcs1
  clear hcs1 hblk1 hbel1
  have HR := Lib.hid (hr.below HBE.out)
  have OK := Lib.hid ok
  clear hr ok
  go_enter Tryd.func27, Tryd.ntmps27
  by_cases h160 : 160 < n
  · have h160b : decide ((160 : Int) < n) = true := decide_eq_true (by omega)
    have HE : Hid (ribB l = false) := Lib.hid (by unfold ribB ribsB; rw [HR.out.len, decide_eq_false (show ¬ n ≤ 160 by omega)]; rfl)
    go_wp2_with (first | ((with_reducible show wpList _ _ _ (Oper.mk _ (Op.load _ _) _ _ _ _ :: _) _ _); refine wpList_load_g ((HP1.out.all _ (Below.refl _ _)).2) _ rfl rfl (by go_simp) ?_))
    go_ret
    rw [HE.out]
    exact ⟨rfl, HBE.out⟩
  · have h160b : decide ((160 : Int) < n) = false := decide_eq_false (by omega)
    have hn160 : n ≤ 160 := by omega
    go_wp2_with (first | ((with_reducible show wpList _ _ _ (Oper.mk _ (Op.load _ _) _ _ _ _ :: _) _ _); refine wpList_load_g ((HP1.out.all _ (Below.refl _ _)).2) _ rfl rfl (by go_simp) ?_))
    go_loopw [3] (fun s3 wr => ∃ i : Nat, s3 = .int .i64 i ∧ Hid (i ≤ n ∧ (∀ j, j < i → (rteAt l j).fit = true) ∧ (∀ j, j + 1 < i → cR (rteAt l j) (rteAt l (j + 1)) < 0) ∧ Below (w.alloc (.cells cs1 24)).heap.size (w.alloc (.cells cs1 24)) wr)) (fun x _ => n - (intOf x).toNat)
    case atStart => exact ⟨0, rfl, Nat.zero_le _, fun j h => by omega, fun j h => by omega, Below.refl _ _⟩
    case round =>
      obtain ⟨i, rfl, HI⟩ := hrel
      have HBI := Lib.hid HI.out.2.2.2
      by_cases hlt : i < n
      · have hlt' : (i : Int) < n := by omega
        obtain ⟨b, o, rfl, hc⟩ := RS.at_ HR.out (by omega)
        have hil : i < l.length := by rw [HR.out.len]; exact hlt
        have HIL := Lib.hid hil
        have HC := Lib.hid (fun (k : Nat) (hk : k < n) => (hc k hk).below HI.out.2.2.2)
        have HXO := Lib.hid (OK.out.at_ hil)
        have HCX : Hid (CellsAt wr b (o + i * 21) (rteC (rteAt l i))) := Lib.hid (HC.out i hlt)
        obtain ⟨x, hx⟩ : ∃ x, rteAt l i = x := ⟨_, rfl⟩
        rw [hx] at HCX HXO
        have HX := Lib.hid hx
        clear hc hx hil
        obtain ⟨F, hF⟩ : ∃ F, x.fit = F := ⟨_, rfl⟩
        have HF := Lib.hid hF
        go_wp2_with (first | ((with_reducible show wpList _ _ _ (Oper.mk _ (Op.load _ _) _ _ _ _ :: _) _ _); refine wpList_load_g ((HP1.out.all _ HBI.out).2) _ rfl rfl (by go_simp) ?_))
        clear hF
        refine wp_region_mix (fun w0 => Below (wr).heap.size (wr) w0) [(0, 0), (1, 0), (2, 0), (3, 0), (4, 0), (5, 2), (6, 0), (7, 0), (8, 0), (9, 0), (10, 0), (11, 0), (12, 0), (13, 0), (14, 0), (15, 0), (16, 0), (17, 0), (18, 0), (19, 0), (20, 0), (21, 0), (22, 2), (23, 0), (24, 0), (25, 0)] (by kernel_rfl) (by kernel_rfl) (below_drew1 _) ?_
        simp only [List.map_cons, List.map_nil]
        iterate 1 (refine wpO_step0 rfl rfl (fun K hK => ?_); go_simp; refine hK _ _ ?_; clear hK K)
        refine wpO_loadW (t := 22) (ad := ⟨w.heap.size, 0, none⟩) rfl rfl ?hw rfl rfl ((fun w0 hS => (HP1.out.all w0 (below_step HBI.out hS)).2)) ?_
        case hw => go_simp
        iterate 2 (refine wpO_step0 rfl rfl (fun K hK => ?_); go_simp; refine hK _ _ ?_; clear hK K)
        refine wpO_loadW (t := 51) (ad := ⟨b, (o+i*21), none⟩) rfl rfl ?hw rfl rfl ((fun w0 hS => (rteLd_of HXO.out.fits (HCX.out.below hS)).all)) ?_
        case hw => go_simp
        refine wpO_step2 rfl rfl (below_drew1 _) (fun K hK => ?_)
        go_simp
        refine (reffits_any x _ HXO.out).mono ?_
        rintro e w3 ⟨rfl, hb3⟩
        rw [HF.out]
        have HB3 := Lib.hid (below_step (below_drew1 wr) hb3)
        clear hb3
        refine hK _ _ ⟨HB3.out, ?_⟩
        clear hK K
        cases F with
        | false =>
          have HE := Lib.hid (ribB_no HIL.out (.inl (by rw [show rteAt l i = x from HX.out, HF.out])))
          repeat first | (refine wpO_step0 rfl rfl (fun K hK => ?_); go_simp; refine hK _ _ ?_; clear hK K) | (refine wpO_step2 rfl rfl (HB3.out) (fun K hK => ?_); go_simp; refine hK _ _ ⟨HB3.out, ?_⟩; clear hK K)
          refine wpO_nil ?_
          go_wp2_with fail
          go_ret
          rw [HE.out]
          exact ⟨rfl, below_step HBE.out (below_step HBI.out HB3.out)⟩
        | true =>
          have HFI : Hid (∀ j, j < i + 1 → (rteAt l j).fit = true) := Lib.hid (fun j hj => by
            rcases Nat.lt_or_ge j i with h | h
            · exact HI.out.2.1 j h
            · obtain rfl : j = i := by omega
              rw [show rteAt l j = x from HX.out, HF.out])
          cases i with
          | zero =>
            repeat first | (refine wpO_step0 rfl rfl (fun K hK => ?_); go_simp; refine hK _ _ ?_; clear hK K) | (refine wpO_step2 rfl rfl (HB3.out) (fun K hK => ?_); go_simp; refine hK _ _ ⟨HB3.out, ?_⟩; clear hK K)
            refine wpO_nil ?_
            go_wp2_with fail
            go_roundw
            case measure => simp [intOf]; omega
            case rel => exact ⟨0 + 1, by go_num, by omega, HFI.out, fun j h => by omega, below_step HBI.out HB3.out⟩
          | succ k =>
            have hk1 : ((k + 1 : Nat) : Int) - 1 = k := by omega
            have hkn : k < n := by omega
            have hkn' : (k : Int) < n := by omega
            have hk0 : decide ((0 : Int) < (k : Int) + 1) = true := decide_eq_true (by omega)
            have hwk : IntKind.i64.wrap (k : Int) = k := by simp only [IntKind.wrap, IntKind.bits, IntKind.signed]; simp; omega
            have hlt2 : (k : Int) + 1 < n := by omega
            have hge2 : (0 : Int) ≤ (k : Int) + 1 := by omega
            have HYO := Lib.hid (OK.out.at_ (show k < l.length by have := HIL.out; omega))
            have HCY : Hid (CellsAt wr b (o + k * 21) (rteC (rteAt l k))) := Lib.hid (HC.out k hkn)
            obtain ⟨y, hy⟩ : ∃ y, rteAt l k = y := ⟨_, rfl⟩
            rw [hy] at HYO HCY
            have HY := Lib.hid hy
            clear hy
            iterate 6 (refine wpO_step0 rfl rfl (fun K hK => ?_); go_simp; refine hK _ _ ?_; clear hK K)
            refine wpO_loadW (t := 22) (ad := ⟨w.heap.size, 0, none⟩) rfl rfl ?hw rfl rfl ((fun w0 hS => (HP1.out.all w0 (below_step HBI.out hS)).2)) ?_
            case hw => go_simp
            iterate 3 (refine wpO_step0 rfl rfl (fun K hK => ?_); go_simp; refine hK _ _ ?_; clear hK K)
            refine wpO_loadW (t := 51) (ad := ⟨b, (o+k*21), none⟩) rfl rfl ?hw rfl rfl ((fun w0 hS => (rteLd_of HYO.out.fits (HCY.out.below hS)).all)) ?_
            case hw => go_simp
            iterate 1 (refine wpO_step0 rfl rfl (fun K hK => ?_); go_simp; refine hK _ _ ?_; clear hK K)
            refine wpO_loadW (t := 22) (ad := ⟨w.heap.size, 0, none⟩) rfl rfl ?hw rfl rfl ((fun w0 hS => (HP1.out.all w0 (below_step HBI.out hS)).2)) ?_
            case hw => go_simp
            iterate 2 (refine wpO_step0 rfl rfl (fun K hK => ?_); go_simp; refine hK _ _ ?_; clear hK K)
            refine wpO_loadW (t := 51) (ad := ⟨b, (o+(k+1)*21), none⟩) rfl rfl ?hw rfl rfl ((fun w0 hS => (rteLd_of HXO.out.fits (HCX.out.below hS)).all)) ?_
            case hw => go_simp
            refine wpO_step2 rfl rfl (HB3.out) (fun K hK => ?_)
            go_simp
            refine (refahead_any y x _ HYO.out.fits HXO.out.fits).mono ?_
            rintro e w4 ⟨rfl, hb4⟩
            rw [ahead_iff y x HYO.out.fits HXO.out.fits]
            obtain ⟨N, hN⟩ : ∃ N, cR y x = N := ⟨_, rfl⟩
            rw [hN]
            have HN := Lib.hid hN
            have HB4 := Lib.hid (below_step HB3.out hb4)
            clear hb4 hN
            refine hK _ _ ⟨HB4.out, ?_⟩
            clear hK K
            by_cases hneg : N < 0
            · have hnb : decide (N < 0) = true := decide_eq_true hneg
              have HRI : Hid (∀ j, j + 1 < k + 1 + 1 → cR (rteAt l j) (rteAt l (j + 1)) < 0) := Lib.hid (fun j hj => by
                rcases Nat.lt_or_ge (j + 1) (k + 1) with h | h
                · exact HI.out.2.2.1 j h
                · obtain rfl : j = k := by omega
                  rw [show rteAt l j = y from HY.out, show rteAt l (j + 1) = x from HX.out, HN.out]
                  exact hneg)
              clear hneg
              iterate 3 (refine wpO_step0 rfl rfl (fun K hK => ?_); go_simp; refine hK _ _ ?_; clear hK K)
              refine wpO_nil ?_
              go_wp2_with fail
              go_roundw
              case measure => simp [intOf]; omega
              case rel => exact ⟨k + 1 + 1, by go_num, by omega, HFI.out, HRI.out, below_step HBI.out HB4.out⟩
            · have hnb : decide (N < 0) = false := decide_eq_false hneg
              have HE := Lib.hid (ribB_no HIL.out (.inr ⟨by omega, by rw [show k + 1 - 1 = k from rfl, show rteAt l k = y from HY.out, show rteAt l (k + 1) = x from HX.out, HN.out]; exact hneg⟩))
              clear hneg
              iterate 3 (refine wpO_step0 rfl rfl (fun K hK => ?_); go_simp; refine hK _ _ ?_; clear hK K)
              refine wpO_nil ?_
              go_wp2_with fail
              go_ret
              rw [HE.out]
              exact ⟨rfl, below_step HBE.out (below_step HBI.out HB4.out)⟩
      · have hlt' : decide (i < n) = false := decide_eq_false hlt
        have hin : i = n := by have := HI.out.1; omega
        have HS : Hid (ribsB l = true) := Lib.hid (by
          rw [ribsB_iff, HR.out.len]
          refine ⟨hn160, ?_, ?_⟩
          · rw [← hin]; exact HI.out.2.1
          · rw [← hin]; exact HI.out.2.2.1)
        clear hlt hin
        go_wp2_with (first | ((with_reducible show wpList _ _ _ (Oper.mk _ (Op.load _ _) _ _ _ _ :: _) _ _); refine wpList_load_g ((HP1.out.all _ HBI.out).2) _ rfl rfl (by go_simp) ?_))
        refine (refprefixes_any A n c l wr (HR.out.below HBI.out) OK.out hn).mono ?_
        rintro e w3 ⟨rfl, hb3⟩
        rw [pfxs_eq OK.out.fits (ribs_ris HS.out)]
        have HB3 := Lib.hid (below_step HBI.out hb3)
        have HE : Hid (ribB l = decide ((pfxsN l : Int) ≤ 40)) := Lib.hid (by unfold ribB; rw [HS.out, Bool.true_and]; congr 1; rw [eq_iff_iff]; omega)
        clear hb3
        go_wp2
        go_ret
        rw [HE.out]
        exact ⟨rfl, below_step HBE.out HB3.out⟩
theorem rte_set_hop (r : Rte) (h : Int) (hl : r.p.l.length = 16) : (rteV r).setIfInBounds 20 (.int .i64 h) = rteV ⟨r.p, r.s, r.f, h⟩ := by
  obtain ⟨p, s, f, h0⟩ := r
  obtain ⟨v, l, x⟩ := p
  obtain ⟨a, b, c, d, e, f1, g, h1, i, j, k, m, n, o, q, r, hh⟩ := len16 hl
  simp only at hh
  subst hh
  rfl
theorem batB_no {l : List Upd} {i : Nat} (hi : i < l.length) (h : updB (updAt l i) = false ∨ ∃ k, k < i ∧ twin (updAt l k) (updAt l i) = true) : batB l = false := by
  unfold batB
  rw [show batsB l = false from by
    rw [Bool.eq_false_iff]
    intro hb
    rw [batsB_iff] at hb
    rcases h with h | ⟨k, hk, h⟩
    · rw [(hb i hi).1] at h
      cases h
    · rw [(hb i hi).2 k hk] at h
      cases h]
  rw [Bool.and_false]
set_option maxHeartbeats 4000000 in
set_option maxRecDepth 100000 in
theorem refbatch_any (A : Option Addr) (n c : Nat) (l : List Upd) (w : World) (hr : RS updK w A n c l) (ok : Oku l) (hn : n ≤ 100000) : Calls Tryd.prog 25 #[.agg (tabV A n c)] w fun e w' => e = .returned (.bool (batB l)) ∧ Below w.heap.size w w' := by
  have hblk1 := blk_new w (.cells (tabV A n c) 27)
  have hbel1 : Below w.heap.size w (w.alloc (.cells (tabV A n c) 27)) := below_alloc (Below.refl _ _) _
  have HP1 := Lib.hid (bat_at hblk1)
  have HBK1 := Lib.hid hblk1
  have HBE := Lib.hid hbel1
  obtain ⟨cs1, hcs1⟩ : ∃ cs, tabV A n c = cs := ⟨_, rfl⟩
  simp only [hcs1] at HBE HP1 HBK1 ⊢
  have HC1 := Lib.hid hcs1
  clear hcs1 hblk1 hbel1
  have HR := Lib.hid (hr.below HBE.out)
  have OK := Lib.hid ok
  clear hr ok
  go_enter Tryd.func25, Tryd.ntmps25
  by_cases h1 : n < 1
  · have h1b : decide ((n : Int) < 1) = true := decide_eq_true (by omega)
    have HE : Hid (batB l = false) := Lib.hid (by unfold batB; rw [HR.out.len, decide_eq_false (show ¬ 1 ≤ n by omega)]; rfl)
    go_wp2_with (first | ((with_reducible show wpList _ _ _ (Oper.mk _ (Op.load _ _) _ _ _ _ :: _) _ _); refine wpList_load_g ((HP1.out.all _ (Below.refl _ _)).2) _ rfl rfl (by go_simp) ?_))
    go_ret
    rw [HE.out]
    exact ⟨rfl, HBE.out⟩
  · have h1b : decide ((n : Int) < 1) = false := decide_eq_false (by omega)
    by_cases h8 : 8 < n
    · have h8b : decide ((8 : Int) < n) = true := decide_eq_true (by omega)
      have HE : Hid (batB l = false) := Lib.hid (by unfold batB; rw [HR.out.len, decide_eq_false (show ¬ n ≤ 8 by omega), Bool.and_false]; rfl)
      go_wp2_with (first | ((with_reducible show wpList _ _ _ (Oper.mk _ (Op.load _ _) _ _ _ _ :: _) _ _); refine wpList_load_g ((HP1.out.all _ (Below.refl _ _)).2) _ rfl rfl (by go_simp) ?_))
      go_ret
      rw [HE.out]
      exact ⟨rfl, HBE.out⟩
    · have h8b : decide ((8 : Int) < n) = false := decide_eq_false (by omega)
      go_wp2_with (first | ((with_reducible show wpList _ _ _ (Oper.mk _ (Op.load _ _) _ _ _ _ :: _) _ _); refine wpList_load_g ((HP1.out.all _ (Below.refl _ _)).2) _ rfl rfl (by go_simp) ?_))
      go_loopw [3] (fun s3 wr => ∃ i : Nat, s3 = .int .i64 i ∧ Hid (i ≤ n ∧ (∀ j, j < i → updB (updAt l j) = true ∧ ∀ k, k < j → twin (updAt l k) (updAt l j) = false) ∧ Below (w.alloc (.cells cs1 27)).heap.size (w.alloc (.cells cs1 27)) wr)) (fun x _ => n - (intOf x).toNat)
      case atStart => exact ⟨0, rfl, Nat.zero_le _, fun j h => by omega, Below.refl _ _⟩
      case round =>
        obtain ⟨i, rfl, HI⟩ := hrel
        obtain ⟨wi, rfl⟩ : ∃ wi, wi = wr := ⟨wr, rfl⟩
        have HBI := Lib.hid HI.out.2.2
        by_cases hlt : i < n
        · have hlt' : (i : Int) < n := by omega
          obtain ⟨b, o, hA, hc⟩ := RS.at_ HR.out (by omega)
          have hil : i < l.length := by rw [HR.out.len]; exact hlt
          have HIL := Lib.hid hil
          have HC := Lib.hid (fun (k : Nat) (hk : k < n) => (hc k hk).below HI.out.2.2)
          have HXO := Lib.hid (OK.out.at_ hil)
          have hla := Shape.ld updK wi b _ _ HXO.out.fits (HC.out i hlt)
          have hla : (Instr.loadAt 75 (.pointer (some ⟨b, o + i * 22, none⟩))).run Tryd.prog wi = .ok (.agg (updV (updAt l i))) wi := hla
          obtain ⟨x, hx⟩ : ∃ x, updAt l i = x := ⟨_, rfl⟩
          rw [hx] at hla HXO
          have HX := Lib.hid hx
          have HB2f := Lib.hid (fun (W : World) (h : (wi.alloc (.cells (updV updZ) 75)).grownBy W (some wi.heap.size)) => below_grown (below_alloc (Below.refl wi.heap.size wi) (.cells (updV updZ) 75)) h (Nat.le_refl _))
          subst hA
          clear hc hx hil
          go_upto_region 8 with (first | ((with_reducible show wpList _ _ _ (Oper.mk _ (Op.load _ _) _ _ _ _ :: _) _ _); refine wpList_load_g hla _ rfl rfl (by go_simp) ?_) | ((with_reducible show wpList _ _ _ (Oper.mk _ (Op.load _ _) _ _ _ _ :: _) _ _); refine wpList_load_g ((HP1.out.all _ HBI.out).2) _ rfl rfl (by go_simp) ?_) | ((with_reducible show wpList _ _ _ (Oper.mk _ (Op.store _ _ _) _ _ _ _ :: _) _ _); refine wpList_store_blk (blk_new wi _) 75 0 (updV x) (store_upd_fit HXO.out.fits rfl) (info_upd HXO.out.fits) (updV_one _) _ _ rfl rfl rfl rfl ?_; intro w2 hg9 hs9 hb9; rw [splice_upd HXO.out.fits rfl] at hb9; have H2 := Lib.hid (And.intro hg9 hb9); clear hg9 hs9 hb9) | ((with_reducible show wpList _ _ _ (Oper.mk _ (Op.load _ _) _ _ _ _ :: _) _ _); refine wpList_load_g (((upd_at HXO.out.fits H2.out.2).all _ (Below.refl _ _)).pfx) _ rfl rfl (by go_simp) ?_) | ((with_reducible show wpList _ _ _ (Oper.mk _ (Op.load _ _) _ _ _ _ :: _) _ _); refine wpList_load_g (((upd_at HXO.out.fits H2.out.2).all _ (Below.refl _ _)).src) _ rfl rfl (by go_simp) ?_) | ((with_reducible show wpList _ _ _ (Oper.mk _ (Op.load _ _) _ _ _ _ :: _) _ _); refine wpList_load_g (((upd_at HXO.out.fits H2.out.2).all _ (Below.refl _ _)).prf) _ rfl rfl (by go_simp) ?_) | ((with_reducible show wpList _ _ _ (Oper.mk _ (Op.load _ _) _ _ _ _ :: _) _ _); refine wpList_load_g (((upd_at HXO.out.fits H2.out.2).all _ (Below.refl _ _)).hop) _ rfl rfl (by go_simp) ?_) | ((with_reducible show wpList _ _ _ (Oper.mk _ (Op.build _ _) _ _ _ _ :: _) _ _); refine wpList_exw rfl (exec_build4 rfl rfl rfl rfl rfl (run_build_rte _ x.p x.s x.f x.h HXO.out.fits.len)) ?_) | ((with_reducible show wpList _ _ _ (Oper.mk _ (Op.store _ _ _) _ _ _ _ :: _) _ _); refine wpList_store_blk (blk_new w2 _) 51 0 (rteV (Upd.rte x)) (store_rte_fit (show (Upd.rte x).fits from HXO.out.fits) rfl) (info_rte (show (Upd.rte x).fits from HXO.out.fits)) (rteV_one _) _ _ rfl rfl rfl rfl ?_; intro w3 hg9 hs9 hb9; rw [splice_rte (show (Upd.rte x).fits from HXO.out.fits) rfl] at hb9; have H3 := Lib.hid (And.intro hg9 hb9); clear hg9 hs9 hb9))
          dsimp only [Act.put]
          have HB23f := Lib.hid (fun (W : World) (h : (w2.alloc (.cells (rteV rteZ) 51)).grownBy W (some w2.heap.size)) => below_grown (below_alloc (Below.refl w2.heap.size w2) (.cells (rteV rteZ) 51)) h (Nat.le_refl _))
          have HB2 := Lib.hid (HB2f.out _ H2.out.1)
          have HB23 := Lib.hid (HB23f.out _ H3.out.1)
          have HG2 := Lib.hid (blk_below H2.out.2 HB23.out)
          have HG3 := Lib.hid H3.out.2
          have HB3 := Lib.hid (below_step HB2.out HB23.out)
          have HSZ := Lib.hid (And.intro (blk_lt H2.out.2) HB2.out.size)
          obtain ⟨gu, hgu⟩ : ∃ g, wi.heap.size = g := ⟨_, rfl⟩
          obtain ⟨gr, hgr⟩ : ∃ g, w2.heap.size = g := ⟨_, rfl⟩
          have HGE : Hid (wi.heap.size ≤ gr ∧ gu ≠ gr) := Lib.hid (by have := HSZ.out; omega)
          rw [hgu] at HG2 ⊢
          rw [hgr] at HG3 ⊢
          clear HB2f HB23f H2 H3 hla hgu hgr HSZ
          obtain ⟨R, hR⟩ : ∃ R : Rte, R = ⟨x.p, x.s, x.f, if x.g then 1 else x.h⟩ := ⟨_, rfl⟩
          have HRR := Lib.hid hR
          have HRO : Hid R.ok := Lib.hid (by
            rw [hR]
            refine ⟨HXO.out.p, HXO.out.s, HXO.out.f, ?_⟩
            show (Lit.int .i64 (if x.g then 1 else x.h)).wf = true
            split
            · decide
            · exact HXO.out.h)
          clear hR
          go_upto_if 39 with (first | ((with_reducible show wpList _ _ _ (Oper.mk _ (Op.load _ _) _ _ _ _ :: _) _ _); refine wpList_load_g (((upd_at HXO.out.fits HG2.out).all _ (Below.refl _ _)).gon) _ rfl rfl (by go_simp) ?_))
          go_simp
          go_cut [5] (fun s5 wx => s5 = .pointer (some ⟨gr, 0, none⟩) ∧ Hid (wx.heap[gr]? = some (.cells (rteV R) 51 (0, 0)) ∧ wx.heap[gu]? = some (.cells (updV x) 75 (0, 0)) ∧ updB x = R.fit ∧ Below wi.heap.size wi wx))
          case first =>
            cases hg : x.g with
            | false =>
              have hre : R = x.rte := by rw [HRR.out, hg]; rfl
              have HRE := Lib.hid hre
              have HUB : Hid (updB x = R.fit) := Lib.hid (by rw [hre]; unfold updB; rw [hg]; rfl)
              clear hg hre
              go_wp2_with fail
              go_meet
              exact ⟨rfl, by rw [HRE.out]; exact HG3.out, HG2.out, HUB.out, HB3.out⟩
            | true =>
              by_cases hf0 : x.f = 0
              case neg =>
                have hfb : (x.f != 0) = true := by simpa using hf0
                have HE := Lib.hid (batB_no HIL.out (.inl (by rw [show updAt l i = x from HX.out]; unfold updB; rw [hg, if_pos rfl, decide_eq_false hf0]; rfl)))
                clear hg hf0
                go_wp2_with (first | ((with_reducible show wpList _ _ _ (Oper.mk _ (Op.load _ _) _ _ _ _ :: _) _ _); refine wpList_load_g (((upd_at HXO.out.fits HG2.out).all _ (Below.refl _ _)).prf) _ rfl rfl (by go_simp) ?_))
                go_ret
                rw [HE.out]
                exact ⟨rfl, below_step HBE.out (below_step HBI.out HB3.out)⟩
              case pos =>
                have hfb : (x.f != 0) = false := by simpa using hf0
                by_cases hh0 : x.h = 0
                case neg =>
                  have hhb : (x.h != 0) = true := by simpa using hh0
                  have HE := Lib.hid (batB_no HIL.out (.inl (by rw [show updAt l i = x from HX.out]; unfold updB; rw [hg, if_pos rfl, decide_eq_false hh0, Bool.and_false]; rfl)))
                  clear hg hf0 hh0
                  go_wp2_with (first | ((with_reducible show wpList _ _ _ (Oper.mk _ (Op.load _ _) _ _ _ _ :: _) _ _); refine wpList_load_g (((upd_at HXO.out.fits HG2.out).all _ (Below.refl _ _)).prf) _ rfl rfl (by go_simp) ?_) | ((with_reducible show wpList _ _ _ (Oper.mk _ (Op.load _ _) _ _ _ _ :: _) _ _); refine wpList_load_g (((upd_at HXO.out.fits HG2.out).all _ (Below.refl _ _)).hop) _ rfl rfl (by go_simp) ?_))
                  go_ret
                  rw [HE.out]
                  exact ⟨rfl, below_step HBE.out (below_step HBI.out HB3.out)⟩
                case pos =>
                  have hhb : (x.h != 0) = false := by simpa using hh0
                  have hre : R = ⟨x.rte.p, x.rte.s, x.rte.f, 1⟩ := by rw [HRR.out, hg]; rfl
                  have HRE := Lib.hid hre
                  have HUB : Hid (updB x = R.fit) := Lib.hid (by
                    rw [hre]
                    unfold updB Rte.fit
                    rw [hg, if_pos rfl, decide_eq_true hf0, decide_eq_true hh0]
                    show fitB x.p x.s 0 1 = fitB x.p x.s x.f 1
                    rw [hf0])
                  clear hg hre hf0 hh0
                  go_wp2_with (first | ((with_reducible show wpList _ _ _ (Oper.mk _ (Op.load _ _) _ _ _ _ :: _) _ _); refine wpList_load_g (((upd_at HXO.out.fits HG2.out).all _ (Below.refl _ _)).prf) _ rfl rfl (by go_simp) ?_) | ((with_reducible show wpList _ _ _ (Oper.mk _ (Op.load _ _) _ _ _ _ :: _) _ _); refine wpList_load_g (((upd_at HXO.out.fits HG2.out).all _ (Below.refl _ _)).hop) _ rfl rfl (by go_simp) ?_) | ((with_reducible show wpList _ _ _ (Oper.mk _ (Op.store _ _ _) _ _ _ _ :: _) _ _); refine wpList_store_cell HG3.out 3 20 (.int .i64 1) (by rw [rteV_size (show (Upd.rte x).fits from HXO.out.fits)]; decide) (by kernel_rfl) rfl rfl _ _ rfl rfl rfl rfl ?_; intro w4 hg9 hs9 hb9; rw [rte_set_hop (Upd.rte x) 1 HXO.out.fits.len] at hb9; have H4 := Lib.hid (And.intro hg9 hb9); clear hg9 hs9 hb9))
                  go_meet
                  exact ⟨rfl, by rw [HRE.out]; exact H4.out.2, blk_grown HG2.out H4.out.1 (fun e => by injection e with e; exact HGE.out.2 e), HUB.out, below_grown HB3.out H4.out.1 HGE.out.1⟩
          case rest =>
            obtain ⟨rfl, HCC⟩ := hcut
            obtain ⟨w5, rfl⟩ : ∃ w5, w5 = wc := ⟨wc, rfl⟩
            have HB5 := Lib.hid (below_step HBI.out HCC.out.2.2.2)
            have HBL5 := Lib.hid HCC.out.2.2.2
            have HU5 := Lib.hid HCC.out.2.1
            have HFF := Lib.hid HCC.out.2.2.1
            have HR5 := Lib.hid HCC.out.1
            clear HCC HG2 HG3
            go_wp2_with (first | ((with_reducible show wpList _ _ _ (Oper.mk _ (Op.load _ _) _ _ _ _ :: _) _ _); refine wpList_load_g (((rte_at HRO.out.fits HR5.out).all _ (Below.refl _ _)).all) _ rfl rfl (by go_simp) ?_))
            refine (reffits_any R w5 HRO.out).mono ?_
            rintro e w6 ⟨rfl, hb6⟩
            rw [← HFF.out]
            have HB6 := Lib.hid (below_step HB5.out hb6)
            have HBL6 := Lib.hid (below_step HBL5.out hb6)
            have HU6 := Lib.hid (blk_below HU5.out hb6)
            clear hb6 HU5 HR5 HB5 HBL5
            cases hub : updB x with
            | false =>
              have HE := Lib.hid (batB_no HIL.out (.inl (by rw [show updAt l i = x from HX.out, hub])))
              clear hub
              go_wp2_with fail
              go_ret
              rw [HE.out]
              exact ⟨rfl, below_step HBE.out HB6.out⟩
            | true =>
              have HUB := Lib.hid hub
              clear hub
              go_wp2_with fail
              go_loopw [6] (fun s6 wr => ∃ k : Nat, s6 = .int .i64 k ∧ Hid (k ≤ i ∧ (∀ j, j < k → twin (updAt l j) x = false) ∧ Below w6.heap.size w6 wr)) (fun y _ => i - (intOf y).toNat)
              case atStart => exact ⟨0, rfl, Nat.zero_le _, fun j h => by omega, Below.refl _ _⟩
              case round =>
                obtain ⟨k, rfl, HK⟩ := hrel
                obtain ⟨wk, rfl⟩ : ∃ wk, wk = wr := ⟨wr, rfl⟩
                have HBK := Lib.hid (below_step HB6.out HK.out.2.2)
                by_cases hki : k < i
                · have hki' : (k : Int) < i := by omega
                  have hkn : k < n := by omega
                  have hkn' : (k : Int) < n := by omega
                  have HYO := Lib.hid (OK.out.at_ (show k < l.length by have := HIL.out; omega))
                  have HCY : Hid (CellsAt wi b (o + k * 22) (updC (updAt l k))) := Lib.hid (HC.out k hkn)
                  obtain ⟨y, hy⟩ : ∃ y, updAt l k = y := ⟨_, rfl⟩
                  have HY := Lib.hid hy
                  rw [hy] at HYO HCY
                  clear hy
                  go_wp2_with fail
                  refine wp_region_mix (fun w0 => Below (wk).heap.size (wk) w0) [(0, 0), (1, 0), (2, 0), (3, 0), (4, 0), (5, 0), (6, 0), (7, 0), (8, 0), (9, 0), (10, 0), (11, 0), (12, 0), (13, 0), (14, 0), (15, 0), (16, 0), (17, 0), (18, 0), (19, 0)] (by kernel_rfl) (by kernel_rfl) (below_drew1 _) ?_
                  simp only [List.map_cons, List.map_nil]
                  iterate 1 (refine wpO_step0 rfl rfl (fun K hK => ?_); go_simp; refine hK _ _ ?_; clear hK K)
                  refine wpO_loadW (t := 25) (ad := ⟨w.heap.size, 0, none⟩) rfl rfl ?hw rfl rfl ((fun w0 hS => (HP1.out.all w0 (below_step HBK.out hS)).2)) ?_
                  case hw => go_simp
                  iterate 3 (refine wpO_step0 rfl rfl (fun K hK => ?_); go_simp; refine hK _ _ ?_; clear hK K)
                  refine wpO_loadW (t := 49) (ad := ⟨b, (o+k*22), none⟩) rfl rfl ?hw rfl rfl ((fun w0 hS => (updLd_of HYO.out.fits (HCY.out.below (below_step HBL6.out (below_step HK.out.2.2 hS)))).pfx)) ?_
                  case hw => go_simp
                  iterate 1 (refine wpO_step0 rfl rfl (fun K hK => ?_); go_simp; refine hK _ _ ?_; clear hK K)
                  refine wpO_loadW (t := 49) (ad := ⟨gu, 0, none⟩) rfl rfl ?hw rfl rfl ((fun w0 hS => ((upd_at HXO.out.fits HU6.out).all _ (below_step HK.out.2.2 hS)).pfx)) ?_
                  case hw => go_simp
                  cases he : y.p.eqB x.p with
                  | false =>
                    have HEX := Lib.hid (pfx_eq_hex HYO.out.p HXO.out.p he)
                    have HTW : Hid (twin y x = false) := Lib.hid (by unfold twin; rw [he]; rfl)
                    clear he
                    refine wpO_step0 rfl rfl (fun K hK => ?_)
                    rw [if_pos (show Region.wanted _ _ = true from rfl)]
                    refine ⟨_, fun w0 => HEX.out _ _ _ _ _ rfl rfl rfl w0, hK _ _ ?_⟩
                    clear hK K
                    repeat first | (refine wpO_step0 rfl rfl (fun K hK => ?_); go_simp; refine hK _ _ ?_; clear hK K) | (refine wpO_step2 rfl rfl (below_drew1 _) (fun K hK => ?_); go_simp; refine hK _ _ ⟨below_drew1 _, ?_⟩; clear hK K)
                    refine wpO_nil ?_
                    go_wp2_with fail
                    go_roundw
                    case measure => simp [intOf]; omega
                    case rel => exact ⟨k + 1, by go_num, by omega, fun j hj => by
                      rcases Nat.lt_or_ge j k with h | h
                      · exact HK.out.2.1 j h
                      · obtain rfl : j = k := by omega
                        rw [show updAt l j = y from HY.out]
                        exact HTW.out, below_step HK.out.2.2 (below_drew1 _)⟩
                  | true =>
                    have HEX := Lib.hid (pfx_eq_hex HYO.out.p HXO.out.p he)
                    have HTW : Hid (twin y x = decide (y.s = x.s)) := Lib.hid (by unfold twin; rw [he]; rfl)
                    clear he
                    refine wpO_step0 rfl rfl (fun K hK => ?_)
                    rw [if_pos (show Region.wanted _ _ = true from rfl)]
                    refine ⟨_, fun w0 => HEX.out _ _ _ _ _ rfl rfl rfl w0, hK _ _ ?_⟩
                    clear hK K
                    iterate 2 (refine wpO_step0 rfl rfl (fun K hK => ?_); go_simp; refine hK _ _ ?_; clear hK K)
                    refine wpO_loadW (t := 25) (ad := ⟨w.heap.size, 0, none⟩) rfl rfl ?hw rfl rfl ((fun w0 hS => (HP1.out.all w0 (below_step HBK.out hS)).2)) ?_
                    case hw => go_simp
                    iterate 3 (refine wpO_step0 rfl rfl (fun K hK => ?_); go_simp; refine hK _ _ ?_; clear hK K)
                    refine wpO_loadW (t := 3) (ad := ⟨b, (o+k*22+18), none⟩) rfl rfl ?hw rfl rfl ((fun w0 hS => (updLd_of HYO.out.fits (HCY.out.below (below_step HBL6.out (below_step HK.out.2.2 hS)))).src)) ?_
                    case hw => go_simp
                    iterate 1 (refine wpO_step0 rfl rfl (fun K hK => ?_); go_simp; refine hK _ _ ?_; clear hK K)
                    refine wpO_loadW (t := 3) (ad := ⟨gu, 18, none⟩) rfl rfl ?hw rfl rfl ((fun w0 hS => ((upd_at HXO.out.fits HU6.out).all _ (below_step HK.out.2.2 hS)).src)) ?_
                    case hw => go_simp
                    iterate 2 (refine wpO_step0 rfl rfl (fun K hK => ?_); go_simp; refine hK _ _ ?_; clear hK K)
                    refine wpO_nil ?_
                    by_cases hss : y.s = x.s
                    · have hsb : (y.s == x.s) = true := by simpa using hss
                      have HE := Lib.hid (batB_no HIL.out (.inr ⟨k, hki, by rw [show updAt l i = x from HX.out, show updAt l k = y from HY.out, HTW.out, decide_eq_true hss]⟩))
                      clear hss
                      go_wp2_with fail
                      go_ret
                      rw [HE.out]
                      exact ⟨rfl, below_step HBE.out (below_step HBK.out (below_drew1 _))⟩
                    · have hsb : (y.s == x.s) = false := by simpa using hss
                      have HTF : Hid (twin y x = false) := Lib.hid (by rw [HTW.out, decide_eq_false hss])
                      clear hss
                      go_wp2_with fail
                      go_roundw
                      case measure => simp [intOf]; omega
                      case rel => exact ⟨k + 1, by go_num, by omega, fun j hj => by
                        rcases Nat.lt_or_ge j k with h | h
                        · exact HK.out.2.1 j h
                        · obtain rfl : j = k := by omega
                          rw [show updAt l j = y from HY.out]
                          exact HTF.out, below_step HK.out.2.2 (below_drew1 _)⟩
                · have hki' : decide (k < i) = false := decide_eq_false hki
                  have HN : Hid (∀ j, j < i + 1 → updB (updAt l j) = true ∧ ∀ k, k < j → twin (updAt l k) (updAt l j) = false) := Lib.hid (fun j hj => by
                    rcases Nat.lt_or_ge j i with h | h
                    · exact HI.out.2.1 j h
                    · obtain rfl : j = i := by omega
                      rw [show updAt l j = x from HX.out]
                      exact ⟨HUB.out, fun k' hk' => HK.out.2.1 k' (by have := HK.out.1; omega)⟩)
                  clear hki
                  go_wp2_with fail
                  go_roundw
                  case measure => simp [intOf]; omega
                  case rel => exact ⟨i + 1, by go_num, by omega, HN.out, below_step HBI.out (below_step HBL6.out HK.out.2.2)⟩
        · have hlt' : decide (i < n) = false := decide_eq_false hlt
          have hin : i = n := by have := HI.out.1; omega
          have HE : Hid (batB l = true) := Lib.hid (by
            unfold batB
            rw [(batsB_iff l).2 (by rw [HR.out.len, ← hin]; exact HI.out.2.1), HR.out.len, decide_eq_true (show 1 ≤ n by omega), decide_eq_true (show n ≤ 8 by omega)]
            rfl)
          clear hlt hin
          go_wp2_with (first | ((with_reducible show wpList _ _ _ (Oper.mk _ (Op.load _ _) _ _ _ _ :: _) _ _); refine wpList_load_g ((HP1.out.all _ HBI.out).2) _ rfl rfl (by go_simp) ?_))
          go_ret
          rw [HE.out]
          exact ⟨rfl, below_step HBE.out HBI.out⟩
end Go.Proofs.YtnpeedmicjeleaaDoor

/- Slices of elements of whatever shape: made, cut, one element stored. -/
namespace Go.Proofs.YtnpeedmicjeleaaDoor
open Go.RowKit
set_option linter.unusedVariables false
set_option linter.unusedSimpArgs false
set_option maxRecDepth 4000
theorem OS.made {α : Type} (S : Shape α) (W : World) (base n : Nat) (hb : base ≤ W.heap.size) (hn : n ≤ 1000000000) : OS S (W.alloc (.cells (S.cells (List.replicate n S.z)).toArray S.t)) base (some ⟨W.heap.size, 0, none⟩) n n (List.replicate n S.z) := by
  have := OS.new S W base (List.replicate n S.z) hb (fun a ha => by rw [List.eq_of_mem_replicate ha]; exact S.okz) (by simp; omega)
  rwa [List.length_replicate] at this
theorem wpList_store_elem {α : Type} {S : Shape α} {w : World} {base n c : Nat} {ad : Addr} {l : List α} {ops : Array Oper} {rest : List Oper} {op : Oper} {a : Act} {Q : Exit → Act → World → Prop} (h : OS S w base (some ad) n c l) (j : Nat) (hj : j < n) (b : α) (hb : S.ok b) (hv : S.val b = .agg (S.enc b).toArray)
    (x y : Operand) (ho : op.op = .store S.t x y) (hx : a.eval x = .pointer (some ⟨ad.block, ad.off + j * S.sz, none⟩)) (hy : a.eval y = S.val b) (hw : Region.wanted op (yielded ops a.tmps) = true)
    (hk : ∀ w', w.grownBy w' (some ad.block) → w'.heap.size = w.heap.size → OS S w' base (some ad) n c (l.take j ++ [b] ++ l.drop (j + 1)) → wpList Tryd.prog ops Q rest (a.put op.dst undef) w') : wpList Tryd.prog ops Q (op :: rest) a w := by
  obtain ⟨_, _, cur, hh, hfit, _⟩ := h.ov.form ad rfl
  have hcap := h.cap
  have h2 : (j + 1) * S.sz ≤ c * S.sz := Nat.mul_le_mul_right _ (by omega)
  rw [Nat.add_mul, Nat.one_mul] at h2
  have hsz : (S.enc b).toArray.size = S.sz := by rw [List.size_toArray, S.len _ hb]
  have hr := run_storeAt_mid (P := Tryd.prog) w ad.block (ad.off + j * S.sz) S.t (S.enc b).toArray (blk_there hh _ _ (by rw [hsz]; omega)) (by rw [hsz]; exact S.size) (by rw [← Array.all_toList, List.all_eq_true]; exact fun u hu => S.one b u hu)
  have hO := h.put j [b] (Shape.all_one hb) (by simp; omega)
  rw [Shape.cells_one] at hO
  refine wpList_step (fun K hK => ?_)
  rw [if_pos hw]
  unfold Oper.wp execOp
  simp only [ho, hx, hy, hv, Sem.run_bind, hr, Result.andThen_ok, Sem.run_pure]
  exact hK _ _ (hk _ (setCells_grown _ _ _ _) (setCells_same _ _ _ _).2.2.2 hO)
theorem blk_ownN {w w1 : World} {g : Nat} {o : Obj} {A : Option Addr} {n c : Nat} (h : w.heap[g]? = some o) (hg : w.grownBy w1 ((Value.slice A n c).ownBlock)) (ha : ∀ ad, A = some ad → ad.block ≠ g) : w1.heap[g]? = some o :=
  blk_grown h hg (fun e => by
    obtain ⟨ad, e1, e2⟩ := own_of e.symm
    exact ha ad e1 e2)
theorem kw_cast {α : Type} {K : α → World → Prop} {a : α} {w v : World} (h : w = v) (k : K a v) : K a w := h ▸ k
theorem exec_lit2 {α : Type} (S : Shape α) {r : Operand → Value} {o : Oper} {x y : Operand} (ho : o.op = .buildSlice S.ts 2 #[(0, x), (1, y)]) (a b : α) (hx : r x = S.val a) (hy : r y = S.val b) (ha : S.ok a) (hb : S.ok b) (hs : S.sz ≤ 1000000) (W : World) :
    (execOp r o).run Tryd.prog W = .ok (.value (.slice (some ⟨W.heap.size, 0, none⟩) 2 2)) (W.alloc (.cells (S.cells [a, b]).toArray S.t)) := by
  have h := run_lit_shp S W [a, b] (fun c hc => by
    rcases List.mem_cons.1 hc with rfl | hc
    · exact ha
    · rw [List.mem_singleton] at hc; rw [hc]; exact hb) (by simp) (by simp; omega) #[(0, S.val a), (1, S.val b)] rfl
  unfold execOp
  have e : (#[(0, x), (1, y)].map fun (p : Nat × Operand) => (p.1, r p.2)) = #[(0, S.val a), (1, S.val b)] := by simp [hx, hy]
  simp only [ho, Sem.run_bind]
  have h2 : (Instr.buildSlice S.ts 2 (#[(0, x), (1, y)].map fun (p : Nat × Operand) => (p.1, r p.2))).run Tryd.prog W = .ok (.slice (some ⟨W.heap.size, 0, none⟩) 2 2) (W.alloc (.cells (S.cells [a, b]).toArray S.t)) := by rw [e]; exact h
  rw [h2]
  rfl
theorem OS.two {α : Type} (S : Shape α) (W : World) (base : Nat) (a b : α) (hb : base ≤ W.heap.size) (ha : S.ok a) (hbo : S.ok b) : OS S (W.alloc (.cells (S.cells [a, b]).toArray S.t)) base (some ⟨W.heap.size, 0, none⟩) 2 2 [a, b] :=
  OS.new S W base [a, b] hb (fun c hc => by
    rcases List.mem_cons.1 hc with rfl | hc
    · exact ha
    · rw [List.mem_singleton] at hc; rw [hc]; exact hbo) (by simp)
end Go.Proofs.YtnpeedmicjeleaaDoor

/- Layer 11 (route): Apply. -/
namespace Go.Proofs.YtnpeedmicjeleaaDoor
open Go.RowKit
set_option linter.unusedVariables false
set_option linter.unusedSimpArgs false
set_option maxRecDepth 4000
theorem info_rib (A : Option Addr) (n c : Nat) : (Tryd.prog.info? 24).map (·.size) = some (tabV A n c).size := by show _ = some 1; kernel_rfl
theorem load_rib {w : World} {g : Nat} {A : Option Addr} {n c : Nat} (h : w.heap[g]? = some (.cells (tabV A n c) 24 (0, 0))) : (Instr.loadAt 24 (.pointer (some ⟨g, 0, none⟩))).run Tryd.prog w = .ok (.agg (tabV A n c)) w := ((rib_at h).all _ (Below.refl _ _)).1
theorem run_build_rib_nil (w : World) : (Instr.build 24 #[]).run Tryd.prog w = .ok (.agg (tabV none 0 0)) w := run_build w _ _ _ (by kernel_rfl)
theorem run_build_rib (w : World) (A : Option Addr) (n c : Nat) : (Instr.build 24 #[(0, .slice A n c)]).run Tryd.prog w = .ok (.agg (tabV A n c)) w := run_build w _ _ _ (by kernel_rfl)
/-- What the loop of Apply keeps: the rows of its own, and the cell that holds them. -/
structure AppS (w0 w : World) (g : Nat) (A : Option Addr) (n c : Nat) (l : List Rte) : Prop where
  own : OS rteK w w0.heap.size A n c l
  cell : w.heap[g]? = some (.cells (tabV A n c) 24 (0, 0))
  ne : ∀ ad, A = some ad → ad.block ≠ g
  bel : Below w0.heap.size w0 w
  gle : w0.heap.size ≤ g
theorem AppS.step {w0 w w1 : World} {g : Nat} {A : Option Addr} {n c : Nat} {l : List Rte} (h : AppS w0 w g A n c l) (hb : Below w.heap.size w w1) : AppS w0 w1 g A n c l := ⟨h.own.below hb, blk_below h.cell hb, h.ne, below_step h.bel hb, h.gle⟩
theorem AppS.turn {w0 w w1 w2 : World} {g : Nat} {A A' : Option Addr} {n c n' c' : Nat} {l l' : List Rte} (h : AppS w0 w g A n c l) (ho : OS rteK w1 w0.heap.size A' n' c' l') (hg : w.grownBy w1 ((Value.slice A n c).ownBlock)) (ha : A' = A ∨ ∀ ad, A' = some ad → w.heap.size ≤ ad.block) (hg2 : w1.grownBy w2 (some g)) (hc : w2.heap[g]? = some (.cells (tabV A' n' c') 24 (0, 0))) : AppS w0 w2 g A' n' c' l' := by
  have hlt := blk_lt h.cell
  have hne : ∀ ad, A' = some ad → ad.block ≠ g := fun ad e => by
    rcases ha with ha | ha
    · exact h.ne ad (ha ▸ e)
    · have := ha ad e; omega
  exact ⟨ho.grown hg2 (fun ad e k => by injection k with k; exact hne ad e k), hc, hne, below_grown (below_own h.bel hg h.own.base_) hg2 h.gle, h.gle⟩
theorem AppS.put {w0 w w1 : World} {g : Nat} {ad : Addr} {n c : Nat} {l l' : List Rte} (h : AppS w0 w g (some ad) n c l) (ho : OS rteK w1 w0.heap.size (some ad) n c l') (hg : w.grownBy w1 (some ad.block)) : AppS w0 w1 g (some ad) n c l' :=
  ⟨ho, blk_grown h.cell hg (fun e => by injection e with e; exact h.ne ad rfl e.symm), h.ne, below_grown h.bel hg (h.own.base_ ad rfl), h.gle⟩
theorem appN_no {l : List Rte} {b : List Upd} (h1 : ribB l = true) (h2 : batB b = true) (h3 : appL l b = none) : appN l b = 4 ∧ appR l b = [] := by
  have : appN l b = 4 := by unfold appN; rw [if_pos h1, if_pos h2, h3]
  exact ⟨this, by unfold appR; rw [this]; rfl⟩
theorem appN_rib {l : List Rte} {b : List Upd} (h1 : ribB l = false) : appN l b = 211 ∧ appR l b = [] := by
  have : appN l b = 211 := by unfold appN; rw [if_neg (by rw [h1]; decide)]
  exact ⟨this, by unfold appR; rw [this]; rfl⟩
theorem appN_bat {l : List Rte} {b : List Upd} (h1 : ribB l = true) (h2 : batB b = false) : appN l b = 210 ∧ appR l b = [] := by
  have : appN l b = 210 := by unfold appN; rw [if_pos h1, if_neg (by rw [h2]; decide)]
  exact ⟨this, by unfold appR; rw [this]; rfl⟩
theorem appN_full {l m : List Rte} {b : List Upd} (h1 : ribB l = true) (h2 : batB b = true) (h3 : appL l b = some m) (h4 : ¬ pfxsN m ≤ 40) : appN l b = 6 ∧ appR l b = [] := by
  have : appN l b = 6 := by unfold appN; rw [if_pos h1, if_pos h2, h3]; exact if_neg h4
  exact ⟨this, by unfold appR; rw [this]; rfl⟩
theorem appN_yes {l m : List Rte} {b : List Upd} (h1 : ribB l = true) (h2 : batB b = true) (h3 : appL l b = some m) (h4 : pfxsN m ≤ 40) : appN l b = 0 ∧ appR l b = m := by
  have : appN l b = 0 := by unfold appN; rw [if_pos h1, if_pos h2, h3]; exact if_pos h4
  exact ⟨this, by unfold appR; rw [this, h3]; rfl⟩
theorem appL_take {l m : List Rte} {b : List Upd} {k : Nat} (hk : k < b.length) (h : appL l (b.take k) = some m) : appL l (b.take (k + 1)) = appS m (updAt b k) := by
  rw [take_getD updZ hk, appL_snoc, h]
  rfl
theorem batB_len {b : List Upd} (h : batB b = true) : b.length ≤ 8 := by
  unfold batB at h
  rw [Bool.and_eq_true, Bool.and_eq_true, decide_eq_true_eq, decide_eq_true_eq] at h
  exact h.1.2
theorem ribB_ris {l : List Rte} (h : ribB l = true) : ribsB l = true ∧ pfxsN l ≤ 40 := by
  unfold ribB at h
  rwa [Bool.and_eq_true, decide_eq_true_eq] at h
set_option maxHeartbeats 8000000 in
set_option maxRecDepth 100000 in
theorem rapply_any (A : Option Addr) (n c : Nat) (l : List Rte) (A2 : Option Addr) (m c2 : Nat) (b : List Upd) (w : World) (hL : Laid w) (hr : RS rteK w A n c l) (ok : Okr l) (hn : n ≤ 10000) (hu : RS updK w A2 m c2 b) (oku : Oku b) (hm : m ≤ 10000) :
    Calls Tryd.prog 13 #[.agg (tabV A n c), .agg (tabV A2 m c2)] w fun e w' => ∃ A' n' c', e = .returned (.tuple #[.agg (tabV A' n' c'), .int .i64 (appN l b)]) ∧ OS rteK w' w.heap.size A' n' c' (appR l b) ∧ Below w.heap.size w w' := by
  have hblk1 := blk_new w (.cells (tabV A n c) 24)
  have hbel1 : Below w.heap.size w (w.alloc (.cells (tabV A n c) 24)) := below_alloc (Below.refl _ _) _
  have hblk2 := blk_new (w.alloc (.cells (tabV A n c) 24)) (.cells (tabV A2 m c2) 27)
  have hbel2 : Below w.heap.size w ((w.alloc (.cells (tabV A n c) 24)).alloc (.cells (tabV A2 m c2) 27)) := below_alloc (hbel1) _
  rw [show (w.alloc (.cells (tabV A n c) 24)).heap.size = w.heap.size + 1 by simp] at hblk2
  replace hblk1 := blk_below hblk1 (below_alloc (Below.refl _ _) (.cells (tabV A2 m c2) 27))
  have HP1 := Lib.hid (rib_at hblk1)
  have HBK1 := Lib.hid hblk1
  have HP2 := Lib.hid (bat_at hblk2)
  have HBK2 := Lib.hid hblk2
  have HBE := Lib.hid hbel2
  have HL := Lib.hid (hL.below HBE.out)
  obtain ⟨cs1, hcs1⟩ : ∃ cs, tabV A n c = cs := ⟨_, rfl⟩
  obtain ⟨cs2, hcs2⟩ : ∃ cs, tabV A2 m c2 = cs := ⟨_, rfl⟩
  simp only [hcs1, hcs2] at HBE HL HP1 HP2 HBK1 HBK2 ⊢
  have HC1 := Lib.hid hcs1
  have HC2 := Lib.hid hcs2
  clear hL hcs1 hblk1 hbel1 hcs2 hblk2 hbel2
  have HR := Lib.hid (hr.below HBE.out)
  have HU := Lib.hid (hu.below HBE.out)
  have OK := Lib.hid ok
  have OKU := Lib.hid oku
  have hs0 : ((w.alloc (.cells cs1 24)).alloc (.cells cs2 27)).heap.size = w.heap.size + 1 + 1 := by simp
  obtain ⟨W1, hW1⟩ : ∃ W1, ((w.alloc (.cells cs1 24)).alloc (.cells cs2 27)).alloc (.cells #[.slice none 0 0] 24) = W1 := ⟨_, rfl⟩
  have HZ : Hid (W1.heap[w.heap.size + 1 + 1]? = some (.cells (tabV none 0 0) 24 (0, 0))) := Lib.hid (by rw [← hW1, ← hs0]; exact blk_new _ _)
  have HB1 : Hid (Below ((w.alloc (.cells cs1 24)).alloc (.cells cs2 27)).heap.size ((w.alloc (.cells cs1 24)).alloc (.cells cs2 27)) W1) := Lib.hid (hW1 ▸ below_alloc (Below.refl _ _) _)
  have HZL : Hid (w.heap.size ≤ w.heap.size + 1 + 1) := Lib.hid (by omega)
  have HS1 : Hid (W1.heap.size = w.heap.size + 3) := Lib.hid (by rw [← hW1]; simp)
  clear hr hu ok oku hs0
  go_enter Tryd.func13, Tryd.ntmps13
  go_wp2_with (first | ((with_reducible show wpList _ _ _ (Oper.mk _ (Op.load _ _) _ _ _ _ :: _) _ _); refine wpList_load_g ((HP1.out.all _ HB1.out).1) _ rfl rfl (by go_simp) ?_))
  clear hW1
  have hck := rcheck_any A n c l W1 (HL.out.below HB1.out) (HR.out.below HB1.out) OK.out (by omega)
  refine hck.mono ?_
  clear hck
  rintro e w2 ⟨rfl, hb2⟩
  have HB2 := Lib.hid (below_step HB1.out hb2)
  have HZ2 := Lib.hid (blk_below HZ.out hb2)
  have HS2 : Hid (w.heap.size + 3 ≤ w2.heap.size) := Lib.hid (by rw [← HS1.out]; exact hb2.size)
  clear hb2 HZ HB1 HS1
  cases hrb : ribB l with
  | false =>
    rw [show ribE l = 211 by unfold ribE; rw [hrb]; rfl]
    have HE := Lib.hid (appN_rib (b := b) hrb)
    clear hrb
    go_wp2_with (first | ((with_reducible show wpList _ _ _ (Oper.mk _ (Op.build _ _) _ _ _ _ :: _) _ _); refine wpList_exw rfl (exec_build 24 #[] rfl #[] rfl ((run_build_rib_nil _))) ?_) | ((with_reducible show wpList _ _ _ (Oper.mk _ (Op.store _ _ _) _ _ _ _ :: _) _ _); refine wpList_store_blk HZ2.out 24 0 (tabV none 0 0) (Nat.le_refl _) (info_rib _ _ _) (tab_one _ _ _) _ _ rfl rfl rfl rfl ?_; intro w9 hg9 hs9 hb9; rw [splice_tab] at hb9; have H9 := Lib.hid (And.intro hg9 hb9); clear hg9 hs9 hb9))
    refine bodyPost_ret (results_c2 rfl rfl (load_rib H9.out.2)) rfl ?_
    rw [HE.out.1, HE.out.2]
    exact ⟨none, 0, 0, rfl, OS.nil _ _ _, below_grown (below_step HBE.out HB2.out) H9.out.1 HZL.out⟩
  | true =>
    rw [show ribE l = 0 by unfold ribE; rw [hrb]; rfl]
    have HRB := Lib.hid hrb
    clear hrb
    go_wp2_with (first | ((with_reducible show wpList _ _ _ (Oper.mk _ (Op.load _ _) _ _ _ _ :: _) _ _); refine wpList_load_g ((HP2.out.all _ HB2.out).1) _ rfl rfl (by go_simp) ?_))
    have hck := rcheckb_any A2 m c2 b w2 (HL.out.below HB2.out) (HU.out.below HB2.out) OKU.out (by omega)
    refine hck.mono ?_
    clear hck
    rintro e w3 ⟨rfl, hb3⟩
    have HB3 := Lib.hid (below_step HB2.out hb3)
    have HZ3 := Lib.hid (blk_below HZ2.out hb3)
    have HS3 : Hid (w.heap.size + 3 ≤ w3.heap.size) := Lib.hid (Nat.le_trans HS2.out hb3.size)
    clear hb3 HZ2 HB2 HS2
    cases hbb : batB b with
    | false =>
      rw [show batE b = 210 by unfold batE; rw [hbb]; rfl]
      have HE := Lib.hid (appN_bat HRB.out hbb)
      clear hbb
      go_wp2_with (first | ((with_reducible show wpList _ _ _ (Oper.mk _ (Op.build _ _) _ _ _ _ :: _) _ _); refine wpList_exw rfl (exec_build 24 #[] rfl #[] rfl ((run_build_rib_nil _))) ?_) | ((with_reducible show wpList _ _ _ (Oper.mk _ (Op.store _ _ _) _ _ _ _ :: _) _ _); refine wpList_store_blk HZ3.out 24 0 (tabV none 0 0) (Nat.le_refl _) (info_rib _ _ _) (tab_one _ _ _) _ _ rfl rfl rfl rfl ?_; intro w9 hg9 hs9 hb9; rw [splice_tab] at hb9; have H9 := Lib.hid (And.intro hg9 hb9); clear hg9 hs9 hb9))
      refine bodyPost_ret (results_c2 rfl rfl (load_rib H9.out.2)) rfl ?_
      rw [HE.out.1, HE.out.2]
      exact ⟨none, 0, 0, rfl, OS.nil _ _ _, below_grown (below_step HBE.out HB3.out) H9.out.1 HZL.out⟩
    | true =>
      rw [show batE b = 0 by unfold batE; rw [hbb]; rfl]
      have HBB := Lib.hid hbb
      have hm8 : m ≤ 8 := by rw [← HU.out.len]; exact batB_len hbb
      clear hbb
      go_wp2_with (first | ((with_reducible show wpList _ _ _ (Oper.mk _ (Op.load _ _) _ _ _ _ :: _) _ _); refine wpList_load_g ((HP1.out.all _ HB3.out).2) _ rfl rfl (by go_simp) ?_))
      refine (cloneQ_any A n c l w3 (HR.out.below HB3.out) (by omega)).mono ?_
      rintro e w4 ⟨A4, c4, rfl, hO4, hb4⟩
      have HB34 := Lib.hid hb4
      have HO4 := Lib.hid hO4
      have HL4 := Lib.hid hO4.lt
      have HB5f := Lib.hid (fun (W : World) (h : (w4.alloc (.cells (tabV none 0 0) 24)).grownBy W (some w4.heap.size)) => below_grown (below_alloc (Below.refl w4.heap.size w4) (.cells (tabV none 0 0) 24)) h (Nat.le_refl _))
      clear hb4 hO4
      go_wp2_with (first | ((with_reducible show wpList _ _ _ (Oper.mk _ (Op.build _ _) _ _ _ _ :: _) _ _); refine wpList_exw rfl (exec_build1 rfl rfl (run_build_rib _ A4 n c4)) ?_) | ((with_reducible show wpList _ _ _ (Oper.mk _ (Op.store _ _ _) _ _ _ _ :: _) _ _); refine wpList_store_blk (blk_new w4 (.cells (tabV none 0 0) 24)) 24 0 (tabV A4 n c4) (Nat.le_refl _) (info_rib _ _ _) (tab_one _ _ _) _ _ rfl rfl rfl rfl ?_; intro w5 hg9 hs9 hb9; rw [splice_tab] at hb9; have H5 := Lib.hid (And.intro hg9 hb9); clear hg9 hs9 hb9) | ((with_reducible show wpList _ _ _ (Oper.mk _ (Op.load _ _) _ _ _ _ :: _) _ _); refine wpList_load_g ((HP2.out.all _ (below_step HB3.out (below_step HB34.out (HB5f.out _ H5.out.1)))).2) _ rfl rfl (by go_simp) ?_))
      have HB45 := Lib.hid (HB5f.out _ H5.out.1)
      have hAS : AppS w3 w5 w4.heap.size A4 n c4 l := ⟨(HO4.out.below (below_alloc (Below.refl _ _) (.cells (tabV none 0 0) 24))).grown H5.out.1 (fun ad e k => by injection k with k; have := HL4.out ad e; omega), H5.out.2, fun ad e => (by have := HL4.out ad e; omega), below_step HB34.out HB45.out, HB34.out.size⟩
      have HAS := Lib.hid hAS
      have HRK : Hid (Rok l) := Lib.hid ⟨OK.out, ribs_ris (ribB_ris HRB.out).1⟩
      obtain ⟨g6, hg6⟩ : ∃ g, w4.heap.size = g := ⟨_, rfl⟩
      rw [hg6] at HAS ⊢
      clear HB5f H5 HO4 HL4 HB34 HB45 hAS hg6
      go_loopw [29] (fun s29 wr => ∃ (k : Nat) (Ak : Option Addr) (nk ck : Nat) (lk : List Rte), s29 = .int .i64 k ∧ Hid (k ≤ m ∧ AppS w3 wr g6 Ak nk ck lk ∧ appL l (b.take k) = some lk)) (fun x _ => m - (intOf x).toNat)
      case atStart => exact ⟨0, A4, n, c4, l, rfl, Nat.zero_le _, HAS.out, rfl⟩
      case round =>
        obtain ⟨k, Ak, nk, ck, lk, rfl, HI⟩ := hrel
        obtain ⟨wk, rfl⟩ : ∃ wk, wk = wr := ⟨wr, rfl⟩
        have HBK := Lib.hid (below_step HB3.out HI.out.2.1.bel)
        have hrok := appL_rok HRK.out (fun u hu => OKU.out u (List.mem_of_mem_take hu)) HI.out.2.2
        have HROK := Lib.hid hrok.1
        have hnk : nk ≤ 10100 := by
          have h1 := hrok.2
          rw [HI.out.2.1.own.len, List.length_take, HR.out.len] at h1
          have h2 := HI.out.1
          omega
        clear hrok
        by_cases hlt : k < m
        · have hlt' : (k : Int) < m := by omega
          obtain ⟨bb, ob, hA, hc⟩ := RS.at_ HU.out (by omega)
          have hkl : k < b.length := by rw [HU.out.len]; exact hlt
          have HXO := Lib.hid (OKU.out.at_ hkl)
          have hla := Shape.ld updK wk bb _ _ HXO.out.fits ((hc k hlt).below HBK.out)
          have hla : (Instr.loadAt 75 (.pointer (some ⟨bb, ob + k * 22, none⟩))).run Tryd.prog wk = .ok (.agg (updV (updAt b k))) wk := hla
          have HAT := Lib.hid (appL_take hkl HI.out.2.2)
          have HTN : Hid (appL l (b.take (k + 1)) = none → appL l b = none) := Lib.hid appL_none
          obtain ⟨x, hx⟩ : ∃ x, updAt b k = x := ⟨_, rfl⟩
          rw [hx] at hla HXO HAT
          have HB6f := Lib.hid (fun (W : World) (h : (wk.alloc (.cells (updV updZ) 75)).grownBy W (some wk.heap.size)) => below_grown (below_alloc (Below.refl wk.heap.size wk) (.cells (updV updZ) 75)) h (Nat.le_refl _))
          subst hA
          clear hc hx hkl
          go_upto_region 10 with (first | ((with_reducible show wpList _ _ _ (Oper.mk _ (Op.load _ _) _ _ _ _ :: _) _ _); refine wpList_load_g hla _ rfl rfl (by go_simp) ?_) | ((with_reducible show wpList _ _ _ (Oper.mk _ (Op.store _ _ _) _ _ _ _ :: _) _ _); refine wpList_store_blk (blk_new wk _) 75 0 (updV x) (store_upd_fit HXO.out.fits rfl) (info_upd HXO.out.fits) (updV_one _) _ _ rfl rfl rfl rfl ?_; intro w6 hg9 hs9 hb9; rw [splice_upd HXO.out.fits rfl] at hb9; have H6 := Lib.hid (And.intro hg9 hb9); clear hg9 hs9 hb9) | ((with_reducible show wpList _ _ _ (Oper.mk _ (Op.load _ _) _ _ _ _ :: _) _ _); refine wpList_load_g (((upd_at HXO.out.fits H6.out.2).all _ (Below.refl _ _)).pfx) _ rfl rfl (by go_simp) ?_) | ((with_reducible show wpList _ _ _ (Oper.mk _ (Op.load _ _) _ _ _ _ :: _) _ _); refine wpList_load_g (((upd_at HXO.out.fits H6.out.2).all _ (Below.refl _ _)).src) _ rfl rfl (by go_simp) ?_) | ((with_reducible show wpList _ _ _ (Oper.mk _ (Op.load _ _) _ _ _ _ :: _) _ _); refine wpList_load_g (((upd_at HXO.out.fits H6.out.2).all _ (Below.refl _ _)).prf) _ rfl rfl (by go_simp) ?_) | ((with_reducible show wpList _ _ _ (Oper.mk _ (Op.load _ _) _ _ _ _ :: _) _ _); refine wpList_load_g (((upd_at HXO.out.fits H6.out.2).all _ (Below.refl _ _)).hop) _ rfl rfl (by go_simp) ?_) | ((with_reducible show wpList _ _ _ (Oper.mk _ (Op.build _ _) _ _ _ _ :: _) _ _); refine wpList_exw rfl (exec_build4 rfl rfl rfl rfl rfl (run_build_rte _ x.p x.s x.f x.h HXO.out.fits.len)) ?_) | ((with_reducible show wpList _ _ _ (Oper.mk _ (Op.store _ _ _) _ _ _ _ :: _) _ _); refine wpList_store_blk (blk_new w6 _) 51 0 (rteV (Upd.rte x)) (store_rte_fit (show (Upd.rte x).fits from HXO.out.fits) rfl) (info_rte (show (Upd.rte x).fits from HXO.out.fits)) (rteV_one _) _ _ rfl rfl rfl rfl ?_; intro w7 hg9 hs9 hb9; rw [splice_rte (show (Upd.rte x).fits from HXO.out.fits) rfl] at hb9; have H7 := Lib.hid (And.intro hg9 hb9); clear hg9 hs9 hb9))
          dsimp only [Act.put]
          have HB6 := Lib.hid (HB6f.out _ H6.out.1)
          have HB7 := Lib.hid (below_grown (below_alloc (Below.refl w6.heap.size w6) (.cells (rteV rteZ) 51)) H7.out.1 (Nat.le_refl _))
          have HA7 := Lib.hid ((HI.out.2.1.step HB6.out).step HB7.out)
          have HU7 := Lib.hid (blk_below H6.out.2 HB7.out)
          have HX7 := Lib.hid H7.out.2
          have HBK7 := Lib.hid (below_step HB6.out HB7.out)
          have HRF : Hid (Upd.rte x).fits := Lib.hid HXO.out.fits
          obtain ⟨gu, hgu⟩ : ∃ g, wk.heap.size = g := ⟨_, rfl⟩
          obtain ⟨gx, hgx⟩ : ∃ g, w6.heap.size = g := ⟨_, rfl⟩
          rw [hgu] at HU7 ⊢
          rw [hgx] at HX7 ⊢
          obtain ⟨r, hr⟩ : ∃ r, Upd.rte x = r := ⟨_, rfl⟩
          have HRE := Lib.hid hr
          have HRO : Hid r.ok := Lib.hid (by rw [← hr]; exact HXO.out.rte)
          rw [hr] at HX7 HRF
          rw [show (⟨x.p, x.s, x.f, x.h⟩ : Rte) = r from hr]
          clear HB6f H6 H7 hla hgu hgx hr HB6 HB7
          go_wp2_with (first | ((with_reducible show wpList _ _ _ (Oper.mk _ (Op.load _ _) _ _ _ _ :: _) _ _); refine wpList_load_g (((rib_at HA7.out.cell).all _ (Below.refl _ _)).2) _ rfl rfl (by go_simp) ?_) | ((with_reducible show wpList _ _ _ (Oper.mk _ (Op.load _ _) _ _ _ _ :: _) _ _); refine wpList_load_g (((rte_at HRF.out HX7.out).all _ (Below.refl _ _)).all) _ rfl rfl (by go_simp) ?_))
          refine (bsearchQ_any Ak nk ck lk r w7 HA7.out.own.reads HROK.out.ris HRF.out (by omega)).mono ?_
          rintro e w8 ⟨rfl, hb8⟩
          have HA8 := Lib.hid (HA7.out.step hb8)
          have HU8 := Lib.hid (blk_below HU7.out hb8)
          have HX8 := Lib.hid (blk_below HX7.out hb8)
          have HBK8 := Lib.hid (below_step HBK7.out hb8)
          have HSP : Hid (appS lk x = if x.g then (if thereR lk r then some (dropK Rte.key lk r) else none) else some (setK Rte.key lk r)) := Lib.hid (by rw [← HRE.out]; rfl)
          have HDK : Hid (dropK Rte.key lk r = lk.take (lowR lk r) ++ lk.drop (lowR lk r + 1)) := Lib.hid rfl
          have HSK : Hid (setK Rte.key lk r = lk.take (lowR lk r) ++ r :: lk.drop (if thereR lk r then lowR lk r + 1 else lowR lk r)) := Lib.hid rfl
          have HJL : Hid (thereR lk r = true → lowR lk r < lk.length) := Lib.hid thereK_lt
          have HJE : Hid (lowR lk r ≤ lk.length) := Lib.hid (lowK_le lk r)
          obtain ⟨j, hj⟩ : ∃ j, lowR lk r = j := ⟨_, rfl⟩
          rw [hj] at HDK HSK HJL HJE ⊢
          have hlk : lk.length = nk := HA8.out.own.len
          have hjn : j ≤ nk := by rw [← hlk]; exact HJE.out
          clear hb8 hj HA7 HU7 HX7 HBK7 hlk
          cases hg : x.g with
          | true =>
            cases ht : thereR lk r with
            | false =>
              have HE := Lib.hid (appN_no HRB.out HBB.out (HTN.out (by rw [HAT.out, HSP.out, hg, ht]; rfl)))
              clear ht
              go_wp2_with (first | ((with_reducible show wpList _ _ _ (Oper.mk _ (Op.load _ _) _ _ _ _ :: _) _ _); refine wpList_load_g (((upd_at HXO.out.fits HU8.out).all _ (Below.refl _ _)).gon) _ rfl rfl (by go_simp) ?_) | ((with_reducible show wpList _ _ _ (Oper.mk _ (Op.build _ _) _ _ _ _ :: _) _ _); refine wpList_exw rfl (exec_build 24 #[] rfl #[] rfl ((run_build_rib_nil _))) ?_) | ((with_reducible show wpList _ _ _ (Oper.mk _ (Op.store _ _ _) _ _ _ _ :: _) _ _); refine wpList_store_blk (blk_below HZ3.out HA8.out.bel) 24 0 (tabV none 0 0) (Nat.le_refl _) (info_rib _ _ _) (tab_one _ _ _) _ _ rfl rfl rfl rfl ?_; intro w9 hg9 hs9 hb9; rw [splice_tab] at hb9; have H9 := Lib.hid (And.intro hg9 hb9); clear hg9 hs9 hb9))
              refine bodyPost_ret (results_c2 rfl rfl (load_rib H9.out.2)) rfl ?_
              rw [HE.out.1, HE.out.2]
              exact ⟨none, 0, 0, rfl, OS.nil _ _ _, below_grown (below_step HBE.out (below_step HB3.out HA8.out.bel)) H9.out.1 HZL.out⟩
            | true =>
              have hjlt : j < nk := by have h1 := HJL.out ht; rwa [HA8.out.own.len] at h1
              have HN : Hid (appL l (b.take (k + 1)) = some (lk.take j ++ lk.drop (j + 1))) := Lib.hid (by rw [HAT.out, HSP.out, hg, ht, ← HDK.out]; rfl)
              clear ht
              go_wp2_with (first | ((with_reducible show wpList _ _ _ (Oper.mk _ (Op.load _ _) _ _ _ _ :: _) _ _); refine wpList_load_g (((upd_at HXO.out.fits HU8.out).all _ (Below.refl _ _)).gon) _ rfl rfl (by go_simp) ?_) | ((with_reducible show wpList _ _ _ (Oper.mk _ (Op.load _ _) _ _ _ _ :: _) _ _); refine wpList_load_g (((rib_at HA8.out.cell).all _ (Below.refl _ _)).2) _ rfl rfl (by go_simp) ?_))
              refine (deleteQ_any w3.heap.size Ak nk ck j lk w8 HA8.out.own hjlt (by omega)).mono ?_
              rintro e w9 ⟨rfl, hO9, hg9⟩
              have HO9 := Lib.hid (And.intro hO9 hg9)
              clear hO9 hg9
              go_wp2_with (first | ((with_reducible show wpList _ _ _ (Oper.mk _ (Op.store _ _ _) _ _ _ _ :: _) _ _); refine wpList_store_cell (blk_ownN HA8.out.cell HO9.out.2 HA8.out.ne) 22 0 (.slice Ak (nk - 1) ck) (Nat.le_refl _) (by kernel_rfl) rfl rfl _ _ rfl rfl rfl rfl ?_; intro w10 hg9 hs9 hb9; have H10 := Lib.hid (And.intro hg9 (show (World.heap w10)[g6]? = some (.cells (tabV Ak (nk - 1) ck) 24 (0, 0)) from hb9)); clear hg9 hs9 hb9))
              go_roundw
              case measure => simp [intOf]; omega
              case rel => exact ⟨k + 1, Ak, nk - 1, ck, _, by go_num, by omega, HA8.out.turn HO9.out.1 HO9.out.2 (.inl rfl) H10.out.1 H10.out.2, HN.out⟩
          | false =>
            cases ht : thereR lk r with
            | true =>
              have hjlt : j < nk := by have h1 := HJL.out ht; rwa [HA8.out.own.len] at h1
              have hjlt' : (j : Int) < nk := by omega
              have HN : Hid (appL l (b.take (k + 1)) = some (lk.take j ++ [r] ++ lk.drop (j + 1))) := Lib.hid (by rw [HAT.out, HSP.out, hg, if_neg (by decide), HSK.out, ht, if_pos rfl]; simp)
              obtain ⟨b9, o9, rfl, _⟩ := RS.at_ HA8.out.own.reads (by omega)
              clear ht
              go_wp2_with (first | ((with_reducible show wpList _ _ _ (Oper.mk _ (Op.load _ _) _ _ _ _ :: _) _ _); refine wpList_load_g (((upd_at HXO.out.fits HU8.out).all _ (Below.refl _ _)).gon) _ rfl rfl (by go_simp) ?_) | ((with_reducible show wpList _ _ _ (Oper.mk _ (Op.load _ _) _ _ _ _ :: _) _ _); refine wpList_load_g (((rib_at HA8.out.cell).all _ (Below.refl _ _)).2) _ rfl rfl (by go_simp) ?_) | ((with_reducible show wpList _ _ _ (Oper.mk _ (Op.load _ _) _ _ _ _ :: _) _ _); refine wpList_load_g (((rte_at HRF.out HX8.out).all _ (Below.refl _ _)).all) _ rfl rfl (by go_simp) ?_) | ((with_reducible show wpList _ _ _ (Oper.mk _ (Op.store _ _ _) _ _ _ _ :: _) _ _); refine wpList_store_elem (S := rteK) HA8.out.own j hjlt r HRF.out rfl _ _ rfl rfl rfl rfl ?_; intro w9 hg9 hs9 hO9; have H9 := Lib.hid (And.intro hg9 hO9); clear hg9 hs9 hO9))
              go_roundw
              case measure => simp [intOf]; omega
              case rel => exact ⟨k + 1, _, nk, ck, _, by go_num, by omega, HA8.out.put H9.out.2 H9.out.1, HN.out⟩
            | false =>
              have HN : Hid (appL l (b.take (k + 1)) = some (lk.take j ++ r :: lk.drop j)) := Lib.hid (by rw [HAT.out, HSP.out, hg, if_neg (by decide), HSK.out, ht, if_neg (by decide)])
              have HLT := Lib.hid HA8.out.own.lt
              have HBA := Lib.hid (below_alloc (Below.refl w8.heap.size w8) (.cells (rteK.enc r).toArray rteK.t))
              clear ht
              go_wp2_with (first | ((with_reducible show wpList _ _ _ (Oper.mk _ (Op.load _ _) _ _ _ _ :: _) _ _); refine wpList_load_g (((upd_at HXO.out.fits HU8.out).all _ (Below.refl _ _)).gon) _ rfl rfl (by go_simp) ?_) | ((with_reducible show wpList _ _ _ (Oper.mk _ (Op.load _ _) _ _ _ _ :: _) _ _); refine wpList_load_g (((rib_at HA8.out.cell).all _ (Below.refl _ _)).2) _ rfl rfl (by go_simp) ?_) | ((with_reducible show wpList _ _ _ (Oper.mk _ (Op.load _ _) _ _ _ _ :: _) _ _); refine wpList_load_g (((rte_at HRF.out HX8.out).all _ (Below.refl _ _)).all) _ rfl rfl (by go_simp) ?_) | ((with_reducible show wpList _ _ _ (Oper.mk _ (Op.buildSlice _ _ _) _ _ _ _ :: _) _ _); refine wpList_exw rfl (exec_lit1 rteK (x := .tmp 52) rfl r rfl HRF.out (by show 21 ≤ _; omega) _) ?_))
              refine (insertQ_any w3.heap.size Ak nk ck j w8.heap.size lk r _ (HA8.out.own.below HBA.out) hjn (by omega) (Nat.le_trans HA8.out.bel.size HBA.out.size) (blk_new w8 _) HRF.out (fun ad e => by have := HLT.out ad e; omega)).mono ?_
              rintro e w9 ⟨A9, c9, rfl, hO9, hg9, hA9⟩
              have HO9 := Lib.hid (And.intro hO9 (And.intro hg9 hA9))
              clear hO9 hg9 hA9
              go_wp2_with (first | ((with_reducible show wpList _ _ _ (Oper.mk _ (Op.store _ _ _) _ _ _ _ :: _) _ _); refine wpList_store_cell (blk_ownN (blk_below HA8.out.cell HBA.out) HO9.out.2.1 HA8.out.ne) 22 0 (.slice A9 (nk + 1) c9) (Nat.le_refl _) (by kernel_rfl) rfl rfl _ _ rfl rfl rfl rfl ?_; intro w10 hg9 hs9 hb9; have H10 := Lib.hid (And.intro hg9 (show (World.heap w10)[g6]? = some (.cells (tabV A9 (nk + 1) c9) 24 (0, 0)) from hb9)); clear hg9 hs9 hb9))
              go_roundw
              case measure => simp [intOf]; omega
              case rel => exact ⟨k + 1, A9, nk + 1, c9, _, by go_num, by omega, (HA8.out.step HBA.out).turn HO9.out.1 HO9.out.2.1 HO9.out.2.2 H10.out.1 H10.out.2, HN.out⟩
        · have hlt' : decide (k < m) = false := decide_eq_false hlt
          have HAL : Hid (appL l b = some lk) := Lib.hid (by
            have h1 := HI.out.2.2
            have h2 : k = b.length := by rw [HU.out.len]; have := HI.out.1; omega
            rwa [h2, List.take_length] at h1)
          have HAK := Lib.hid HI.out.2.1
          clear hlt
          go_wp2_with (first | ((with_reducible show wpList _ _ _ (Oper.mk _ (Op.load _ _) _ _ _ _ :: _) _ _); refine wpList_load_g (((rib_at HAK.out.cell).all _ (Below.refl _ _)).2) _ rfl rfl (by go_simp) ?_))
          refine (rprefixes_any Ak nk ck lk wk HAK.out.own.reads HROK.out.ok (by omega)).mono ?_
          rintro e w8 ⟨rfl, hb8⟩
          have HA8 := Lib.hid (HAK.out.step hb8)
          obtain ⟨q, hq⟩ : ∃ q, pfxsN lk = q := ⟨_, rfl⟩
          have HQ := Lib.hid hq
          rw [hq]
          clear hb8 hq
          by_cases h40 : 40 < q
          · have h40b : decide ((40 : Int) < q) = true := decide_eq_true (by omega)
            have HE := Lib.hid (appN_full HRB.out HBB.out HAL.out (by rw [HQ.out]; omega))
            clear h40
            go_wp2_with (first | ((with_reducible show wpList _ _ _ (Oper.mk _ (Op.build _ _) _ _ _ _ :: _) _ _); refine wpList_exw rfl (exec_build 24 #[] rfl #[] rfl ((run_build_rib_nil _))) ?_) | ((with_reducible show wpList _ _ _ (Oper.mk _ (Op.store _ _ _) _ _ _ _ :: _) _ _); refine wpList_store_blk (blk_below HZ3.out HA8.out.bel) 24 0 (tabV none 0 0) (Nat.le_refl _) (info_rib _ _ _) (tab_one _ _ _) _ _ rfl rfl rfl rfl ?_; intro w9 hg9 hs9 hb9; rw [splice_tab] at hb9; have H9 := Lib.hid (And.intro hg9 hb9); clear hg9 hs9 hb9))
            refine bodyPost_ret (results_c2 rfl rfl (load_rib H9.out.2)) rfl ?_
            rw [HE.out.1, HE.out.2]
            exact ⟨none, 0, 0, rfl, OS.nil _ _ _, below_grown (below_step HBE.out (below_step HB3.out HA8.out.bel)) H9.out.1 HZL.out⟩
          · have h40b : decide ((40 : Int) < q) = false := decide_eq_false (by omega)
            have HE := Lib.hid (appN_yes HRB.out HBB.out HAL.out (by rw [HQ.out]; omega))
            clear h40
            go_wp2_with (first | ((with_reducible show wpList _ _ _ (Oper.mk _ (Op.load _ _) _ _ _ _ :: _) _ _); refine wpList_load_g (load_rib HA8.out.cell) _ rfl rfl (by go_simp) ?_) | ((with_reducible show wpList _ _ _ (Oper.mk _ (Op.store _ _ _) _ _ _ _ :: _) _ _); refine wpList_store_blk (blk_below HZ3.out HA8.out.bel) 24 0 (tabV Ak nk ck) (Nat.le_refl _) (info_rib _ _ _) (tab_one _ _ _) _ _ rfl rfl rfl rfl ?_; intro w9 hg9 hs9 hb9; rw [splice_tab] at hb9; have H9 := Lib.hid (And.intro hg9 hb9); clear hg9 hs9 hb9))
            refine bodyPost_ret (results_c2 rfl rfl (load_rib H9.out.2)) rfl ?_
            rw [HE.out.1, HE.out.2]
            refine ⟨Ak, nk, ck, rfl, (HA8.out.own.grown H9.out.1 (fun ad e h => ?_)).lower (by have := HS3.out; omega), below_grown (below_step HBE.out (below_step HB3.out HA8.out.bel)) H9.out.1 HZL.out⟩
            have h1 := HA8.out.own.base_ ad e
            have h2 := HS3.out
            injection h with h
            omega
end Go.Proofs.YtnpeedmicjeleaaDoor

/- A region that draws its order, where two operations that act may stand in either order: both orders are walked. -/
namespace Go.Proofs.YtnpeedmicjeleaaDoor
open Go.RowKit
set_option linter.unusedVariables false
set_option linter.unusedSimpArgs false
set_option maxRecDepth 4000

section
variable {P : Program} {S : World → Prop} {ops : Array Oper} {md : Region.Mode} {cl : Nat → Nat}
theorem notOut (X : Act → World → Prop) : ¬ LetsOut (onlyNormal X) := fun ⟨_, _, h⟩ => h
theorem wpOp_normal {X Y K : Act → World → Prop} {i : Nat} {a : Act} {w : World} (h : wpOp P ops (onlyNormal X) i K a w) : wpOp P ops (onlyNormal Y) i K a w := by
  unfold wpOp at *
  cases hi : ops[i]? with
  | none => rw [hi] at h; exact h
  | some o =>
    rw [hi] at h
    simp only at h ⊢
    split
    · rename_i hw
      rw [if_pos hw] at h
      rcases h with h | ⟨_, h⟩
      · refine .inl ?_
        unfold Oper.wp at *
        generalize (execOp a.eval o).run P w = r at *
        cases r with
        | ok n w' =>
          cases n <;> simp only [Oper.upon] at h ⊢
          case value u => exact h
          case skip => exact h
          case defer d => exact h
          case enter f args =>
            refine Calls.mono h fun e w'' he => ?_
            cases e with
            | returned u => exact he
            | panicked c => exact he.elim
            | outgrown => exact (notOut _ he).elim
          case row row args => exact h
        | halt x w' =>
          cases x <;> simp only [Oper.upon] at h ⊢
          case panic u => exact h.elim
      · exact (notOut _ h).elim
    · rename_i hw
      rw [if_neg hw] at h
      exact h
theorem mOp_normal {X Y K K' : Act → World → Prop} {i : Nat} {a : Act} {w : World} (hk : ∀ a w, K a w → K' a w) (h : mOp P S ops (onlyNormal X) cl i K a w) : mOp P S ops (onlyNormal Y) cl i K' a w := by
  refine mOp_mono hk ?_
  unfold mOp at *
  cases hi : ops[i]? with
  | none => rw [hi] at h; exact h
  | some o =>
    rw [hi] at h
    simp only at h ⊢
    split at h
    · exact h
    · exact h
    · exact wpOp_normal h
    · exact h
    · exact wpOp_normal h

inductive OrdT where
  | lin (l : List Nat)
  | fork (l : List Nat) (i j : Nat) (r s : OrdT)
def OrdT.len : OrdT → Nat
  | .lin l => l.length
  | .fork l _ _ r _ => l.length + (r.len + 1)
def wpF (P : Program) (S : World → Prop) (ops : Array Oper) (cl : Nat → Nat) (K : Act → World → Prop) : OrdT → Act → World → Prop
  | .lin l, a, w => wpO P S ops (onlyNormal K) cl l a w
  | .fork l i j r s, a, w => wpO P S ops (onlyNormal fun a w => wpO P S ops (onlyNormal (wpF P S ops cl K r)) cl [i] a w ∧ wpO P S ops (onlyNormal (wpF P S ops cl K s)) cl [j] a w) cl l a w
def afterL (l : List Nat) (listed : Array Bool) : Array Bool := l.foldl (fun b i => b.setIfInBounds i true) listed
def ordP (md : Region.Mode) (ops : Array Oper) (cl : Nat → Nat) : List Nat → Array Bool → Bool
  | [], _ => true
  | i :: l, listed => (match cl i with
    | 0 => (Region.ready md ops listed).contains i && Region.free md ops listed i
    | 1 => (Region.ready md ops listed).contains i && Region.free md ops listed i && (List.range ops.size).all fun j => listed.getD j true || cl j == 0 || cl j == 1 || reach md ops i ops.size j
    | 4 => (Region.ready md ops listed).contains i && Region.free md ops listed i
    | _ => Region.ready md ops listed == [i]) && ordP md ops cl l (listed.setIfInBounds i true)
def ordF (md : Region.Mode) (ops : Array Oper) (cl : Nat → Nat) : OrdT → Array Bool → Bool
  | .lin l, listed => ordB md ops cl l listed
  | .fork l i j r s, listed => ordP md ops cl l listed && (Region.ready md ops (afterL l listed) == [i, j]) && decide (r.len = s.len) && ordF md ops cl r ((afterL l listed).setIfInBounds i true) && ordF md ops cl s ((afterL l listed).setIfInBounds j true)

theorem wpM_prefix (hf : Fin md ops cl) (hs : Region.noSelect ops = true) {X K : Act → World → Prop} {n : Nat} : ∀ (l : List Nat) (listed : Array Bool) (a : Act) (w : World), Closed md ops listed → ordP md ops cl l listed = true →
    wpO P S ops (onlyNormal X) cl l a w → (∀ a w, Closed md ops (afterL l listed) → X a w → wpM P S md ops (onlyNormal K) cl n (afterL l listed) a w) → wpM P S md ops (onlyNormal K) cl (n + l.length) listed a w
  | [], listed, a, w, hcl, _, h, hX => hX a w hcl h
  | i :: l, listed, a, w, hcl, hB, h, hX => by
    simp only [ordP, Bool.and_eq_true] at hB
    obtain ⟨hB1, hB2⟩ := hB
    simp only [wpO] at h
    have h0 := h
    have hX' : ∀ a w, Closed md ops (afterL l (listed.setIfInBounds i true)) → X a w → wpM P S md ops (onlyNormal K) cl n (afterL l (listed.setIfInBounds i true)) a w := fun a w hc hx => hX a w hc hx
    show wpM P S md ops (onlyNormal K) cl (n + l.length + 1) listed a w
    unfold mOp at h
    split at hB1
    · rename_i hc
      simp only [Bool.and_eq_true, List.contains_iff_mem] at hB1
      obtain ⟨_, oi, hoi, _⟩ := mem_ready.1 hB1.1
      rw [hoi] at h
      simp only [hc] at h
      obtain ⟨v, hy, hk⟩ := h
      exact wpM_first0 hf hoi hc (Region.noSelect_spec hs) (fun c a w h => h) (n + l.length) listed a w hcl (Region.free_spec hoi hB1.2) hB1.1 hy (wpM_prefix hf hs l _ _ w (hcl.set hB1.1) hB2 hk hX')
    · rename_i hc
      simp only [Bool.and_eq_true, List.contains_iff_mem, List.all_eq_true, List.mem_range, Bool.or_eq_true, beq_iff_eq] at hB1
      obtain ⟨_, oi, hoi, _⟩ := mem_ready.1 hB1.1.1
      rw [hoi] at h
      simp only [hc] at h
      obtain ⟨v, hy, hk⟩ := h
      refine wpM_first1 (N := ops.size) hoi hc (Region.noSelect_spec hs) (n + l.length) listed a hcl (fun j oj hj hun => ?_) (Region.free_spec hoi hB1.1.2) hB1.1.1 hy (wpM_prefix hf hs l _ _ w (hcl.set hB1.1.1) hB2 hk hX')
      have := hB1.2 j (Array.getElem?_eq_some_iff.1 hj).1
      rw [hun] at this
      simpa [or_assoc] using this
    · rename_i hc
      simp only [Bool.and_eq_true, List.contains_iff_mem] at hB1
      obtain ⟨_, oi, hoi, _⟩ := mem_ready.1 hB1.1
      rw [hoi] at h
      simp only [hc] at h
      obtain ⟨v, hy, hk⟩ := h
      exact wpM_first4 hoi hc (Region.noSelect_spec hs) (fun c a w h => h) (n + l.length) listed a w hcl (Region.free_spec hoi hB1.2) hB1.1 hy (wpM_prefix hf hs l _ _ w (hcl.set hB1.1) hB2 hk hX')
    · simp only [beq_iff_eq] at hB1
      have hr : i ∈ Region.ready md ops listed := by rw [hB1]; exact List.mem_singleton.2 rfl
      exact wpM_only hB1 (mOp_normal (fun a' w' h' => wpM_prefix hf hs l _ a' w' (hcl.set hr) hB2 h' hX') h0)
theorem wpM_of_wpF (hf : Fin md ops cl) (hs : Region.noSelect ops = true) {K : Act → World → Prop} : ∀ (t : OrdT) (listed : Array Bool) (a : Act) (w : World), Closed md ops listed → ordF md ops cl t listed = true → wpF P S ops cl K t a w →
    wpM P S md ops (onlyNormal K) cl t.len listed a w
  | .lin l, listed, a, w, hcl, hB, h => wpM_of_wpO hf hs (fun c dst v a w h => h) l listed a w hcl hB h
  | .fork l i j r s, listed, a, w, hcl, hB, h => by
    simp only [ordF, Bool.and_eq_true, decide_eq_true_eq, beq_iff_eq] at hB
    obtain ⟨⟨⟨⟨h1, h2⟩, h3⟩, h4⟩, h5⟩ := hB
    show wpM P S md ops (onlyNormal K) cl (l.length + (r.len + 1)) listed a w
    rw [Nat.add_comm]
    refine wpM_prefix hf hs l listed a w hcl h1 h (fun a w hc hx => ?_)
    refine ⟨fun h => (by rw [h2] at h; cases h), fun k hk => ?_⟩
    have hri : i ∈ Region.ready md ops (afterL l listed) := by rw [h2]; simp
    have hrj : j ∈ Region.ready md ops (afterL l listed) := by rw [h2]; simp
    rw [h2] at hk
    rcases List.mem_cons.1 hk with rfl | hk
    · exact mOp_normal (fun a' w' h' => wpM_of_wpF hf hs r _ a' w' (hc.set hri) h4 h') hx.1
    · rw [List.mem_singleton] at hk
      subst hk
      exact mOp_normal (fun a' w' h' => by rw [h3]; exact wpM_of_wpF hf hs s _ a' w' (hc.set hrj) h5 h') hx.2
end
theorem wp_region_fork {P : Program} (S : World → Prop) {ops : Array Oper} {id : Nat} {Q : Exit → Act → World → Prop} {a : Act} {w : World} (t : OrdT) (l : List (Nat × Nat)) (hm : P.follows .mixedOrders = true)
    (hB : (finB .any ops l && Region.noSelect ops && decide (t.len = ops.size) && ordF .any ops (clOf l) t (Array.replicate ops.size false)) = true)
    (hS : S w.drew) (h : wpF P S ops (clOf l) (Q .normal) t a w.drew) : (Code.region id ops true).wp P Q a w := by
  simp only [Bool.and_eq_true, decide_eq_true_eq] at hB
  refine wp_mono (Q := onlyNormal (Q .normal)) (wp_region_any hm (wpAny_of_wpM (S := S) (cl := clOf l) (fin_of hB.1.1.1) _ _ _ _ (Closed.start _) hS ?_)) (fun e a w hq => ?_)
  · have := wpM_of_wpF (P := P) (S := S) (md := .any) (cl := clOf l) (fin_of hB.1.1.1) hB.1.1.2 t (Array.replicate ops.size false) a w.drew (Closed.start _) hB.2 h
    rw [hB.1.2] at this
    exact this
  · cases e <;> first | exact hq | exact hq.elim
end Go.Proofs.YtnpeedmicjeleaaDoor

/- Layer 11 (route): Best. -/
namespace Go.Proofs.YtnpeedmicjeleaaDoor
open Go.RowKit
set_option linter.unusedVariables false
set_option linter.unusedSimpArgs false
set_option maxRecDepth 4000
/-- What the loop of Best keeps: a table of its own, and the cell that holds it. -/
structure TabS (w0 w : World) (g : Nat) (A : Option Addr) (n c : Nat) (t : List Row) : Prop where
  own : OS rowK w w0.heap.size A n c t
  cell : w.heap[g]? = some (.cells (tabV A n c) 39 (0, 0))
  bel : Below w0.heap.size w0 w
  gle : w0.heap.size ≤ g
theorem TabS.step {w0 w w1 : World} {g : Nat} {A : Option Addr} {n c : Nat} {t : List Row} (h : TabS w0 w g A n c t) (hb : Below w.heap.size w w1) : TabS w0 w1 g A n c t := ⟨h.own.below hb, blk_below h.cell hb, below_step h.bel hb, h.gle⟩
set_option maxHeartbeats 8000000 in
set_option maxRecDepth 100000 in
theorem rbest_any (A : Option Addr) (n c : Nat) (l : List Rte) (w : World) (hL : Laid w) (hr : RS rteK w A n c l) (ok : Okr l) (hn : n ≤ 10000) :
    Calls Tryd.prog 17 #[.agg (tabV A n c)] w fun e w' => ∃ A' n' c', e = .returned (.tuple #[.agg (tabV A' n' c'), .int .i64 (ribE l)]) ∧ OS rowK w' w.heap.size A' n' c' (bestR l) ∧ Below w.heap.size w w' := by
  have hblk1 := blk_new w (.cells (tabV A n c) 24)
  have hbel1 : Below w.heap.size w (w.alloc (.cells (tabV A n c) 24)) := below_alloc (Below.refl _ _) _
  have HP1 := Lib.hid (rib_at hblk1)
  have HBK1 := Lib.hid hblk1
  have HBE := Lib.hid hbel1
  have HL := Lib.hid (hL.below HBE.out)
  obtain ⟨cs1, hcs1⟩ : ∃ cs, tabV A n c = cs := ⟨_, rfl⟩
  simp only [hcs1] at HBE HL HP1 HBK1 ⊢
  have HC1 := Lib.hid hcs1
  clear hL hcs1 hblk1 hbel1
  have HR := Lib.hid (hr.below HBE.out)
  have OK := Lib.hid ok
  have hs0 : (w.alloc (.cells cs1 24)).heap.size = w.heap.size + 1 := by simp
  obtain ⟨W1, hW1⟩ : ∃ W1, (w.alloc (.cells cs1 24)).alloc (.cells #[.slice none 0 0] 39) = W1 := ⟨_, rfl⟩
  have HZ : Hid (W1.heap[w.heap.size + 1]? = some (.cells (tabV none 0 0) 39 (0, 0))) := Lib.hid (by rw [← hW1, ← hs0]; exact blk_new _ _)
  have HB1 : Hid (Below (w.alloc (.cells cs1 24)).heap.size (w.alloc (.cells cs1 24)) W1) := Lib.hid (hW1 ▸ below_alloc (Below.refl _ _) _)
  have HZL : Hid (w.heap.size ≤ w.heap.size + 1) := Lib.hid (by omega)
  have HS1 : Hid (W1.heap.size = w.heap.size + 2) := Lib.hid (by rw [← hW1]; simp)
  clear hr ok hs0
  go_enter Tryd.func17, Tryd.ntmps17
  go_wp2_with (first | ((with_reducible show wpList _ _ _ (Oper.mk _ (Op.load _ _) _ _ _ _ :: _) _ _); refine wpList_load_g ((HP1.out.all _ HB1.out).1) _ rfl rfl (by go_simp) ?_))
  clear hW1
  refine (rcheck_any A n c l W1 (HL.out.below HB1.out) (HR.out.below HB1.out) OK.out (by omega)).mono ?_
  rintro e w2 ⟨rfl, hb2⟩
  have HB2 := Lib.hid (below_step HB1.out hb2)
  have HZ2 := Lib.hid (blk_below HZ.out hb2)
  have HS2 : Hid (w.heap.size + 2 ≤ w2.heap.size) := Lib.hid (by rw [← HS1.out]; exact hb2.size)
  clear hb2 HZ HB1 HS1
  cases hrb : ribB l with
  | false =>
    have HE : Hid (ribE l = 211 ∧ bestR l = []) := Lib.hid ⟨by unfold ribE; rw [hrb]; rfl, by unfold bestR; rw [hrb]; rfl⟩
    rw [HE.out.1]
    clear hrb
    go_wp2_with (first | ((with_reducible show wpList _ _ _ (Oper.mk _ (Op.build _ _) _ _ _ _ :: _) _ _); refine wpList_exw rfl (exec_build 39 #[] rfl #[] rfl ((run_build_tab_nil _))) ?_) | ((with_reducible show wpList _ _ _ (Oper.mk _ (Op.store _ _ _) _ _ _ _ :: _) _ _); refine wpList_store_blk HZ2.out 39 0 (tabV none 0 0) (Nat.le_refl _) (info_tab _ _ _) (tab_one _ _ _) _ _ rfl rfl rfl rfl ?_; intro w9 hg9 hs9 hb9; rw [splice_tab] at hb9; have H9 := Lib.hid (And.intro hg9 hb9); clear hg9 hs9 hb9))
    refine bodyPost_ret (results_c2 rfl rfl (load_tab H9.out.2)) rfl ?_
    rw [HE.out.1, HE.out.2]
    exact ⟨none, 0, 0, rfl, OS.nil _ _ _, below_grown (below_step HBE.out HB2.out) H9.out.1 HZL.out⟩
  | true =>
    have HE : Hid (ribE l = 0 ∧ bestR l = bestT l) := Lib.hid ⟨by unfold ribE; rw [hrb]; rfl, by unfold bestR; rw [hrb]; rfl⟩
    rw [HE.out.1]
    have HRB := Lib.hid hrb
    clear hrb
    have hTS : TabS w2 (w2.alloc (.cells (tabV none 0 0) 39)) w2.heap.size none 0 0 (bk l 0) := ⟨OS.nil _ _ _, blk_new _ _, below_alloc (Below.refl _ _) _, Nat.le_refl _⟩
    have HTS := Lib.hid hTS
    clear hTS
    go_wp2_with (first | ((with_reducible show wpList _ _ _ (Oper.mk _ (Op.load _ _) _ _ _ _ :: _) _ _); refine wpList_load_g ((HP1.out.all _ (below_step HB2.out (below_alloc (Below.refl _ _) _))).2) _ rfl rfl (by go_simp) ?_))
    obtain ⟨g5, hg5⟩ : ∃ g, w2.heap.size = g := ⟨_, rfl⟩
    obtain ⟨w3, hw3⟩ : ∃ W, w2.alloc (.cells (tabV none 0 0) 39) = W := ⟨_, rfl⟩
    rw [hg5, hw3] at HTS
    rw [hg5]
    refine (show ∀ {P : World → Prop}, P w3 → P (w2.alloc (.cells #[.slice none 0 0] 39)) from fun {P} h => hw3 ▸ h) ?_
    clear hg5 hw3
    go_loopw [20] (fun s20 wr => ∃ (k : Nat) (Ak : Option Addr) (nk ck : Nat), s20 = .int .i64 k ∧ Hid (k ≤ n ∧ TabS w2 wr g5 Ak nk ck (bk l k))) (fun x _ => n - (intOf x).toNat)
    case atStart => exact ⟨0, none, 0, 0, rfl, Nat.zero_le _, HTS.out⟩
    case round =>
      obtain ⟨k, Ak, nk, ck, rfl, HI⟩ := hrel
      obtain ⟨wk, rfl⟩ : ∃ wk, wk = wr := ⟨wr, rfl⟩
      have HBK := Lib.hid (below_step HB2.out HI.out.2.bel)
      have hnk : nk ≤ 40 := by
        have h1 := HI.out.2.own.len
        have h2 := rib_to HRB.out
        have h3 := bk_len l k
        have h4 := best_len OK.out.fits h2.2.1
        omega
      by_cases hlt : k < n
      · have hlt' : (k : Int) < n := by omega
        obtain ⟨b, o, hA, hc⟩ := RS.at_ HR.out (by omega)
        have hil : k < l.length := by rw [HR.out.len]; exact hlt
        have HXO := Lib.hid (OK.out.at_ hil)
        have HCX : Hid (CellsAt wk b (o + k * 21) (rteC (rteAt l k))) := Lib.hid ((hc k hlt).below HBK.out)
        have HSB := Lib.hid (fun hu => set_bk OK.out.fits HRB.out hil hu)
        have HBS := Lib.hid (bk_succ l hil)
        obtain ⟨x, hx⟩ : ∃ x, rteAt l k = x := ⟨_, rfl⟩
        rw [hx] at HXO HCX HSB HBS
        have hla := (rteLd_of HXO.out.fits HCX.out).all
        have HB6f := Lib.hid (fun (W : World) (h : (wk.alloc (.cells (rteV rteZ) 51)).grownBy W (some wk.heap.size)) => below_grown (below_alloc (Below.refl wk.heap.size wk) (.cells (rteV rteZ) 51)) h (Nat.le_refl _))
        subst hA
        clear hc hx hil
        go_wp2_with (first | ((with_reducible show wpList _ _ _ (Oper.mk _ (Op.load _ _) _ _ _ _ :: _) _ _); refine wpList_load_g hla _ rfl rfl (by go_simp) ?_) | ((with_reducible show wpList _ _ _ (Oper.mk _ (Op.store _ _ _) _ _ _ _ :: _) _ _); refine wpList_store_blk (blk_new wk _) 51 0 (rteV x) (store_rte_fit HXO.out.fits rfl) (info_rte HXO.out.fits) (rteV_one _) _ _ rfl rfl rfl rfl ?_; intro w6 hg9 hs9 hb9; rw [splice_rte HXO.out.fits rfl] at hb9; have H6 := Lib.hid (And.intro hg9 hb9); clear hg9 hs9 hb9) | ((with_reducible show wpList _ _ _ (Oper.mk _ (Op.load _ _) _ _ _ _ :: _) _ _); refine wpList_load_g ((HP1.out.all _ (below_step HBK.out (HB6f.out _ H6.out.1))).2) _ rfl rfl (by go_simp) ?_))
        have HBR := Lib.hid (HB6f.out _ H6.out.1)
        have HB6 := Lib.hid (below_step HBK.out HBR.out)
        have HG6 := Lib.hid H6.out.2
        obtain ⟨gx, hgx⟩ : ∃ g, wk.heap.size = g := ⟨_, rfl⟩
        rw [hgx] at HG6 ⊢
        clear HB6f H6 hla hgx
        refine (containsQ_any (some ⟨b, o, none⟩) n c l w6 gx (HR.out.below HB6.out) (by omega) (fun y => beats y x) (fun i hi w1 hb => best1_any (rteK.at_ l i) x gx w1 (OK.out.at_ (by rw [HR.out.len]; exact hi)) HXO.out (rte_at HXO.out.fits (blk_below HG6.out hb)))).mono ?_
        rintro e w7 ⟨rfl, hb7⟩
        have HU : Hid (unb l x = !l.any (fun y => beats y x)) := Lib.hid rfl
        obtain ⟨T, hT⟩ : ∃ T, l.any (fun y => beats y x) = T := ⟨_, rfl⟩
        rw [hT] at HU ⊢
        have HS7 := Lib.hid ((HI.out.2.step HBR.out).step hb7)
        have HB7 := Lib.hid (below_step HB6.out hb7)
        have HBR7 := Lib.hid (below_step HBR.out hb7)
        have HX7 := Lib.hid (rte_at HXO.out.fits (blk_below HG6.out hb7))
        clear hb7 hT HG6 HBR HB6
        cases T with
        | true =>
          have HN : Hid (bk l (k + 1) = bk l k) := Lib.hid (by rw [HBS.out, if_neg (by rw [HU.out]; decide), List.append_nil])
          go_wp2_with fail
          go_roundw
          case measure => simp [intOf]; omega
          case rel => exact ⟨k + 1, Ak, nk, ck, by go_num, by omega, by rw [HN.out]; exact HS7.out⟩
        | false =>
          have HZS := Lib.hid (HSB.out HU.out)
          clear HU HSB
          go_upto_region 10 with fail
          go_cut [9, 10] (fun s9 s10 wx => ∃ (g : Nat) (A9 : Option Addr) (n9 c9 : Nat), s9 = .pointer (some ⟨g, 0, none⟩) ∧ s10 = .int .i64 0 ∧ Hid (wx.heap[g]? = some (.cells (tabV A9 n9 c9) 39 (0, 0)) ∧ OS rowK wx w7.heap.size A9 n9 c9 (bk l (k + 1)) ∧ (∀ ad, A9 = some ad → ad.block ≠ g) ∧ Below w7.heap.size w7 wx))
          case first =>
            have HBD := Lib.hid (below_drew1 w7)
            refine wp_region_fork ((fun w0 => Below w7.heap.size w7 w0)) (OrdT.fork [0, 1, 2, 3, 4, 5, 6, 7, 8] 9 13 (OrdT.lin [10, 11, 12, 13, 14, 15]) (OrdT.lin [9, 10, 11, 12, 14, 15])) [(0, 0), (1, 0), (2, 0), (3, 0), (4, 0), (5, 0), (6, 0), (7, 0), (8, 0), (9, 2), (10, 0), (11, 0), (12, 0), (13, 2), (14, 2), (15, 0)] (by kernel_rfl) (by kernel_rfl) ((below_drew1 _)) ?_
            simp only [wpF]
            refine wpO_loadW (t := 39) (ad := ⟨g5, 0, none⟩) rfl rfl ?hw rfl rfl ((fun w0 hS => load_tab (blk_below HS7.out.cell hS))) ?_
            case hw => go_simp
            iterate 1 (refine wpO_step0 rfl rfl (fun K hK => ?_); go_simp; refine hK _ _ ?_; clear hK K)
            refine wpO_loadW (t := 49) (ad := ⟨gx, 0, none⟩) rfl rfl ?hw rfl rfl ((fun w0 hS => (HX7.out.all w0 hS).pfx)) ?_
            case hw => go_simp
            iterate 1 (refine wpO_step0 rfl rfl (fun K hK => ?_); go_simp; refine hK _ _ ?_; clear hK K)
            refine wpO_loadW (t := 22) (ad := ⟨w.heap.size, 0, none⟩) rfl rfl ?hw rfl rfl ((fun w0 hS => (HP1.out.all w0 (below_step HB7.out hS)).2)) ?_
            case hw => go_simp
            iterate 3 (refine wpO_step0 rfl rfl (fun K hK => ?_); go_simp; refine hK _ _ ?_; clear hK K)
            refine wpO_loadW (t := 3) (ad := ⟨b, (o+k*21+20), none⟩) rfl rfl ?hw rfl rfl ((fun w0 hS => (rteLd_of HXO.out.fits (HCX.out.below (below_step HBR7.out hS))).hop)) ?_
            case hw => go_simp
            refine wpO_nil ⟨?_, ?_⟩
            · refine wpO_step2 rfl rfl (HBD.out) (fun K hK => ?_)
              go_simp
              refine (tset_any Ak nk ck (bk l k) x.p x.h w7.drew (HL.out.below (below_step HB7.out HBD.out)) (HS7.out.own.reads.below HBD.out) HXO.out.fits (by omega)).mono ?_
              rw [HZS.out.1, HZS.out.2]
              rintro e w2 ⟨A9, n9, c9, rfl, hO9, hb9⟩
              have HBC := Lib.hid (below_step HBD.out hb9)
              have HLT9 := Lib.hid hO9.lt
              have HBA9 := Lib.hid hO9.base_
              have HO9 := Lib.hid (hO9.lower HBD.out.size)
              try replace HZ9 := Lib.hid (blk_below HZ9.out hb9)
              clear hO9 hb9
              refine hK _ _ ⟨HBC.out, ?_⟩
              clear hK K
              refine wpO_nil ?_
              iterate 3 (refine wpO_step0 rfl rfl (fun K hK => ?_); go_simp; refine hK _ _ ?_; clear hK K)
              refine wpO_step2 rfl rfl (HBC.out) (fun K hK => ?_)
              go_simp
              have hz9 := blk_new w2 (.cells (tabV none 0 0) 39)
              obtain ⟨w3, hw9⟩ : ∃ w9, World.alloc w2 (.cells (tabV none 0 0) 39) = w9 := ⟨_, rfl⟩
              have ha9 : Below (World.heap w2).size w2 w3 := hw9 ▸ below_alloc (Below.refl _ _) _
              have HBK := Lib.hid (below_step HBC.out ha9)
              refine kw_cast hw9 ?_
              rw [hw9] at hz9
              have hzl9 := blk_lt hz9
              have HZ9 := Lib.hid hz9
              try replace HCP := Lib.hid (HCP.out.below ha9)
              try replace HO9 := Lib.hid (HO9.out.below ha9)
              try replace HLV := Lib.hid (HLV.out.below ha9)
              clear hw9 hz9 ha9
              refine hK _ _ ⟨HBK.out, ?_⟩
              clear hK K
              refine wpO_step2 rfl rfl (HBK.out) (fun K hK => ?_)
              rw [if_pos (show Region.wanted _ _ = true from rfl)]
              refine oper_store_blk HZ9.out 39 0 (tabV A9 n9 c9) (Nat.le_refl _) (info_tab _ _ _) (tab_one _ _ _) _ _ rfl rfl rfl ?_
              intro w4 hg9 hs9 hb9
              rw [splice_tab] at hb9
              have HBL := Lib.hid (below_grown HBK.out hg9 (by have h2 := HBC.out.size; omega))
              have HNE9 : Hid (∀ ad, A9 = some ad → ad.block ≠ w2.heap.size) := Lib.hid (fun ad e => by first | (have := HLT9.out ad e; omega) | (have := HBA9.out ad e; have h3 := blk_lt HZ9.out; omega))
              replace HO9 := Lib.hid (HO9.out.grown hg9 (fun ad e h => by injection h with h; exact HNE9.out ad e h))
              replace HZ9 := Lib.hid hb9
              clear hg9 hs9 hb9
              refine hK _ _ ⟨HBL.out, ?_⟩
              clear hK K
              iterate 1 (refine wpO_step0 rfl rfl (fun K hK => ?_); go_simp; refine hK _ _ ?_; clear hK K)
              refine wpO_nil ?_
              go_wp2_with fail
              go_meet
              exact ⟨w2.heap.size, A9, n9, c9, rfl, rfl, HZ9.out, HO9.out, HNE9.out, HBL.out⟩
            · refine wpO_step2 rfl rfl (HBD.out) (fun K hK => ?_)
              go_simp
              have hz9 := blk_new w7 (.cells (tabV none 0 0) 39)
              obtain ⟨w2, hw9⟩ : ∃ w9, (World.alloc w7 (.cells (tabV none 0 0) 39)).drew = w9 := ⟨_, rfl⟩
              have ha9 : Below (World.heap w7).size w7 w2 := hw9 ▸ below_step (below_alloc (Below.refl _ _) _) (below_drew1 _)
              have HBC := Lib.hid ha9
              refine kw_cast hw9 ?_
              replace hz9 : (World.heap w2)[(World.heap w7).size]? = some (.cells (tabV none 0 0) 39 (0, 0)) := by rw [← hw9]; exact hz9
              have hzl9 := blk_lt hz9
              have HZ9 := Lib.hid hz9
              clear hw9 hz9 ha9
              refine hK _ _ ⟨HBC.out, ?_⟩
              clear hK K
              refine wpO_nil ?_
              refine wpO_step2 rfl rfl (HBC.out) (fun K hK => ?_)
              go_simp
              refine (tset_any Ak nk ck (bk l k) x.p x.h w2 (HL.out.below (below_step HB7.out HBC.out)) (HS7.out.own.reads.below HBC.out) HXO.out.fits (by omega)).mono ?_
              rw [HZS.out.1, HZS.out.2]
              rintro e w3 ⟨A9, n9, c9, rfl, hO9, hb9⟩
              have HBK := Lib.hid (below_step HBC.out hb9)
              have HLT9 := Lib.hid hO9.lt
              have HBA9 := Lib.hid hO9.base_
              have HO9 := Lib.hid (hO9.lower HBC.out.size)
              try replace HZ9 := Lib.hid (blk_below HZ9.out hb9)
              clear hO9 hb9
              refine hK _ _ ⟨HBK.out, ?_⟩
              clear hK K
              iterate 3 (refine wpO_step0 rfl rfl (fun K hK => ?_); go_simp; refine hK _ _ ?_; clear hK K)
              refine wpO_step2 rfl rfl (HBK.out) (fun K hK => ?_)
              rw [if_pos (show Region.wanted _ _ = true from rfl)]
              refine oper_store_blk HZ9.out 39 0 (tabV A9 n9 c9) (Nat.le_refl _) (info_tab _ _ _) (tab_one _ _ _) _ _ rfl rfl rfl ?_
              intro w4 hg9 hs9 hb9
              rw [splice_tab] at hb9
              have HBL := Lib.hid (below_grown HBK.out hg9 (by have h2 := HBC.out.size; omega))
              have HNE9 : Hid (∀ ad, A9 = some ad → ad.block ≠ w7.heap.size) := Lib.hid (fun ad e => by first | (have := HLT9.out ad e; omega) | (have := HBA9.out ad e; have h3 := blk_lt HZ9.out; omega))
              replace HO9 := Lib.hid (HO9.out.grown hg9 (fun ad e h => by injection h with h; exact HNE9.out ad e h))
              replace HZ9 := Lib.hid hb9
              clear hg9 hs9 hb9
              refine hK _ _ ⟨HBL.out, ?_⟩
              clear hK K
              iterate 1 (refine wpO_step0 rfl rfl (fun K hK => ?_); go_simp; refine hK _ _ ?_; clear hK K)
              refine wpO_nil ?_
              go_wp2_with fail
              go_meet
              exact ⟨w7.heap.size, A9, n9, c9, rfl, rfl, HZ9.out, HO9.out, HNE9.out, HBL.out⟩
          case rest =>
            obtain ⟨g9, A9, n9, c9, rfl, rfl, HC⟩ := hcut
            obtain ⟨w9, rfl⟩ : ∃ w9, w9 = wc := ⟨wc, rfl⟩
            have HB79 := Lib.hid HC.out.2.2.2
            have HC5 := Lib.hid (blk_below HS7.out.cell HC.out.2.2.2)
            have HO9 := Lib.hid HC.out.2.1
            have HG9 := Lib.hid HC.out.1
            have HG5 := Lib.hid (blk_lt HS7.out.cell)
            have HSB9 := Lib.hid (below_step HS7.out.bel HC.out.2.2.2)
            have HGL := Lib.hid HS7.out.gle
            have HSZ := Lib.hid HS7.out.bel.size
            clear HC HZS
            go_wp2_with (first | ((with_reducible show wpList _ _ _ (Oper.mk _ (Op.load _ _) _ _ _ _ :: _) _ _); refine wpList_load_g (load_tab HG9.out) _ rfl rfl (by go_simp) ?_) | ((with_reducible show wpList _ _ _ (Oper.mk _ (Op.store _ _ _) _ _ _ _ :: _) _ _); refine wpList_store_blk HC5.out 39 0 (tabV A9 n9 c9) (Nat.le_refl _) (info_tab _ _ _) (tab_one _ _ _) _ _ rfl rfl rfl rfl ?_; intro w10 hg9 hs9 hb9; rw [splice_tab] at hb9; have H10 := Lib.hid (And.intro hg9 hb9); clear hg9 hs9 hb9))
            go_roundw
            case measure => simp [intOf]; omega
            case rel => exact ⟨k + 1, A9, n9, c9, by go_num, by omega, ⟨(HO9.out.grown H10.out.1 (fun ad e h => by have h1 := HO9.out.base_ ad e; have h2 := HG5.out; injection h with h; omega)).lower HSZ.out, H10.out.2, below_grown HSB9.out H10.out.1 HGL.out, HGL.out⟩⟩
      · have hlt' : decide (k < n) = false := decide_eq_false hlt
        have hkl : k = l.length := by rw [HR.out.len]; have := HI.out.1; omega
        have HN : Hid (bk l k = bestT l) := Lib.hid (by rw [hkl, bk_all])
        clear hlt hkl
        go_wp2_with (first | ((with_reducible show wpList _ _ _ (Oper.mk _ (Op.load _ _) _ _ _ _ :: _) _ _); refine wpList_load_g (load_tab HI.out.2.cell) _ rfl rfl (by go_simp) ?_) | ((with_reducible show wpList _ _ _ (Oper.mk _ (Op.store _ _ _) _ _ _ _ :: _) _ _); refine wpList_store_blk (blk_below HZ2.out HI.out.2.bel) 39 0 (tabV Ak nk ck) (Nat.le_refl _) (info_tab _ _ _) (tab_one _ _ _) _ _ rfl rfl rfl rfl ?_; intro w9 hg9 hs9 hb9; rw [splice_tab] at hb9; have H9 := Lib.hid (And.intro hg9 hb9); clear hg9 hs9 hb9))
        refine bodyPost_ret (results_c2 rfl rfl (load_tab H9.out.2)) rfl ?_
        rw [HE.out.1, HE.out.2, ← HN.out]
        refine ⟨Ak, nk, ck, rfl, (HI.out.2.own.grown H9.out.1 (fun ad e h => ?_)).lower (by have := HS2.out; omega), below_grown (below_step HBE.out HBK.out) H9.out.1 HZL.out⟩
        have h1 := HI.out.2.own.base_ ad e
        have h2 := HS2.out
        injection h with h
        omega
end Go.Proofs.YtnpeedmicjeleaaDoor

/- Layer 5 (prefix): Bit; the document's Bit. -/
namespace Go.Proofs.YtnpeedmicjeleaaDoor
open Go.RowKit
set_option linter.unusedVariables false
set_option linter.unusedSimpArgs false
set_option maxRecDepth 4000

end Go.Proofs.YtnpeedmicjeleaaDoor

/- Layer 5 (prefix): Nibble; the document's Nibble. -/
namespace Go.Proofs.YtnpeedmicjeleaaDoor
open Go.RowKit
set_option linter.unusedVariables false
set_option linter.unusedSimpArgs false
set_option maxRecDepth 4000

end Go.Proofs.YtnpeedmicjeleaaDoor

/- Layer 5 (prefix): a whole prefix out of a block. -/
namespace Go.Proofs.YtnpeedmicjeleaaDoor
open Go.RowKit
set_option linter.unusedVariables false
set_option linter.unusedSimpArgs false
set_option maxRecDepth 4000

end Go.Proofs.YtnpeedmicjeleaaDoor

/- Layer 5 (prefix): Has. -/
namespace Go.Proofs.YtnpeedmicjeleaaDoor
open Go.RowKit
set_option linter.unusedVariables false
set_option linter.unusedSimpArgs false
set_option maxRecDepth 4000

end Go.Proofs.YtnpeedmicjeleaaDoor

/- Layer 5 (prefix): Holds. -/
namespace Go.Proofs.YtnpeedmicjeleaaDoor
open Go.RowKit
set_option linter.unusedVariables false
set_option linter.unusedSimpArgs false
set_option maxRecDepth 4000

end Go.Proofs.YtnpeedmicjeleaaDoor

/- Layer 5 (prefix): EncodeAddr, Encode; the document's bytes. -/
namespace Go.Proofs.YtnpeedmicjeleaaDoor
open Go.RowKit
set_option linter.unusedVariables false
set_option linter.unusedSimpArgs false
set_option maxRecDepth 4000

theorem OB.two (W : World) (x y : Int) (hx : 0 ≤ x ∧ x < 256) (hy : 0 ≤ y ∧ y < 256) (base : Nat) (hb : base ≤ W.heap.size) : OB (W.alloc (.cells #[.int .u8 x, .int .u8 y] 5)) base (some ⟨W.heap.size, 0, none⟩) 2 2 [x, y] :=
  OB.new W base [x, y] hb (by simp) (fun z hz => by simp at hz; omega)
theorem OB.one (W : World) (x : Int) (hx : 0 ≤ x ∧ x < 256) (base : Nat) (hb : base ≤ W.heap.size) : OB (W.alloc (.cells #[.int .u8 x] 5)) base (some ⟨W.heap.size, 0, none⟩) 1 1 [x] :=
  OB.new W base [x] hb (by simp) (fun z hz => by simp at hz; omega)

end Go.Proofs.YtnpeedmicjeleaaDoor

/- Layer 5 (prefix): the reader's version and some. -/
namespace Go.Proofs.YtnpeedmicjeleaaDoor
open Go.RowKit
set_option linter.unusedVariables false
set_option linter.unusedSimpArgs false
set_option maxRecDepth 4000

theorem Laid.grown {w w1 : World} (h : Laid w) {g : Nat} (hg : w.grownBy w1 (some g)) (h0 : g ≠ 0) : Laid w1 :=
  ⟨fun i hi => hg.cell (h.at_ i hi) (fun e => by injection e with e; exact h0 e.symm)⟩
/-- The reader of the package: a box that holds the pointer. -/
abbrev rdV (g : Nat) : Array Value := #[.pointer (some ⟨g, 0, none⟩)]

def SomeRest (lo g : Nat) (xs : List Int) (bits : Nat) (wrong : Int) (w : World) : Prop := ∃ rest e1, Rdr w lo g rest e1 ∧ (someE xs bits wrong = 0 → rest = xs.drop (fullB bits) ∧ e1 = 0)
end Go.Proofs.YtnpeedmicjeleaaDoor

/- Layer 5 (prefix): DecodeAddr. -/
namespace Go.Proofs.YtnpeedmicjeleaaDoor
open Go.RowKit
set_option linter.unusedVariables false
set_option linter.unusedSimpArgs false
set_option maxRecDepth 4000

/-- What holds while the bytes are read: the reader's box, the result's cell. -/
structure DecS (w : World) (rb zb g : Nat) (z : Obj) (w0 : World) : Prop where
  below : Below w.heap.size w w0
  box : w0.heap[rb]? = some (.cells (rdV g) 157 (0, 0))
  zero : w0.heap[zb]? = some z
theorem DecS.step {w w0 w1 : World} {rb zb g : Nat} {z : Obj} (h : DecS w rb zb g z w0) (hb : Below w0.heap.size w0 w1) : DecS w rb zb g z w1 := ⟨below_step h.below hb, blk_below h.box hb, blk_below h.zero hb⟩
theorem SomeRest.below {lo g : Nat} {xs : List Int} {bits : Nat} {wrong : Int} {w w1 : World} (h : SomeRest lo g xs bits wrong w) (hb : Below w.heap.size w w1) : SomeRest lo g xs bits wrong w1 := by
  obtain ⟨r, e, h1, h2⟩ := h
  exact ⟨r, e, h1.below hb, h2⟩
theorem SomeRest.grown {lo g c : Nat} {xs : List Int} {bits : Nat} {wrong : Int} {w w1 : World} (h : SomeRest lo g xs bits wrong w) (hg : w.grownBy w1 (some c)) (hc : g < c) : SomeRest lo g xs bits wrong w1 := by
  obtain ⟨r, e, h1, h2⟩ := h
  exact ⟨r, e, h1.grown hg (fun b hb => by injection hb with hb; omega), h2⟩
/-- What the reading has left: the bytes in a block of their own, the reader behind them. -/
structure DecR (w : World) (rb zb g gb lo : Nat) (z : Obj) (sl : List Int) (ys : List Int) (bits : Nat) (wrong : Int) (w0 : World) : Prop where
  s : DecS w rb zb g z w0
  arr : w0.heap[gb]? = some (.cells (arrV sl) 45 (0, 0))
  rest : SomeRest lo g ys bits wrong w0
theorem DecR.drew {w w0 : World} {rb zb g gb lo : Nat} {z : Obj} {sl ys : List Int} {bits : Nat} {wrong : Int} (h : DecR w rb zb g gb lo z sl ys bits wrong w0) : DecR w rb zb g gb lo z sl ys bits wrong w0.drew :=
  ⟨h.s.step (below_drew1 _), h.arr, h.rest.below (below_drew1 _)⟩
structure DecT (w : World) (rb g gb : Nat) (sl : List Int) (w0 : World) : Prop where
  below : Below w.heap.size w w0
  box : w0.heap[rb]? = some (.cells (rdV g) 157 (0, 0))
  arr : w0.heap[gb]? = some (.cells (arrV sl) 45 (0, 0))
theorem DecR.t {w w0 : World} {rb zb g gb lo : Nat} {z : Obj} {sl ys : List Int} {bits : Nat} {wrong : Int} (h : DecR w rb zb g gb lo z sl ys bits wrong w0) : DecT w rb g gb sl w0 := ⟨h.s.below, h.s.box, h.arr⟩
end Go.Proofs.YtnpeedmicjeleaaDoor

/- Layer 5 (prefix): Decode. -/
namespace Go.Proofs.YtnpeedmicjeleaaDoor
open Go.RowKit
set_option linter.unusedVariables false
set_option linter.unusedSimpArgs false
set_option maxRecDepth 4000

end Go.Proofs.YtnpeedmicjeleaaDoor

/- Layer 5: wakes. -/
namespace Go.Proofs.YtnpeedmicjeleaaDoor
open Go.RowKit
set_option linter.unusedVariables false
set_option linter.unusedSimpArgs false
set_option maxRecDepth 4000

def ten8 : List Int := [10, 0, 0, 0, 0, 0, 0, 0, 0, 0, 0, 0, 0, 0, 0, 0]
theorem ten8_B : B16 ten8 := ⟨rfl, fun x hx => by simp [ten8] at hx; omega⟩
/-- A whole prefix stored into a cell just made. -/
structure WakS (w : World) (g h : Nat) (w0 : World) : Prop where
  below : Below w.heap.size w w0
  p : w0.heap[g]? = some (.cells (pfxV 4 ten8 8) 49 (0, 0))
  q : w0.heap[h]? = some (.cells (pfxV 4 ten8 8) 49 (0, 0))
theorem WakS.step {w w0 w1 : World} {g h : Nat} (s : WakS w g h w0) (hb : Below w0.heap.size w0 w1) : WakS w g h w1 := ⟨below_step s.below hb, blk_below s.p hb, blk_below s.q hb⟩
end Go.Proofs.YtnpeedmicjeleaaDoor

/- Layer 11 (route): the law's eight, over, own, wakes. -/
namespace Go.Proofs.YtnpeedmicjeleaaDoor
open Go.RowKit
set_option linter.unusedVariables false
set_option linter.unusedSimpArgs false
set_option maxRecDepth 4000
theorem eight11_any (w : World) : Calls Tryd.prog 40 #[] w fun e w' => e = .returned (.agg (pfxV 4 ten8 8)) ∧ Below w.heap.size w w' := by
  have hz := blk_new w (.cells (pfxV 0 zero16 0) 49)
  go_enter Tryd.func40, Tryd.ntmps40
  go_wp2_with (refine wpList_store_blk hz 49 0 (pfxV 4 ten8 8) (store_pfx_fit rfl rfl) (info_pfx rfl) (pfx_one _ _ _) _ _ rfl rfl rfl rfl ?_; intro w9 hg9 hs9 hb9; rw [splice_pfx _ _ _ ten8 rfl rfl] at hb9; have H9 := Lib.hid (And.intro hg9 hb9); clear hg9 hs9 hb9)
  have hld := ((pfx_at ten8_B H9.out.2).all _ (Below.refl _ _)).2.2.2.2
  refine bodyPost_ret (results_c1 rfl rfl hld) rfl ⟨rfl, below_grown (below_alloc (Below.refl _ _) _) H9.out.1 (Nat.le_refl _)⟩
theorem built_upd (p : Pfx) (s f h : Int) (hl : p.l.length = 16) : Tryd.prog.built 75 [(0, .agg (pfxV p.v p.l p.b)), (1, .int .i64 s), (3, .int .i64 f), (4, .int .i64 h)] = some (updV ⟨p, s, false, f, h⟩) := by
  obtain ⟨a, b, c, d, e, f, g, h1, i, j, k, m, n, o, q, r, hh⟩ := len16 hl
  obtain ⟨v, l, x⟩ := p
  simp only at hh
  subst hh
  kernel_rfl
theorem run_build_upd (w : World) (p : Pfx) (s f h : Int) (hl : p.l.length = 16) : (Instr.build 75 #[(0, .agg (pfxV p.v p.l p.b)), (1, .int .i64 s), (3, .int .i64 f), (4, .int .i64 h)]).run Tryd.prog w = .ok (.agg (updV ⟨p, s, false, f, h⟩)) w := run_build w _ _ _ (built_upd p s f h hl)
theorem built_updg (p : Pfx) (s : Int) (g : Bool) (hl : p.l.length = 16) : Tryd.prog.built 75 [(0, .agg (pfxV p.v p.l p.b)), (1, .int .i64 s), (2, .bool g)] = some (updV ⟨p, s, g, 0, 0⟩) := by
  obtain ⟨a, b, c, d, e, f, g, h1, i, j, k, m, n, o, q, r, hh⟩ := len16 hl
  obtain ⟨v, l, x⟩ := p
  simp only at hh
  subst hh
  kernel_rfl
theorem run_build_updg (w : World) (p : Pfx) (s : Int) (g : Bool) (hl : p.l.length = 16) : (Instr.build 75 #[(0, .agg (pfxV p.v p.l p.b)), (1, .int .i64 s), (2, .bool g)]).run Tryd.prog w = .ok (.agg (updV ⟨p, s, g, 0, 0⟩)) w := run_build w _ _ _ (built_updg p s g hl)
theorem run_build_bat (w : World) (A : Option Addr) (n c : Nat) : (Instr.build 27 #[(0, .slice A n c)]).run Tryd.prog w = .ok (.agg (tabV A n c)) w := run_build w _ _ _ (by kernel_rfl)
theorem over11_any (A : Option Addr) (n c : Nat) (A2 : Option Addr) (m c2 : Nat) (w : World) : Calls Tryd.prog 11 #[.agg (tabV A n c), .agg (tabV A2 m c2)] w fun e w' => e = .returned (.bool (decide (300 < n) || decide (100 < m))) ∧ Below w.heap.size w w' := by
  have hblk1 := blk_new w (.cells (tabV A n c) 24)
  have hbel1 : Below w.heap.size w (w.alloc (.cells (tabV A n c) 24)) := below_alloc (Below.refl _ _) _
  have hblk2 := blk_new (w.alloc (.cells (tabV A n c) 24)) (.cells (tabV A2 m c2) 27)
  have hbel2 : Below w.heap.size w ((w.alloc (.cells (tabV A n c) 24)).alloc (.cells (tabV A2 m c2) 27)) := below_alloc (hbel1) _
  rw [show (w.alloc (.cells (tabV A n c) 24)).heap.size = w.heap.size + 1 by simp] at hblk2
  replace hblk1 := blk_below hblk1 (below_alloc (Below.refl _ _) (.cells (tabV A2 m c2) 27))
  have HP1 := Lib.hid (rib_at hblk1)
  have HBK1 := Lib.hid hblk1
  have HP2 := Lib.hid (bat_at hblk2)
  have HBK2 := Lib.hid hblk2
  have HBE := Lib.hid hbel2
  obtain ⟨cs1, hcs1⟩ : ∃ cs, tabV A n c = cs := ⟨_, rfl⟩
  obtain ⟨cs2, hcs2⟩ : ∃ cs, tabV A2 m c2 = cs := ⟨_, rfl⟩
  simp only [hcs1, hcs2] at HBE HP1 HP2 HBK1 HBK2 ⊢
  have HC1 := Lib.hid hcs1
  have HC2 := Lib.hid hcs2
  clear hcs1 hblk1 hbel1 hcs2 hblk2 hbel2
  go_enter Tryd.func11, Tryd.ntmps11
  by_cases h : 300 < n
  · have hb : decide ((300 : Int) < n) = true := decide_eq_true (by omega)
    have HE : Hid ((decide (300 < n) || decide (100 < m)) = true) := Lib.hid (by rw [decide_eq_true h]; rfl)
    clear h
    go_wp2_with (first | ((with_reducible show wpList _ _ _ (Oper.mk _ (Op.load _ _) _ _ _ _ :: _) _ _); refine wpList_load_g ((HP1.out.all _ (Below.refl _ _)).2) _ rfl rfl (by go_simp) ?_))
    go_ret
    rw [HE.out]
    exact ⟨rfl, HBE.out⟩
  · have hb : decide ((300 : Int) < n) = false := decide_eq_false (by omega)
    have HE : Hid ((decide (300 < n) || decide (100 < m)) = decide ((100 : Int) < m)) := Lib.hid (by rw [decide_eq_false h, Bool.false_or]; congr 1; rw [eq_iff_iff]; omega)
    clear h
    go_wp2_with (first | ((with_reducible show wpList _ _ _ (Oper.mk _ (Op.load _ _) _ _ _ _ :: _) _ _); refine wpList_load_g ((HP1.out.all _ (Below.refl _ _)).2) _ rfl rfl (by go_simp) ?_) | ((with_reducible show wpList _ _ _ (Oper.mk _ (Op.load _ _) _ _ _ _ :: _) _ _); refine wpList_load_g ((HP2.out.all _ (Below.refl _ _)).2) _ rfl rfl (by go_simp) ?_))
    go_ret
    rw [HE.out]
    exact ⟨rfl, HBE.out⟩
def wkP : Pfx := ⟨4, ten8, 8⟩
def wkU1 : Upd := ⟨wkP, 2, false, 5, 7⟩
def wkU2 : Upd := ⟨wkP, 1, false, 5, 9⟩
def wkU3 : Upd := ⟨wkP, 1, true, 0, 0⟩
def wkB1 : List Upd := [wkU1, wkU2]
def wkB2 : List Upd := [wkU3]
def wkR1 : List Rte := appR [] wkB1
def wkR2 : List Rte := appR wkR1 wkB2
theorem wkr1 : appN [] wkB1 = 0 ∧ wkR1.length = 2 ∧ ribE wkR1 = 0 ∧ (bestR wkR1).length = 1 ∧ (rowAt (bestR wkR1) 0).h = 9 := by decide +kernel
theorem wkr2 : appN wkR1 wkB2 = 0 ∧ wkR2.length = 1 ∧ ribE wkR2 = 0 ∧ (bestR wkR2).length = 1 ∧ (rowAt (bestR wkR2) 0).h = 7 := by decide +kernel
theorem wkB1_ok : Oku wkB1 := by
  intro u hu
  simp only [wkB1, List.mem_cons, List.not_mem_nil, or_false] at hu
  rcases hu with rfl | rfl <;> exact ⟨⟨ten8_B, by decide, by decide⟩, by decide, by decide, by decide⟩
theorem wkB2_ok : Oku wkB2 := by
  intro u hu
  simp only [wkB2, List.mem_cons, List.not_mem_nil, or_false] at hu
  subst hu
  exact ⟨⟨ten8_B, by decide, by decide⟩, by decide, by decide, by decide⟩
theorem appR_ok {l : List Rte} {b : List Upd} (ho : Okr l) (hu : Oku b) : Okr (appR l b) := by
  unfold appR
  split
  · rename_i h
    unfold appN at h
    split at h
    · rename_i h1
      split at h
      · split at h
        · rename_i m hm
          rw [hm]
          exact (appL_rok ⟨ho, (rib_to h1).2.1⟩ hu hm).1.ok
        · cases h
      · cases h
    · cases h
  · exact fun r hr => by cases hr
theorem wkR1_ok : Okr wkR1 := appR_ok (fun r hr => by cases hr) wkB1_ok
theorem wkR2_ok : Okr wkR2 := appR_ok wkR1_ok wkB2_ok
set_option maxHeartbeats 4000000 in
set_option maxRecDepth 100000 in
theorem wakes11_any (w : World) (hL : Laid w) : Calls Tryd.prog 10 #[] w fun e w' => e = .returned (.bool true) ∧ Below w.heap.size w w' := by
  have HL := Lib.hid hL
  clear hL
  go_enter Tryd.func10, Tryd.ntmps10
  go_wp2_with (first | ((with_reducible show wpList _ _ _ (Oper.mk _ (Op.build _ _) _ _ _ _ :: _) _ _); refine wpList_exw rfl (exec_build 24 #[] rfl #[] rfl ((run_build_rib_nil _))) ?_))
  refine (eight11_any w).mono ?_
  rintro e w1 ⟨rfl, hb1⟩
  have HB1 := Lib.hid hb1
  clear hb1
  go_wp2_with (first | ((with_reducible show wpList _ _ _ (Oper.mk _ (Op.build 75 _) _ _ _ _ :: _) _ _); refine wpList_exw rfl (exec_build4 rfl rfl rfl rfl rfl (run_build_upd _ wkP 2 5 7 rfl)) ?_))
  refine (eight11_any w1).mono ?_
  rintro e w2 ⟨rfl, hb2⟩
  have HB2 := Lib.hid (below_step HB1.out hb2)
  clear hb2 HB1
  obtain ⟨u1, hu1⟩ : ∃ u : Upd, u = wkU1 := ⟨_, rfl⟩
  obtain ⟨u2, hu2⟩ : ∃ u : Upd, u = wkU2 := ⟨_, rfl⟩
  have HU1 := Lib.hid hu1
  have HU2 := Lib.hid hu2
  have hf1 : u1.fits := by rw [hu1]; exact ten8_B
  have hf2 : u2.fits := by rw [hu2]; exact ten8_B
  clear hu1 hu2
  go_wp2_with (first | ((with_reducible show wpList _ _ _ (Oper.mk _ (Op.build 75 _) _ _ _ _ :: _) _ _); refine wpList_exw rfl (exec_build4 rfl rfl rfl rfl rfl (run_build_upd _ wkP 1 5 9 rfl)) ?_) | ((with_reducible show wpList _ _ _ (Oper.mk _ (Op.buildSlice _ _ _) _ _ _ _ :: _) _ _); refine wpList_exw rfl (exec_lit2 updK (x := .tmp 12) (y := .tmp 14) rfl u1 u2 (by rw [HU1.out]; rfl) (by rw [HU2.out]; rfl) hf1 hf2 (by show 22 ≤ _; omega) _) ?_) | ((with_reducible show wpList _ _ _ (Oper.mk _ (Op.build 27 _) _ _ _ _ :: _) _ _); refine wpList_exw rfl (exec_build1 rfl rfl (run_build_bat _ (some ⟨w2.heap.size, 0, none⟩) 2 2)) ?_))
  obtain ⟨W2, hW2⟩ : ∃ W, w2.alloc (.cells (updK.cells [u1, u2]).toArray updK.t) = W := ⟨_, rfl⟩
  have HV2 : Hid (RS updK W2 (some ⟨w2.heap.size, 0, none⟩) 2 2 wkB1) := Lib.hid (by unfold wkB1; rw [← HU1.out, ← HU2.out]; exact hW2 ▸ (OS.two updK w2 0 u1 u2 (Nat.zero_le _) hf1 hf2).reads)
  have HBW : Hid (Below w.heap.size w W2) := Lib.hid (hW2 ▸ below_alloc HB2.out _)
  rw [hW2]
  clear hW2
  have hcall := rapply_any none 0 0 [] (some ⟨w2.heap.size, 0, none⟩) 2 2 wkB1 W2 (HL.out.below HBW.out) (RS.nil _ _ _ _) (fun r hr => by cases hr) (by omega) HV2.out wkB1_ok (by omega)
  refine hcall.mono ?_
  clear hcall
  rw [wkr1.1]
  rintro e w3 ⟨A3, n3, c3, rfl, hO3, hb3⟩
  obtain rfl : 2 = n3 := by rw [← wkr1.2.1]; exact hO3.len
  have HO3 : Hid (RS rteK w3 A3 2 c3 wkR1) := Lib.hid hO3.reads
  have HB3 := Lib.hid (below_step HBW.out hb3)
  clear hO3 hb3 HB2
  go_wp2_with (first | ((with_reducible show wpList _ _ _ (Oper.mk _ (Op.store _ _ _) _ _ _ _ :: _) _ _); refine wpList_store_blk (blk_new w3 (.cells (tabV none 0 0) 24)) 24 0 (tabV A3 2 c3) (Nat.le_refl _) (info_rib _ _ _) (tab_one _ _ _) _ _ rfl rfl rfl rfl ?_; intro w4 hg9 hs9 hb9; rw [splice_tab] at hb9; have H4 := Lib.hid (And.intro hg9 hb9); clear hg9 hs9 hb9) | ((with_reducible show wpList _ _ _ (Oper.mk _ (Op.load _ _) _ _ _ _ :: _) _ _); refine wpList_load_g (load_rib H4.out.2) _ rfl rfl (by go_simp) ?_))
  have HB34 := Lib.hid (below_grown (below_alloc (Below.refl w3.heap.size w3) (.cells (tabV none 0 0) 24)) H4.out.1 (Nat.le_refl _))
  have HB4 := Lib.hid (below_step HB3.out HB34.out)
  have HO4 := Lib.hid (HO3.out.below HB34.out)
  have HG4 := Lib.hid H4.out.2
  obtain ⟨g1, hg1⟩ : ∃ g, w3.heap.size = g := ⟨_, rfl⟩
  rw [hg1] at HG4 ⊢
  clear H4 HB3 HB34 HO3 hg1
  refine (rbest_any A3 2 c3 wkR1 w4 (HL.out.below HB4.out) HO4.out wkR1_ok (by omega)).mono ?_
  rw [wkr1.2.2.1]
  rintro e w5 ⟨A5, n5, c5, rfl, hO5, hb5⟩
  obtain rfl : 1 = n5 := by rw [← wkr1.2.2.2.1]; exact hO5.len
  have HO5 : Hid (RT w5 A5 1 c5 (bestR wkR1)) := Lib.hid hO5.reads
  have HB5 := Lib.hid (below_step HB4.out hb5)
  have HG5 := Lib.hid (blk_below HG4.out hb5)
  have HR5 := Lib.hid (HO4.out.below hb5)
  clear hO5 hb5 HG4 HO4
  go_upto_region 3 with (first | ((with_reducible show wpList _ _ _ (Oper.mk _ (Op.store _ _ _) _ _ _ _ :: _) _ _); refine wpList_store_blk (blk_new w5 (.cells (tabV none 0 0) 39)) 39 0 (tabV A5 1 c5) (Nat.le_refl _) (info_tab _ _ _) (tab_one _ _ _) _ _ rfl rfl rfl rfl ?_; intro w6 hg9 hs9 hb9; rw [splice_tab] at hb9; have H6 := Lib.hid (And.intro hg9 hb9); clear hg9 hs9 hb9))
  have HB56 := Lib.hid (below_grown (below_alloc (Below.refl w5.heap.size w5) (.cells (tabV none 0 0) 39)) H6.out.1 (Nat.le_refl _))
  have HB6 := Lib.hid (below_step HB5.out HB56.out)
  have HG6 := Lib.hid (blk_below HG5.out HB56.out)
  have HR6 := Lib.hid (HR5.out.below HB56.out)
  have HT6 := Lib.hid (HO5.out.below HB56.out)
  have HQ6 := Lib.hid H6.out.2
  obtain ⟨g3, hg3⟩ : ∃ g, w5.heap.size = g := ⟨_, rfl⟩
  rw [hg3] at HQ6 ⊢
  clear H6 HB56 HG5 HR5 HO5 hg3
  try dsimp only [Act.put]
  try go_simp
  go_cut [5, 6] (fun s5 s6 wx => ∃ (g : Nat) (A7 : Option Addr) (c7 : Nat), s5 = .pointer (some ⟨g, 0, none⟩) ∧ s6 = .int .i64 0 ∧ Hid (wx.heap[g]? = some (.cells (tabV A7 1 c7) 24 (0, 0)) ∧ RS rteK wx A7 1 c7 wkR2 ∧ Below w6.heap.size w6 wx))
  case first =>
    have HBD := Lib.hid (below_drew1 w6)
    refine wp_region_fork ((fun w0 => Below w6.heap.size w6 w0)) (OrdT.fork [0] 1 9 (OrdT.fork [2] 3 9 (OrdT.fork [4] 5 9 (OrdT.lin [6, 7, 8, 9, 10, 11]) (OrdT.lin [5, 6, 7, 8, 10, 11])) (OrdT.lin [3, 4, 5, 6, 7, 8, 10, 11])) (OrdT.lin [1, 2, 3, 4, 5, 6, 7, 8, 10, 11])) [(0, 0), (1, 2), (2, 0), (3, 2), (4, 0), (5, 2), (6, 0), (7, 0), (8, 0), (9, 2), (10, 2), (11, 0)] (by kernel_rfl) (by kernel_rfl) ((below_drew1 _)) ?_
    simp only [wpF]
    refine wpO_loadW (t := 24) (ad := ⟨g1, 0, none⟩) rfl rfl ?hw rfl rfl ((fun w0 hS => load_rib (blk_below HG6.out hS))) ?_
    case hw => go_simp
    refine wpO_nil ⟨?_, ?_⟩
    · refine wpO_step2 rfl rfl (HBD.out) (fun K hK => ?_)
      go_simp
      refine (eight11_any _).mono ?_
      rintro e w21 ⟨rfl, hb9⟩
      have hsz1 := hb9.size
      have HBC := Lib.hid (below_step HBD.out hb9)
      try replace HZ9 := Lib.hid (blk_below HZ9.out hb9)
      clear hb9
      refine hK _ _ ⟨HBC.out, ?_⟩
      clear hK K
      refine wpO_nil ?_
      refine wpO_step0 rfl rfl (fun K hK => ?_)
      rw [if_pos (show Region.wanted _ _ = true from rfl)]
      refine ⟨_, fun w0 => exec_build3 rfl rfl rfl rfl (run_build_updg w0 wkP 1 true rfl), hK _ _ ?_⟩
      clear hK K
      refine wpO_nil ⟨?_, ?_⟩
      · refine wpO_step2 rfl rfl (HBC.out) (fun K hK => ?_)
        rw [if_pos (show Region.wanted _ _ = true from rfl)]
        refine oper_exec (exec_lit1 updK (x := .tmp 28) rfl wkU3 rfl ten8_B (by show 22 ≤ _; omega) _) ?_
        obtain ⟨w22, hw9⟩ : ∃ w9, World.alloc w21 (.cells (updK.enc wkU3).toArray updK.t) = w9 := ⟨_, rfl⟩
        have HLV : Hid (RS updK w22 (some ⟨(World.heap w21).size, 0, none⟩) 1 1 wkB2) := Lib.hid (hw9 ▸ (OS.one updK w21 0 wkU3 (Nat.zero_le _) ten8_B).reads)
        have ha9 : Below (World.heap w21).size w21 w22 := hw9 ▸ below_alloc (Below.refl _ _) _
        have HBK := Lib.hid (below_step HBC.out ha9)
        have hsz2 := ha9.size
        refine kw_cast hw9 ?_
        try replace HZ9 := Lib.hid (blk_below HZ9.out ha9)
        clear hw9 ha9
        refine hK _ _ ⟨HBK.out, ?_⟩
        clear hK K
        obtain ⟨gl, hgl⟩ : ∃ g, (World.heap w21).size = g := ⟨_, rfl⟩
        rw [hgl] at HLV ⊢
        clear hgl
        refine wpO_nil ?_
        refine wpO_step0 rfl rfl (fun K hK => ?_)
        rw [if_pos (show Region.wanted _ _ = true from rfl)]
        refine ⟨_, fun w0 => exec_build1 rfl rfl (run_build_bat w0 (some ⟨gl, 0, none⟩) 1 1), hK _ _ ?_⟩
        clear hK K
        refine wpO_nil ⟨?_, ?_⟩
        · refine wpO_step2 rfl rfl (HBK.out) (fun K hK => ?_)
          go_simp
          refine (rapply_any A3 2 c3 wkR1 (some ⟨gl, 0, none⟩) 1 1 wkB2 w22 (HL.out.below (below_step HB6.out HBK.out)) (HR6.out.below HBK.out) wkR1_ok (by omega) HLV.out wkB2_ok (by omega)).mono ?_
          rw [wkr2.1]
          rintro e w23 ⟨A9, n9, c9, rfl, hO9, hb9⟩
          obtain rfl : 1 = n9 := by rw [← wkr2.2.1]; exact hO9.len
          have HBL := Lib.hid (below_step HBK.out hb9)
          have HLT9 := Lib.hid hO9.lt
          have HBA9 := Lib.hid hO9.base_
          have HO9 : Hid (RS rteK w23 A9 1 c9 wkR2) := Lib.hid hO9.reads
          try replace HZ9 := Lib.hid (blk_below HZ9.out hb9)
          have hszc := hb9.size
          clear hO9 hb9
          refine hK _ _ ⟨HBL.out, ?_⟩
          clear hK K
          refine wpO_nil ?_
          iterate 3 (refine wpO_step0 rfl rfl (fun K hK => ?_); go_simp; refine hK _ _ ?_; clear hK K)
          refine wpO_step2 rfl rfl (HBL.out) (fun K hK => ?_)
          go_simp
          have hz9 := blk_new w23 (.cells (tabV none 0 0) 24)
          obtain ⟨w24, hw9⟩ : ∃ w9, World.alloc w23 (.cells (tabV none 0 0) 24) = w9 := ⟨_, rfl⟩
          have ha9 : Below (World.heap w23).size w23 w24 := hw9 ▸ below_alloc (Below.refl _ _) _
          have HBM := Lib.hid (below_step HBL.out ha9)
          refine kw_cast hw9 ?_
          rw [hw9] at hz9
          have hzl9 := blk_lt hz9
          have HZ9 := Lib.hid hz9
          try replace HCP := Lib.hid (HCP.out.below ha9)
          try replace HO9 := Lib.hid (HO9.out.below ha9)
          try replace HLV := Lib.hid (HLV.out.below ha9)
          clear hw9 hz9 ha9
          refine hK _ _ ⟨HBM.out, ?_⟩
          clear hK K
          refine wpO_step2 rfl rfl (HBM.out) (fun K hK => ?_)
          rw [if_pos (show Region.wanted _ _ = true from rfl)]
          refine oper_store_blk HZ9.out 24 0 (tabV A9 1 c9) (Nat.le_refl _) (info_rib _ _ _) (tab_one _ _ _) _ _ rfl rfl rfl ?_
          intro w25 hg9 hs9 hb9
          rw [splice_tab] at hb9
          have HBN := Lib.hid (below_grown HBM.out hg9 (by have h1 := HBC.out.size; have h2 := HBK.out.size; have h3 := HBL.out.size; omega))
          have HNE9 : Hid (∀ ad, A9 = some ad → ad.block ≠ w23.heap.size) := Lib.hid (fun ad e => by have h1 := HLT9.out ad e; have h2 := HBA9.out ad e; first | omega)
          replace HO9 := Lib.hid (HO9.out.grown hg9 (fun ad e h => by injection h with h; exact HNE9.out ad e h))
          replace HZ9 := Lib.hid hb9
          clear hg9 hs9 hb9
          refine hK _ _ ⟨HBN.out, ?_⟩
          clear hK K
          iterate 1 (refine wpO_step0 rfl rfl (fun K hK => ?_); go_simp; refine hK _ _ ?_; clear hK K)
          refine wpO_nil ?_
          go_wp2_with fail
          go_meet
          exact ⟨w23.heap.size, A9, c9, rfl, rfl, HZ9.out, HO9.out, HBN.out⟩
        · refine wpO_step2 rfl rfl (HBK.out) (fun K hK => ?_)
          go_simp
          have hz9 := blk_new w22 (.cells (tabV none 0 0) 24)
          obtain ⟨w23, hw9⟩ : ∃ w9, World.alloc w22 (.cells (tabV none 0 0) 24) = w9 := ⟨_, rfl⟩
          have ha9 : Below (World.heap w22).size w22 w23 := hw9 ▸ below_alloc (Below.refl _ _) _
          have HBL := Lib.hid (below_step HBK.out ha9)
          refine kw_cast hw9 ?_
          rw [hw9] at hz9
          have hzl9 := blk_lt hz9
          have HZ9 := Lib.hid hz9
          try replace HCP := Lib.hid (HCP.out.below ha9)
          try replace HO9 := Lib.hid (HO9.out.below ha9)
          try replace HLV := Lib.hid (HLV.out.below ha9)
          clear hw9 hz9 ha9
          refine hK _ _ ⟨HBL.out, ?_⟩
          clear hK K
          refine wpO_nil ?_
          refine wpO_step2 rfl rfl (HBL.out) (fun K hK => ?_)
          go_simp
          refine (rapply_any A3 2 c3 wkR1 (some ⟨gl, 0, none⟩) 1 1 wkB2 w23 (HL.out.below (below_step HB6.out HBL.out)) (HR6.out.below HBL.out) wkR1_ok (by omega) HLV.out wkB2_ok (by omega)).mono ?_
          rw [wkr2.1]
          rintro e w24 ⟨A9, n9, c9, rfl, hO9, hb9⟩
          obtain rfl : 1 = n9 := by rw [← wkr2.2.1]; exact hO9.len
          have HBM := Lib.hid (below_step HBL.out hb9)
          have HLT9 := Lib.hid hO9.lt
          have HBA9 := Lib.hid hO9.base_
          have HO9 : Hid (RS rteK w24 A9 1 c9 wkR2) := Lib.hid hO9.reads
          try replace HZ9 := Lib.hid (blk_below HZ9.out hb9)
          have hszc := hb9.size
          clear hO9 hb9
          refine hK _ _ ⟨HBM.out, ?_⟩
          clear hK K
          iterate 3 (refine wpO_step0 rfl rfl (fun K hK => ?_); go_simp; refine hK _ _ ?_; clear hK K)
          refine wpO_step2 rfl rfl (HBM.out) (fun K hK => ?_)
          rw [if_pos (show Region.wanted _ _ = true from rfl)]
          refine oper_store_blk HZ9.out 24 0 (tabV A9 1 c9) (Nat.le_refl _) (info_rib _ _ _) (tab_one _ _ _) _ _ rfl rfl rfl ?_
          intro w25 hg9 hs9 hb9
          rw [splice_tab] at hb9
          have HBN := Lib.hid (below_grown HBM.out hg9 (by have h1 := HBC.out.size; have h2 := HBK.out.size; have h3 := HBL.out.size; omega))
          have HNE9 : Hid (∀ ad, A9 = some ad → ad.block ≠ w22.heap.size) := Lib.hid (fun ad e => by have h1 := HLT9.out ad e; have h2 := HBA9.out ad e; first | omega)
          replace HO9 := Lib.hid (HO9.out.grown hg9 (fun ad e h => by injection h with h; exact HNE9.out ad e h))
          replace HZ9 := Lib.hid hb9
          clear hg9 hs9 hb9
          refine hK _ _ ⟨HBN.out, ?_⟩
          clear hK K
          iterate 1 (refine wpO_step0 rfl rfl (fun K hK => ?_); go_simp; refine hK _ _ ?_; clear hK K)
          refine wpO_nil ?_
          go_wp2_with fail
          go_meet
          exact ⟨w22.heap.size, A9, c9, rfl, rfl, HZ9.out, HO9.out, HBN.out⟩
      · refine wpO_step2 rfl rfl (HBC.out) (fun K hK => ?_)
        go_simp
        have hz9 := blk_new w21 (.cells (tabV none 0 0) 24)
        obtain ⟨w22, hw9⟩ : ∃ w9, World.alloc w21 (.cells (tabV none 0 0) 24) = w9 := ⟨_, rfl⟩
        have ha9 : Below (World.heap w21).size w21 w22 := hw9 ▸ below_alloc (Below.refl _ _) _
        have HBK := Lib.hid (below_step HBC.out ha9)
        refine kw_cast hw9 ?_
        rw [hw9] at hz9
        have hzl9 := blk_lt hz9
        have HZ9 := Lib.hid hz9
        try replace HCP := Lib.hid (HCP.out.below ha9)
        try replace HO9 := Lib.hid (HO9.out.below ha9)
        try replace HLV := Lib.hid (HLV.out.below ha9)
        clear hw9 hz9 ha9
        refine hK _ _ ⟨HBK.out, ?_⟩
        clear hK K
        refine wpO_nil ?_
        refine wpO_step2 rfl rfl (HBK.out) (fun K hK => ?_)
        rw [if_pos (show Region.wanted _ _ = true from rfl)]
        refine oper_exec (exec_lit1 updK (x := .tmp 28) rfl wkU3 rfl ten8_B (by show 22 ≤ _; omega) _) ?_
        obtain ⟨w23, hw9⟩ : ∃ w9, World.alloc w22 (.cells (updK.enc wkU3).toArray updK.t) = w9 := ⟨_, rfl⟩
        have HLV : Hid (RS updK w23 (some ⟨(World.heap w22).size, 0, none⟩) 1 1 wkB2) := Lib.hid (hw9 ▸ (OS.one updK w22 0 wkU3 (Nat.zero_le _) ten8_B).reads)
        have ha9 : Below (World.heap w22).size w22 w23 := hw9 ▸ below_alloc (Below.refl _ _) _
        have HBL := Lib.hid (below_step HBK.out ha9)
        have hsz2 := ha9.size
        refine kw_cast hw9 ?_
        try replace HZ9 := Lib.hid (blk_below HZ9.out ha9)
        clear hw9 ha9
        refine hK _ _ ⟨HBL.out, ?_⟩
        clear hK K
        obtain ⟨gl, hgl⟩ : ∃ g, (World.heap w22).size = g := ⟨_, rfl⟩
        rw [hgl] at HLV ⊢
        clear hgl
        refine wpO_step0 rfl rfl (fun K hK => ?_)
        rw [if_pos (show Region.wanted _ _ = true from rfl)]
        refine ⟨_, fun w0 => exec_build1 rfl rfl (run_build_bat w0 (some ⟨gl, 0, none⟩) 1 1), hK _ _ ?_⟩
        clear hK K
        refine wpO_step2 rfl rfl (HBL.out) (fun K hK => ?_)
        go_simp
        refine (rapply_any A3 2 c3 wkR1 (some ⟨gl, 0, none⟩) 1 1 wkB2 w23 (HL.out.below (below_step HB6.out HBL.out)) (HR6.out.below HBL.out) wkR1_ok (by omega) HLV.out wkB2_ok (by omega)).mono ?_
        rw [wkr2.1]
        rintro e w24 ⟨A9, n9, c9, rfl, hO9, hb9⟩
        obtain rfl : 1 = n9 := by rw [← wkr2.2.1]; exact hO9.len
        have HBM := Lib.hid (below_step HBL.out hb9)
        have HLT9 := Lib.hid hO9.lt
        have HBA9 := Lib.hid hO9.base_
        have HO9 : Hid (RS rteK w24 A9 1 c9 wkR2) := Lib.hid hO9.reads
        try replace HZ9 := Lib.hid (blk_below HZ9.out hb9)
        have hszc := hb9.size
        clear hO9 hb9
        refine hK _ _ ⟨HBM.out, ?_⟩
        clear hK K
        iterate 3 (refine wpO_step0 rfl rfl (fun K hK => ?_); go_simp; refine hK _ _ ?_; clear hK K)
        refine wpO_step2 rfl rfl (HBM.out) (fun K hK => ?_)
        rw [if_pos (show Region.wanted _ _ = true from rfl)]
        refine oper_store_blk HZ9.out 24 0 (tabV A9 1 c9) (Nat.le_refl _) (info_rib _ _ _) (tab_one _ _ _) _ _ rfl rfl rfl ?_
        intro w25 hg9 hs9 hb9
        rw [splice_tab] at hb9
        have HBN := Lib.hid (below_grown HBM.out hg9 (by have h1 := HBC.out.size; have h2 := HBK.out.size; have h3 := HBL.out.size; omega))
        have HNE9 : Hid (∀ ad, A9 = some ad → ad.block ≠ w21.heap.size) := Lib.hid (fun ad e => by have h1 := HLT9.out ad e; have h2 := HBA9.out ad e; first | omega)
        replace HO9 := Lib.hid (HO9.out.grown hg9 (fun ad e h => by injection h with h; exact HNE9.out ad e h))
        replace HZ9 := Lib.hid hb9
        clear hg9 hs9 hb9
        refine hK _ _ ⟨HBN.out, ?_⟩
        clear hK K
        iterate 1 (refine wpO_step0 rfl rfl (fun K hK => ?_); go_simp; refine hK _ _ ?_; clear hK K)
        refine wpO_nil ?_
        go_wp2_with fail
        go_meet
        exact ⟨w21.heap.size, A9, c9, rfl, rfl, HZ9.out, HO9.out, HBN.out⟩
    · refine wpO_step2 rfl rfl (HBD.out) (fun K hK => ?_)
      go_simp
      have hz9 := blk_new w6 (.cells (tabV none 0 0) 24)
      obtain ⟨w21, hw9⟩ : ∃ w9, (World.alloc w6 (.cells (tabV none 0 0) 24)).drew = w9 := ⟨_, rfl⟩
      have ha9 : Below (World.heap w6).size w6 w21 := hw9 ▸ below_step (below_alloc (Below.refl _ _) _) (below_drew1 _)
      have HBC := Lib.hid ha9
      refine kw_cast hw9 ?_
      replace hz9 : (World.heap w21)[(World.heap w6).size]? = some (.cells (tabV none 0 0) 24 (0, 0)) := by rw [← hw9]; exact hz9
      have hzl9 := blk_lt hz9
      have HZ9 := Lib.hid hz9
      clear hw9 hz9 ha9
      refine hK _ _ ⟨HBC.out, ?_⟩
      clear hK K
      refine wpO_nil ?_
      refine wpO_step2 rfl rfl (HBC.out) (fun K hK => ?_)
      go_simp
      refine (eight11_any _).mono ?_
      rintro e w22 ⟨rfl, hb9⟩
      have hsz1 := hb9.size
      have HBK := Lib.hid (below_step HBC.out hb9)
      try replace HZ9 := Lib.hid (blk_below HZ9.out hb9)
      clear hb9
      refine hK _ _ ⟨HBK.out, ?_⟩
      clear hK K
      refine wpO_step0 rfl rfl (fun K hK => ?_)
      rw [if_pos (show Region.wanted _ _ = true from rfl)]
      refine ⟨_, fun w0 => exec_build3 rfl rfl rfl rfl (run_build_updg w0 wkP 1 true rfl), hK _ _ ?_⟩
      clear hK K
      refine wpO_step2 rfl rfl (HBK.out) (fun K hK => ?_)
      rw [if_pos (show Region.wanted _ _ = true from rfl)]
      refine oper_exec (exec_lit1 updK (x := .tmp 28) rfl wkU3 rfl ten8_B (by show 22 ≤ _; omega) _) ?_
      obtain ⟨w23, hw9⟩ : ∃ w9, World.alloc w22 (.cells (updK.enc wkU3).toArray updK.t) = w9 := ⟨_, rfl⟩
      have HLV : Hid (RS updK w23 (some ⟨(World.heap w22).size, 0, none⟩) 1 1 wkB2) := Lib.hid (hw9 ▸ (OS.one updK w22 0 wkU3 (Nat.zero_le _) ten8_B).reads)
      have ha9 : Below (World.heap w22).size w22 w23 := hw9 ▸ below_alloc (Below.refl _ _) _
      have HBL := Lib.hid (below_step HBK.out ha9)
      have hsz2 := ha9.size
      refine kw_cast hw9 ?_
      try replace HZ9 := Lib.hid (blk_below HZ9.out ha9)
      clear hw9 ha9
      refine hK _ _ ⟨HBL.out, ?_⟩
      clear hK K
      obtain ⟨gl, hgl⟩ : ∃ g, (World.heap w22).size = g := ⟨_, rfl⟩
      rw [hgl] at HLV ⊢
      clear hgl
      refine wpO_step0 rfl rfl (fun K hK => ?_)
      rw [if_pos (show Region.wanted _ _ = true from rfl)]
      refine ⟨_, fun w0 => exec_build1 rfl rfl (run_build_bat w0 (some ⟨gl, 0, none⟩) 1 1), hK _ _ ?_⟩
      clear hK K
      refine wpO_step2 rfl rfl (HBL.out) (fun K hK => ?_)
      go_simp
      refine (rapply_any A3 2 c3 wkR1 (some ⟨gl, 0, none⟩) 1 1 wkB2 w23 (HL.out.below (below_step HB6.out HBL.out)) (HR6.out.below HBL.out) wkR1_ok (by omega) HLV.out wkB2_ok (by omega)).mono ?_
      rw [wkr2.1]
      rintro e w24 ⟨A9, n9, c9, rfl, hO9, hb9⟩
      obtain rfl : 1 = n9 := by rw [← wkr2.2.1]; exact hO9.len
      have HBM := Lib.hid (below_step HBL.out hb9)
      have HLT9 := Lib.hid hO9.lt
      have HBA9 := Lib.hid hO9.base_
      have HO9 : Hid (RS rteK w24 A9 1 c9 wkR2) := Lib.hid hO9.reads
      try replace HZ9 := Lib.hid (blk_below HZ9.out hb9)
      have hszc := hb9.size
      clear hO9 hb9
      refine hK _ _ ⟨HBM.out, ?_⟩
      clear hK K
      iterate 3 (refine wpO_step0 rfl rfl (fun K hK => ?_); go_simp; refine hK _ _ ?_; clear hK K)
      refine wpO_step2 rfl rfl (HBM.out) (fun K hK => ?_)
      rw [if_pos (show Region.wanted _ _ = true from rfl)]
      refine oper_store_blk HZ9.out 24 0 (tabV A9 1 c9) (Nat.le_refl _) (info_rib _ _ _) (tab_one _ _ _) _ _ rfl rfl rfl ?_
      intro w25 hg9 hs9 hb9
      rw [splice_tab] at hb9
      have HBN := Lib.hid (below_grown HBM.out hg9 (by have h1 := HBC.out.size; have h2 := HBK.out.size; have h3 := HBL.out.size; omega))
      have HNE9 : Hid (∀ ad, A9 = some ad → ad.block ≠ w6.heap.size) := Lib.hid (fun ad e => by have h1 := HLT9.out ad e; have h2 := HBA9.out ad e; first | omega)
      replace HO9 := Lib.hid (HO9.out.grown hg9 (fun ad e h => by injection h with h; exact HNE9.out ad e h))
      replace HZ9 := Lib.hid hb9
      clear hg9 hs9 hb9
      refine hK _ _ ⟨HBN.out, ?_⟩
      clear hK K
      iterate 1 (refine wpO_step0 rfl rfl (fun K hK => ?_); go_simp; refine hK _ _ ?_; clear hK K)
      refine wpO_nil ?_
      go_wp2_with fail
      go_meet
      exact ⟨w6.heap.size, A9, c9, rfl, rfl, HZ9.out, HO9.out, HBN.out⟩
  case rest =>
    obtain ⟨g5, A7, c7, rfl, rfl, HC⟩ := hcut
    obtain ⟨w7, rfl⟩ : ∃ w7, w7 = wc := ⟨wc, rfl⟩
    have HB67 := Lib.hid HC.out.2.2
    have HB7 := Lib.hid (below_step HB6.out HC.out.2.2)
    have HG7 := Lib.hid HC.out.1
    have HR7 := Lib.hid HC.out.2.1
    have HT7 := Lib.hid (HT6.out.below HB67.out)
    have HQ7 := Lib.hid (blk_below HQ6.out HB67.out)
    clear HC
    go_wp2_with (first | ((with_reducible show wpList _ _ _ (Oper.mk _ (Op.load _ _) _ _ _ _ :: _) _ _); refine wpList_load_g (load_rib HG7.out) _ rfl rfl (by go_simp) ?_))
    refine (rbest_any A7 1 c7 wkR2 w7 (HL.out.below HB7.out) HR7.out wkR2_ok (by omega)).mono ?_
    rw [wkr2.2.2.1]
    rintro e w8 ⟨A8, n8, c8, rfl, hO8, hb8⟩
    obtain rfl : 1 = n8 := by rw [← wkr2.2.2.2.1]; exact hO8.len
    have HO8 : Hid (RT w8 A8 1 c8 (bestR wkR2)) := Lib.hid hO8.reads
    have HB8 := Lib.hid (below_step HB7.out hb8)
    have HT8 := Lib.hid (HT7.out.below hb8)
    have HQ8 := Lib.hid (blk_below HQ7.out hb8)
    clear hO8 hb8
    go_upto_region 5 with (first | ((with_reducible show wpList _ _ _ (Oper.mk _ (Op.store _ _ _) _ _ _ _ :: _) _ _); refine wpList_store_blk (blk_new w8 (.cells (tabV none 0 0) 39)) 39 0 (tabV A8 1 c8) (Nat.le_refl _) (info_tab _ _ _) (tab_one _ _ _) _ _ rfl rfl rfl rfl ?_; intro w9 hg9 hs9 hb9; rw [splice_tab] at hb9; have H9 := Lib.hid (And.intro hg9 hb9); clear hg9 hs9 hb9))
    have HB89 := Lib.hid (below_grown (below_alloc (Below.refl w8.heap.size w8) (.cells (tabV none 0 0) 39)) H9.out.1 (Nat.le_refl _))
    have HT9 := Lib.hid (HT8.out.below HB89.out)
    have HQ9 := Lib.hid (blk_below HQ8.out HB89.out)
    have HO9 := Lib.hid (HO8.out.below HB89.out)
    obtain ⟨b1, o1, rfl, hc1⟩ := RT.at_ HT9.out (by omega)
    obtain ⟨b2, o2, rfl, hc2⟩ := RT.at_ HO9.out (by omega)
    have hl1 := (rowLd_of (RT.fits_at HT9.out (i := 0) (by omega)) (hc1 0 (by omega))).hop
    have hl2 := (rowLd_of (RT.fits_at HO9.out (i := 0) (by omega)) (hc2 0 (by omega))).hop
    rw [wkr1.2.2.2.2] at hl1
    rw [wkr2.2.2.2.2] at hl2
    clear hc1 hc2
    have hq3 := ((tab_at HQ9.out).all _ (Below.refl _ _)).2
    have hq7 := ((tab_at H9.out.2).all _ (Below.refl _ _)).2
    go_wp2_with (first | ((with_reducible show wpList _ _ _ (Oper.mk _ (Op.load _ _) _ _ _ _ :: _) _ _); refine wpList_load_g hq3 _ rfl rfl (by go_simp) ?_) | ((with_reducible show wpList _ _ _ (Oper.mk _ (Op.load _ _) _ _ _ _ :: _) _ _); refine wpList_load_g hq7 _ rfl rfl (by go_simp) ?_) | ((with_reducible show wpList _ _ _ (Oper.mk _ (Op.load _ _) _ _ _ _ :: _) _ _); refine wpList_load_g hl1 _ rfl rfl (by go_simp) ?_) | ((with_reducible show wpList _ _ _ (Oper.mk _ (Op.load _ _) _ _ _ _ :: _) _ _); refine wpList_load_g hl2 _ rfl rfl (by go_simp) ?_))
    go_ret
    exact ⟨rfl, below_step HB8.out HB89.out⟩
end Go.Proofs.YtnpeedmicjeleaaDoor

/- Layer 11 (route): the law's own. -/
namespace Go.Proofs.YtnpeedmicjeleaaDoor
open Go.RowKit
set_option linter.unusedVariables false
set_option linter.unusedSimpArgs false
set_option maxRecDepth 4000
theorem results_c2c {P : Program} {w : World} {fn : Func} {p q : Tmp} {ty ty2 : TypeId} {ad ad2 : Addr} {v v2 : Value} {tmps : Array Value} (h : fn.results = #[.cell p ty, .cell q ty2]) (hp : tmps.getD p undef = .pointer (some ad)) (hl : (Instr.loadAt ty (.pointer (some ad))).run P w = .ok v w) (hq : tmps.getD q undef = .pointer (some ad2)) (hl2 : (Instr.loadAt ty2 (.pointer (some ad2))).run P w = .ok v2 w) :
    (results fn tmps).run P w = .ok (.tuple #[v, v2]) w := by
  have hp' : tmps[p]?.getD undef = .pointer (some ad) := by simpa using hp
  have hq' : tmps[q]?.getD undef = .pointer (some ad2) := by simpa using hq
  simp [results, h, hp', hq', asAddr, loadVar_of hl, loadVar_of hl2]
theorem info_bat (A : Option Addr) (n c : Nat) : (Tryd.prog.info? 27).map (·.size) = some (tabV A n c).size := by show _ = some 1; kernel_rfl
theorem load_bat {w : World} {g : Nat} {A : Option Addr} {n c : Nat} (h : w.heap[g]? = some (.cells (tabV A n c) 27 (0, 0))) : (Instr.loadAt 27 (.pointer (some ⟨g, 0, none⟩))).run Tryd.prog w = .ok (.agg (tabV A n c)) w := ((bat_at h).all _ (Below.refl _ _)).1
theorem OS.ownN {α : Type} {S : Shape α} {w w1 : World} {base : Nat} {A B : Option Addr} {n c m d : Nat} {l : List α} (h : OS S w base A n c l) (hg : w.grownBy w1 ((Value.slice B m d).ownBlock)) (hne : ∀ a b, A = some a → B = some b → a.block ≠ b.block) : OS S w1 base A n c l :=
  h.grown hg (fun a e k => by
    obtain ⟨b, e1, e2⟩ := own_of k.symm
    exact hne a b e e1 e2.symm)
set_option maxHeartbeats 4000000 in
theorem own11_any (A : Option Addr) (n c : Nat) (l : List Rte) (A2 : Option Addr) (m c2 : Nat) (b : List Upd) (w : World) (hr : RS rteK w A n c l) (hn : n ≤ 10000) (hu : RS updK w A2 m c2 b) (hm : m ≤ 10000) :
    Calls Tryd.prog 12 #[.agg (tabV A n c), .agg (tabV A2 m c2)] w fun e w' => ∃ A' c' A2' c2', e = .returned (.tuple #[.agg (tabV A' n c'), .agg (tabV A2' m c2')]) ∧ RS rteK w' A' n c' l ∧ RS updK w' A2' m c2' b ∧ Below w.heap.size w w' := by
  have hblk1 := blk_new w (.cells (tabV A n c) 24)
  have hbel1 : Below w.heap.size w (w.alloc (.cells (tabV A n c) 24)) := below_alloc (Below.refl _ _) _
  have hblk2 := blk_new (w.alloc (.cells (tabV A n c) 24)) (.cells (tabV A2 m c2) 27)
  have hbel2 : Below w.heap.size w ((w.alloc (.cells (tabV A n c) 24)).alloc (.cells (tabV A2 m c2) 27)) := below_alloc (hbel1) _
  rw [show (w.alloc (.cells (tabV A n c) 24)).heap.size = w.heap.size + 1 by simp] at hblk2
  replace hblk1 := blk_below hblk1 (below_alloc (Below.refl _ _) (.cells (tabV A2 m c2) 27))
  have HP1 := Lib.hid (rib_at hblk1)
  have HBK1 := Lib.hid hblk1
  have HP2 := Lib.hid (bat_at hblk2)
  have HBK2 := Lib.hid hblk2
  have HBE := Lib.hid hbel2
  obtain ⟨cs1, hcs1⟩ : ∃ cs, tabV A n c = cs := ⟨_, rfl⟩
  obtain ⟨cs2, hcs2⟩ : ∃ cs, tabV A2 m c2 = cs := ⟨_, rfl⟩
  simp only [hcs1, hcs2] at HBE HP1 HP2 HBK1 HBK2 ⊢
  have HC1 := Lib.hid hcs1
  have HC2 := Lib.hid hcs2
  clear hcs1 hblk1 hbel1 hcs2 hblk2 hbel2
  have hs0 : ((w.alloc (.cells cs1 24)).alloc (.cells cs2 27)).heap.size = w.heap.size + 1 + 1 := by simp
  obtain ⟨W1, hW1⟩ : ∃ W1, (((w.alloc (.cells cs1 24)).alloc (.cells cs2 27)).alloc (.cells #[.slice none 0 0] 24)).alloc (.cells #[.slice none 0 0] 27) = W1 := ⟨_, rfl⟩
  have HZ4 : Hid (W1.heap[w.heap.size + 1 + 1]? = some (.cells (tabV none 0 0) 24 (0, 0))) := Lib.hid (by
    rw [← hW1, ← hs0]
    exact blk_below (blk_new _ _) (below_alloc (Below.refl _ _) _))
  have HZ5 : Hid (W1.heap[w.heap.size + 1 + 1 + 1]? = some (.cells (tabV none 0 0) 27 (0, 0))) := Lib.hid (by
    have h := blk_new (((w.alloc (.cells cs1 24)).alloc (.cells cs2 27)).alloc (.cells #[.slice none 0 0] 24)) (.cells #[.slice none 0 0] 27)
    rw [hW1, show (((w.alloc (.cells cs1 24)).alloc (.cells cs2 27)).alloc (.cells #[.slice none 0 0] 24)).heap.size = w.heap.size + 1 + 1 + 1 by simp] at h
    exact h)
  have HB1 : Hid (Below w.heap.size w W1) := Lib.hid (hW1 ▸ below_alloc (below_alloc HBE.out _) _)
  have HBW : Hid (Below ((w.alloc (.cells cs1 24)).alloc (.cells cs2 27)).heap.size ((w.alloc (.cells cs1 24)).alloc (.cells cs2 27)) W1) := Lib.hid (hW1 ▸ below_alloc (below_alloc (Below.refl _ _) _) _)
  have HS1 : Hid (W1.heap.size = w.heap.size + 4) := Lib.hid (by rw [← hW1]; simp)
  have HR := Lib.hid (hr.below HB1.out)
  have HU := Lib.hid (hu.below HB1.out)
  clear hr hu hs0
  go_enter Tryd.func12, Tryd.ntmps12
  go_wp2_with fail
  clear hW1
  have HBD := Lib.hid (below_drew1 W1)
  have hdr : W1.drew.heap.size = W1.heap.size := rfl
  have hsb : ((w.alloc (.cells cs1 24)).alloc (.cells cs2 27)).heap.size = w.heap.size + 1 + 1 := by simp
  refine wp_region_fork ((fun w0 => Below ((w.alloc (.cells cs1 24)).alloc (.cells cs2 27)).heap.size ((w.alloc (.cells cs1 24)).alloc (.cells cs2 27)) w0)) (OrdT.fork [1, 2, 6, 7] 0 5 (OrdT.fork [] 3 5 (OrdT.lin [4, 5, 8, 9, 10, 11]) (OrdT.lin [3, 4, 8, 9, 10, 11])) (OrdT.lin [0, 3, 4, 8, 9, 10, 11])) [(0, 2), (1, 0), (2, 0), (3, 2), (4, 0), (5, 2), (6, 0), (7, 0), (8, 2), (9, 0), (10, 2), (11, 2)] (by kernel_rfl) (by kernel_rfl) ((below_step HBW.out (below_drew1 _))) ?_
  simp only [wpF]
  iterate 1 (refine wpO_step0 rfl rfl (fun K hK => ?_); go_simp; refine hK _ _ ?_; clear hK K)
  refine wpO_loadW (t := 22) (ad := ⟨w.heap.size, 0, none⟩) rfl rfl ?hw rfl rfl ((fun w0 hS => (HP1.out.all w0 hS).2)) ?_
  case hw => go_simp
  iterate 1 (refine wpO_step0 rfl rfl (fun K hK => ?_); go_simp; refine hK _ _ ?_; clear hK K)
  refine wpO_loadW (t := 25) (ad := ⟨(w.heap.size+1), 0, none⟩) rfl rfl ?hw rfl rfl ((fun w0 hS => (HP2.out.all w0 hS).2)) ?_
  case hw => go_simp
  refine wpO_nil ⟨?_, ?_⟩
  · refine wpO_step2 rfl rfl ((below_step HBW.out HBD.out)) (fun K hK => ?_)
    go_simp
    obtain ⟨w21, hw9⟩ : ∃ w9, World.alloc W1.drew (.cells #[] 51) = w9 := ⟨_, rfl⟩
    have HE1 : Hid (OS rteK w21 W1.heap.size (some ⟨(World.heap W1.drew).size, 0, none⟩) 0 0 []) := Lib.hid (hw9 ▸ OS.empty rteK W1.drew W1.heap.size HBD.out.size)
    have ha9 : Below (World.heap W1.drew).size W1.drew w21 := hw9 ▸ below_alloc (Below.refl _ _) _
    have HBC := Lib.hid (below_step HBD.out ha9)
    have hs1 : (World.heap W1.drew).size < (World.heap w21).size := by rw [← hw9]; simp
    refine kw_cast hw9 ?_
    try replace HE2 := Lib.hid (HE2.out.below ha9)
    clear hw9 ha9
    refine hK _ _ ⟨(below_step HBW.out HBC.out), ?_⟩
    clear hK K
    refine wpO_nil (wpO_nil ⟨?_, ?_⟩)
    · refine wpO_step2 rfl rfl ((below_step HBW.out HBC.out)) (fun K hK => ?_)
      rw [if_pos (show Region.wanted _ _ = true from rfl)]
      refine oper_append_shp (S := rteK) (.tmp 6) (.tmp 8) rfl rfl rfl HE1.out (HR.out.below HBC.out) HBC.out.size (by omega) ?_
      intro A6 c6 w22 h1 h2 h3
      rw [Nat.zero_add, List.nil_append] at h1
      rw [Nat.zero_add]
      have HA1 := Lib.hid h3
      have HLT1 := Lib.hid h1.lt
      have hb9 := below_own HBC.out h2 HE1.out.base_
      have HBK := Lib.hid hb9
      try replace HE2 := Lib.hid (HE2.out.ownN h2 (fun a b e1 e2 => by injection e1 with e1; injection e2 with e2; subst e1; subst e2; first | (simp; omega)))
      have HO1 := Lib.hid h1
      have hs3 := h2.size
      clear h1 h2 h3 hb9
      refine hK _ _ ⟨(below_step HBW.out HBK.out), ?_⟩
      clear hK K
      refine wpO_nil ?_
      refine wpO_step0 rfl rfl (fun K hK => ?_)
      rw [if_pos (show Region.wanted _ _ = true from rfl)]
      refine ⟨_, fun w0 => exec_build1 rfl rfl (run_build_rib w0 A6 n c6), hK _ _ ?_⟩
      clear hK K
      refine wpO_step2 rfl rfl ((below_step HBW.out HBK.out)) (fun K hK => ?_)
      go_simp
      obtain ⟨w23, hw9⟩ : ∃ w9, World.alloc w22 (.cells #[] 75) = w9 := ⟨_, rfl⟩
      have HE2 : Hid (OS updK w23 W1.heap.size (some ⟨(World.heap w22).size, 0, none⟩) 0 0 []) := Lib.hid (hw9 ▸ OS.empty updK w22 W1.heap.size HBK.out.size)
      have ha9 : Below (World.heap w22).size w22 w23 := hw9 ▸ below_alloc (Below.refl _ _) _
      have HBL := Lib.hid (below_step HBK.out ha9)
      have hs2 : (World.heap w22).size < (World.heap w23).size := by rw [← hw9]; simp
      refine kw_cast hw9 ?_
      try replace HE1 := Lib.hid (HE1.out.below ha9)
      try replace HO1 := Lib.hid (HO1.out.below ha9)
      clear hw9 ha9
      refine hK _ _ ⟨(below_step HBW.out HBL.out), ?_⟩
      clear hK K
      refine wpO_step2 rfl rfl ((below_step HBW.out HBL.out)) (fun K hK => ?_)
      rw [if_pos (show Region.wanted _ _ = true from rfl)]
      refine oper_append_shp (S := updK) (.tmp 11) (.tmp 13) rfl rfl rfl HE2.out (HU.out.below HBL.out) HBL.out.size (by omega) ?_
      intro A7 c7 w24 h1 h2 h3
      rw [Nat.zero_add, List.nil_append] at h1
      rw [Nat.zero_add]
      have hb9 := below_own HBL.out h2 HE2.out.base_
      have HBM := Lib.hid hb9
      replace HO1 := Lib.hid (HO1.out.ownN h2 (fun a b e1 e2 => by
        injection e2 with e2
        subst e2
        have hl9 := HLT1.out a e1
        rcases HA1.out with k | k
        · rw [k] at e1
          injection e1 with e1
          subst e1
          simp
          omega
        · have := k a e1
          simp
          omega))
      have HO2 := Lib.hid h1
      clear h1 h2 h3 hb9
      refine hK _ _ ⟨(below_step HBW.out HBM.out), ?_⟩
      clear hK K
      refine wpO_step0 rfl rfl (fun K hK => ?_)
      rw [if_pos (show Region.wanted _ _ = true from rfl)]
      refine ⟨_, fun w0 => exec_build1 rfl rfl (run_build_bat w0 A7 m c7), hK _ _ ?_⟩
      clear hK K
      refine wpO_step2 rfl rfl ((below_step HBW.out HBM.out)) (fun K hK => ?_)
      rw [if_pos (show Region.wanted _ _ = true from rfl)]
      refine oper_store_blk (blk_below HZ4.out HBM.out) 24 0 (tabV A6 n c6) (Nat.le_refl _) (info_rib _ _ _) (tab_one _ _ _) _ _ rfl rfl rfl ?_
      intro w31 hg9 hs9 hb9
      rw [splice_tab] at hb9
      have HK1 := Lib.hid (And.intro hg9 hb9)
      have hzz := blk_grown (blk_below HZ5.out HBM.out) hg9 (fun e => by injection e with e; omega)
      have hl6 := HO1.out.base_
      have hl7 := HO2.out.base_
      have HS := HS1.out
      have HP1' := Lib.hid (HO1.out.grown hg9 (fun ad e h => by have := hl6 ad e; injection h with h; omega))
      have HP2' := Lib.hid (HO2.out.grown hg9 (fun ad e h => by have := hl7 ad e; injection h with h; omega))
      have HB31 := Lib.hid (below_grown (below_step HB1.out HBM.out) hg9 (show w.heap.size ≤ w.heap.size + 1 + 1 by omega))
      have HZZ := Lib.hid hzz
      have HK2 := Lib.hid hb9
      clear hzz hg9 hs9 hb9
      have HBX := Lib.hid (below_grown (below_step HBW.out HBM.out) HK1.out.1 (by omega))
      refine hK _ _ ⟨HBX.out, ?_⟩
      clear hK K
      refine wpO_step2 rfl rfl (HBX.out) (fun K hK => ?_)
      rw [if_pos (show Region.wanted _ _ = true from rfl)]
      refine oper_store_blk HZZ.out 27 0 (tabV A7 m c7) (Nat.le_refl _) (info_bat _ _ _) (tab_one _ _ _) _ _ rfl rfl rfl ?_
      intro w32 hg9 hs9 hb9
      rw [splice_tab] at hb9
      have hl8 := HO1.out.base_
      have hl9 := HO2.out.base_
      have HS := HS1.out
      have hk2 := blk_grown HK2.out hg9 (fun e => by injection e with e; omega)
      have HQ1 := Lib.hid (HP1'.out.grown hg9 (fun ad e h => by have := hl8 ad e; injection h with h; omega)).reads
      have HQ2 := Lib.hid (HP2'.out.grown hg9 (fun ad e h => by have := hl9 ad e; injection h with h; omega)).reads
      have HB32 := Lib.hid (below_grown HB31.out hg9 (show w.heap.size ≤ w.heap.size + 1 + 1 + 1 by omega))
      have HBY := Lib.hid (below_grown HBX.out hg9 (by omega))
      have HK3 := Lib.hid (And.intro hk2 hb9)
      clear hg9 hs9 hb9 hk2 hl8 hl9 HS
      refine hK _ _ ⟨HBY.out, ?_⟩
      clear hK K
      refine wpO_nil ?_
      go_wp2_with fail
      refine bodyPost_ret (results_c2c rfl rfl (load_rib HK3.out.1) rfl (load_bat HK3.out.2)) rfl ?_
      exact ⟨A6, c6, A7, c7, rfl, HQ1.out, HQ2.out, HB32.out⟩
    · refine wpO_step2 rfl rfl ((below_step HBW.out HBC.out)) (fun K hK => ?_)
      go_simp
      obtain ⟨w22, hw9⟩ : ∃ w9, World.alloc w21 (.cells #[] 75) = w9 := ⟨_, rfl⟩
      have HE2 : Hid (OS updK w22 W1.heap.size (some ⟨(World.heap w21).size, 0, none⟩) 0 0 []) := Lib.hid (hw9 ▸ OS.empty updK w21 W1.heap.size HBC.out.size)
      have ha9 : Below (World.heap w21).size w21 w22 := hw9 ▸ below_alloc (Below.refl _ _) _
      have HBK := Lib.hid (below_step HBC.out ha9)
      have hs2 : (World.heap w21).size < (World.heap w22).size := by rw [← hw9]; simp
      refine kw_cast hw9 ?_
      try replace HE1 := Lib.hid (HE1.out.below ha9)
      try replace HO1 := Lib.hid (HO1.out.below ha9)
      clear hw9 ha9
      refine hK _ _ ⟨(below_step HBW.out HBK.out), ?_⟩
      clear hK K
      refine wpO_nil ?_
      refine wpO_step2 rfl rfl ((below_step HBW.out HBK.out)) (fun K hK => ?_)
      rw [if_pos (show Region.wanted _ _ = true from rfl)]
      refine oper_append_shp (S := rteK) (.tmp 6) (.tmp 8) rfl rfl rfl HE1.out (HR.out.below HBK.out) HBK.out.size (by omega) ?_
      intro A6 c6 w23 h1 h2 h3
      rw [Nat.zero_add, List.nil_append] at h1
      rw [Nat.zero_add]
      have HA1 := Lib.hid h3
      have HLT1 := Lib.hid h1.lt
      have hb9 := below_own HBK.out h2 HE1.out.base_
      have HBL := Lib.hid hb9
      try replace HE2 := Lib.hid (HE2.out.ownN h2 (fun a b e1 e2 => by injection e1 with e1; injection e2 with e2; subst e1; subst e2; first | (simp; omega)))
      have HO1 := Lib.hid h1
      have hs3 := h2.size
      clear h1 h2 h3 hb9
      refine hK _ _ ⟨(below_step HBW.out HBL.out), ?_⟩
      clear hK K
      refine wpO_step0 rfl rfl (fun K hK => ?_)
      rw [if_pos (show Region.wanted _ _ = true from rfl)]
      refine ⟨_, fun w0 => exec_build1 rfl rfl (run_build_rib w0 A6 n c6), hK _ _ ?_⟩
      clear hK K
      refine wpO_step2 rfl rfl ((below_step HBW.out HBL.out)) (fun K hK => ?_)
      rw [if_pos (show Region.wanted _ _ = true from rfl)]
      refine oper_append_shp (S := updK) (.tmp 11) (.tmp 13) rfl rfl rfl HE2.out (HU.out.below HBL.out) HBL.out.size (by omega) ?_
      intro A7 c7 w24 h1 h2 h3
      rw [Nat.zero_add, List.nil_append] at h1
      rw [Nat.zero_add]
      have hb9 := below_own HBL.out h2 HE2.out.base_
      have HBM := Lib.hid hb9
      replace HO1 := Lib.hid (HO1.out.ownN h2 (fun a b e1 e2 => by
        injection e2 with e2
        subst e2
        have hl9 := HLT1.out a e1
        rcases HA1.out with k | k
        · rw [k] at e1
          injection e1 with e1
          subst e1
          simp
          omega
        · have := k a e1
          simp
          omega))
      have HO2 := Lib.hid h1
      clear h1 h2 h3 hb9
      refine hK _ _ ⟨(below_step HBW.out HBM.out), ?_⟩
      clear hK K
      refine wpO_step0 rfl rfl (fun K hK => ?_)
      rw [if_pos (show Region.wanted _ _ = true from rfl)]
      refine ⟨_, fun w0 => exec_build1 rfl rfl (run_build_bat w0 A7 m c7), hK _ _ ?_⟩
      clear hK K
      refine wpO_step2 rfl rfl ((below_step HBW.out HBM.out)) (fun K hK => ?_)
      rw [if_pos (show Region.wanted _ _ = true from rfl)]
      refine oper_store_blk (blk_below HZ4.out HBM.out) 24 0 (tabV A6 n c6) (Nat.le_refl _) (info_rib _ _ _) (tab_one _ _ _) _ _ rfl rfl rfl ?_
      intro w31 hg9 hs9 hb9
      rw [splice_tab] at hb9
      have HK1 := Lib.hid (And.intro hg9 hb9)
      have hzz := blk_grown (blk_below HZ5.out HBM.out) hg9 (fun e => by injection e with e; omega)
      have hl6 := HO1.out.base_
      have hl7 := HO2.out.base_
      have HS := HS1.out
      have HP1' := Lib.hid (HO1.out.grown hg9 (fun ad e h => by have := hl6 ad e; injection h with h; omega))
      have HP2' := Lib.hid (HO2.out.grown hg9 (fun ad e h => by have := hl7 ad e; injection h with h; omega))
      have HB31 := Lib.hid (below_grown (below_step HB1.out HBM.out) hg9 (show w.heap.size ≤ w.heap.size + 1 + 1 by omega))
      have HZZ := Lib.hid hzz
      have HK2 := Lib.hid hb9
      clear hzz hg9 hs9 hb9
      have HBX := Lib.hid (below_grown (below_step HBW.out HBM.out) HK1.out.1 (by omega))
      refine hK _ _ ⟨HBX.out, ?_⟩
      clear hK K
      refine wpO_step2 rfl rfl (HBX.out) (fun K hK => ?_)
      rw [if_pos (show Region.wanted _ _ = true from rfl)]
      refine oper_store_blk HZZ.out 27 0 (tabV A7 m c7) (Nat.le_refl _) (info_bat _ _ _) (tab_one _ _ _) _ _ rfl rfl rfl ?_
      intro w32 hg9 hs9 hb9
      rw [splice_tab] at hb9
      have hl8 := HO1.out.base_
      have hl9 := HO2.out.base_
      have HS := HS1.out
      have hk2 := blk_grown HK2.out hg9 (fun e => by injection e with e; omega)
      have HQ1 := Lib.hid (HP1'.out.grown hg9 (fun ad e h => by have := hl8 ad e; injection h with h; omega)).reads
      have HQ2 := Lib.hid (HP2'.out.grown hg9 (fun ad e h => by have := hl9 ad e; injection h with h; omega)).reads
      have HB32 := Lib.hid (below_grown HB31.out hg9 (show w.heap.size ≤ w.heap.size + 1 + 1 + 1 by omega))
      have HBY := Lib.hid (below_grown HBX.out hg9 (by omega))
      have HK3 := Lib.hid (And.intro hk2 hb9)
      clear hg9 hs9 hb9 hk2 hl8 hl9 HS
      refine hK _ _ ⟨HBY.out, ?_⟩
      clear hK K
      refine wpO_nil ?_
      go_wp2_with fail
      refine bodyPost_ret (results_c2c rfl rfl (load_rib HK3.out.1) rfl (load_bat HK3.out.2)) rfl ?_
      exact ⟨A6, c6, A7, c7, rfl, HQ1.out, HQ2.out, HB32.out⟩
  · refine wpO_step2 rfl rfl ((below_step HBW.out HBD.out)) (fun K hK => ?_)
    go_simp
    obtain ⟨w21, hw9⟩ : ∃ w9, World.alloc W1.drew (.cells #[] 75) = w9 := ⟨_, rfl⟩
    have HE2 : Hid (OS updK w21 W1.heap.size (some ⟨(World.heap W1.drew).size, 0, none⟩) 0 0 []) := Lib.hid (hw9 ▸ OS.empty updK W1.drew W1.heap.size HBD.out.size)
    have ha9 : Below (World.heap W1.drew).size W1.drew w21 := hw9 ▸ below_alloc (Below.refl _ _) _
    have HBC := Lib.hid (below_step HBD.out ha9)
    have hs2 : (World.heap W1.drew).size < (World.heap w21).size := by rw [← hw9]; simp
    refine kw_cast hw9 ?_
    try replace HE1 := Lib.hid (HE1.out.below ha9)
    try replace HO1 := Lib.hid (HO1.out.below ha9)
    clear hw9 ha9
    refine hK _ _ ⟨(below_step HBW.out HBC.out), ?_⟩
    clear hK K
    refine wpO_nil ?_
    refine wpO_step2 rfl rfl ((below_step HBW.out HBC.out)) (fun K hK => ?_)
    go_simp
    obtain ⟨w22, hw9⟩ : ∃ w9, World.alloc w21 (.cells #[] 51) = w9 := ⟨_, rfl⟩
    have HE1 : Hid (OS rteK w22 W1.heap.size (some ⟨(World.heap w21).size, 0, none⟩) 0 0 []) := Lib.hid (hw9 ▸ OS.empty rteK w21 W1.heap.size HBC.out.size)
    have ha9 : Below (World.heap w21).size w21 w22 := hw9 ▸ below_alloc (Below.refl _ _) _
    have HBK := Lib.hid (below_step HBC.out ha9)
    have hs1 : (World.heap w21).size < (World.heap w22).size := by rw [← hw9]; simp
    refine kw_cast hw9 ?_
    try replace HE2 := Lib.hid (HE2.out.below ha9)
    clear hw9 ha9
    refine hK _ _ ⟨(below_step HBW.out HBK.out), ?_⟩
    clear hK K
    refine wpO_step2 rfl rfl ((below_step HBW.out HBK.out)) (fun K hK => ?_)
    rw [if_pos (show Region.wanted _ _ = true from rfl)]
    refine oper_append_shp (S := rteK) (.tmp 6) (.tmp 8) rfl rfl rfl HE1.out (HR.out.below HBK.out) HBK.out.size (by omega) ?_
    intro A6 c6 w23 h1 h2 h3
    rw [Nat.zero_add, List.nil_append] at h1
    rw [Nat.zero_add]
    have HA1 := Lib.hid h3
    have HLT1 := Lib.hid h1.lt
    have hb9 := below_own HBK.out h2 HE1.out.base_
    have HBL := Lib.hid hb9
    try replace HE2 := Lib.hid (HE2.out.ownN h2 (fun a b e1 e2 => by injection e1 with e1; injection e2 with e2; subst e1; subst e2; first | (simp; omega)))
    have HO1 := Lib.hid h1
    have hs3 := h2.size
    clear h1 h2 h3 hb9
    refine hK _ _ ⟨(below_step HBW.out HBL.out), ?_⟩
    clear hK K
    refine wpO_step0 rfl rfl (fun K hK => ?_)
    rw [if_pos (show Region.wanted _ _ = true from rfl)]
    refine ⟨_, fun w0 => exec_build1 rfl rfl (run_build_rib w0 A6 n c6), hK _ _ ?_⟩
    clear hK K
    refine wpO_step2 rfl rfl ((below_step HBW.out HBL.out)) (fun K hK => ?_)
    rw [if_pos (show Region.wanted _ _ = true from rfl)]
    refine oper_append_shp (S := updK) (.tmp 11) (.tmp 13) rfl rfl rfl HE2.out (HU.out.below HBL.out) HBL.out.size (by omega) ?_
    intro A7 c7 w24 h1 h2 h3
    rw [Nat.zero_add, List.nil_append] at h1
    rw [Nat.zero_add]
    have hb9 := below_own HBL.out h2 HE2.out.base_
    have HBM := Lib.hid hb9
    replace HO1 := Lib.hid (HO1.out.ownN h2 (fun a b e1 e2 => by
      injection e2 with e2
      subst e2
      have hl9 := HLT1.out a e1
      rcases HA1.out with k | k
      · rw [k] at e1
        injection e1 with e1
        subst e1
        simp
        omega
      · have := k a e1
        simp
        omega))
    have HO2 := Lib.hid h1
    clear h1 h2 h3 hb9
    refine hK _ _ ⟨(below_step HBW.out HBM.out), ?_⟩
    clear hK K
    refine wpO_step0 rfl rfl (fun K hK => ?_)
    rw [if_pos (show Region.wanted _ _ = true from rfl)]
    refine ⟨_, fun w0 => exec_build1 rfl rfl (run_build_bat w0 A7 m c7), hK _ _ ?_⟩
    clear hK K
    refine wpO_step2 rfl rfl ((below_step HBW.out HBM.out)) (fun K hK => ?_)
    rw [if_pos (show Region.wanted _ _ = true from rfl)]
    refine oper_store_blk (blk_below HZ4.out HBM.out) 24 0 (tabV A6 n c6) (Nat.le_refl _) (info_rib _ _ _) (tab_one _ _ _) _ _ rfl rfl rfl ?_
    intro w31 hg9 hs9 hb9
    rw [splice_tab] at hb9
    have HK1 := Lib.hid (And.intro hg9 hb9)
    have hzz := blk_grown (blk_below HZ5.out HBM.out) hg9 (fun e => by injection e with e; omega)
    have hl6 := HO1.out.base_
    have hl7 := HO2.out.base_
    have HS := HS1.out
    have HP1' := Lib.hid (HO1.out.grown hg9 (fun ad e h => by have := hl6 ad e; injection h with h; omega))
    have HP2' := Lib.hid (HO2.out.grown hg9 (fun ad e h => by have := hl7 ad e; injection h with h; omega))
    have HB31 := Lib.hid (below_grown (below_step HB1.out HBM.out) hg9 (show w.heap.size ≤ w.heap.size + 1 + 1 by omega))
    have HZZ := Lib.hid hzz
    have HK2 := Lib.hid hb9
    clear hzz hg9 hs9 hb9
    have HBX := Lib.hid (below_grown (below_step HBW.out HBM.out) HK1.out.1 (by omega))
    refine hK _ _ ⟨HBX.out, ?_⟩
    clear hK K
    refine wpO_step2 rfl rfl (HBX.out) (fun K hK => ?_)
    rw [if_pos (show Region.wanted _ _ = true from rfl)]
    refine oper_store_blk HZZ.out 27 0 (tabV A7 m c7) (Nat.le_refl _) (info_bat _ _ _) (tab_one _ _ _) _ _ rfl rfl rfl ?_
    intro w32 hg9 hs9 hb9
    rw [splice_tab] at hb9
    have hl8 := HO1.out.base_
    have hl9 := HO2.out.base_
    have HS := HS1.out
    have hk2 := blk_grown HK2.out hg9 (fun e => by injection e with e; omega)
    have HQ1 := Lib.hid (HP1'.out.grown hg9 (fun ad e h => by have := hl8 ad e; injection h with h; omega)).reads
    have HQ2 := Lib.hid (HP2'.out.grown hg9 (fun ad e h => by have := hl9 ad e; injection h with h; omega)).reads
    have HB32 := Lib.hid (below_grown HB31.out hg9 (show w.heap.size ≤ w.heap.size + 1 + 1 + 1 by omega))
    have HBY := Lib.hid (below_grown HBX.out hg9 (by omega))
    have HK3 := Lib.hid (And.intro hk2 hb9)
    clear hg9 hs9 hb9 hk2 hl8 hl9 HS
    refine hK _ _ ⟨HBY.out, ?_⟩
    clear hK K
    refine wpO_nil ?_
    go_wp2_with fail
    refine bodyPost_ret (results_c2c rfl rfl (load_rib HK3.out.1) rfl (load_bat HK3.out.2)) rfl ?_
    exact ⟨A6, c6, A7, c7, rfl, HQ1.out, HQ2.out, HB32.out⟩
end Go.Proofs.YtnpeedmicjeleaaDoor

/- Layer 11 (route): the document's Apply. -/
namespace Go.Proofs.YtnpeedmicjeleaaDoor
open Go.RowKit
set_option linter.unusedVariables false
set_option linter.unusedSimpArgs false
set_option maxRecDepth 4000
end Go.Proofs.YtnpeedmicjeleaaDoor

/- Layer 11 (route): the law RouteApplies. -/
namespace Go.Proofs.YtnpeedmicjeleaaDoor
open Go.RowKit
set_option linter.unusedVariables false
set_option linter.unusedSimpArgs false
set_option maxRecDepth 4000
theorem eqL_self {α : Type} {S : Shape α} (E : ShapeEq S) (l : List α) : E.eqL l l = true := (ShapeEq.eqL_iff E l l).2 rfl
end Go.Proofs.YtnpeedmicjeleaaDoor

/- Plain laws of layer 11 (route): the document's table of the best, put by rising preference. -/
namespace Go.Proofs.YtnpeedmicjeleaaDoor
set_option linter.unusedVariables false
set_option linter.unusedSimpArgs false
set_option maxRecDepth 4000
set_option maxRecDepth 4000
/-- What has been put, behind the preferences below f, the sources above s, and the first i. -/
def doneJ (l : List Rte) (f s : Int) (i j : Nat) : Prop := (rteAt l j).f < f ∨ ((rteAt l j).f = f ∧ (s < (rteAt l j).s ∨ ((rteAt l j).s = s ∧ j < i)))
structure PutI (l : List Rte) (f s : Int) (i : Nat) (t : List Row) : Prop where
  ris : rising t = true
  mem : ∀ r, r ∈ t ↔ ∃ j, j < l.length ∧ doneJ l f s i j ∧ (∀ k, k < l.length → doneJ l f s i k → (rteAt l k).p = (rteAt l j).p → betB (rteAt l k) (rteAt l j) = false) ∧ (rteAt l j).row = r
theorem PutI.cong {l : List Rte} {f s f' s' : Int} {i i' : Nat} {t : List Row} (h : PutI l f s i t) (e : ∀ j, j < l.length → (doneJ l f s i j ↔ doneJ l f' s' i' j)) : PutI l f' s' i' t := by
  refine ⟨h.ris, fun r => (h.mem r).trans ?_⟩
  constructor
  · rintro ⟨j, h1, h2, h3, h4⟩
    exact ⟨j, h1, (e j h1).1 h2, fun k hk hd => h3 k hk ((e k hk).2 hd), h4⟩
  · rintro ⟨j, h1, h2, h3, h4⟩
    exact ⟨j, h1, (e j h1).2 h2, fun k hk hd => h3 k hk ((e k hk).1 hd), h4⟩
theorem fit_iff {x : Rte} (h : x.fit = true) : x.p.right = true ∧ 1 ≤ x.s ∧ x.s ≤ 4 ∧ 0 ≤ x.f ∧ x.f ≤ 255 ∧ 1 ≤ x.h ∧ x.h ≤ 255 := by
  unfold Rte.fit fitB at h
  simp only [Bool.and_eq_true, decide_eq_true_eq] at h
  exact ⟨h.1.1.1.1.1.1, h.1.1.1.1.1.2, h.1.1.1.1.2, h.1.1.1.2, h.1.1.2, h.1.2, h.2⟩
section
variable {l : List Rte} (ho : Okr l) (hr : ribB l = true)
include ho hr
theorem fit_at {j : Nat} (hj : j < l.length) : (rteAt l j).fit = true := (fun _ => rib_fit hr (getD_mem hj)) ho
theorem putI_start : PutI l 0 4 0 [] := by
  refine ⟨rfl, fun r => ⟨fun h => (by cases h), ?_⟩⟩
  rintro ⟨j, hj, hd, _⟩
  have h := fit_iff (fit_at ho hr hj)
  unfold doneJ at hd
  omega
theorem putI_skip {f s : Int} {i : Nat} {t : List Row} (h : PutI l f s i t) (hi : i < l.length) (hn : ¬ ((rteAt l i).f = f ∧ (rteAt l i).s = s)) : PutI l f s (i + 1) t := by
  have _ := ho
  have _ := hr
  refine h.cong fun j hj => ?_
  unfold doneJ
  constructor
  · rintro (k | ⟨k1, k2 | ⟨k2, k3⟩⟩)
    · exact .inl k
    · exact .inr ⟨k1, .inl k2⟩
    · exact .inr ⟨k1, .inr ⟨k2, by omega⟩⟩
  · rintro (k | ⟨k1, k2 | ⟨k2, k3⟩⟩)
    · exact .inl k
    · exact .inr ⟨k1, .inl k2⟩
    · refine .inr ⟨k1, .inr ⟨k2, ?_⟩⟩
      rcases Nat.lt_or_ge j i with h1 | h1
      · exact h1
      · obtain rfl : j = i := by omega
        exact absurd ⟨k1, k2⟩ hn
theorem putI_source {f s : Int} {t : List Row} (h : PutI l f s l.length t) : PutI l f (s - 1) 0 t := by
  have _ := ho
  have _ := hr
  refine h.cong fun j hj => ?_
  unfold doneJ
  constructor
  · rintro (k | ⟨k1, k2 | ⟨k2, k3⟩⟩)
    · exact .inl k
    · exact .inr ⟨k1, .inl (by omega)⟩
    · exact .inr ⟨k1, .inl (by omega)⟩
  · rintro (k | ⟨k1, k2 | ⟨k2, k3⟩⟩)
    · exact .inl k
    · by_cases h2 : s < (rteAt l j).s
      · exact .inr ⟨k1, .inl h2⟩
      · exact .inr ⟨k1, .inr ⟨by omega, hj⟩⟩
    · omega
theorem putI_pref {f : Int} {t : List Row} (h : PutI l f 0 0 t) : PutI l (f + 1) 4 0 t := by
  refine h.cong fun j hj => ?_
  have hf := fit_iff (fit_at ho hr hj)
  unfold doneJ
  constructor
  · rintro (k | ⟨k1, k2 | ⟨k2, k3⟩⟩)
    · exact .inl (by omega)
    · exact .inl (by omega)
    · omega
  · rintro (k | ⟨k1, k2 | ⟨k2, k3⟩⟩)
    · by_cases h2 : (rteAt l j).f < f
      · exact .inl h2
      · exact .inr ⟨by omega, .inl (by omega)⟩
    · omega
    · omega
theorem fits_put {f s : Int} {i : Nat} {t : List Row} (h : PutI l f s i t) : Oks t ∧ Fits t := by
  have _ := ho
  have _ := hr
  have h1 : Oks t := fun r hm => by
    obtain ⟨j, hj, _, _, rfl⟩ := (h.mem r).1 hm
    have hx := ho _ (getD_mem (z := rteZ) hj)
    exact ⟨hx.p, hx.h⟩
  exact ⟨h1, fun r hm => (h1 r hm).fits⟩
theorem putI_put {f s : Int} {i : Nat} {t : List Row} (h : PutI l f s i t) (hi : i < l.length) (he : (rteAt l i).f = f ∧ (rteAt l i).s = s) : PutI l f s (i + 1) (setT t (rteAt l i).p (rteAt l i).h) := by
  have hft := (fits_put ho hr h).2
  have hx := ho _ (getD_mem (z := rteZ) hi)
  have hp : B16 (rteAt l i).p.l := hx.fits
  have hd : ∀ j, j < l.length → (doneJ l f s (i + 1) j ↔ doneJ l f s i j ∨ j = i) := fun j hj => by
    unfold doneJ
    constructor
    · rintro (k | ⟨k1, k2 | ⟨k2, k3⟩⟩)
      · exact .inl (.inl k)
      · exact .inl (.inr ⟨k1, .inl k2⟩)
      · rcases Nat.lt_or_ge j i with h1 | h1
        · exact .inl (.inr ⟨k1, .inr ⟨k2, h1⟩⟩)
        · exact .inr (by omega)
    · rintro ((k | ⟨k1, k2 | ⟨k2, k3⟩⟩) | rfl)
      · exact .inl k
      · exact .inr ⟨k1, .inl k2⟩
      · exact .inr ⟨k1, .inr ⟨k2, by omega⟩⟩
      · exact .inr ⟨he.1, .inr ⟨he.2, by omega⟩⟩
  -- whatever was put of its prefix is worse
  have hw : ∀ k, k < l.length → doneJ l f s i k → (rteAt l k).p = (rteAt l i).p → betB (rteAt l i) (rteAt l k) = true ∧ betB (rteAt l k) (rteAt l i) = false := fun k hk hdk hpk => by
    have hne : k ≠ i := fun e => by
      subst e
      unfold doneJ at hdk
      omega
    have hs : (rteAt l k).s ≠ (rteAt l i).s := fun e => by
      have hkk : (rteAt l k).key = (rteAt l i).key := (key_iff _ _ (ho _ (getD_mem (z := rteZ) hk)).fits hx.fits).2 ⟨hpk, e⟩
      rcases Nat.lt_or_ge k i with h1 | h1
      · have h2 := risK_lt (rib_to hr).2.1 h1 hi
        unfold cR at h2
        rw [cK_congL hkk] at h2
        exact cK_irrefl _ h2
      · have h2 := risK_lt (rib_to hr).2.1 (show i < k by omega) hk
        unfold cR at h2
        rw [cK_congR hkk] at h2
        exact cK_irrefl _ h2
    refine ⟨(betB_iff _ _).2 ?_, ?_⟩
    · unfold doneJ at hdk
      omega
    · rw [Bool.eq_false_iff, ne_eq, betB_iff]
      unfold doneJ at hdk
      omega
  have hself : betB (rteAt l i) (rteAt l i) = false := by
    rw [Bool.eq_false_iff, ne_eq, betB_iff]
    omega
  refine ⟨rising_setT hp hft h.ris, fun r => ?_⟩
  rw [mem_setT hp hft h.ris]
  constructor
  · rintro (rfl | ⟨hm, hne⟩)
    · refine ⟨i, hi, (hd i hi).2 (.inr rfl), fun k hk hdk hpk => ?_, rfl⟩
      rcases (hd k hk).1 hdk with h1 | rfl
      · exact (hw k hk h1 hpk).2
      · exact hself
    · obtain ⟨j, hj, h1, h2, rfl⟩ := (h.mem r).1 hm
      refine ⟨j, hj, (hd j hj).2 (.inl h1), fun k hk hdk hpk => ?_, rfl⟩
      rcases (hd k hk).1 hdk with h3 | rfl
      · exact h2 k hk h3 hpk
      · exact absurd hpk.symm hne
  · rintro ⟨j, hj, h1, h2, rfl⟩
    rcases (hd j hj).1 h1 with h3 | rfl
    · refine .inr ⟨(h.mem _).2 ⟨j, hj, h3, fun k hk hdk hpk => h2 k hk ((hd k hk).2 (.inl hdk)) hpk, rfl⟩, fun e => ?_⟩
      have h4 := h2 i hi ((hd i hi).2 (.inr rfl)) (Eq.symm e)
      rw [(hw j hj h3 e).1] at h4
      cases h4
    · exact .inl rfl
theorem putI_end {t : List Row} (h : PutI l 256 4 0 t) : t = bestT l := by
  refine rising_ext h.ris (rising_pw (by rw [← bk_all]; exact best_pw (fun r h => (ho r h).fits) (rib_to hr).2.1 _)) fun r => ?_
  rw [h.mem]
  have hall : ∀ j, j < l.length → doneJ l 256 4 0 j := fun j hj => by
    have hf := fit_iff (fit_at ho hr hj)
    exact .inl (by omega)
  unfold bestT
  rw [List.mem_map]
  constructor
  · rintro ⟨j, hj, _, h2, rfl⟩
    refine ⟨_, List.mem_filter.2 ⟨getD_mem (z := rteZ) hj, unb_iff.2 fun y hy hp => ?_⟩, rfl⟩
    obtain ⟨k, hk, rfl⟩ := mem_getD (z := rteZ) hy
    exact h2 k hk (hall k hk) hp
  · rintro ⟨x, hx, rfl⟩
    obtain ⟨h1, h2⟩ := List.mem_filter.1 hx
    obtain ⟨j, hj, rfl⟩ := mem_getD (z := rteZ) h1
    exact ⟨j, hj, hall j hj, fun k hk _ hp => unb_iff.1 h2 _ (getD_mem hk) hp, rfl⟩
theorem putI_len {f s : Int} {i : Nat} {t : List Row} (h : PutI l f s i t) : t.length ≤ 160 := by
  have _ := ho
  have _ := hr
  have h1 : (t.map (·.p)).Nodup := by
    have : t.Pairwise (fun a b => a.p.cmp b.p < 0) := by
      have hris := h.ris
      clear h
      induction t with
      | nil => exact .nil
      | cons a t ih => exact List.pairwise_cons.2 ⟨rising_head hris, ih (rising_cons hris)⟩
    rw [List.Nodup, List.pairwise_map]
    refine this.imp fun {a b} h e => ?_
    rw [e] at h
    exact cmp_irrefl _ h
  have h2 := len_sub (t := l.map (·.p)) h1 (fun p hp => by
    obtain ⟨r, hm, rfl⟩ := List.mem_map.1 hp
    obtain ⟨j, hj, _, _, rfl⟩ := (h.mem r).1 hm
    exact List.mem_map.2 ⟨_, getD_mem (z := rteZ) hj, rfl⟩)
  rw [List.length_map, List.length_map] at h2
  have := (rib_to hr).1
  omega
end
end Go.Proofs.YtnpeedmicjeleaaDoor
