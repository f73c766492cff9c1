/- Layer 9 (table): Encode, and the document's bytes. -/
import Derived.Test.YtihfaknflfmohaaDoorTableBytesA
import Derived.Test.YtihfaknflfmohaaDoorTableBytesC
import Derived.Test.YtihfaknflfmohaaDoorTableBytesD
namespace Go.Proofs.YtihfaknflfmohaaDoor
open Go.RowKit
set_option linter.unusedVariables false
set_option linter.unusedSimpArgs false
set_option maxRecDepth 4000
theorem encR_bytes {r : Row} (hf : r.fits) : Bytes (encR r) := by
  intro x hx
  unfold encR encP at hx
  simp only [List.cons_append, List.mem_cons, List.mem_append, List.not_mem_nil, or_false] at hx
  rcases hx with rfl | rfl | hx | rfl
  · omega
  · omega
  · exact hf.rng x (List.mem_of_mem_take hx)
  · omega
theorem encR_len {r : Row} (hf : r.fits) (hr : r.p.right = true) : (encR r).length ≤ 19 := by
  have h1 := encP_len hf hr
  obtain ⟨b, hb, _, hb2⟩ := right_b hr
  have h2 := fullB_le hb2
  unfold encR
  rw [List.length_append, h1, hb]
  simp
  omega
theorem encRs_take {t : List Row} {i : Nat} (hi : i < t.length) : encRs (t.take (i + 1)) = encRs (t.take i) ++ encP (rowAt t i).p ++ [(rowAt t i).h % 256] := by
  rw [show t.take (i + 1) = t.take i ++ [rowAt t i] from Shape.take_succ (S := rowK) hi, encRs_snoc]
  simp [encR]
theorem blk_own2 {w w1 : World} {g : Nat} {o : Obj} {A : Option Addr} {n c : Nat} (h : w.heap[g]? = some o) (hg : w.grownBy w1 ((Value.slice A n c).ownBlock)) (ha : ∀ ad, A = some ad → ad.block ≠ g) : w1.heap[g]? = some o :=
  blk_grown h hg (fun e => by
    obtain ⟨ad, e1, e2⟩ := own_of e.symm
    exact ha ad e1 e2)
def encTE (t : List Row) : List Int := if tabB t then encT t else []
set_option maxHeartbeats 4000000 in
theorem tencode_any (A : Option Addr) (n c : Nat) (t : List Row) (w : World) (hL : Laid w) (ht : RT w A n c t) (hn : n ≤ 100000) : Calls Tryd.prog 51 #[.agg (tabV A n c)] w fun e w' => ∃ A' n' c', e = .returned (.tuple #[.slice A' n' c', .int .i64 (errT t)]) ∧ OB w' w.heap.size A' n' c' (encTE t) ∧ Below w.heap.size w w' := by
  have hblk1 := blk_new w (.cells (tabV A n c) 28)
  have hbel1 : Below w.heap.size w (w.alloc (.cells (tabV A n c) 28)) := below_alloc (Below.refl _ _) _
  have HP1 := Lib.hid (tab_at hblk1)
  have HBK1 := Lib.hid hblk1
  have HBE := Lib.hid hbel1
  have HL := Lib.hid (hL.below HBE.out)
  obtain ⟨cs1, hcs1⟩ : ∃ cs, tabV A n c = cs := ⟨_, rfl⟩
  simp only [hcs1] at HBE HL HP1 HBK1 ⊢
  have HC1 := Lib.hid hcs1
  clear hL hcs1 hblk1 hbel1
  have HT := Lib.hid (ht.below HBE.out)
  have hl1 := (HP1.out.all _ (Below.refl _ _)).1
  rw [HC1.out] at hl1
  clear ht
  go_enter Tryd.func51, Tryd.ntmps51
  go_wp2_with (first | ((with_reducible show wpList _ _ _ (Oper.mk _ (Op.load _ _) _ _ _ _ :: _) _ _); refine wpList_load_g hl1 _ rfl rfl (by go_simp) ?_))
  have hch := tcheck_any A n c t _ HL.out HT.out hn
  rw [HC1.out] at hch
  refine hch.mono ?_
  clear hch hl1
  rintro e w1 ⟨rfl, hb1⟩
  have HB1 := Lib.hid hb1
  clear hb1
  cases hR : tabB t with
  | false =>
    have HE := Lib.hid (And.intro (show encTE t = [] by unfold encTE; rw [hR]; rfl) (errT_false hR))
    rw [errT_false hR]
    clear hR
    go_wp2
    go_ret2
    rw [HE.out.1, HE.out.2]
    exact ⟨_, _, _, rfl, OB.nil _ _, below_step HBE.out HB1.out⟩
  | true =>
    have HE := Lib.hid (And.intro (show encTE t = (n : Int) :: encRs t by
      unfold encTE encT
      have := (tabB_to hR).1
      rw [hR, if_pos rfl, HT.out.len, show ((n : Int) % 256) = n by rw [HT.out.len] at this; omega]) (errT_true hR))
    have HALL := Lib.hid (tabB_to hR).2.1
    have hn40 : n ≤ 40 := by have := (tabB_to hR).1; rw [HT.out.len] at this; exact this
    rw [errT_true hR]
    clear hR
    have hl1 := (HP1.out.all w1 HB1.out).2
    have hl2 := (HP1.out.all (w1.alloc (.cells #[.int .u8 (n : Int)] 5)) (below_step HB1.out (below_alloc (Below.refl _ _) _))).2
    have HO0 := Lib.hid (OB.one w1 (n : Int) (by omega) w1.heap.size (Nat.le_refl _))
    go_wp2_with (first | ((with_reducible show wpList _ _ _ (Oper.mk _ (Op.load _ _) _ _ _ _ :: _) _ _); refine wpList_load_g hl1 _ rfl rfl (by go_simp) ?_) | ((with_reducible show wpList _ _ _ (Oper.mk _ (Op.load _ _) _ _ _ _ :: _) _ _); refine wpList_load_g hl2 _ rfl rfl (by go_simp) ?_))
    clear hl1 hl2
    go_loopw [5, 23] (fun y x wr => ∃ (i : Nat) (A1 : Option Addr) (n1 c1 : Nat), x = .int .i64 i ∧ y = .slice A1 n1 c1 ∧ Hid (i ≤ n ∧ n1 ≤ 1 + 19 * i ∧ OB wr w1.heap.size A1 n1 c1 ((n : Int) :: encRs (t.take i)) ∧ Below w1.heap.size w1 wr)) (fun _ x _ => n - (intOf x).toNat)
    case atStart => exact ⟨0, _, 1, 1, rfl, rfl, Nat.zero_le _, by omega, HO0.out, below_alloc (Below.refl _ _) _⟩
    case round =>
      obtain ⟨i, A1, n1, c1, rfl, rfl, HH⟩ := hrel
      have hn1 := HH.out.2.1
      have HBR := Lib.hid (below_step HB1.out HH.out.2.2.2)
      by_cases hlt : i < n
      · have hlt' : (i : Int) < n := by omega
        obtain ⟨b, o, rfl, hc⟩ := RT.at_ HT.out (by omega)
        have HC3 := Lib.hid (hc i hlt)
        have HF := Lib.hid (RT.fits_at HT.out hlt)
        have hilt : i < t.length := by rw [HT.out.len]; exact hlt
        have hrr := ((okB_iff _).1 (HALL.out _ (row_mem hilt))).1
        have HTS := Lib.hid (encRs_take hilt)
        have hrow := (rowLd_of HF.out (HC3.out.below HBR.out)).row
        have HRR := Lib.hid hrr
        clear hc hilt hrr
        go_wp2_with (first | ((with_reducible show wpList _ _ _ (Oper.mk _ (Op.load _ _) _ _ _ _ :: _) _ _); refine wpList_load_g hrow _ rfl rfl (by go_simp) ?_) | ((with_reducible show wpList _ _ _ (Oper.mk _ (Op.store _ _ _) _ _ _ _ :: _) _ _); refine wpList_store_blk (blk_new wr _) 38 0 (rowV (rowAt t i)) (store_row_fit HF.out rfl) (info_row HF.out) (rowV_one _) _ _ rfl rfl rfl rfl ?_; intro w3 hg9 hs9 hb9; rw [splice_row HF.out rfl] at hb9; have H3 := Lib.hid (And.intro hg9 hb9); clear hg9 hs9 hb9) | ((with_reducible show wpList _ _ _ (Oper.mk _ (Op.load _ _) _ _ _ _ :: _) _ _); refine wpList_load_g (((row_at HF.out H3.out.2).all _ (Below.refl _ _)).pfx) _ rfl rfl (by go_simp) ?_))
        have HB3 := Lib.hid (below_grown (below_alloc (Below.refl wr.heap.size wr) (.cells (rowV rowZ) 38)) H3.out.1 (Nat.le_refl _))
        refine (encode_any (rowAt t i).p w3 (HL.out.below (below_step HBR.out HB3.out)) HF.out).mono ?_
        rw [encPE_yes HRR.out]
        rintro e w4 ⟨A2, n2, c2, rfl, hO2, hb4⟩
        have HB4 := Lib.hid (below_step HB3.out hb4)
        have HR4 := Lib.hid (blk_below H3.out.2 hb4)
        have HO4 := Lib.hid (HH.out.2.2.1.below HB4.out)
        have HE4 := Lib.hid hO2.reads
        have HBW := Lib.hid (below_step HH.out.2.2.2 HB4.out)
        have hA1 := HH.out.2.2.1.lt
        have hA1b := HH.out.2.2.1.base_
        have hn2 : n2 + 1 ≤ 19 := by
          have h1 := hO2.len
          have h2 := encR_len HF.out HRR.out
          unfold encR at h2
          rw [List.length_append] at h2
          simp at h2
          omega
        have hg4 := blk_lt HR4.out
        have hs1 := HH.out.2.2.2.size
        have hsw := HBW.out.size
        clear hO2 hb4 hrow H3 HB3
        go_wp2_with fail
        have hn40' : n1 ≤ 761 := by omega
        refine wp_region_fork ((fun w0 => w0.heap[wr.heap.size]? = some (.cells (rowV (rowAt t i)) 38 (0, 0)))) (OrdT.fork [0, 1, 3, 4, 5] 2 6 (OrdT.lin [6, 7, 8]) (OrdT.lin [2, 7, 8])) [(0, 0), (1, 0), (2, 2), (3, 0), (4, 0), (5, 0), (6, 2), (7, 2), (8, 0)] (by kernel_rfl) (by kernel_rfl) (HR4.out) ?_
        simp only [wpF]
        iterate 3 (refine wpO_step0 rfl rfl (fun K hK => ?_); go_simp; refine hK _ _ ?_; clear hK K)
        refine wpO_loadW (t := 3) (ad := ⟨wr.heap.size, 18, none⟩) rfl rfl ?hw rfl rfl ((fun w0 hS => ((row_at HF.out hS).all _ (Below.refl _ _)).hop)) ?_
        case hw => go_simp
        iterate 1 (refine wpO_step0 rfl rfl (fun K hK => ?_); go_simp; refine hK _ _ ?_; clear hK K)
        have hy0 : 0 ≤ (rowAt t i).h % 256 := by omega
        have hy1 : (rowAt t i).h % 256 < 256 := by omega
        refine wpO_nil ⟨?_, ?_⟩
        · refine wpO_step2 rfl rfl (HR4.out) (fun K hK => ?_)
          rw [if_pos (show Region.wanted _ _ = true from rfl)]
          refine oper_append_bytes (.tmp 33) (.tmp 34) rfl rfl rfl (HO4.out.below (below_drew1 _)) (HE4.out.below (below_drew1 _)) hsw (by omega) ?_
          intro A5 c5 w5 h1 h2 h3
          have hR5 := blk_own2 (show (w4.drew).heap[wr.heap.size]? = _ from HR4.out) h2 (fun ad e => by have := hA1 ad e; omega)
          have hb5 : Below w1.heap.size w1 w5 := below_own (below_step HBW.out (below_drew1 _)) h2 hA1b
          have hA5 : ∀ ad, A5 = some ad → ad.block ≠ wr.heap.size := fun ad e => by
            rcases h3 with h | h
            · have := hA1 ad (h ▸ e); omega
            · have := h ad e
              have h4 : wr.heap.size < w4.drew.heap.size := hg4
              omega
          have H5 := Lib.hid (And.intro h1 (And.intro hb5 (And.intro hR5 hA5)))
          have hs5 := hb5.size
          clear h1 h2 h3 hR5 hb5 hA5
          refine hK _ _ ⟨H5.out.2.2.1, ?_⟩
          clear hK K
          refine wpO_nil ?_
          refine wpO_step2 rfl rfl (H5.out.2.2.1) (fun K hK => ?_)
          go_simp
          have HA5 := Lib.hid (below_alloc (Below.refl w5.heap.size w5) (.cells #[.int .u8 ((rowAt t i).h % 256)] 5))
          refine hK _ _ ⟨blk_below H5.out.2.2.1 HA5.out, ?_⟩
          clear hK K
          refine wpO_step2 rfl rfl (blk_below H5.out.2.2.1 HA5.out) (fun K hK => ?_)
          rw [if_pos (show Region.wanted _ _ = true from rfl)]
          refine oper_append_bytes (.tmp 35) (.tmp 39) rfl rfl rfl (H5.out.1.below HA5.out) (OB.one w5 ((rowAt t i).h % 256) ⟨hy0, hy1⟩ w1.heap.size hs5).reads (by simp; omega) (by omega) ?_
          intro A6 c6 w6 h1 h2 h3
          have H6 := Lib.hid (And.intro h1 (below_own (below_step H5.out.2.1 HA5.out) h2 H5.out.1.base_))
          have hR6 := blk_own2 (blk_below H5.out.2.2.1 HA5.out) h2 H5.out.2.2.2
          clear h1 h2 h3
          refine hK _ _ ⟨hR6, ?_⟩
          clear hK K
          iterate 1 (refine wpO_step0 rfl rfl (fun K hK => ?_); go_simp; refine hK _ _ ?_; clear hK K)
          refine wpO_nil ?_
          go_wp2_with fail
          go_roundw
          case measure => simp [intOf]; omega
          case rel => exact ⟨i + 1, A6, n1 + n2 + 1, c6, by go_num, rfl, by omega, by omega, by rw [HTS.out]; exact H6.out.1, H6.out.2⟩
        · refine wpO_step2 rfl rfl (HR4.out) (fun K hK => ?_)
          go_simp
          have HA5 := Lib.hid (below_step (below_alloc (Below.refl w4.heap.size w4) (.cells #[.int .u8 ((rowAt t i).h % 256)] 5)) (below_drew1 _))
          have HR5 := Lib.hid (blk_below HR4.out HA5.out)
          have HY := Lib.hid ((OB.one w4 ((rowAt t i).h % 256) ⟨hy0, hy1⟩ 0 (Nat.zero_le _)).below (below_drew1 _))
          refine hK _ _ ⟨HR5.out, ?_⟩
          clear hK K
          refine wpO_nil ?_
          refine wpO_step2 rfl rfl (HR5.out) (fun K hK => ?_)
          rw [if_pos (show Region.wanted _ _ = true from rfl)]
          refine oper_append_bytes (.tmp 33) (.tmp 34) rfl rfl rfl (HO4.out.below HA5.out) (HE4.out.below HA5.out) (Nat.le_trans hsw HA5.out.size) (by omega) ?_
          intro A5 c5 w5 h1 h2 h3
          have hR5 := blk_own2 HR5.out h2 (fun ad e => by have := hA1 ad e; omega)
          have hb5 : Below w1.heap.size w1 w5 := below_own (below_step HBW.out HA5.out) h2 hA1b
          have hA5 : ∀ ad, A5 = some ad → ad.block ≠ wr.heap.size := fun ad e => by
            rcases h3 with h | h
            · have := hA1 ad (h ▸ e); omega
            · exact Nat.ne_of_gt (Nat.lt_of_lt_of_le hg4 (Nat.le_trans HA5.out.size (h ad e)))
          have hY5 := HY.out.reads.grown h2 (fun ad e h => by
            injection e with e
            subst e
            obtain ⟨ad2, e1, e2⟩ := own_of h.symm
            have := hA1 ad2 e1
            simp only at e2
            omega)
          have H5 := Lib.hid (And.intro h1 (And.intro hb5 (And.intro hR5 hA5)))
          have HY5 := Lib.hid hY5
          have hs5 := hb5.size
          clear h1 h2 h3 hR5 hb5 hA5 hY5
          refine hK _ _ ⟨H5.out.2.2.1, ?_⟩
          clear hK K
          refine wpO_step2 rfl rfl (H5.out.2.2.1) (fun K hK => ?_)
          rw [if_pos (show Region.wanted _ _ = true from rfl)]
          refine oper_append_bytes (.tmp 35) (.tmp 39) rfl rfl rfl H5.out.1 HY5.out hs5 (by omega) ?_
          intro A6 c6 w6 h1 h2 h3
          have H6 := Lib.hid (And.intro h1 (below_own H5.out.2.1 h2 H5.out.1.base_))
          have hR6 := blk_own2 H5.out.2.2.1 h2 H5.out.2.2.2
          clear h1 h2 h3
          refine hK _ _ ⟨hR6, ?_⟩
          clear hK K
          iterate 1 (refine wpO_step0 rfl rfl (fun K hK => ?_); go_simp; refine hK _ _ ?_; clear hK K)
          refine wpO_nil ?_
          go_wp2_with fail
          go_roundw
          case measure => simp [intOf]; omega
          case rel => exact ⟨i + 1, A6, n1 + n2 + 1, c6, by go_num, rfl, by omega, by omega, by rw [HTS.out]; exact H6.out.1, H6.out.2⟩
      · have hlt' : decide (i < n) = false := decide_eq_false hlt
        have htk : t.take i = t := List.take_of_length_le (by rw [HT.out.len]; omega)
        have hO := HH.out.2.2.1
        rw [htk] at hO
        have HO := Lib.hid hO
        clear hlt htk hO
        go_wp2
        go_ret2
        rw [HE.out.1, HE.out.2]
        have hs := (below_step HBE.out HB1.out).size
        exact ⟨_, _, _, rfl, HO.out.lower hs, below_step HBE.out HBR.out⟩
end Go.Proofs.YtihfaknflfmohaaDoor

/- Layer 9 (table): Decode. -/
namespace Go.Proofs.YtihfaknflfmohaaDoor
open Go.RowKit
set_option linter.unusedVariables false
set_option linter.unusedSimpArgs false
set_option maxRecDepth 4000
theorem u8_rd {lo : Nat} (g : Nat) (xs : List Int) (w : World) (hr : Rdr w lo g xs 0) :
    Calls Tryd.prog 89 #[.pointer (some ⟨g, 0, none⟩)] w fun e w' => e = .returned (.int .u8 (rd xs 0)) ∧ Rdr w' lo g (xs.drop 1) (if xs.length = 0 then 7 else 0) ∧ w.grownBy w' (some g) := by
  cases xs with
  | nil => exact u8_none g w hr
  | cons x r => exact u8_some g x r w hr
/-- What Decode bears: its result's cell, its table's block, what it made. -/
structure TD (w wr : World) (gt : Nat) (A : Option Addr) (n c : Nat) (t : List Row) : Prop where
  zero : wr.heap[w.heap.size]? = some (.cells (tabV none 0 0) 28 (0, 0))
  tab : wr.heap[gt]? = some (.cells (tabV A n c) 28 (0, 0))
  own : OT wr (gt + 1) A n c t
  below : Below w.heap.size w wr
theorem TD.step {w wr w2 : World} {gt : Nat} {A : Option Addr} {n c : Nat} {t : List Row} (h : TD w wr gt A n c t) (hb : Below wr.heap.size wr w2) : TD w w2 gt A n c t :=
  ⟨blk_below h.zero hb, blk_below h.tab hb, h.own.below hb, below_step h.below hb⟩
theorem TD.grow {w wr w2 : World} {g gt : Nat} {A : Option Addr} {n c : Nat} {t : List Row} (h : TD w wr gt A n c t) (hg : wr.grownBy w2 (some g)) (h1 : w.heap.size < g) (h2 : g < gt) : TD w w2 gt A n c t :=
  ⟨blk_grown h.zero hg (fun e => by injection e with e; omega), blk_grown h.tab hg (fun e => by injection e with e; omega), h.own.grown hg (fun ad e hh => by have := h.own.base_ ad e; injection hh with hh; omega), below_grown h.below hg (by omega)⟩
theorem TD.push {w W w9 w10 : World} {gt : Nat} {A : Option Addr} {n c : Nat} {t : List Row} {A' : Option Addr} {n' c' : Nat} {t' : List Row} (h : TD w W gt A n c t) (h2 : W.grownBy w9 ((Value.slice A n c).ownBlock)) (h3 : w9.grownBy w10 (some gt)) (ho : OT w9 (gt + 1) A' n' c' t') (ht : w10.heap[gt]? = some (.cells (tabV A' n' c') 28 (0, 0))) (hz : w.heap.size < gt) : TD w w10 gt A' n' c' t' :=
  ⟨blk_grown (blk_own2 h.zero h2 (fun ad e => by have := h.own.base_ ad e; omega)) h3 (fun e => by injection e with e; omega), ht, ho.grown h3 (fun ad e hh => by have := ho.base_ ad e; injection hh with hh; omega), below_grown (below_own h.below h2 (fun ad e => by have := h.own.base_ ad e; omega)) h3 (by omega)⟩
theorem rd_drop2 (xs : List Int) (q : Nat) : rd (xs.drop q) 0 = rd xs (q : Int) := by
  unfold rd
  simp [List.getD_eq_getElem?_getD]
theorem decT_none {xs : List Int} (h : decTE xs ≠ 0) : decTL xs = [] := by unfold decTL; rw [if_neg h]
theorem decAcc_7 {k : Nat} {acc : List Row} {ys : List Int} (hk : 0 < k) (h : decPE ys = 7) : (decAcc k acc ys).1 = 7 := by
  cases k with
  | zero => omega
  | succ k => rw [decAcc, if_pos h]
theorem decAcc_bad {k : Nat} {acc : List Row} {ys : List Int} (hk : 0 < k) (h : decPE ys ≠ 7) (h0 : decPE ys ≠ 0) : (decAcc k acc ys).1 = 190 := by
  cases k with
  | zero => omega
  | succ k => rw [decAcc, if_neg h, if_pos h0]
theorem decAcc_short {k : Nat} {acc : List Row} {ys : List Int} {m : Nat} (hk : 0 < k) (h0 : decPE ys = 0) (hm : decPN ys = m) (hl : ys.length ≤ m) : (decAcc k acc ys).1 = 7 := by
  cases k with
  | zero => omega
  | succ k => rw [decAcc, if_neg (by omega), if_neg (by simp [h0]), if_pos (by rw [hm]; simpa using hl)]
theorem decAcc_step {K k : Nat} {acc : List Row} {ys : List Int} {m : Nat} (hk : k < K) (h0 : decPE ys = 0) (hm : decPN ys = m) (hl : m < ys.length) : decAcc (K - k) acc ys = decAcc (K - (k + 1)) (acc ++ [⟨decP ys, rd ys m⟩]) (ys.drop (m + 1)) := by
  rw [show K - k = (K - (k + 1)) + 1 by omega, decAcc, if_neg (by omega), if_neg (by simp [h0]), if_neg (by rw [hm]; simpa using hl), hm]
  rfl
theorem decTE_of {xs : List Int} {e : Int} (hx : xs.length ≠ 0) (h : (decTR xs).1 = e) (he : e ≠ 0) : decTE xs = e := by
  unfold decTE
  rw [if_neg hx, if_pos (by rw [h]; exact he), h]
theorem decP_16 {xs : List Int} (hx : Bytes xs) : B16 (decP xs).l := by
  by_cases h : decPE xs = 0
  · exact (enc_dec hx h).2.1
  · rw [(decP_no h).1]; exact zero16_B
theorem dec_nat {xs : List Int} (hx : Bytes xs) (h : decPE xs = 0) : ∃ n : Nat, decPN xs = n ∧ n ≤ xs.length := by
  obtain ⟨-, -, n, h1, h2, -⟩ := enc_dec hx h
  exact ⟨n, h1, h2⟩
set_option maxHeartbeats 8000000 in
theorem tdecode_any (A : Option Addr) (n c : Nat) (xs : List Int) (w : World) (hL : Laid w) (hr : RB w A n c xs) (hn : n ≤ 100000) : Calls Tryd.prog 49 #[.slice A n c] w fun e w' => ∃ A' n' c', e = .returned (.tuple #[.agg (tabV A' n' c'), .int .i64 (decTE xs)]) ∧ OT w' w.heap.size A' n' c' (decTL xs) ∧ Below w.heap.size w w' := by
  have HLEN := Lib.hid hr.len
  have HZ := Lib.hid (blk_new w (.cells (tabV none 0 0) 28))
  have HBZ : Hid (Below w.heap.size w (w.alloc (.cells (tabV none 0 0) 28))) := below_alloc (Below.refl _ _) _
  have HR0 := Lib.hid hr
  have HR := Lib.hid (hr.below HBZ.out)
  have HL := Lib.hid hL
  have hbn := run_build_tab_nil
  clear hr hL
  go_enter Tryd.func49, Tryd.ntmps49
  go_wp2_with fail
  refine (read_any A n c xs _ HR.out (by omega)).mono ?_
  rintro e w1 ⟨g, rfl, hg, hrd, hb1⟩
  simp at hg
  have hglt := hrd.lt
  have HBY := Lib.hid hrd.byte
  obtain ⟨gt, hgt⟩ : ∃ gt, w1.heap.size = gt := ⟨_, rfl⟩
  have hZ1 := blk_below HZ.out hb1
  have HD1 : Hid (TD w (w1.alloc (.cells (tabV none 0 0) 28)) gt none 0 0 []) :=
    ⟨blk_below hZ1 (below_alloc (Below.refl _ _) _), hgt ▸ blk_new _ _, OS.nil _ _ _, below_alloc (below_step HBZ.out hb1) _⟩
  have HRD1 := Lib.hid (hrd.below (below_alloc (Below.refl _ _) (.cells (tabV none 0 0) 28)))
  have hggt : g < gt := hgt ▸ hglt
  have hg0 : w.heap.size < g := by omega
  have HGT := Lib.hid hgt
  obtain ⟨lo, hlo⟩ : ∃ lo, (w.alloc (.cells (tabV none 0 0) 28)).heap.size = lo := ⟨_, rfl⟩
  rw [hlo] at HRD1
  clear hrd hb1 hZ1 HR HZ HBZ hglt hg hlo
  go_wp2_with fail
  refine (u8_rd g xs _ HRD1.out).mono ?_
  rintro e w2 ⟨rfl, hr2, hg2⟩
  have HD2 := Lib.hid (HD1.out.grow hg2 hg0 hggt)
  have HR2 := Lib.hid hr2
  have hrx := HBY.out.getD 0
  obtain ⟨K, hK⟩ := Int.eq_ofNat_of_zero_le hrx.1
  have hK1 : K < 256 := by have h1 : rd xs 0 < 256 := hrx.2; have h2 : rd xs 0 = K := hK; omega
  have hK' : rd xs 0 = K := hK
  rw [hK']
  have HK := Lib.hid hK'
  obtain ⟨e0, he0⟩ : ∃ e0 : Int, (if xs.length = 0 then (7 : Int) else 0) = e0 := ⟨_, rfl⟩
  rw [he0] at HR2
  have HE0 := Lib.hid he0
  have HTR : Hid (decTR xs = decAcc K [] (xs.drop 1)) := Lib.hid (by unfold decTR; rw [hK']; rfl)
  have HK0 : Hid (0 < K → e0 = 0 ∧ xs.length ≠ 0) := Lib.hid (fun hh => by
    have : xs.length ≠ 0 := fun h0 => by
      rw [List.length_eq_zero_iff.1 h0] at hK'
      have : (0 : Int) = K := hK'
      omega
    exact ⟨by rw [← he0, if_neg this], this⟩)
  clear hr2 hg2 HD1 HRD1 hrx hK hK' he0
  go_wp2_with fail
  go_loopw [14] (fun x wr => ∃ (k m : Nat) (A1 : Option Addr) (c1 : Nat) (acc : List Row), x = .int .i64 k ∧ Hid (k ≤ K ∧ (0 < K → m ≤ n) ∧ TD w wr gt A1 k c1 acc ∧ Rdr wr lo g (xs.drop m) e0 ∧ decTR xs = decAcc (K - k) acc (xs.drop m))) (fun x _ => K - (intOf x).toNat)
  case atStart =>
    exact ⟨0, 1, none, 0, [], rfl, Nat.zero_le _, fun hh => by have := (HK0.out hh).2; have := HLEN.out; omega, HD2.out, HR2.out, HTR.out⟩
  case round =>
    obtain ⟨k, m, A1, c1, acc, rfl, HH⟩ := hrel
    clear HD2 HR2
    have HD := Lib.hid HH.out.2.2.1
    by_cases hlt : k < K
    · have hlt' : (k : Int) < K := by omega
      have hmn := HH.out.2.1 (by omega)
      have HX := Lib.hid (HK0.out (by omega))
      have hrr := HH.out.2.2.2.1
      rw [HX.out.1] at hrr
      obtain ⟨ys, hys⟩ : ∃ ys, xs.drop m = ys := ⟨_, rfl⟩
      obtain ⟨L, hL⟩ : ∃ L, ys.length = L := ⟨_, rfl⟩
      have hmL : m + L = n := by rw [← hL, ← hys, List.length_drop, HLEN.out]; omega
      have HTE := Lib.hid HH.out.2.2.2.2
      rw [hys] at hrr HTE
      have HRR := Lib.hid hrr
      have HYS := Lib.hid (And.intro hys hL)
      have hsub : IntKind.i64.wrap ((n : Int) - (L : Int)) = m := by rw [IntWalk.i64_in _ (by omega)]; omega
      obtain ⟨A2, hsl, hsr, -⟩ := cut_bytes A n c m (by omega) (by omega)
      rw [Int.toNat_natCast] at hsl hsr
      have HRB := Lib.hid (hsr wr _ (HR0.out.below HD.out.below))
      rw [hys] at HRB
      have hlt2 := hlt
      clear hys hL hsr hrr HH hlt
      go_wp2_with fail
      refine (left_any g ys 0 wr HRR.out).mono ?_
      rw [HYS.out.2]
      rintro e w3 ⟨rfl, rfl⟩
      go_wp2_with fail
      have hp16 : B16 (decP ys).l := decP_16 (HYS.out.1 ▸ HBY.out.drop m)
      refine (decode_any A2 (n - m) (c - m) ys wr (HL.out.below HD.out.below) HRB.out (by omega)).mono ?_
      rintro e w4 ⟨rfl, hb4⟩
      have HD4 := Lib.hid (HD.out.step hb4)
      have HR4 := Lib.hid (HRR.out.below hb4)
      have HLT4 := Lib.hid (Nat.lt_of_lt_of_le (blk_lt HD.out.tab) hb4.size)
      have HAL := Lib.hid (fun ad e => Nat.lt_of_lt_of_le (HD.out.own.lt ad e) hb4.size)
      have HP4 := Lib.hid (blk_new w4 (.cells (pfxV 0 zero16 0) 36))
      obtain ⟨pp, hpp⟩ : ∃ pp, decP ys = pp := ⟨_, rfl⟩
      obtain ⟨ee, hee⟩ : ∃ ee, decPE ys = ee := ⟨_, rfl⟩
      obtain ⟨nn, hnn⟩ : ∃ nn, decPN ys = nn := ⟨_, rfl⟩
      rw [hpp] at hp16
      have hp16l := hp16.len
      rw [hpp, hee, hnn]
      have HPN := Lib.hid (And.intro hpp (And.intro hee hnn))
      clear hb4 HRB HRR HD hpp hee hnn hsl hsub
      by_cases h7 : ee = 7
      · subst h7
        have HE := Lib.hid (And.intro (decTE_of HX.out.2 (show (decTR xs).1 = 7 by rw [HTE.out]; exact decAcc_7 (by omega) HPN.out.2.1) (by decide)) (decT_none (xs := xs) (by rw [decTE_of HX.out.2 (show (decTR xs).1 = 7 by rw [HTE.out]; exact decAcc_7 (by omega) HPN.out.2.1) (by decide)]; decide)))
        go_wp2_with (first | ((with_reducible show wpList _ _ _ (Oper.mk _ (Op.store _ _ _) _ _ _ _ :: _) _ _); refine wpList_store_blk HP4.out 36 0 (pfxV (pp.v) (pp.l) (pp.b)) (store_pfx_fit hp16l rfl) (info_pfx hp16l) (pfx_one _ _ _) _ _ rfl rfl rfl rfl ?_; intro w5 hg9 hs9 hb9; rw [splice_pfx _ _ _ _ hp16l rfl] at hb9; have H5 := Lib.hid (And.intro hg9 hb9); have HD5 := Lib.hid (HD4.out.step (below_grown (below_alloc (Below.refl w4.heap.size w4) _) hg9 (Nat.le_refl _))); clear hg9 hs9 hb9) | ((with_reducible show wpList _ _ _ (Oper.mk _ (Op.store _ _ _) _ _ _ _ :: _) _ _); refine wpList_store_blk HD5.out.zero 28 0 (tabV none 0 0) (Nat.le_refl _) (info_tab _ _ _) (tab_one _ _ _) _ _ rfl rfl rfl rfl ?_; intro w6 hg9 hs9 hb9; rw [splice_tab] at hb9; have H6 := Lib.hid (And.intro hg9 hb9); clear hg9 hs9 hb9))
        have hld := load_tab H6.out.2
        refine bodyPost_ret (results_c2 rfl rfl hld) rfl ?_
        rw [HE.out.1, HE.out.2]
        exact ⟨_, _, _, rfl, OS.nil _ _ _, below_grown HD5.out.below H6.out.1 (by omega)⟩
      · by_cases hz : ee = 0
        · subst hz
          have hnz := dec_nat (HYS.out.1 ▸ HBY.out.drop m) HPN.out.2.1
          rw [HPN.out.2.2] at hnz
          obtain ⟨q, hq, hql⟩ := hnz
          subst hq
          have hqL : q ≤ L := by rw [← HYS.out.2]; exact hql
          clear hql h7
          go_wp2_with (first | ((with_reducible show wpList _ _ _ (Oper.mk _ (Op.store _ _ _) _ _ _ _ :: _) _ _); refine wpList_store_blk HP4.out 36 0 (pfxV (pp.v) (pp.l) (pp.b)) (store_pfx_fit hp16l rfl) (info_pfx hp16l) (pfx_one _ _ _) _ _ rfl rfl rfl rfl ?_; intro w5 hg9 hs9 hb9; rw [splice_pfx _ _ _ _ hp16l rfl] at hb9; have H5 := Lib.hid (And.intro hg9 hb9); have HD5 := Lib.hid (HD4.out.step (below_grown (below_alloc (Below.refl w4.heap.size w4) _) hg9 (Nat.le_refl _))); clear hg9 hs9 hb9))
          have HB5 := Lib.hid (below_grown (below_alloc (Below.refl w4.heap.size w4) (.cells (pfxV 0 zero16 0) 36)) H5.out.1 (Nat.le_refl _))
          have hoB : offB ys 0 (q : Int) = true := by simp [offB, HYS.out.2]; omega
          refine (raw_any g ys 0 q w5 (HR4.out.below HB5.out) (by omega) (by rw [HYS.out.2]; omega)).mono ?_
          rw [offL_true hoB, offE_true hoB, Int.toNat_natCast]
          rintro e w6 ⟨A6, c6, rfl, -, hr6, hg6⟩
          have hgp := HLT4.out
          have HD6 := Lib.hid (HD5.out.grow hg6 hg0 hggt)
          have HP6 := Lib.hid (blk_grown H5.out.2 hg6 (fun e => by injection e with e; omega))
          have HR6 := Lib.hid hr6
          obtain ⟨zs, hzs⟩ : ∃ zs, ys.drop q = zs := ⟨_, rfl⟩
          rw [hzs] at HR6
          have hzr : 0 ≤ rd zs 0 ∧ rd zs 0 < 256 := HR6.out.byte.getD 0
          obtain ⟨hv, hhv⟩ : ∃ hv, rd zs 0 = hv := ⟨_, rfl⟩
          rw [hhv] at hzr
          have hw8 : IntKind.i64.wrap hv = hv := IntWalk.i64_in _ (by omega)
          have HZS := Lib.hid (And.intro hzs hhv)
          obtain ⟨gp, hgpe⟩ : ∃ gp, w4.heap.size = gp := ⟨_, rfl⟩
          rw [hgpe] at hgp HP6 HAL ⊢
          clear hr6 hg6 hoB hzs hhv HP4 HD4 HR4 HB5 HD5 H5
          go_wp2_with fail
          refine wp_region_mix ((fun w0 => w0.heap[gt]? = some (.cells (tabV A1 k c1) 28 (0, 0)) ∧ w0.heap[gp]? = some (.cells (pfxV pp.v pp.l pp.b) 36 (0, 0)))) [(0, 0), (1, 0), (2, 0), (3, 0), (4, 2), (5, 0), (6, 0), (7, 2), (8, 2), (9, 0), (10, 3)] (by kernel_rfl) (by kernel_rfl) (⟨HD6.out.tab, HP6.out⟩) ?_
          simp only [List.map_cons, List.map_nil]
          iterate 1 (refine wpO_step0 rfl rfl (fun K hK => ?_); go_simp; refine hK _ _ ?_; clear hK K)
          refine wpO_loadW (t := 26) (ad := ⟨gt, 0, none⟩) rfl rfl ?hw rfl rfl ((fun w0 hS => ((tab_at hS.1).all _ (Below.refl _ _)).2)) ?_
          case hw => go_simp
          refine wpO_loadW (t := 36) (ad := ⟨gp, 0, none⟩) rfl rfl ?hw rfl rfl ((fun w0 hS => load_pfx hp16 hS.2)) ?_
          case hw => go_simp
          iterate 1 (refine wpO_step0 rfl rfl (fun K hK => ?_); go_simp; refine hK _ _ ?_; clear hK K)
          refine wpO_step2 rfl rfl (⟨HD6.out.tab, HP6.out⟩) (fun K hK => ?_)
          go_simp
          refine (u8_rd g zs _ (HR6.out.below (below_drew1 _))).mono ?_
          rw [HZS.out.2]
          rintro e w7 ⟨rfl, hr7, hg7⟩
          have HD7 := Lib.hid ((HD6.out.step (below_drew1 _)).grow hg7 hg0 hggt)
          have HP7 := Lib.hid (blk_grown (show (w6.drew).heap[gp]? = _ from HP6.out) hg7 (fun e => by injection e with e; omega))
          have HR7 := Lib.hid hr7
          clear hr7 hg7
          refine hK _ _ ⟨⟨HD7.out.tab, HP7.out⟩, ?_⟩
          clear hK K
          iterate 1 (refine wpO_step0 rfl rfl (fun K hK => ?_); go_simp; refine hK _ _ ?_; clear hK K)
          refine wpO_step0 rfl rfl (fun K hK => ?_)
          rw [if_pos (show Region.wanted _ _ = true from rfl)]
          refine ⟨_, fun w0 => exec_build_row (p := pp) (h := hv) rfl rfl rfl hp16l w0, hK _ _ ?_⟩
          clear hK K
          refine wpO_step2 rfl rfl (⟨HD7.out.tab, HP7.out⟩) (fun K hK => ?_)
          rw [if_pos (show Region.wanted _ _ = true from rfl)]
          refine oper_exec (exec_lit1 rowK (x := .tmp 45) rfl ⟨pp, hv⟩ rfl hp16 (by show 19 ≤ _; omega) _) ?_
          have HD8 := Lib.hid (HD7.out.step (below_alloc (Below.refl _ _) (.cells (rowK.enc ⟨pp, hv⟩).toArray rowK.t)))
          have HP8 := Lib.hid (blk_below HP7.out (below_alloc (Below.refl _ _) (.cells (rowK.enc ⟨pp, hv⟩).toArray rowK.t)))
          refine hK _ _ ⟨⟨HD8.out.tab, HP8.out⟩, ?_⟩
          clear hK K
          refine wpO_step2 rfl rfl (⟨HD8.out.tab, HP8.out⟩) (fun K hK => ?_)
          rw [if_pos (show Region.wanted _ _ = true from rfl)]
          refine oper_append_shp (S := rowK) (.tmp 40) (.tmp 46) rfl rfl rfl HD8.out.own (OS.one rowK w7 0 ⟨pp, hv⟩ (Nat.zero_le _) hp16).reads (by have := blk_lt HD7.out.tab; simp; omega) (by omega) ?_
          intro A9 c9 w9 h1 h2 h3
          have hA8 := HD8.out.own.base_
          have hT9 := blk_own2 HD8.out.tab h2 (fun ad e => by have := hA8 ad e; omega)
          have HT9 := Lib.hid hT9
          have H9 := Lib.hid (And.intro h1 h2)
          clear h1 h2 h3 hT9
          refine hK _ _ ⟨⟨HT9.out, blk_own2 HP8.out H9.out.2 (fun ad e => by have := HAL.out ad e; omega)⟩, ?_⟩
          clear hK K
          iterate 1 (refine wpO_step0 rfl rfl (fun K hK => ?_); go_simp; refine hK _ _ ?_; clear hK K)
          refine wpO_step3 rfl rfl (fun K hK => ?_)
          rw [if_pos (show Region.wanted _ _ = true from rfl)]
          refine oper_store_cell HT9.out 26 0 (.slice A9 (k + 1) c9) (Nat.le_refl _) (by kernel_rfl) rfl rfl _ _ rfl rfl rfl ?_
          intro wa hga hsa hta
          have HDa := Lib.hid (HD8.out.push H9.out.2 hga H9.out.1 hta (by omega))
          have HRa := Lib.hid (((HR7.out.below (below_alloc (Below.refl _ _) (.cells (rowK.enc ⟨pp, hv⟩).toArray rowK.t))).grown H9.out.2 (fun b e => by
            obtain ⟨ad, e1, e2⟩ := own_of e
            have := HD8.out.own.base_ ad e1
            omega)).grown hga (fun b e => by injection e with e; omega))
          clear hga hsa hta H9 HT9 HD8 HP8 HD7 HP7 HR7 HD6 HP6 HR6 hA8
          refine hK _ _ ?_
          clear hK K
          refine wpO_nil ?_
          go_wp2_with fail
          refine (err_any g _ _ wa HRa.out).mono ?_
          by_cases hqL2 : L = q
          · have hzl : zs.length = 0 := by rw [← HZS.out.1, List.length_drop, HYS.out.2]; omega
            have he := decTE_of HX.out.2 (show (decTR xs).1 = 7 by rw [HTE.out]; exact decAcc_short (by omega) HPN.out.2.1 HPN.out.2.2 (by rw [HYS.out.2]; omega)) (by decide)
            have HE := Lib.hid (And.intro he (decT_none (xs := xs) (by rw [he]; decide)))
            rw [if_pos hzl]
            clear he hqL2 hzl
            rintro e wb ⟨rfl, rfl⟩
            go_wp2_with (first | ((with_reducible show wpList _ _ _ (Oper.mk _ (Op.store _ _ _) _ _ _ _ :: _) _ _); refine wpList_store_blk HDa.out.zero 28 0 (tabV none 0 0) (Nat.le_refl _) (info_tab _ _ _) (tab_one _ _ _) _ _ rfl rfl rfl rfl ?_; intro wc hg9 hs9 hb9; rw [splice_tab] at hb9; have Hc := Lib.hid (And.intro hg9 hb9); clear hg9 hs9 hb9))
            have hld := load_tab Hc.out.2
            refine bodyPost_ret (results_c2 rfl rfl hld) rfl ?_
            rw [HE.out.1, HE.out.2]
            exact ⟨_, _, _, rfl, OS.nil _ _ _, below_grown HDa.out.below Hc.out.1 (by omega)⟩
          · have hzl : zs.length ≠ 0 := by rw [← HZS.out.1, List.length_drop, HYS.out.2]; omega
            have hra := HRa.out
            rw [if_neg hzl] at hra
            have HRb := Lib.hid hra
            rw [if_neg hzl]
            have hst := decAcc_step hlt2 HPN.out.2.1 HPN.out.2.2 (show q < ys.length by rw [HYS.out.2]; omega) (acc := acc)
            rw [HPN.out.1, ← rd_drop2, HZS.out.1, HZS.out.2] at hst
            have hdr : zs.drop 1 = xs.drop (m + q + 1) := by rw [← HZS.out.1, ← HYS.out.1, List.drop_drop, List.drop_drop]; congr 1
            have hdr2 : ys.drop (q + 1) = xs.drop (m + q + 1) := by rw [← HYS.out.1, List.drop_drop]; congr 1
            rw [hdr2] at hst
            rw [hdr] at HRb
            have HST := Lib.hid hst
            clear hzl hra hst hdr hdr2
            rintro e wb ⟨rfl, rfl⟩
            go_wp2
            go_roundw
            case measure => simp [intOf]; omega
            case rel => exact ⟨k + 1, m + q + 1, A9, c9, acc ++ [⟨pp, hv⟩], by go_num, by omega, fun _ => by omega, HDa.out, HX.out.1 ▸ HRb.out, HTE.out.trans HST.out⟩
        · have he := decTE_of HX.out.2 (show (decTR xs).1 = 190 by rw [HTE.out]; exact decAcc_bad (by omega) (by rw [HPN.out.2.1]; exact h7) (by rw [HPN.out.2.1]; exact hz)) (by decide)
          have HE := Lib.hid (And.intro he (decT_none (xs := xs) (by rw [he]; decide)))
          have h7b : (ee == 7) = false := by simpa using h7
          have hzb : (ee != 0) = true := by simpa using hz
          clear h7 hz he
          go_wp2_with (first | ((with_reducible show wpList _ _ _ (Oper.mk _ (Op.store _ _ _) _ _ _ _ :: _) _ _); refine wpList_store_blk HP4.out 36 0 (pfxV (pp.v) (pp.l) (pp.b)) (store_pfx_fit hp16l rfl) (info_pfx hp16l) (pfx_one _ _ _) _ _ rfl rfl rfl rfl ?_; intro w5 hg9 hs9 hb9; rw [splice_pfx _ _ _ _ hp16l rfl] at hb9; have H5 := Lib.hid (And.intro hg9 hb9); have HD5 := Lib.hid (HD4.out.step (below_grown (below_alloc (Below.refl w4.heap.size w4) _) hg9 (Nat.le_refl _))); clear hg9 hs9 hb9) | ((with_reducible show wpList _ _ _ (Oper.mk _ (Op.store _ _ _) _ _ _ _ :: _) _ _); refine wpList_store_blk HD5.out.zero 28 0 (tabV none 0 0) (Nat.le_refl _) (info_tab _ _ _) (tab_one _ _ _) _ _ rfl rfl rfl rfl ?_; intro w6 hg9 hs9 hb9; rw [splice_tab] at hb9; have H6 := Lib.hid (And.intro hg9 hb9); clear hg9 hs9 hb9))
          have hld := load_tab H6.out.2
          refine bodyPost_ret (results_c2 rfl rfl hld) rfl ?_
          rw [HE.out.1, HE.out.2]
          exact ⟨_, _, _, rfl, OS.nil _ _ _, below_grown HD5.out.below H6.out.1 (by omega)⟩
    · obtain rfl : k = K := by have := HH.out.1; omega
      have HTE := Lib.hid HH.out.2.2.2.2
      rw [Nat.sub_self, decAcc] at HTE
      have HRR := Lib.hid HH.out.2.2.2.1
      clear HH hlt
      go_wp2_with fail
      refine (err_any g _ _ wr HRR.out).mono ?_
      by_cases hx0 : xs.length = 0
      · have he1 : e0 = 7 := by rw [← HE0.out, if_pos hx0]
        subst he1
        have he : decTE xs = 7 := by unfold decTE; rw [if_pos hx0]
        have HE := Lib.hid (And.intro he (decT_none (xs := xs) (by rw [he]; decide)))
        clear he hx0
        rintro e wb ⟨rfl, rfl⟩
        go_wp2_with (first | ((with_reducible show wpList _ _ _ (Oper.mk _ (Op.store _ _ _) _ _ _ _ :: _) _ _); refine wpList_store_blk HD.out.zero 28 0 (tabV none 0 0) (Nat.le_refl _) (info_tab _ _ _) (tab_one _ _ _) _ _ rfl rfl rfl rfl ?_; intro wc hg9 hs9 hb9; rw [splice_tab] at hb9; have Hc := Lib.hid (And.intro hg9 hb9); clear hg9 hs9 hb9))
        have hld := load_tab Hc.out.2
        refine bodyPost_ret (results_c2 rfl rfl hld) rfl ?_
        rw [HE.out.1, HE.out.2]
        exact ⟨_, _, _, rfl, OS.nil _ _ _, below_grown HD.out.below Hc.out.1 (by omega)⟩
      · have he1 : e0 = 0 := by rw [← HE0.out, if_neg hx0]
        subst he1
        have hT : decTE xs = if (xs.drop m).length = 0 ∧ tabB acc = true then 0 else 190 := by
          unfold decTE
          rw [if_neg hx0, HTE.out]
          rfl
        have HTT := Lib.hid hT
        have HAC := Lib.hid (show decTE xs = 0 → decTL xs = acc from fun hh => by unfold decTL; rw [if_pos hh, HTE.out])
        obtain ⟨L, hL⟩ : ∃ L, (xs.drop m).length = L := ⟨_, rfl⟩
        rw [hL] at HTT
        have HLL := Lib.hid hL
        clear hT hx0 hL
        rintro e wb ⟨rfl, rfl⟩
        go_wp2_with fail
        refine (left_any g _ _ wr HRR.out).mono ?_
        rw [HLL.out]
        rintro e wb ⟨rfl, rfl⟩
        by_cases hl0 : L = 0
        · subst hl0
          have hlt := ((tab_at HD.out.tab).all wr (Below.refl _ _)).1
          go_wp2_with (first | ((with_reducible show wpList _ _ _ (Oper.mk _ (Op.load _ _) _ _ _ _ :: _) _ _); refine wpList_load_g hlt _ rfl rfl (by go_simp) ?_))
          refine (tcheck_any A1 k c1 acc wr (HL.out.below HD.out.below) HD.out.own.reads (by omega)).mono ?_
          rintro e w8 ⟨rfl, hb8⟩
          have HD8 := Lib.hid (HD.out.step hb8)
          clear hlt hb8
          cases hR : tabB acc with
          | true =>
            have hE0 : decTE xs = 0 := by rw [HTT.out, if_pos ⟨trivial, hR⟩]
            have HE := Lib.hid (And.intro hE0 (HAC.out hE0))
            rw [errT_true hR]
            have hlt := ((tab_at HD8.out.tab).all w8 (Below.refl _ _)).1
            clear hE0 hR
            go_wp2_with (first | ((with_reducible show wpList _ _ _ (Oper.mk _ (Op.load _ _) _ _ _ _ :: _) _ _); refine wpList_load_g hlt _ rfl rfl (by go_simp) ?_) | ((with_reducible show wpList _ _ _ (Oper.mk _ (Op.store _ _ _) _ _ _ _ :: _) _ _); refine wpList_store_blk HD8.out.zero 28 0 (tabV A1 k c1) (Nat.le_refl _) (info_tab _ _ _) (tab_one _ _ _) _ _ rfl rfl rfl rfl ?_; intro wc hg9 hs9 hb9; rw [splice_tab] at hb9; have Hc := Lib.hid (And.intro hg9 hb9); clear hg9 hs9 hb9))
            have hld := load_tab Hc.out.2
            refine bodyPost_ret (results_c2 rfl rfl hld) rfl ?_
            rw [HE.out.1, HE.out.2]
            exact ⟨_, _, _, rfl, (HD8.out.own.grown Hc.out.1 (fun ad e hh => by have := HD8.out.own.base_ ad e; injection hh with hh; omega)).lower (by omega), below_grown HD8.out.below Hc.out.1 (by omega)⟩
          | false =>
            have hE0 : decTE xs = 190 := by rw [HTT.out, if_neg (fun h => by rw [hR] at h; cases h.2)]
            have HE := Lib.hid (And.intro hE0 (decT_none (xs := xs) (by rw [hE0]; decide)))
            rw [errT_false hR]
            clear hE0 hR
            go_wp2_with (first | ((with_reducible show wpList _ _ _ (Oper.mk _ (Op.store _ _ _) _ _ _ _ :: _) _ _); refine wpList_store_blk HD8.out.zero 28 0 (tabV none 0 0) (Nat.le_refl _) (info_tab _ _ _) (tab_one _ _ _) _ _ rfl rfl rfl rfl ?_; intro wc hg9 hs9 hb9; rw [splice_tab] at hb9; have Hc := Lib.hid (And.intro hg9 hb9); clear hg9 hs9 hb9))
            have hld := load_tab Hc.out.2
            refine bodyPost_ret (results_c2 rfl rfl hld) rfl ?_
            rw [HE.out.1, HE.out.2]
            exact ⟨_, _, _, rfl, OS.nil _ _ _, below_grown HD8.out.below Hc.out.1 (by omega)⟩
        · have hE0 : decTE xs = 190 := by rw [HTT.out, if_neg (fun h => hl0 h.1)]
          have HE := Lib.hid (And.intro hE0 (decT_none (xs := xs) (by rw [hE0]; decide)))
          have hl1 : decide ((0 : Int) < (L : Int)) = true := decide_eq_true (by omega)
          have hl2 : decide (0 < L) = true := decide_eq_true (by omega)
          have hl3 : (0 : Int) < (L : Int) := by omega
          clear hE0
          go_wp2_with (first | ((with_reducible show wpList _ _ _ (Oper.mk _ (Op.store _ _ _) _ _ _ _ :: _) _ _); refine wpList_store_blk HD.out.zero 28 0 (tabV none 0 0) (Nat.le_refl _) (info_tab _ _ _) (tab_one _ _ _) _ _ rfl rfl rfl rfl ?_; intro wc hg9 hs9 hb9; rw [splice_tab] at hb9; have Hc := Lib.hid (And.intro hg9 hb9); clear hg9 hs9 hb9))
          have hld := load_tab Hc.out.2
          refine bodyPost_ret (results_c2 rfl rfl hld) rfl ?_
          rw [HE.out.1, HE.out.2]
          exact ⟨_, _, _, rfl, OS.nil _ _ _, below_grown HD.out.below Hc.out.1 (by omega)⟩
end Go.Proofs.YtihfaknflfmohaaDoor

/- The document's answer for layer 5: some. -/
namespace Go.Proofs.YtihfaknflfmohaaDoor
open Go.RowKit
set_option linter.unusedVariables false
set_option linter.unusedSimpArgs false
set_option maxRecDepth 4000

/-- What the document's reading holds: the result's cell, the bytes read so far. -/
structure RefS (w : World) (l : List Int) (w0 : World) : Prop where
  below : Below w.heap.size w w0
  zero : w0.heap[w.heap.size]? = some (.cells (arrV zero16) 29 (0, 0))
  x : w0.heap[w.heap.size + 1]? = some (.cells (arrV l) 29 (0, 0))
theorem RefS.step {w w0 w1 : World} {l : List Int} (h : RefS w l w0) (hb : Below w0.heap.size w0 w1) : RefS w l w1 := ⟨below_step h.below hb, blk_below h.zero hb, blk_below h.x hb⟩

set_option maxHeartbeats 4000000 in
theorem refsome_any (A : Option Addr) (n c : Nat) (xs : List Int) (fm bits : Nat) (wrong : Int) (w : World) (hr : RB w A n c xs) (hfm : fm ≤ 1000) (hwr : wrong ≠ 0) (hbits : bits ≤ 128) :
    Calls Tryd.prog 118 #[.slice A n c, .int .i64 fm, .int .i64 bits, .int .i64 wrong] w fun e w' => e = .returned (.tuple #[.agg (arrV (someL (xs.drop fm) bits wrong)), .int .i64 (someE (xs.drop fm) bits wrong)]) ∧ Below w.heap.size w w' := by
  have hsm := hr.small
  have hlen := hr.len
  have hxb := hr.range
  have HR := Lib.hid hr
  have HLEN := Lib.hid hlen
  obtain ⟨ys, hys⟩ : ∃ ys, xs.drop fm = ys := ⟨_, rfl⟩
  have hyl : ys.length = n - fm := by rw [← hys, List.length_drop, hlen]
  have hyb : Bytes ys := by rw [← hys]; exact hxb.drop fm
  have HYR : Hid (∀ k : Nat, rd ys (k : Int) = rd xs ((fm : Int) + k)) := fun k => by
    rw [← hys]
    simp only [rd, Int.toNat_natCast, List.getD_eq_getElem?_getD, List.getElem?_drop]
    rw [show ((fm : Int) + k).toNat = fm + k by omega]
  rw [hys]
  have HYL := Lib.hid hyl
  clear hys hr hlen hxb hyl
  have hst2 := blk_new (w.alloc (.cells (arrV zero16) 29)) (.cells (arrV zero16) 29)
  rw [show (w.alloc (.cells (arrV zero16) 29)).heap.size = w.heap.size + 1 by simp] at hst2
  have HS : Hid (RefS w (pad (ys.take 0)) ((w.alloc (.cells (arrV zero16) 29)).alloc (.cells (arrV zero16) 29))) :=
    ⟨below_alloc (below_alloc (Below.refl _ _) _) _, blk_below (blk_new w _) (below_alloc (Below.refl _ _) _), hst2⟩
  clear hst2
  obtain ⟨nb, hnb⟩ : ∃ nb, fullB (bits : Int) = nb := ⟨_, rfl⟩
  have hnn : 8 * nb ≤ bits + 7 ∧ bits ≤ 8 * nb := by rw [← hnb]; unfold fullB; omega
  have hn16 : nb ≤ 16 := by omega
  have HNB := Lib.hid hnb
  clear hnb
  go_enter Tryd.func118, Tryd.ntmps118
  go_wp2_with fail
  go_loopw [11] (fun i wr => ∃ k : Nat, i = .int .i64 k ∧ Hid (k ≤ nb ∧ k ≤ ys.length ∧ RefS w (pad (ys.take k)) wr ∧ (k = nb → 0 < nb → clearA (pad (ys.take nb)) bits = true))) (fun i _ => 16 - (intOf i).toNat)
  case atStart => exact ⟨0, rfl, Nat.zero_le _, Nat.zero_le _, HS.out, fun h h0 => by omega⟩
  case round =>
    obtain ⟨k, rfl, HH⟩ := hrel
    clear HS
    have hk := HH.out.1
    by_cases hlt2 : k < nb
    · have hlt' : 8 * (k : Int) < bits := by omega
      have hlp : (pad (ys.take k)).length = 16 := pad_len (by rw [List.length_take]; omega)
      by_cases hkx : k < ys.length
      · have hkn : (fm : Int) + k < n := by have := HYL.out; omega
        have hd0 : decide ((n : Int) ≤ (fm : Int) + k) = false := decide_eq_false (by omega)
        have hf0 : 0 ≤ (fm : Int) + k := by omega
        obtain ⟨ad, rfl, hc⟩ := (HR.out.below HH.out.2.2.1.below).at_ ((fm : Int) + k) (by omega) (by omega)
        rw [← HYR.out k, show ((fm : Int) + k).toNat = fm + k by omega] at hc
        have hrk : 0 ≤ rd ys (k : Int) ∧ rd ys (k : Int) < 256 := hyb.getD _
        have hcy := arr_cell HH.out.2.2.1.x k (by rw [hlp]; omega)
        have hfy : wr.frozen? ⟨w.heap.size + 1, k, none⟩ = false := blk_frozen HH.out.2.2.1.x k
        have hk16 : (k : Int) < 16 := by omega
        have hk0 : (0 : Int) ≤ k := by omega
        have H2 : Hid (RefS w (pad (ys.take (k + 1))) (wr.setCell ⟨w.heap.size + 1, k, none⟩ (.int .u8 (rd ys (k : Int))))) := by
          refine ⟨HH.out.2.2.1.below.setCell (by simp) _, blk_set_far HH.out.2.2.1.zero (by simp) _, ?_⟩
          have := arr_set HH.out.2.2.1.x k (rd ys (k : Int))
          rw [pad_set ys k hkx (by omega)] at this
          exact this
        have HKX := Lib.hid hkx
        clear hkx
        go_wp2_with fail
        clear hc hcy hfy hf0 hkn hd0
        go_loopw [12] (fun v wr3 => ∃ m : Nat, v = .int .i64 m ∧ Hid (bits ≤ m ∧ (∀ j : Nat, bits ≤ j → j < m → bitA (pad (ys.take (k + 1))) j = 0) ∧ RefS w (pad (ys.take (k + 1))) wr3)) (fun v _ => 128 - (intOf v).toNat)
        case atStart => exact ⟨bits, rfl, Nat.le_refl _, fun j h1 h2 => by omega, H2.out⟩
        case round =>
          obtain ⟨m, rfl, HM⟩ := hrel
          have hmb := HM.out.1
          have hp16 : B16 (pad (ys.take (k + 1))) := pad_16 (by rw [List.length_take]; omega) (hyb.take _)
          by_cases hlt3 : m < 8 * k + 8
          · have hlt4 : (m : Int) < 8 * (k : Int) + 8 := by omega
            have hm0 : (0 : Int) ≤ m := by omega
            have hm1 : (m : Int) < 128 := by omega
            have hlx := load_arr0 hp16 HM.out.2.2.x
            go_wp2_with ((with_reducible show wpList _ _ _ (Oper.mk _ (Op.load _ _) _ _ _ _ :: _) _ _); refine wpList_load_g hlx _ rfl rfl (by go_simp) ?_)
            refine (refat_any _ m _ hp16 hm0 hm1).mono ?_
            rintro e w3 ⟨rfl, hbb3⟩
            rw [show (m : Int).toNat = m by omega]
            have H3 := Lib.hid (HM.out.2.2.step hbb3)
            clear hbb3 hlx
            by_cases hbit : bitA (pad (ys.take (k + 1))) m = 1
            · have hbt : (bitA (pad (ys.take (k + 1))) m == 1) = true := by simpa using hbit
              have hcf : clearA (pad (ys.take (k + 1))) bits = false := by
                rw [Bool.eq_false_iff]
                intro h
                have := (clearA_iff _ bits).1 h m hmb (by omega)
                omega
              have hk1 : k + 1 = nb := by omega
              have HE := Lib.hid (some_wrong (xs := ys) (bits := bits) (wrong := wrong) (by rw [HNB.out]; have := HKX.out; omega) (by rw [HNB.out, ← hk1]; exact hcf))
              have HE2 := Lib.hid (someL_no (xs := ys) (bits := bits) (wrong := wrong) (by rw [HE.out]; exact hwr))
              have hbn := run_build_arr_nil
              clear hbit hcf hk1
              go_wp2_with (refine wpList_store_blk H3.out.zero 29 0 (arrV zero16) (by rw [arr_size rfl]; exact Nat.le_refl _) (info_arr rfl) (arr_one _) _ _ rfl rfl rfl rfl ?_; intro w9 hg9 hs9 hb9; rw [splice_arr0 _ zero16 rfl rfl] at hb9; have H9 := Lib.hid (And.intro hg9 hb9); clear hg9 hs9 hb9)
              have hld := load_arr0 zero16_B H9.out.2
              refine bodyPost_ret (results_c2 rfl rfl hld) rfl ?_
              rw [HE.out, HE2.out]
              exact ⟨rfl, below_grown H3.out.below H9.out.1 (by omega)⟩
            · have hbt : (bitA (pad (ys.take (k + 1))) m == 1) = false := by simpa using hbit
              have HZ : Hid (bitA (pad (ys.take (k + 1))) m = 0) := (bitA_range _ m).resolve_right hbit
              clear hbit
              go_wp2_with fail
              go_roundw
              case measure => simp [intOf]; omega
              case rel =>
                refine ⟨m + 1, by go_num, by omega, fun j h1 h2 => ?_, H3.out⟩
                by_cases hj : j < m
                · exact HM.out.2.1 j h1 hj
                · rw [show j = m by omega]; exact HZ.out
          · have hge : decide ((m : Int) < 8 * (k : Int) + 8) = false := decide_eq_false (by omega)
            have HC : Hid (clearA (pad (ys.take (k + 1))) bits = true) := (clearA_iff _ bits).2 (fun j h1 h2 => by
              by_cases hj : j < m
              · exact HM.out.2.1 j h1 hj
              · exact bit_pad _ j (by rw [List.length_take]; omega))
            clear hlt3
            go_wp2_with fail
            go_roundw
            case measure => simp [intOf]; omega
            case rel =>
              refine ⟨k + 1, by go_num, by omega, by have := HKX.out; omega, HM.out.2.2, fun h _ => by rw [← h]; exact HC.out⟩
      · have hkx' : k = ys.length := by have := HH.out.2.1; omega
        have hd0 : decide ((n : Int) ≤ (fm : Int) + k) = true := decide_eq_true (by have := HYL.out; omega)
        have HE := Lib.hid (some_short (xs := ys) (bits := bits) (wrong := wrong) (by rw [HNB.out]; omega))
        have HE2 := Lib.hid (someL_no (xs := ys) (bits := bits) (wrong := wrong) (by rw [HE.out]; decide))
        have hbn := run_build_arr_nil
        clear hkx hkx'
        go_wp2_with (refine wpList_store_blk HH.out.2.2.1.zero 29 0 (arrV zero16) (by rw [arr_size rfl]; exact Nat.le_refl _) (info_arr rfl) (arr_one _) _ _ rfl rfl rfl rfl ?_; intro w9 hg9 hs9 hb9; rw [splice_arr0 _ zero16 rfl rfl] at hb9; have H9 := Lib.hid (And.intro hg9 hb9); clear hg9 hs9 hb9)
        have hld := load_arr0 zero16_B H9.out.2
        refine bodyPost_ret (results_c2 rfl rfl hld) rfl ?_
        rw [HE.out, HE2.out]
        exact ⟨rfl, below_grown HH.out.2.2.1.below H9.out.1 (by omega)⟩
    · obtain rfl : k = nb := by omega
      have hm1 : decide (8 * (k : Int) < bits) = false := decide_eq_false (by omega)
      have hp16 : B16 (pad (ys.take k)) := pad_16 (by rw [List.length_take]; omega) (hyb.take _)
      have hcl : clearA (pad (ys.take k)) bits = true := by
        rcases Nat.eq_zero_or_pos k with h | h
        · subst h
          exact clear_pad _ _ (by simp)
        · exact HH.out.2.2.2 rfl h
      have HE := Lib.hid (some_ok (xs := ys) (bits := bits) (wrong := wrong) (by rw [HNB.out]; exact HH.out.2.1) (by rw [HNB.out]; exact hcl))
      have HE2 := Lib.hid ((someL_ok HE.out).trans (by rw [HNB.out]))
      have hld0 := load_arr0 hp16 HH.out.2.2.1.x
      clear hlt2 hcl hk
      go_wp2_with (first | ((with_reducible show wpList _ _ _ (Oper.mk _ (Op.load _ _) _ _ _ _ :: _) _ _); refine wpList_load_g hld0 _ rfl rfl (by go_simp) ?_) | (refine wpList_store_blk HH.out.2.2.1.zero 29 0 (arrV (pad (ys.take k))) (by rw [arr_size hp16.len, arr_size rfl]; exact Nat.le_refl _) (info_arr hp16.len) (arr_one _) _ _ rfl rfl rfl rfl ?_; intro w4 hg hs hb; rw [splice_arr0 _ (pad (ys.take k)) hp16.len rfl] at hb; have H4 := Lib.hid (And.intro hg hb); clear hg hs hb))
      have hld := load_arr0 hp16 H4.out.2
      refine bodyPost_ret (results_c2 rfl rfl hld) rfl ?_
      rw [HE.out, HE2.out]
      exact ⟨rfl, below_grown HH.out.2.2.1.below H4.out.1 (by omega)⟩
end Go.Proofs.YtihfaknflfmohaaDoor

/- The document's answer for layer 5: DecodeAddr, Decode. -/
namespace Go.Proofs.YtihfaknflfmohaaDoor
open Go.RowKit
set_option linter.unusedVariables false
set_option linter.unusedSimpArgs false
set_option maxRecDepth 4000

theorem load_u8 {w : World} {ad : Addr} {v : Value} (h : w.cell? ad = some v) : (Instr.loadAt 5 (.pointer (some ad))).run Tryd.prog w = .ok v w := by
  go_simp
structure RefT (w : World) (gb : Nat) (l : List Int) (w0 : World) : Prop where
  below : Below w.heap.size w w0
  arr : w0.heap[gb]? = some (.cells (arrV l) 29 (0, 0))
theorem RefT.step {w w0 w1 : World} {gb : Nat} {l : List Int} (h : RefT w gb l w0) (hb : Below w0.heap.size w0 w1) : RefT w gb l w1 := ⟨below_step h.below hb, blk_below h.arr hb⟩
theorem RefT.grow {w w0 w1 : World} {gb c : Nat} {l : List Int} (h : RefT w gb l w0) (hg : w0.grownBy w1 (some c)) (h1 : w.heap.size ≤ c) (h2 : gb ≠ c) : RefT w gb l w1 :=
  ⟨below_grown h.below hg h1, blk_grown h.arr hg (fun e => by injection e with e; exact h2 e)⟩
theorem RB.first {w : World} {A : Option Addr} {n c : Nat} {xs : List Int} (h : RB w A n c xs) (hn : 0 < n) : ∃ ad, A = some ad ∧ ∀ w0, Below w.heap.size w w0 → w0.cell? ad = some (.int .u8 (rd xs 0)) := by
  obtain ⟨ad, e, -⟩ := h.at_ 0 (by omega) (by omega)
  refine ⟨ad, e, fun w0 hb => ?_⟩
  obtain ⟨ad2, e2, hc⟩ := (h.below hb).at_ 0 (by omega) (by omega)
  rw [e] at e2
  injection e2 with e2
  subst e2
  simpa [Addr.add] using hc

theorem RB.second {w : World} {A : Option Addr} {n c : Nat} {xs : List Int} (h : RB w A n c xs) (ad : Addr) (he : A = some ad) (hn : 1 < n) : ∀ w0, Below w.heap.size w w0 → w0.cell? (ad.add 1) = some (.int .u8 (rd xs 1)) := by
  intro w0 hb
  obtain ⟨ad2, e2, hc⟩ := (h.below hb).at_ 1 (by omega) (by omega)
  rw [he] at e2
  injection e2 with e2
  subst e2
  exact hc
set_option maxHeartbeats 4000000 in
theorem refdecode_any (A : Option Addr) (n c : Nat) (xs : List Int) (w : World) (hr : RB w A n c xs) :
    Calls Tryd.prog 94 #[.slice A n c] w fun e w' => e = .returned (.tuple #[.agg (pfxV (decP xs).v (decP xs).l (decP xs).b), .int .i64 (decPN xs), .int .i64 (decPE xs)]) ∧ Below w.heap.size w w' := by
  have hsm := hr.small
  have hlen := hr.len
  have HR := Lib.hid hr
  have HLEN := Lib.hid hlen
  have HZ := Lib.hid (blk_new w (.cells (pfxV 0 zero16 0) 36))
  have HBZ : Hid (Below w.heap.size w (w.alloc (.cells (pfxV 0 zero16 0) 36))) := below_alloc (Below.refl _ _) _
  by_cases hn0 : n = 0
  · have hv : verE xs 151 = 7 := by unfold verE; rw [if_pos (by omega)]
    have HE := Lib.hid ((decP_ver (xs := xs) (by rw [hv]; decide)).trans hv)
    have HN0 := Lib.hid (decP_no (xs := xs) (by rw [HE.out]; decide))
    have hbn := run_build_pfx_nil
    subst hn0
    clear hr hlen hv
    go_enter Tryd.func94, Tryd.ntmps94
    go_wp2_with (refine wpList_store_blk HZ.out 36 0 (pfxV 0 zero16 0) (store_pfx_fit rfl rfl) (info_pfx rfl) (pfx_one _ _ _) _ _ rfl rfl rfl rfl ?_; intro w9 hg9 hs9 hb9; rw [splice_pfx _ 0 0 zero16 rfl rfl] at hb9; have H9 := Lib.hid (And.intro hg9 hb9); clear hg9 hs9 hb9)
    have hld := load_pfx zero16_B H9.out.2
    refine bodyPost_ret (results_c3 rfl rfl hld) rfl ?_
    rw [HN0.out.1, HN0.out.2, HE.out]
    exact ⟨rfl, below_grown HBZ.out H9.out.1 (by omega)⟩
  · have hpos : 0 < n := by omega
    have hn1 : decide (n < 1) = false := decide_eq_false (by omega)
    have hn2 : decide ((n : Int) < 1) = false := decide_eq_false (by omega)
    obtain ⟨ad, rfl, hcell⟩ := hr.first hpos
    have hrd : 0 ≤ rd xs 0 ∧ rd xs 0 < 256 := hr.range.getD 0
    have hrd1 : 0 ≤ rd xs 1 ∧ rd xs 1 < 256 := hr.range.getD 1
    have hlc := load_u8 (hcell _ HBZ.out)
    have HC := Lib.hid hcell
    have hver := verE_cons (xs := xs) (by omega) 151
    have hxb := hr.range
    clear hn0 hr hlen hcell
    go_enter Tryd.func94, Tryd.ntmps94
    go_wp2_with ((with_reducible show wpList _ _ _ (Oper.mk _ (Op.load _ _) _ _ _ _ :: _) _ _); refine wpList_load_g hlc _ rfl rfl (by go_simp) ?_)
    refine (refwidth_any (rd xs 0) _).mono ?_
    rintro e w1' ⟨rfl, rfl⟩
    have hwl := widthA_le (rd xs 0)
    by_cases hw : widthA (rd xs 0) = 0
    · rw [if_pos hw] at hver
      have HE := Lib.hid ((decP_ver (xs := xs) (by rw [hver]; decide)).trans hver)
      have HN0 := Lib.hid (decP_no (xs := xs) (by rw [HE.out]; decide))
      have hbn := run_build_pfx_nil
      rw [hw]
      clear hver hw hwl
      go_wp2_with (refine wpList_store_blk HZ.out 36 0 (pfxV 0 zero16 0) (store_pfx_fit rfl rfl) (info_pfx rfl) (pfx_one _ _ _) _ _ rfl rfl rfl rfl ?_; intro w9 hg9 hs9 hb9; rw [splice_pfx _ 0 0 zero16 rfl rfl] at hb9; have H9 := Lib.hid (And.intro hg9 hb9); clear hg9 hs9 hb9)
      have hld := load_pfx zero16_B H9.out.2
      refine bodyPost_ret (results_c3 rfl rfl hld) rfl ?_
      rw [HN0.out.1, HN0.out.2, HE.out]
      exact ⟨rfl, below_grown HBZ.out H9.out.1 (by omega)⟩
    · rw [if_neg hw] at hver
      have HVE := Lib.hid hver
      have hw0 : ((widthA (rd xs 0) : Int) == 0) = false := by simp; omega
      have hw1 : ((widthA (rd xs 0)) == 0) = false := by simp; omega
      clear hver hw hlc
      by_cases h2 : n < 2
      · have HE := Lib.hid (decP_short HVE.out (by rw [HLEN.out]; exact h2))
        have HN0 := Lib.hid (decP_no (xs := xs) (by rw [HE.out]; decide))
        have hd2 : decide ((n : Int) < 2) = true := decide_eq_true (by omega)
        have hbn := run_build_pfx_nil
        go_wp2_with (refine wpList_store_blk HZ.out 36 0 (pfxV 0 zero16 0) (store_pfx_fit rfl rfl) (info_pfx rfl) (pfx_one _ _ _) _ _ rfl rfl rfl rfl ?_; intro w9 hg9 hs9 hb9; rw [splice_pfx _ 0 0 zero16 rfl rfl] at hb9; have H9 := Lib.hid (And.intro hg9 hb9); clear hg9 hs9 hb9)
        have hld := load_pfx zero16_B H9.out.2
        refine bodyPost_ret (results_c3 rfl rfl hld) rfl ?_
        rw [HN0.out.1, HN0.out.2, HE.out]
        exact ⟨rfl, below_grown HBZ.out H9.out.1 (by omega)⟩
      · have h2' : 2 ≤ xs.length := by rw [HLEN.out]; omega
        have hd2 : decide ((n : Int) < 2) = false := decide_eq_false (by omega)
        have hn2 : (1 : Int) < n := by omega
        obtain ⟨b, hb⟩ := Int.eq_ofNat_of_zero_le hrd1.1
        have hlc1 := load_u8 (HR.out.second ad rfl (by omega) _ HBZ.out)
        rw [hb] at hlc1 hrd1
        have HBQ := Lib.hid hb
        clear hb h2
        by_cases hwb : (widthA (rd xs 0) : Int) < b
        · have HE := Lib.hid (decP_wide HVE.out h2' (by rw [HBQ.out]; exact hwb))
          have HN0 := Lib.hid (decP_no (xs := xs) (by rw [HE.out]; decide))
          have hbn := run_build_pfx_nil
          clear h2'
          go_wp2_with (first | ((with_reducible show wpList _ _ _ (Oper.mk _ (Op.load _ _) _ _ _ _ :: _) _ _); refine wpList_load_g hlc1 _ rfl rfl (by go_simp) ?_) | (refine wpList_store_blk HZ.out 36 0 (pfxV 0 zero16 0) (store_pfx_fit rfl rfl) (info_pfx rfl) (pfx_one _ _ _) _ _ rfl rfl rfl rfl ?_; intro w9 hg9 hs9 hb9; rw [splice_pfx _ 0 0 zero16 rfl rfl] at hb9; have H9 := Lib.hid (And.intro hg9 hb9); clear hg9 hs9 hb9))
          have hld := load_pfx zero16_B H9.out.2
          refine bodyPost_ret (results_c3 rfl rfl hld) rfl ?_
          rw [HN0.out.1, HN0.out.2, HE.out]
          exact ⟨rfl, below_grown HBZ.out H9.out.1 (by omega)⟩
        · have hw' : b ≤ widthA (rd xs 0) := by omega
          have hd1 : decide ((widthA (rd xs 0) : Int) < b) = false := decide_eq_false hwb
          have HPE := Lib.hid (decP_some HVE.out h2' HBQ.out hw')
          have H2 := Lib.hid h2'
          have hb128 : b ≤ 128 := by omega
          have hsomeB : B16 (someL (xs.drop 2) b 151) := someL_16 (hxb.drop 2) hb128
          obtain ⟨sl, hsl⟩ : ∃ sl, someL (xs.drop 2) b 151 = sl := ⟨_, rfl⟩
          obtain ⟨se, hse⟩ : ∃ se, someE (xs.drop 2) b 151 = se := ⟨_, rfl⟩
          rw [hsl] at hsomeB
          have HSL := Lib.hid (And.intro hsl hse)
          clear hsl hse hwb h2'
          go_wp2_with ((with_reducible show wpList _ _ _ (Oper.mk _ (Op.load _ _) _ _ _ _ :: _) _ _); refine wpList_load_g hlc1 _ rfl rfl (by go_simp) ?_)
          clear hd1 hd2 hw0 hw1 hlc1
          refine (refsome_any (some ad) n c xs 2 b 151 _ (HR.out.below HBZ.out) (by omega) (by decide) hb128).mono ?_
          rw [HSL.out.1, HSL.out.2]
          rintro e w1 ⟨rfl, hb1⟩
          have HB1 := Lib.hid (below_step HBZ.out hb1)
          have HZ1 := Lib.hid (blk_below HZ.out hb1)
          have HN := Lib.hid (blk_new w1 (.cells (arrV zero16) 29))
          have hlt1 := blk_lt HZ1.out
          clear hb1
          by_cases hse : se = 0
          · have hpe : decPE xs = 0 := HPE.out.trans (HSL.out.2.trans hse)
            have HE := Lib.hid (And.intro hpe (decP_ok hpe HPE.out H2.out HBQ.out))
            subst hse
            clear hpe
            go_wp2_with (refine wpList_store_blk HN.out 29 0 (arrV sl) (by rw [arr_size hsomeB.len, arr_size rfl]; exact Nat.le_refl _) (info_arr hsomeB.len) (arr_one _) _ _ rfl rfl rfl rfl ?_; intro w5 hg5 hs5 hb5; rw [splice_arr0 _ sl hsomeB.len rfl] at hb5; have H5 : Hid (RefT w w1.heap.size sl w5 ∧ w5.heap[w.heap.size]? = some (.cells (pfxV 0 zero16 0) 36 (0, 0))) := ⟨⟨below_grown (below_alloc HB1.out _) hg5 HB1.out.size, hb5⟩, blk_grown (blk_below HZ1.out (below_alloc (Below.refl _ _) _)) hg5 (fun e => by injection e with e; omega)⟩; clear hg5 hs5 hb5)
            obtain ⟨wq, hwq⟩ : ∃ wq, fullB b = wq := ⟨_, rfl⟩
            have hqq : ((b : Int) + 7) / 8 = wq := by rw [← hwq]; unfold fullB; omega
            have hqt : ((b : Int) + 7).tdiv 8 = wq := by rw [Int.tdiv_eq_ediv_of_nonneg (by omega)]; exact hqq
            have hqw : IntKind.i64.wrap (wq : Int) = wq := IntWalk.i64_in _ (by omega)
            have hq0 : IntKind.i64.wrap ((b : Int) + 7) = b + 7 := IntWalk.i64_in _ (by omega)
            have hq1 : IntKind.i64.wrap (((b : Int) + 7) / 8) = wq := by rw [IntWalk.i64_in _ (by omega)]; omega
            have hq2 : IntKind.i64.wrap (2 + (wq : Int)) = 2 + wq := IntWalk.i64_in _ (by omega)
            have hwrd : IntKind.i64.wrap (rd xs 0) = rd xs 0 := IntWalk.i64_in _ (by omega)
            have HWQ := Lib.hid hwq
            clear hwq hqq
            refine wp_region_mix ((RefT w w1.heap.size sl)) [(0, 0), (1, 0), (2, 0), (3, 0), (4, 0), (5, 0), (6, 0), (7, 0), (8, 0), (9, 0), (10, 0), (11, 0), (12, 2), (13, 0), (14, 0)] (by kernel_rfl) (by kernel_rfl) ((H5.out.1.step (below_drew1 _))) ?_
            simp only [List.map_cons, List.map_nil]
            iterate 2 (refine wpO_step0 rfl rfl (fun K hK => ?_); go_simp; refine hK _ _ ?_; clear hK K)
            refine wpO_loadW (t := 5) (ad := ad) rfl rfl ?hw rfl rfl ((fun w0 hS => load_u8 (HC.out w0 hS.below))) ?_
            case hw => go_simp
            iterate 1 (refine wpO_step0 rfl rfl (fun K hK => ?_); go_simp; refine hK _ _ ?_; clear hK K)
            refine wpO_loadW (t := 29) (ad := ⟨w1.heap.size, 0, none⟩) rfl rfl ?hw rfl rfl ((fun w0 hS => load_arr0 hsomeB hS.arr)) ?_
            case hw => go_simp
            refine wpO_step0 rfl rfl (fun K hK => ?_)
            rw [if_pos (show Region.wanted _ _ = true from rfl)]
            refine ⟨_, fun w0 => exec_build_adr rfl rfl rfl hsomeB.len w0, hK _ _ ?_⟩
            clear hK K
            iterate 1 (refine wpO_step0 rfl rfl (fun K hK => ?_); go_simp; refine hK _ _ ?_; clear hK K)
            refine wpO_step0 rfl rfl (fun K hK => ?_)
            rw [if_pos (show Region.wanted _ _ = true from rfl)]
            refine ⟨_, fun w0 => exec_build_pfx rfl rfl rfl hsomeB.len w0, hK _ _ ?_⟩
            clear hK K
            iterate 4 (refine wpO_step0 rfl rfl (fun K hK => ?_); go_simp; refine hK _ _ ?_; clear hK K)
            refine wpO_step2 rfl rfl (H5.out.1.step (below_drew1 _)) (fun K hK => ?_)
            rw [if_pos (show Region.wanted _ _ = true from rfl)]
            refine oper_store_blk (blk_below H5.out.2 (below_drew1 _)) 36 0 (pfxV (rd xs 0) sl b) (store_pfx_fit hsomeB.len rfl) (info_pfx hsomeB.len) (pfx_one _ _ _) _ _ rfl rfl rfl ?_
            intro w6 hg6 hs6 hb6
            rw [splice_pfx _ _ _ sl hsomeB.len rfl] at hb6
            have H6 := Lib.hid (And.intro ((H5.out.1.step (below_drew1 _)).grow hg6 (by omega) (by omega)) hb6)
            clear hg6 hs6 hb6
            refine hK _ _ ⟨H6.out.1, ?_⟩
            clear hK K
            iterate 2 (refine wpO_step0 rfl rfl (fun K hK => ?_); go_simp; refine hK _ _ ?_; clear hK K)
            refine wpO_nil ?_
            go_wp2
            have hld := load_pfx hsomeB H6.out.2
            refine bodyPost_ret (results_c3 rfl rfl hld) rfl ?_
            rw [HE.out.1, HE.out.2.1, HE.out.2.2.1, HSL.out.1, HWQ.out]
            exact ⟨rfl, H6.out.1.below⟩
          · have HE := Lib.hid (HPE.out.trans HSL.out.2)
            have HN0 := Lib.hid (decP_no (by rw [HE.out]; exact hse))
            have hsb : (se != 0) = true := by simpa using hse
            have hbn := run_build_pfx_nil
            clear hse
            go_wp2_with (first | (refine wpList_store_blk HN.out 29 0 (arrV sl) (by rw [arr_size hsomeB.len, arr_size rfl]; exact Nat.le_refl _) (info_arr hsomeB.len) (arr_one _) _ _ rfl rfl rfl rfl ?_; intro w5 hg5 hs5 hb5; rw [splice_arr0 _ sl hsomeB.len rfl] at hb5; have H5 : Hid (RefT w w1.heap.size sl w5 ∧ w5.heap[w.heap.size]? = some (.cells (pfxV 0 zero16 0) 36 (0, 0))) := ⟨⟨below_grown (below_alloc HB1.out _) hg5 HB1.out.size, hb5⟩, blk_grown (blk_below HZ1.out (below_alloc (Below.refl _ _) _)) hg5 (fun e => by injection e with e; omega)⟩; clear hg5 hs5 hb5) | (refine wpList_store_blk H5.out.2 36 0 (pfxV 0 zero16 0) (store_pfx_fit rfl rfl) (info_pfx rfl) (pfx_one _ _ _) _ _ rfl rfl rfl rfl ?_; intro w9 hg9 hs9 hb9; rw [splice_pfx _ 0 0 zero16 rfl rfl] at hb9; have H9 := Lib.hid (And.intro hg9 hb9); clear hg9 hs9 hb9))
            have hld := load_pfx zero16_B H9.out.2
            refine bodyPost_ret (results_c3 rfl rfl hld) rfl ?_
            rw [HN0.out.1, HN0.out.2, HE.out]
            exact ⟨rfl, below_grown H5.out.1.below H9.out.1 (by omega)⟩
end Go.Proofs.YtihfaknflfmohaaDoor

/- Layer 9 (table): the document's Decode. -/
namespace Go.Proofs.YtihfaknflfmohaaDoor
open Go.RowKit
set_option linter.unusedVariables false
set_option linter.unusedSimpArgs false
set_option maxRecDepth 4000
theorem wf_small {x : Int} (h : 0 ≤ x ∧ x ≤ 1000) : (Lit.int .i64 x).wf = true := by
  have h1 : IntKind.i64.min ≤ x := by show (-9223372036854775808 : Int) ≤ x; omega
  have h2 : x ≤ IntKind.i64.max := by show x ≤ (9223372036854775807 : Int); omega
  simp only [Lit.wf, h1, h2, decide_true, Bool.and_self]
theorem Oks.snoc {t : List Row} (h : Oks t) {r : Row} (hr : r.ok) : Oks (t ++ [r]) := fun x hx => by
  rcases List.mem_append.1 hx with h1 | h1
  · exact h x h1
  · rw [List.mem_singleton.1 h1]; exact hr
theorem decP_okk {xs : List Int} (hx : Bytes xs) (h : decPE xs = 0) : (decP xs).ok := by
  obtain ⟨h1, h2, -⟩ := enc_dec hx h
  obtain ⟨b, hb, -, hb2⟩ := right_b h1
  have hv := right_v h1
  refine ⟨h2, ?_, ?_⟩
  · rcases hv with h | h <;> rw [h] <;> rfl
  · rw [hb]
    have := fullB_le hb2
    exact wf_small (by omega)
set_option maxRecDepth 100000 in
set_option maxHeartbeats 8000000 in
theorem refTdecode_any (A : Option Addr) (n c : Nat) (xs : List Int) (w : World) (hr : RB w A n c xs) (hn : n ≤ 100000) : Calls Tryd.prog 50 #[.slice A n c] w fun e w' => ∃ A' n' c', e = .returned (.tuple #[.agg (tabV A' n' c'), .int .i64 (decTE xs)]) ∧ OT w' w.heap.size A' n' c' (decTL xs) ∧ Below w.heap.size w w' ∧ Oks (decTL xs) := by
  have HLEN := Lib.hid hr.len
  have HZ := Lib.hid (blk_new w (.cells (tabV none 0 0) 28))
  have HBZ : Hid (Below w.heap.size w (w.alloc (.cells (tabV none 0 0) 28))) := below_alloc (Below.refl _ _) _
  have HR0 := Lib.hid hr
  have HBY := Lib.hid hr.range
  have hbn := run_build_tab_nil
  have hs0 : (w.alloc (.cells (tabV none 0 0) 28)).heap.size = w.heap.size + 1 := by simp
  have HD1 : Hid (TD w ((w.alloc (.cells (tabV none 0 0) 28)).alloc (.cells (tabV none 0 0) 28)) (w.heap.size + 1) none 0 0 []) :=
    ⟨blk_below HZ.out (below_alloc (Below.refl _ _) _), hs0 ▸ blk_new _ _, OS.nil _ _ _, below_alloc HBZ.out _⟩
  obtain ⟨gt, hgt⟩ : ∃ gt, w.heap.size + 1 = gt := ⟨_, rfl⟩
  by_cases hx0 : xs.length = 0
  · have hn0 : n = 0 := by rw [← HLEN.out]; exact hx0
    have he : decTE xs = 7 := by unfold decTE; rw [if_pos hx0]
    have HE := Lib.hid (And.intro he (decT_none (xs := xs) (by rw [he]; decide)))
    subst hn0
    clear he hx0 hr
    go_enter Tryd.func50, Tryd.ntmps50
    go_wp2_with (first | ((with_reducible show wpList _ _ _ (Oper.mk _ (Op.store _ _ _) _ _ _ _ :: _) _ _); refine wpList_store_blk HZ.out 28 0 (tabV none 0 0) (Nat.le_refl _) (info_tab _ _ _) (tab_one _ _ _) _ _ rfl rfl rfl rfl ?_; intro wc hg9 hs9 hb9; rw [splice_tab] at hb9; have Hc := Lib.hid (And.intro hg9 hb9); clear hg9 hs9 hb9))
    have hld := load_tab Hc.out.2
    refine bodyPost_ret (results_c2 rfl rfl hld) rfl ?_
    rw [HE.out.1, HE.out.2]
    exact ⟨_, _, _, rfl, OS.nil _ _ _, below_grown HBZ.out Hc.out.1 (by omega), fun r hr => by cases hr⟩
  · have hn1 : 1 ≤ n := by rw [← HLEN.out]; omega
    obtain ⟨ad, rfl, hc00⟩ := hr.at_ 0 (by omega) (by omega)
    have HADL := Lib.hid (show ad.block < w.heap.size from World.block_lt_of_cell? _ _ hc00)
    clear hc00
    have hrx := HBY.out.getD 0
    obtain ⟨K, hK⟩ := Int.eq_ofNat_of_zero_le hrx.1
    have hK' : rd xs 0 = K := hK
    have hK1 : K < 256 := by have h1 : rd xs 0 < 256 := hrx.2; omega
    have HK := Lib.hid hK'
    have HX0 := Lib.hid hx0
    have HTR : Hid (decTR xs = decAcc K [] (xs.drop 1)) := Lib.hid (by unfold decTR; rw [hK']; rfl)
    have hlt1 : ¬ ((n : Int) < 1) := by omega
    clear hr hx0 hrx hK hK'
    go_enter Tryd.func50, Tryd.ntmps50
    go_wp2_with fail
    rw [hgt] at HD1
    go_loopw [5, 6] (fun y x wr => ∃ (k m : Nat) (A1 : Option Addr) (c1 : Nat) (acc : List Row), x = .int .i64 k ∧ y = .int .i64 m ∧ Hid (k ≤ K ∧ m ≤ n ∧ TD w wr gt A1 k c1 acc ∧ decTR xs = decAcc (K - k) acc (xs.drop m) ∧ Oks acc)) (fun _ x _ => K - (intOf x).toNat)
    case atStart => exact ⟨0, 1, none, 0, [], rfl, rfl, Nat.zero_le _, hn1, HD1.out, HTR.out, fun r hr => by cases hr⟩
    case round =>
      obtain ⟨k, m, A1, c1, acc, rfl, rfl, HH⟩ := hrel
      have HD := Lib.hid HH.out.2.2.1
      have hmn := HH.out.2.1
      obtain ⟨ad', hade, hc0⟩ := (HR0.out.below HD.out.below).at_ 0 (by omega) (by omega)
      injection hade with hade
      subst hade
      rw [HK.out, show ad.add (0 : Int).toNat = ad by simp [Addr.add]] at hc0
      by_cases hlt : k < K
      · have hlt' : (k : Int) < K := by omega
        obtain ⟨ys, hys⟩ : ∃ ys, xs.drop m = ys := ⟨_, rfl⟩
        obtain ⟨L, hL⟩ : ∃ L, ys.length = L := ⟨_, rfl⟩
        have hmL : m + L = n := by rw [← hL, ← hys, List.length_drop, HLEN.out]; omega
        have HTE := Lib.hid HH.out.2.2.2.1
        have HOK := Lib.hid HH.out.2.2.2.2
        rw [hys] at HTE
        have HYS := Lib.hid (And.intro hys hL)
        obtain ⟨A2, hsl, hsr, -⟩ := cut_bytes (some ad) n c m (by omega) (by omega)
        rw [Int.toNat_natCast] at hsl hsr
        have HRB := Lib.hid (hsr wr _ (HR0.out.below HD.out.below))
        rw [hys] at HRB
        have HLT := Lib.hid hlt
        clear hys hL hsr HH hlt
        have hp16 : B16 (decP ys).l := decP_16 (HYS.out.1 ▸ HBY.out.drop m)
        go_wp2_with fail
        refine (refdecode_any A2 (n - m) (c - m) ys wr HRB.out).mono ?_
        rintro e w4 ⟨rfl, hb4⟩
        have HD4 := Lib.hid (HD.out.step hb4)
        have HLT4 := Lib.hid (Nat.lt_of_lt_of_le (blk_lt HD.out.tab) hb4.size)
        have HAL := Lib.hid (fun ad e => Nat.lt_of_lt_of_le (HD.out.own.lt ad e) hb4.size)
        have HP4 := Lib.hid (blk_new w4 (.cells (pfxV 0 zero16 0) 36))
        obtain ⟨pp, hpp⟩ : ∃ pp, decP ys = pp := ⟨_, rfl⟩
        obtain ⟨ee, hee⟩ : ∃ ee, decPE ys = ee := ⟨_, rfl⟩
        obtain ⟨nn, hnn⟩ : ∃ nn, decPN ys = nn := ⟨_, rfl⟩
        rw [hpp] at hp16
        have hp16l := hp16.len
        rw [hpp, hee, hnn]
        have HPN := Lib.hid (And.intro hpp (And.intro hee hnn))
        clear hb4 HRB HD hpp hee hnn hsl hc0
        by_cases h7 : ee = 7
        · subst h7
          have he := decTE_of HX0.out (show (decTR xs).1 = 7 by rw [HTE.out]; exact decAcc_7 (by have := HLT.out; omega) HPN.out.2.1) (by decide)
          have HE := Lib.hid (And.intro he (decT_none (xs := xs) (by rw [he]; decide)))
          clear he
          go_wp2_with (first | ((with_reducible show wpList _ _ _ (Oper.mk _ (Op.store _ _ _) _ _ _ _ :: _) _ _); refine wpList_store_blk HP4.out 36 0 (pfxV (pp.v) (pp.l) (pp.b)) (store_pfx_fit hp16l rfl) (info_pfx hp16l) (pfx_one _ _ _) _ _ rfl rfl rfl rfl ?_; intro w5 hg9 hs9 hb9; rw [splice_pfx _ _ _ _ hp16l rfl] at hb9; have H5 := Lib.hid (And.intro hg9 hb9); have HD5 := Lib.hid (HD4.out.step (below_grown (below_alloc (Below.refl w4.heap.size w4) _) hg9 (Nat.le_refl _))); clear hg9 hs9 hb9) | ((with_reducible show wpList _ _ _ (Oper.mk _ (Op.store _ _ _) _ _ _ _ :: _) _ _); refine wpList_store_blk HD5.out.zero 28 0 (tabV none 0 0) (Nat.le_refl _) (info_tab _ _ _) (tab_one _ _ _) _ _ rfl rfl rfl rfl ?_; intro w6 hg9 hs9 hb9; rw [splice_tab] at hb9; have H6 := Lib.hid (And.intro hg9 hb9); clear hg9 hs9 hb9))
          have hld := load_tab H6.out.2
          refine bodyPost_ret (results_c2 rfl rfl hld) rfl ?_
          rw [HE.out.1, HE.out.2]
          exact ⟨_, _, _, rfl, OS.nil _ _ _, below_grown HD5.out.below H6.out.1 (by omega), fun r hr => by cases hr⟩
        · by_cases hz : ee = 0
          · subst hz
            have hnz := dec_nat (HYS.out.1 ▸ HBY.out.drop m) HPN.out.2.1
            rw [HPN.out.2.2] at hnz
            obtain ⟨q, hq, hql⟩ := hnz
            subst hq
            have hqL : q ≤ L := by rw [← HYS.out.2]; exact hql
            have hwq : IntKind.i64.wrap ((m : Int) + (q : Int)) = (m : Int) + q := IntWalk.i64_in _ (by omega)
            clear hql h7
            by_cases hqL2 : L = q
            · have he := decTE_of HX0.out (show (decTR xs).1 = 7 by rw [HTE.out]; exact decAcc_short (by have := HLT.out; omega) HPN.out.2.1 HPN.out.2.2 (by rw [HYS.out.2]; omega)) (by decide)
              have HE := Lib.hid (And.intro he (decT_none (xs := xs) (by rw [he]; decide)))
              have hge : (n : Int) ≤ (m : Int) + q := by omega
              clear he hqL2
              go_wp2_with (first | ((with_reducible show wpList _ _ _ (Oper.mk _ (Op.store _ _ _) _ _ _ _ :: _) _ _); refine wpList_store_blk HP4.out 36 0 (pfxV (pp.v) (pp.l) (pp.b)) (store_pfx_fit hp16l rfl) (info_pfx hp16l) (pfx_one _ _ _) _ _ rfl rfl rfl rfl ?_; intro w5 hg9 hs9 hb9; rw [splice_pfx _ _ _ _ hp16l rfl] at hb9; have H5 := Lib.hid (And.intro hg9 hb9); have HD5 := Lib.hid (HD4.out.step (below_grown (below_alloc (Below.refl w4.heap.size w4) _) hg9 (Nat.le_refl _))); clear hg9 hs9 hb9) | ((with_reducible show wpList _ _ _ (Oper.mk _ (Op.store _ _ _) _ _ _ _ :: _) _ _); refine wpList_store_blk HD5.out.zero 28 0 (tabV none 0 0) (Nat.le_refl _) (info_tab _ _ _) (tab_one _ _ _) _ _ rfl rfl rfl rfl ?_; intro w6 hg9 hs9 hb9; rw [splice_tab] at hb9; have H6 := Lib.hid (And.intro hg9 hb9); clear hg9 hs9 hb9))
              have hld := load_tab H6.out.2
              refine bodyPost_ret (results_c2 rfl rfl hld) rfl ?_
              rw [HE.out.1, HE.out.2]
              exact ⟨_, _, _, rfl, OS.nil _ _ _, below_grown HD5.out.below H6.out.1 (by omega), fun r hr => by cases hr⟩
            · have hge : ¬ (n : Int) ≤ (m : Int) + q := by omega
              have hge2 : (m : Int) + q < n := by omega
              have hge0 : (0 : Int) ≤ (m : Int) + q := by omega
              go_wp2_with (first | ((with_reducible show wpList _ _ _ (Oper.mk _ (Op.store _ _ _) _ _ _ _ :: _) _ _); refine wpList_store_blk HP4.out 36 0 (pfxV (pp.v) (pp.l) (pp.b)) (store_pfx_fit hp16l rfl) (info_pfx hp16l) (pfx_one _ _ _) _ _ rfl rfl rfl rfl ?_; intro w5 hg9 hs9 hb9; rw [splice_pfx _ _ _ _ hp16l rfl] at hb9; have H5 := Lib.hid (And.intro hg9 hb9); have HD5 := Lib.hid (HD4.out.step (below_grown (below_alloc (Below.refl w4.heap.size w4) _) hg9 (Nat.le_refl _))); clear hg9 hs9 hb9))
              have hgp := HLT4.out
              have HB5 := Lib.hid (below_grown (below_alloc (Below.refl w4.heap.size w4) (.cells (pfxV 0 zero16 0) 36)) H5.out.1 (Nat.le_refl _))
              have HRX := Lib.hid (HR0.out.below HD5.out.below)
              obtain ⟨zs, hzs⟩ : ∃ zs, ys.drop q = zs := ⟨_, rfl⟩
              obtain ⟨hv, hhv⟩ : ∃ hv, rd xs ((m : Int) + (q : Int)) = hv := ⟨_, rfl⟩
              have hzr : 0 ≤ hv ∧ hv < 256 := by rw [← hhv]; exact HBY.out.getD _
              have hw8 : IntKind.i64.wrap hv = hv := IntWalk.i64_in _ (by omega)
              have HHV := Lib.hid hhv
              obtain ⟨gp, hgpe⟩ : ∃ gp, w4.heap.size = gp := ⟨_, rfl⟩
              rw [hgpe] at hgp H5 HAL ⊢
              have HP5 := Lib.hid H5.out.2
              clear hzs hhv HP4 HD4 HB5 H5
              refine wp_region_mix ((fun w0 => w0.heap[gt]? = some (.cells (tabV A1 k c1) 28 (0, 0)) ∧ w0.heap[gp]? = some (.cells (pfxV pp.v pp.l pp.b) 36 (0, 0)) ∧ RB w0 (some ad) n c xs)) [(0, 0), (1, 0), (2, 0), (3, 0), (4, 0), (5, 0), (6, 0), (7, 0), (8, 0), (9, 0), (10, 0), (11, 2), (12, 2), (13, 0), (14, 3)] (by kernel_rfl) (by kernel_rfl) (⟨HD5.out.tab, HP5.out, HRX.out.below (below_drew1 _)⟩) ?_
              simp only [List.map_cons, List.map_nil]
              iterate 1 (refine wpO_step0 rfl rfl (fun K hK => ?_); go_simp; refine hK _ _ ?_; clear hK K)
              refine wpO_loadW (t := 26) (ad := ⟨gt, 0, none⟩) rfl rfl ?hw rfl rfl ((fun w0 hS => ((tab_at hS.1).all _ (Below.refl _ _)).2)) ?_
              case hw => go_simp
              refine wpO_loadW (t := 36) (ad := ⟨gp, 0, none⟩) rfl rfl ?hw rfl rfl ((fun w0 hS => load_pfx hp16 hS.2.1)) ?_
              case hw => go_simp
              iterate 5 (refine wpO_step0 rfl rfl (fun K hK => ?_); go_simp; refine hK _ _ ?_; clear hK K)
              have HCL : Hid (∀ w0, RB w0 (some ad) n c xs → w0.cell? (ad.add (m + q)) = some (.int .u8 hv)) := Lib.hid (fun w0 h0 => by
                obtain ⟨a1, e1, e2⟩ := h0.at_ ((m : Int) + (q : Int)) (by omega) (by omega)
                injection e1 with e1
                subst e1
                rw [HHV.out] at e2
                exact e2)
              refine wpO_loadW (t := 5) (ad := (ad.add (m + q))) rfl rfl ?hw rfl rfl ((fun w0 hS => load_u8 (HCL.out w0 hS.2.2))) ?_
              case hw => go_simp
              iterate 1 (refine wpO_step0 rfl rfl (fun K hK => ?_); go_simp; refine hK _ _ ?_; clear hK K)
              refine wpO_step0 rfl rfl (fun K hK => ?_)
              rw [if_pos (show Region.wanted _ _ = true from rfl)]
              refine ⟨_, fun w0 => exec_build_row (p := pp) (h := hv) rfl rfl rfl hp16l w0, hK _ _ ?_⟩
              clear hK K
              refine wpO_step2 rfl rfl (⟨HD5.out.tab, HP5.out, HRX.out.below (below_drew1 _)⟩) (fun K hK => ?_)
              rw [if_pos (show Region.wanted _ _ = true from rfl)]
              refine oper_exec (exec_lit1 rowK (x := .tmp 58) rfl ⟨pp, hv⟩ rfl hp16 (by show 19 ≤ _; omega) _) ?_
              have HD8 := Lib.hid (HD5.out.step (below_drew1 w5))
              have HB8 := Lib.hid (below_alloc (Below.refl w5.drew.heap.size w5.drew) (.cells (rowK.enc ⟨pp, hv⟩).toArray rowK.t))
              have HD8 := Lib.hid (HD8.out.step HB8.out)
              have HP8 := Lib.hid (blk_below (show w5.drew.heap[gp]? = _ from HP5.out) HB8.out)
              have HR8 := Lib.hid ((HRX.out.below (below_drew1 w5)).below HB8.out)
              have hgt5 := blk_lt HD5.out.tab
              refine hK _ _ ⟨⟨HD8.out.tab, HP8.out, HR8.out⟩, ?_⟩
              clear hK K
              refine wpO_step2 rfl rfl (⟨HD8.out.tab, HP8.out, HR8.out⟩) (fun K hK => ?_)
              rw [if_pos (show Region.wanted _ _ = true from rfl)]
              refine oper_append_shp (S := rowK) (.tmp 49) (.tmp 59) rfl rfl rfl HD8.out.own (OS.one rowK w5.drew 0 ⟨pp, hv⟩ (Nat.zero_le _) hp16).reads (by simp; omega) (by omega) ?_
              intro A9 c9 w9 h1 h2 h3
              have hA8 := HD8.out.own.base_
              have hT9 := blk_own2 HD8.out.tab h2 (fun ad e => by have := hA8 ad e; omega)
              have hR9 := HR8.out.grown h2 (fun ad0 e hh => by
                injection e with e
                subst e
                obtain ⟨ad2, e1, e2⟩ := own_of hh.symm
                have := hA8 ad2 e1
                have := HADL.out
                omega)
              have HT9 := Lib.hid hT9
              have H9 := Lib.hid (And.intro h1 (And.intro h2 hR9))
              clear h1 h2 h3 hT9 hR9
              refine hK _ _ ⟨⟨HT9.out, blk_own2 HP8.out H9.out.2.1 (fun ad e => by have := HAL.out ad e; omega), H9.out.2.2⟩, ?_⟩
              clear hK K
              iterate 1 (refine wpO_step0 rfl rfl (fun K hK => ?_); go_simp; refine hK _ _ ?_; clear hK K)
              refine wpO_step3 rfl rfl (fun K hK => ?_)
              rw [if_pos (show Region.wanted _ _ = true from rfl)]
              refine oper_store_cell HT9.out 26 0 (.slice A9 (k + 1) c9) (Nat.le_refl _) (by kernel_rfl) rfl rfl _ _ rfl rfl rfl ?_
              intro wa hga hsa hta
              have HDa := Lib.hid (HD8.out.push H9.out.2.1 hga H9.out.1 hta (by omega))
              clear hga hsa hta H9 HT9 HD8 HP8 HR8 HB8 HD5 HP5 HRX hA8
              refine hK _ _ ?_
              clear hK K
              refine wpO_nil ?_
              have hst := decAcc_step HLT.out HPN.out.2.1 HPN.out.2.2 (show q < ys.length by rw [HYS.out.2]; omega) (acc := acc)
              have hyq : rd ys (q : Int) = hv := by
                rw [← HHV.out, ← HYS.out.1, ← rd_drop2, List.drop_drop, rd_drop2]
                congr 1
              have hdr2 : ys.drop (q + 1) = xs.drop (m + q + 1) := by rw [← HYS.out.1, List.drop_drop]; congr 1
              rw [HPN.out.1, hyq, hdr2] at hst
              have HST := Lib.hid hst
              have hok : (Row.mk pp hv).ok := ⟨HPN.out.1 ▸ decP_okk (HYS.out.1 ▸ HBY.out.drop m) HPN.out.2.1, wf_small (by show 0 ≤ hv ∧ hv ≤ 1000; omega)⟩
              have HOK2 := Lib.hid (HOK.out.snoc hok)
              have hwq1 : IntKind.i64.wrap ((m : Int) + (q : Int) + 1) = (m : Int) + q + 1 := IntWalk.i64_in _ (by omega)
              clear hst hyq hdr2 hok
              go_wp2
              go_roundw
              case measure => simp [intOf]; omega
              case rel => exact ⟨k + 1, m + q + 1, A9, c9, acc ++ [⟨pp, hv⟩], by go_num, by go_num, by omega, by omega, HDa.out, HTE.out.trans HST.out, HOK2.out⟩
          · have he := decTE_of HX0.out (show (decTR xs).1 = 190 by rw [HTE.out]; exact decAcc_bad (by have := HLT.out; omega) (by rw [HPN.out.2.1]; exact h7) (by rw [HPN.out.2.1]; exact hz)) (by decide)
            have HE := Lib.hid (And.intro he (decT_none (xs := xs) (by rw [he]; decide)))
            have h7b : (ee == 7) = false := by simpa using h7
            have hzc : (ee == 0) = false := by simpa using hz
            have hzb : (ee != 0) = true := by simpa using hz
            clear h7 hz he
            go_wp2_with (first | ((with_reducible show wpList _ _ _ (Oper.mk _ (Op.store _ _ _) _ _ _ _ :: _) _ _); refine wpList_store_blk HP4.out 36 0 (pfxV (pp.v) (pp.l) (pp.b)) (store_pfx_fit hp16l rfl) (info_pfx hp16l) (pfx_one _ _ _) _ _ rfl rfl rfl rfl ?_; intro w5 hg9 hs9 hb9; rw [splice_pfx _ _ _ _ hp16l rfl] at hb9; have H5 := Lib.hid (And.intro hg9 hb9); have HD5 := Lib.hid (HD4.out.step (below_grown (below_alloc (Below.refl w4.heap.size w4) _) hg9 (Nat.le_refl _))); clear hg9 hs9 hb9) | ((with_reducible show wpList _ _ _ (Oper.mk _ (Op.store _ _ _) _ _ _ _ :: _) _ _); refine wpList_store_blk HD5.out.zero 28 0 (tabV none 0 0) (Nat.le_refl _) (info_tab _ _ _) (tab_one _ _ _) _ _ rfl rfl rfl rfl ?_; intro w6 hg9 hs9 hb9; rw [splice_tab] at hb9; have H6 := Lib.hid (And.intro hg9 hb9); clear hg9 hs9 hb9))
            have hld := load_tab H6.out.2
            refine bodyPost_ret (results_c2 rfl rfl hld) rfl ?_
            rw [HE.out.1, HE.out.2]
            exact ⟨_, _, _, rfl, OS.nil _ _ _, below_grown HD5.out.below H6.out.1 (by omega), fun r hr => by cases hr⟩
      · obtain rfl : k = K := by have := HH.out.1; omega
        have HTE := Lib.hid HH.out.2.2.2.1
        have HOK := Lib.hid HH.out.2.2.2.2
        rw [Nat.sub_self, decAcc] at HTE
        have hT : decTE xs = if (xs.drop m).length = 0 ∧ tabB acc = true then 0 else 190 := by
          unfold decTE
          rw [if_neg HX0.out, HTE.out]
          rfl
        have HTT := Lib.hid hT
        have HAC := Lib.hid (show decTE xs = 0 → decTL xs = acc from fun hh => by unfold decTL; rw [if_pos hh, HTE.out])
        have HLL := Lib.hid (show (xs.drop m).length = n - m by rw [List.length_drop, HLEN.out])
        clear hT HH hlt
        by_cases hl0 : m = n
        · subst hl0
          have hlt := ((tab_at HD.out.tab).all wr (Below.refl _ _)).1
          go_wp2_with (first | ((with_reducible show wpList _ _ _ (Oper.mk _ (Op.load _ _) _ _ _ _ :: _) _ _); refine wpList_load_g hlt _ rfl rfl (by go_simp) ?_))
          refine (refRight_any A1 k c1 acc wr HD.out.own.reads HOK.out (by omega)).mono ?_
          rintro e w8 ⟨rfl, hb8⟩
          have HD8 := Lib.hid (HD.out.step hb8)
          clear hlt hb8
          cases hR : tabB acc with
          | true =>
            have hE0 : decTE xs = 0 := by rw [HTT.out, if_pos ⟨by rw [HLL.out]; omega, hR⟩]
            have HE := Lib.hid (And.intro hE0 (HAC.out hE0))
            have hlt := ((tab_at HD8.out.tab).all w8 (Below.refl _ _)).1
            clear hE0 hR
            go_wp2_with (first | ((with_reducible show wpList _ _ _ (Oper.mk _ (Op.load _ _) _ _ _ _ :: _) _ _); refine wpList_load_g hlt _ rfl rfl (by go_simp) ?_) | ((with_reducible show wpList _ _ _ (Oper.mk _ (Op.store _ _ _) _ _ _ _ :: _) _ _); refine wpList_store_blk HD8.out.zero 28 0 (tabV A1 k c1) (Nat.le_refl _) (info_tab _ _ _) (tab_one _ _ _) _ _ rfl rfl rfl rfl ?_; intro wc hg9 hs9 hb9; rw [splice_tab] at hb9; have Hc := Lib.hid (And.intro hg9 hb9); clear hg9 hs9 hb9))
            have hld := load_tab Hc.out.2
            refine bodyPost_ret (results_c2 rfl rfl hld) rfl ?_
            rw [HE.out.1, HE.out.2]
            exact ⟨_, _, _, rfl, (HD8.out.own.grown Hc.out.1 (fun ad e hh => by have := HD8.out.own.base_ ad e; injection hh with hh; omega)).lower (by omega), below_grown HD8.out.below Hc.out.1 (by omega), HOK.out⟩
          | false =>
            have hE0 : decTE xs = 190 := by rw [HTT.out, if_neg (fun h => by rw [hR] at h; cases h.2)]
            have HE := Lib.hid (And.intro hE0 (decT_none (xs := xs) (by rw [hE0]; decide)))
            clear hE0 hR
            go_wp2_with (first | ((with_reducible show wpList _ _ _ (Oper.mk _ (Op.store _ _ _) _ _ _ _ :: _) _ _); refine wpList_store_blk HD8.out.zero 28 0 (tabV none 0 0) (Nat.le_refl _) (info_tab _ _ _) (tab_one _ _ _) _ _ rfl rfl rfl rfl ?_; intro wc hg9 hs9 hb9; rw [splice_tab] at hb9; have Hc := Lib.hid (And.intro hg9 hb9); clear hg9 hs9 hb9))
            have hld := load_tab Hc.out.2
            refine bodyPost_ret (results_c2 rfl rfl hld) rfl ?_
            rw [HE.out.1, HE.out.2]
            exact ⟨_, _, _, rfl, OS.nil _ _ _, below_grown HD8.out.below Hc.out.1 (by omega), fun r hr => by cases hr⟩
        · have hE0 : decTE xs = 190 := by rw [HTT.out, if_neg (fun h => hl0 (by have := h.1; rw [HLL.out] at this; omega))]
          have HE := Lib.hid (And.intro hE0 (decT_none (xs := xs) (by rw [hE0]; decide)))
          have hl1 : ((m : Int) != (n : Int)) = true := by simp; omega
          have hl2 : ((m : Int) == (n : Int)) = false := by simp; omega
          clear hE0
          go_wp2_with (first | ((with_reducible show wpList _ _ _ (Oper.mk _ (Op.store _ _ _) _ _ _ _ :: _) _ _); refine wpList_store_blk HD.out.zero 28 0 (tabV none 0 0) (Nat.le_refl _) (info_tab _ _ _) (tab_one _ _ _) _ _ rfl rfl rfl rfl ?_; intro wc hg9 hs9 hb9; rw [splice_tab] at hb9; have Hc := Lib.hid (And.intro hg9 hb9); clear hg9 hs9 hb9))
          have hld := load_tab Hc.out.2
          refine bodyPost_ret (results_c2 rfl rfl hld) rfl ?_
          rw [HE.out.1, HE.out.2]
          exact ⟨_, _, _, rfl, OS.nil _ _ _, below_grown HD.out.below Hc.out.1 (by omega), fun r hr => by cases hr⟩
end Go.Proofs.YtihfaknflfmohaaDoor

/- Layer 9 (table): the document's bytes. -/
namespace Go.Proofs.YtihfaknflfmohaaDoor
open Go.RowKit
set_option linter.unusedVariables false
set_option linter.unusedSimpArgs false
set_option maxRecDepth 4000
set_option maxHeartbeats 4000000 in
theorem reftbytes_any (A : Option Addr) (n c : Nat) (t : List Row) (w : World) (ht : RT w A n c t) (hR : tabB t = true) : Calls Tryd.prog 53 #[.agg (tabV A n c)] w fun e w' => ∃ A' n' c', e = .returned (.slice A' n' c') ∧ RB w' A' n' c' (encT t) ∧ Below w.heap.size w w' := by
  have hblk1 := blk_new w (.cells (tabV A n c) 28)
  have hbel1 : Below w.heap.size w (w.alloc (.cells (tabV A n c) 28)) := below_alloc (Below.refl _ _) _
  have HP1 := Lib.hid (tab_at hblk1)
  have HBK1 := Lib.hid hblk1
  have HBE := Lib.hid hbel1
  obtain ⟨cs1, hcs1⟩ : ∃ cs, tabV A n c = cs := ⟨_, rfl⟩
  simp only [hcs1] at HBE HP1 HBK1 ⊢
  have HC1 := Lib.hid hcs1
  clear hcs1 hblk1 hbel1
  have HT := Lib.hid (ht.below HBE.out)
  have HE := Lib.hid (show encT t = (n : Int) :: encRs t by
      unfold encT
      have := (tabB_to hR).1
      rw [HT.out.len, show ((n : Int) % 256) = n by rw [HT.out.len] at this; omega])
  have HALL := Lib.hid (tabB_to hR).2.1
  have hn40 : n ≤ 40 := by have := (tabB_to hR).1; rw [HT.out.len] at this; exact this
  obtain ⟨w1, hw1⟩ : ∃ w1, w.alloc (.cells cs1 28) = w1 := ⟨_, rfl⟩
  have HO0 := Lib.hid (OB.one w1 (n : Int) (by omega) w1.heap.size (Nat.le_refl _))
  rw [hw1] at HT HP1 HBE
  have hl1 := (HP1.out.all w1 (Below.refl _ _)).2
  clear ht hR
  go_enter Tryd.func53, Tryd.ntmps53
  go_wp2_with (first | ((with_reducible show wpList _ _ _ (Oper.mk _ (Op.load _ _) _ _ _ _ :: _) _ _); refine wpList_load_g hl1 _ rfl rfl (by go_simp) ?_))
  clear hl1 hw1
  go_loopw [3, 4] (fun y x wr => ∃ (i : Nat) (A1 : Option Addr) (n1 c1 : Nat), x = .int .i64 i ∧ y = .slice A1 n1 c1 ∧ Hid (i ≤ n ∧ n1 ≤ 1 + 19 * i ∧ RB wr A1 n1 c1 ((n : Int) :: encRs (t.take i)) ∧ Below w1.heap.size w1 wr)) (fun _ x _ => n - (intOf x).toNat)
  case atStart => exact ⟨0, _, 1, 1, rfl, rfl, Nat.zero_le _, by omega, HO0.out.reads, below_alloc (Below.refl _ _) _⟩
  case round =>
    obtain ⟨i, A1, n1, c1, rfl, rfl, HH⟩ := hrel
    have hn1 := HH.out.2.1
    have hl1 := (HP1.out.all wr HH.out.2.2.2).2
    by_cases hlt : i < n
    · have hlt' : (i : Int) < n := by omega
      obtain ⟨b, o, rfl, hc⟩ := RT.at_ HT.out (by omega)
      have HC3 := Lib.hid (hc i hlt)
      have HF := Lib.hid (RT.fits_at HT.out hlt)
      have hilt : i < t.length := by rw [HT.out.len]; exact hlt
      have hrr := ((okB_iff _).1 (HALL.out _ (row_mem hilt))).1
      have HTS := Lib.hid (encRs_take hilt)
      have HRR := Lib.hid hrr
      have HO4 := Lib.hid HH.out.2.2.1
      obtain ⟨bb, hbb, -, hbb2⟩ := right_b hrr
      have hb0 : 0 ≤ (rowAt t i).p.b := by omega
      have hb1 : (rowAt t i).p.b ≤ 128 := by omega
      have hy0 : 0 ≤ (rowAt t i).h % 256 := by omega
      have hy1 : (rowAt t i).h % 256 < 256 := by omega
      clear hc hilt hrr hbb hbb2
      go_wp2_with (first | ((with_reducible show wpList _ _ _ (Oper.mk _ (Op.load _ _) _ _ _ _ :: _) _ _); refine wpList_load_g hl1 _ rfl rfl (by go_simp) ?_))
      clear hl1
      have hn40' : n1 ≤ 761 := by omega
      have HBD := Lib.hid (below_drew1 wr)
      refine wp_region_fork ((fun w0 => Below wr.heap.size wr w0)) (OrdT.fork [0, 1, 2, 3, 4, 5, 6, 9, 10, 11, 12, 13, 14, 15] 7 16 (OrdT.fork [] 8 16 (OrdT.lin [16, 17, 18]) (OrdT.lin [8, 17, 18])) (OrdT.lin [7, 8, 17, 18])) [(0, 0), (1, 0), (2, 0), (3, 0), (4, 0), (5, 0), (6, 0), (7, 2), (8, 2), (9, 0), (10, 0), (11, 0), (12, 0), (13, 0), (14, 0), (15, 0), (16, 2), (17, 2), (18, 0)] (by kernel_rfl) (by kernel_rfl) ((below_drew1 _)) ?_
      simp only [wpF]
      iterate 2 (refine wpO_step0 rfl rfl (fun K hK => ?_); go_simp; refine hK _ _ ?_; clear hK K)
      refine wpO_loadW (t := 26) (ad := ⟨w.heap.size, 0, none⟩) rfl rfl ?hw rfl rfl ((fun w0 hS => (HP1.out.all w0 (below_step HH.out.2.2.2 hS)).2)) ?_
      case hw => go_simp
      iterate 3 (refine wpO_step0 rfl rfl (fun K hK => ?_); go_simp; refine hK _ _ ?_; clear hK K)
      refine wpO_loadW (t := 36) (ad := ⟨b, (o+i*19), none⟩) rfl rfl ?hw rfl rfl ((fun w0 hS => (rowLd_of HF.out (HC3.out.below (below_step HH.out.2.2.2 hS))).pfx)) ?_
      case hw => go_simp
      iterate 1 (refine wpO_step0 rfl rfl (fun K hK => ?_); go_simp; refine hK _ _ ?_; clear hK K)
      refine wpO_loadW (t := 26) (ad := ⟨w.heap.size, 0, none⟩) rfl rfl ?hw rfl rfl ((fun w0 hS => (HP1.out.all w0 (below_step HH.out.2.2.2 hS)).2)) ?_
      case hw => go_simp
      iterate 3 (refine wpO_step0 rfl rfl (fun K hK => ?_); go_simp; refine hK _ _ ?_; clear hK K)
      refine wpO_loadW (t := 3) (ad := ⟨b, (o+i*19+18), none⟩) rfl rfl ?hw rfl rfl ((fun w0 hS => (rowLd_of HF.out (HC3.out.below (below_step HH.out.2.2.2 hS))).hop)) ?_
      case hw => go_simp
      iterate 1 (refine wpO_step0 rfl rfl (fun K hK => ?_); go_simp; refine hK _ _ ?_; clear hK K)
      have hwr : IntKind.u8.wrap (rowAt t i).h = (rowAt t i).h % 256 := rfl
      rw [hwr]
      clear hwr
      refine wpO_nil ⟨?_, ?_⟩
      · refine wpO_step2 rfl rfl (HBD.out) (fun K hK => ?_)
        go_simp
        refine (refbytes_any (rowAt t i).p wr.drew HF.out hb0 hb1).mono ?_
        rintro e w2 ⟨A2, n2, c2, rfl, hO9, hb9⟩
        have HBC := Lib.hid (below_step HBD.out hb9)
        have HE9 := Lib.hid hO9.reads
        have hn2 : n2 + 1 ≤ 19 := by
          have h1 := hO9.len
          have h2 := encR_len HF.out HRR.out
          unfold encR at h2
          rw [List.length_append] at h2
          simp at h2
          omega
        try replace HY9 := Lib.hid (HY9.out.below hb9)
        clear hO9 hb9
        refine hK _ _ ⟨HBC.out, ?_⟩
        clear hK K
        refine wpO_nil (wpO_nil ⟨?_, ?_⟩)
        · refine wpO_step2 rfl rfl (HBC.out) (fun K hK => ?_)
          go_simp
          refine (both_any A1 n1 c1 _ A2 n2 c2 _ w2 (HO4.out.below HBC.out) HE9.out (by omega)).mono ?_
          rintro e w3 ⟨A3, rfl, hO9, hb9⟩
          have HBK := Lib.hid (below_step HBC.out hb9)
          have HO9 := Lib.hid (hO9.lower HBC.out.size)
          try replace HY9 := Lib.hid (HY9.out.below hb9)
          clear hO9 hb9
          refine hK _ _ ⟨HBK.out, ?_⟩
          clear hK K
          refine wpO_nil ?_
          refine wpO_step2 rfl rfl (HBK.out) (fun K hK => ?_)
          go_simp
          have ha9 := below_alloc (Below.refl (World.heap w3).size w3) (.cells #[.int .u8 ((rowAt t i).h % 256)] 5)
          have hy9 := (OB.one w3 ((rowAt t i).h % 256) ⟨hy0, hy1⟩ 0 (Nat.zero_le _)).reads
          obtain ⟨w4, hw9⟩ : ∃ w9, World.alloc w3 (.cells #[.int .u8 ((rowAt t i).h % 256)] 5) = w9 := ⟨_, rfl⟩
          rw [hw9] at ha9 hy9 ⊢
          have HBL := Lib.hid (below_step HBK.out ha9)
          have HY9 := Lib.hid hy9
          try replace HE9 := Lib.hid (HE9.out.below ha9)
          try replace HO9 := Lib.hid (HO9.out.below ha9)
          clear hw9 ha9 hy9
          refine hK _ _ ⟨HBL.out, ?_⟩
          clear hK K
          refine wpO_step2 rfl rfl (HBL.out) (fun K hK => ?_)
          rw [if_pos (show Region.wanted _ _ = true from rfl)]
          refine oper_append_bytes (.tmp 25) (.tmp 33) rfl rfl rfl HO9.out HY9.out HBL.out.size (by omega) ?_
          intro A6 c6 w6 h1 h2 h3
          have H6 := Lib.hid (And.intro h1.reads (below_own HBL.out h2 HO9.out.base_))
          clear h1 h2 h3
          refine hK _ _ ⟨H6.out.2, ?_⟩
          clear hK K
          iterate 1 (refine wpO_step0 rfl rfl (fun K hK => ?_); go_simp; refine hK _ _ ?_; clear hK K)
          refine wpO_nil ?_
          go_wp2_with fail
          go_roundw
          case measure => simp [intOf]; omega
          case rel => exact ⟨i + 1, A6, n1 + n2 + 1, c6, by go_num, rfl, by omega, by omega, by rw [HTS.out]; exact H6.out.1, below_step HH.out.2.2.2 H6.out.2⟩
        · refine wpO_step2 rfl rfl (HBC.out) (fun K hK => ?_)
          go_simp
          have ha9 := below_alloc (Below.refl (World.heap w2).size w2) (.cells #[.int .u8 ((rowAt t i).h % 256)] 5)
          have hy9 := (OB.one w2 ((rowAt t i).h % 256) ⟨hy0, hy1⟩ 0 (Nat.zero_le _)).reads
          obtain ⟨w3, hw9⟩ : ∃ w9, World.alloc w2 (.cells #[.int .u8 ((rowAt t i).h % 256)] 5) = w9 := ⟨_, rfl⟩
          rw [hw9] at ha9 hy9 ⊢
          have HBK := Lib.hid (below_step HBC.out ha9)
          have HY9 := Lib.hid hy9
          try replace HE9 := Lib.hid (HE9.out.below ha9)
          try replace HO9 := Lib.hid (HO9.out.below ha9)
          clear hw9 ha9 hy9
          refine hK _ _ ⟨HBK.out, ?_⟩
          clear hK K
          refine wpO_nil ?_
          refine wpO_step2 rfl rfl (HBK.out) (fun K hK => ?_)
          go_simp
          refine (both_any A1 n1 c1 _ A2 n2 c2 _ w3 (HO4.out.below HBK.out) HE9.out (by omega)).mono ?_
          rintro e w4 ⟨A3, rfl, hO9, hb9⟩
          have HBL := Lib.hid (below_step HBK.out hb9)
          have HO9 := Lib.hid (hO9.lower HBK.out.size)
          try replace HY9 := Lib.hid (HY9.out.below hb9)
          clear hO9 hb9
          refine hK _ _ ⟨HBL.out, ?_⟩
          clear hK K
          refine wpO_step2 rfl rfl (HBL.out) (fun K hK => ?_)
          rw [if_pos (show Region.wanted _ _ = true from rfl)]
          refine oper_append_bytes (.tmp 25) (.tmp 33) rfl rfl rfl HO9.out HY9.out HBL.out.size (by omega) ?_
          intro A6 c6 w6 h1 h2 h3
          have H6 := Lib.hid (And.intro h1.reads (below_own HBL.out h2 HO9.out.base_))
          clear h1 h2 h3
          refine hK _ _ ⟨H6.out.2, ?_⟩
          clear hK K
          iterate 1 (refine wpO_step0 rfl rfl (fun K hK => ?_); go_simp; refine hK _ _ ?_; clear hK K)
          refine wpO_nil ?_
          go_wp2_with fail
          go_roundw
          case measure => simp [intOf]; omega
          case rel => exact ⟨i + 1, A6, n1 + n2 + 1, c6, by go_num, rfl, by omega, by omega, by rw [HTS.out]; exact H6.out.1, below_step HH.out.2.2.2 H6.out.2⟩
      · refine wpO_step2 rfl rfl (HBD.out) (fun K hK => ?_)
        go_simp
        have ha9 := below_step (below_alloc (Below.refl (World.heap wr).size wr) (.cells #[.int .u8 ((rowAt t i).h % 256)] 5)) (below_drew1 _)
        have hy9 := ((OB.one wr ((rowAt t i).h % 256) ⟨hy0, hy1⟩ 0 (Nat.zero_le _)).below (below_drew1 _)).reads
        obtain ⟨w2, hw9⟩ : ∃ w9, (World.alloc wr (.cells #[.int .u8 ((rowAt t i).h % 256)] 5)).drew = w9 := ⟨_, rfl⟩
        rw [hw9] at ha9 hy9 ⊢
        have HBC := Lib.hid ha9
        have HY9 := Lib.hid hy9
        clear hw9 ha9 hy9
        refine hK _ _ ⟨HBC.out, ?_⟩
        clear hK K
        refine wpO_nil ?_
        refine wpO_step2 rfl rfl (HBC.out) (fun K hK => ?_)
        go_simp
        refine (refbytes_any (rowAt t i).p w2 HF.out hb0 hb1).mono ?_
        rintro e w3 ⟨A2, n2, c2, rfl, hO9, hb9⟩
        have HBK := Lib.hid (below_step HBC.out hb9)
        have HE9 := Lib.hid hO9.reads
        have hn2 : n2 + 1 ≤ 19 := by
          have h1 := hO9.len
          have h2 := encR_len HF.out HRR.out
          unfold encR at h2
          rw [List.length_append] at h2
          simp at h2
          omega
        try replace HY9 := Lib.hid (HY9.out.below hb9)
        clear hO9 hb9
        refine hK _ _ ⟨HBK.out, ?_⟩
        clear hK K
        refine wpO_step2 rfl rfl (HBK.out) (fun K hK => ?_)
        go_simp
        refine (both_any A1 n1 c1 _ A2 n2 c2 _ w3 (HO4.out.below HBK.out) HE9.out (by omega)).mono ?_
        rintro e w4 ⟨A3, rfl, hO9, hb9⟩
        have HBL := Lib.hid (below_step HBK.out hb9)
        have HO9 := Lib.hid (hO9.lower HBK.out.size)
        try replace HY9 := Lib.hid (HY9.out.below hb9)
        clear hO9 hb9
        refine hK _ _ ⟨HBL.out, ?_⟩
        clear hK K
        refine wpO_step2 rfl rfl (HBL.out) (fun K hK => ?_)
        rw [if_pos (show Region.wanted _ _ = true from rfl)]
        refine oper_append_bytes (.tmp 25) (.tmp 33) rfl rfl rfl HO9.out HY9.out HBL.out.size (by omega) ?_
        intro A6 c6 w6 h1 h2 h3
        have H6 := Lib.hid (And.intro h1.reads (below_own HBL.out h2 HO9.out.base_))
        clear h1 h2 h3
        refine hK _ _ ⟨H6.out.2, ?_⟩
        clear hK K
        iterate 1 (refine wpO_step0 rfl rfl (fun K hK => ?_); go_simp; refine hK _ _ ?_; clear hK K)
        refine wpO_nil ?_
        go_wp2_with fail
        go_roundw
        case measure => simp [intOf]; omega
        case rel => exact ⟨i + 1, A6, n1 + n2 + 1, c6, by go_num, rfl, by omega, by omega, by rw [HTS.out]; exact H6.out.1, below_step HH.out.2.2.2 H6.out.2⟩
    · have hlt' : decide (i < n) = false := decide_eq_false hlt
      have htk : t.take i = t := List.take_of_length_le (by rw [HT.out.len]; omega)
      have hO := HH.out.2.2.1
      rw [htk] at hO
      have HO := Lib.hid hO
      clear hlt htk hO
      go_wp2_with (first | ((with_reducible show wpList _ _ _ (Oper.mk _ (Op.load _ _) _ _ _ _ :: _) _ _); refine wpList_load_g hl1 _ rfl rfl (by go_simp) ?_))
      go_ret
      rw [HE.out]
      exact ⟨_, _, _, rfl, HO.out, below_step HBE.out HH.out.2.2.2⟩
end Go.Proofs.YtihfaknflfmohaaDoor

/- Layer 9 (table): the walk of TableBytes. -/
namespace Go.Proofs.YtihfaknflfmohaaDoor
open Go.RowKit
set_option linter.unusedVariables false
set_option linter.unusedSimpArgs false
set_option maxRecDepth 4000
theorem decTL_len (xs : List Int) : (decTL xs).length ≤ 40 := by
  unfold decTL
  split
  · rename_i h
    unfold decTE at h
    split at h
    · cases h
    · split at h
      · rename_i h1; exact absurd h h1
      · split at h
        · rename_i h2; exact (tabB_to h2.2).1
        · cases h
  · simp
set_option maxRecDepth 100000 in
set_option maxHeartbeats 8000000 in
theorem tableBytes_any (A : Option Addr) (n c : Nat) (t : List Row) (A2 : Option Addr) (m c2 : Nat) (xs : List Int) (w : World) (hL : Laid w) (ht : RT w A n c t) (ot : Oks t) (hr : RB w A2 m c2 xs) : Calls Tryd.prog 12 #[.agg (tabV A n c), .slice A2 m c2] w fun e w' => e = .returned (.bool true) ∧ Below w.heap.size w w' := by
  have hblk1 := blk_new w (.cells (tabV A n c) 28)
  have hbel1 : Below w.heap.size w (w.alloc (.cells (tabV A n c) 28)) := below_alloc (Below.refl _ _) _
  have HP1 := Lib.hid (tab_at hblk1)
  have HBK1 := Lib.hid hblk1
  have HBE := Lib.hid hbel1
  have HL := Lib.hid (hL.below HBE.out)
  obtain ⟨cs1, hcs1⟩ : ∃ cs, tabV A n c = cs := ⟨_, rfl⟩
  simp only [hcs1] at HBE HL HP1 HBK1 ⊢
  have HC1 := Lib.hid hcs1
  clear hL hcs1 hblk1 hbel1
  have HT := Lib.hid (ht.below HBE.out)
  have HR := Lib.hid (hr.below HBE.out)
  have OKS := Lib.hid ot
  clear ht ot hr
  go_enter Tryd.func12, Tryd.ntmps12
  go_wp2_with fail
  refine (wakes09_any _ HL.out).mono ?_
  rintro e w1 ⟨rfl, hb1⟩
  have HB1 := Lib.hid hb1
  have hl1 := (HP1.out.all w1 HB1.out).2
  clear hb1
  by_cases hn : 300 < n
  · have hn' : decide ((300 : Int) < n) = true := decide_eq_true (by omega)
    have hn2 : (300 : Int) < n := by omega
    go_wp2_with (first | ((with_reducible show wpList _ _ _ (Oper.mk _ (Op.load _ _) _ _ _ _ :: _) _ _); refine wpList_load_g hl1 _ rfl rfl (by go_simp) ?_))
    go_ret
    exact ⟨rfl, below_step HBE.out HB1.out⟩
  · have hn' : decide ((300 : Int) < n) = false := decide_eq_false (by omega)
    have hn2 : ¬ (300 : Int) < n := by omega
    by_cases hm : 3000 < m
    · have hm' : decide ((3000 : Int) < m) = true := decide_eq_true (by omega)
      have hm2 : (3000 : Int) < m := by omega
      go_wp2_with (first | ((with_reducible show wpList _ _ _ (Oper.mk _ (Op.load _ _) _ _ _ _ :: _) _ _); refine wpList_load_g hl1 _ rfl rfl (by go_simp) ?_))
      go_ret
      exact ⟨rfl, below_step HBE.out HB1.out⟩
    · have hm' : decide ((3000 : Int) < m) = false := decide_eq_false (by omega)
      have hm2 : ¬ (3000 : Int) < m := by omega
      have hn3 : n ≤ 300 := by omega
      have hm3 : m ≤ 3000 := by omega
      clear hn hm
      have HRR := Lib.hid (HR.out.below HB1.out)
      go_wp2_with (first | ((with_reducible show wpList _ _ _ (Oper.mk _ (Op.load _ _) _ _ _ _ :: _) _ _); refine wpList_load_g hl1 _ rfl rfl (by go_simp) ?_) | (at_builtin; refine wpList_append_bytes rfl (.tmp 23) (.tmp 24) rfl rfl rfl (OB.empty w1 w1.heap.size (Nat.le_refl _)) ((HRR.out).below (below_alloc (Below.refl _ _) _)) (by simp) (by omega) ?_; intro A3 c3 w2 h1 h2 h3; rw [Nat.zero_add, List.nil_append] at h1; rw [Nat.zero_add]; have H2 := Lib.hid (And.intro h1 ((below_alloc (Below.refl w1.heap.size w1) (.cells #[] 5)).grown h2 (by simp) (own_row (fun ad e => by injection e with e; rw [← e]; exact Nat.le_refl _)))); clear h1 h2 h3))
      have HB2 := Lib.hid (below_step HB1.out H2.out.2)
      clear hl1
      refine (tdecode_any A3 m c3 xs w2 (HL.out.below HB2.out) H2.out.1.reads (by omega)).mono ?_
      rintro e w3 ⟨A4, n4, c4, rfl, hO4, hb3⟩
      have HO4 := Lib.hid hO4
      have HB3 := Lib.hid (below_step HB2.out hb3)
      obtain ⟨E, hE⟩ : ∃ E, decTE xs = E := ⟨_, rfl⟩
      rw [hE]
      have HE := Lib.hid hE
      have hz := blk_new w3 (.cells (tabV none 0 0) 28)
      clear hO4 hb3 HRR hE
      go_wp2_with (first | ((with_reducible show wpList _ _ _ (Oper.mk _ (Op.store _ _ _) _ _ _ _ :: _) _ _); refine wpList_store_blk hz 28 0 (tabV A4 n4 c4) (Nat.le_refl _) (info_tab _ _ _) (tab_one _ _ _) _ _ rfl rfl rfl rfl ?_; intro w4 hg9 hs9 hb9; rw [splice_tab] at hb9; have H4 := Lib.hid (And.intro hg9 hb9); clear hg9 hs9 hb9))
      have hb34 : Below w3.heap.size w3 w4 := below_grown (below_alloc (Below.refl _ _) _) H4.out.1 (Nat.le_refl _)
      have HB4 := Lib.hid (below_step HB3.out hb34)
      have HG4 := Lib.hid H4.out.2
      have HR4 := Lib.hid (HO4.out.reads.below hb34)
      clear H4 hz HO4 hb34
      refine (refTdecode_any A2 m c2 xs w4 (HR.out.below HB4.out) (by omega)).mono ?_
      rw [HE.out]
      rintro e w5 ⟨A6, n6, c6, rfl, hO6, hb5, hok⟩
      have HO6 := Lib.hid hO6
      have HOK := Lib.hid hok
      have HB5 := Lib.hid (below_step HB4.out hb5)
      have HG5 := Lib.hid (blk_below HG4.out hb5)
      have HR5 := Lib.hid (HR4.out.below hb5)
      have hz := blk_new w5 (.cells (tabV none 0 0) 28)
      clear hO6 hb5 hok HG4 HR4
      have hEE : (E != E) = false := by simp
      go_upto_region 7 with (first | ((with_reducible show wpList _ _ _ (Oper.mk _ (Op.store _ _ _) _ _ _ _ :: _) _ _); refine wpList_store_blk hz 28 0 (tabV A6 n6 c6) (Nat.le_refl _) (info_tab _ _ _) (tab_one _ _ _) _ _ rfl rfl rfl rfl ?_; intro w6 hg9 hs9 hb9; rw [splice_tab] at hb9; have H6 := Lib.hid (And.intro hg9 hb9); clear hg9 hs9 hb9))
      have hb56 : Below w5.heap.size w5 w6 := below_grown (below_alloc (Below.refl _ _) _) H6.out.1 (Nat.le_refl _)
      have HB6 := Lib.hid (below_step HB5.out hb56)
      have hla := load_tab (blk_below HG5.out hb56)
      have hlb := load_tab H6.out.2
      have HR6 := Lib.hid (HR5.out.below hb56)
      have HO7 := Lib.hid (HO6.out.reads.below hb56)
      have hn4 : n4 ≤ 40 := by rw [← HR6.out.len]; exact decTL_len xs
      have hn6 : n6 ≤ 40 := by rw [← HO7.out.len]; exact decTL_len xs
      clear H6 hz HO6 hb56 HG5 HR5
      go_wp2_with (first | ((with_reducible show wpList _ _ _ (Oper.mk _ (Op.load _ _) _ _ _ _ :: _) _ _); refine wpList_load_g hla _ rfl rfl (by go_simp) ?_) | ((with_reducible show wpList _ _ _ (Oper.mk _ (Op.load _ _) _ _ _ _ :: _) _ _); refine wpList_load_g hlb _ rfl rfl (by go_simp) ?_))
      refine (refsameT_any A4 n4 c4 (decTL xs) A6 n6 c6 (decTL xs) w6 HR6.out HO7.out HOK.out HOK.out (by omega) (by omega)).mono ?_
      rw [(rowE.eqL_iff _ _).2 rfl]
      rintro e w7 ⟨rfl, hb7⟩
      have HB7 := Lib.hid (below_step HB6.out hb7)
      have hl1 := (HP1.out.all w7 HB7.out).1
      rw [HC1.out] at hl1
      clear hb7 hla hlb hEE HR6 HO7
      go_wp2_with (first | ((with_reducible show wpList _ _ _ (Oper.mk _ (Op.load _ _) _ _ _ _ :: _) _ _); refine wpList_load_g hl1 _ rfl rfl (by go_simp) ?_))
      have hcp := copiedT_any A n c t w7 (HT.out.below HB7.out) (by omega)
      rw [HC1.out] at hcp
      refine hcp.mono ?_
      clear hcp hl1
      rintro e w8 ⟨A8, c8, rfl, hO8, hb8⟩
      have HB8 := Lib.hid (below_step HB7.out hb8)
      have HO8 := Lib.hid hO8.reads
      clear hO8 hb8
      go_wp2_with fail
      refine (tencode_any A8 n c8 t w8 (HL.out.below HB8.out) HO8.out (by omega)).mono ?_
      rintro e w9 ⟨A9, n9, c9, rfl, hO9, hb9⟩
      have HB9 := Lib.hid (below_step HB8.out hb9)
      have HO9 := Lib.hid hO9.reads
      have hl1 := (HP1.out.all w9 HB9.out).1
      rw [HC1.out] at hl1
      clear hO9 hb9
      obtain ⟨F, hF⟩ : ∃ F, errT t = F := ⟨_, rfl⟩
      rw [hF]
      have HF := Lib.hid hF
      clear hF
      go_wp2_with (first | ((with_reducible show wpList _ _ _ (Oper.mk _ (Op.load _ _) _ _ _ _ :: _) _ _); refine wpList_load_g hl1 _ rfl rfl (by go_simp) ?_))
      have hrr := refRight_any A n c t w9 (HT.out.below HB9.out) OKS.out (by omega)
      rw [HC1.out] at hrr
      refine hrr.mono ?_
      clear hrr hl1
      rintro e w10 ⟨rfl, hb10⟩
      have HB10 := Lib.hid (below_step HB9.out hb10)
      have HO10 := Lib.hid (HO9.out.below hb10)
      clear hb10 HO9
      cases hR : tabB t with
      | false =>
        have hF : F = 190 := by rw [← HF.out]; exact errT_false hR
        have hn9 : n9 = 0 := by rw [← HO10.out.len]; unfold encTE; rw [hR]; rfl
        subst hF hn9
        clear hR
        go_wp2
        go_ret
        exact ⟨rfl, below_step HBE.out HB10.out⟩
      | true =>
        have hF : F = 0 := by rw [← HF.out]; exact errT_true hR
        have HTB := Lib.hid hR
        have HEE : Hid (encTE t = encT t) := Lib.hid (by unfold encTE; rw [hR]; rfl)
        subst hF
        have hl1 := (HP1.out.all w10 HB10.out).1
        rw [HC1.out] at hl1
        clear hR
        go_wp2_with (first | ((with_reducible show wpList _ _ _ (Oper.mk _ (Op.load _ _) _ _ _ _ :: _) _ _); refine wpList_load_g hl1 _ rfl rfl (by go_simp) ?_))
        have hrr := reftbytes_any A n c t w10 (HT.out.below HB10.out) HTB.out
        rw [HC1.out] at hrr
        refine hrr.mono ?_
        clear hrr hl1
        rintro e w11 ⟨Aa, na, ca, rfl, hRa, hb11⟩
        have HB11 := Lib.hid (below_step HB10.out hb11)
        have HRa := Lib.hid hRa
        have HO11 := Lib.hid (HO10.out.below hb11)
        clear hRa hb11
        go_wp2_with fail
        refine (same_any A9 n9 c9 (encTE t) Aa na ca (encT t) w11 HO11.out HRa.out).mono ?_
        rw [HEE.out]
        rintro e w12 ⟨rfl, hb12⟩
        have HB12 := Lib.hid (below_step HB11.out hb12)
        clear hb12
        go_wp2
        go_ret
        exact ⟨by simp, below_step HBE.out HB12.out⟩
end Go.Proofs.YtihfaknflfmohaaDoor

/- The walk of TableBytes, as the row asks it. -/
namespace Go.Proofs.YtihfaknflfmohaaDoor
open Go.RowKit
set_option linter.unusedVariables false
set_option linter.unusedSimpArgs false
set_option maxRecDepth 4000
theorem tableBytes_walk (A : Option Addr) (n c : Nat) (t : List Row) (A2 : Option Addr) (m c2 : Nat) (xs : List Int) (w : World) (hL : Laid w) (ht : RT w A n c t) (ot : Oks t) (hy : n * 40 ≤ 140737488351232) (hr : RN w .u8 A2 m c2 xs) (hm : m * 1 ≤ 140737488351232) : Calls Tryd.prog 12 #[.agg (tabV A n c), .slice A2 m c2] w fun e w' => e = .returned (.bool true) ∧ Below w.heap.size w w' := tableBytes_any A n c t A2 m c2 xs w hL ht ot hr.bytes
end Go.Proofs.YtihfaknflfmohaaDoor
