/- Layer 9 (table): Encode, and the document's bytes. -/
import Derived.Test.YtihfaknflfmohaaDoorTableBackA
import Derived.Test.YtihfaknflfmohaaDoorTableBackC
import Derived.Test.YtihfaknflfmohaaDoorTableBackD
namespace Go.Proofs.YtihfaknflfmohaaDoor
open Go.RowKit
set_option linter.unusedVariables false
set_option linter.unusedSimpArgs false
set_option maxRecDepth 4000
theorem encR_bytes {r : Row} (hf : r.fits) : Bytes (encR r) := by
  intro x hx
  unfold encR encP at hx
  simp only [List.cons_append, List.mem_cons, List.mem_append, List.not_mem_nil, or_false] at hx
  rcases hx with rfl | rfl | hx | rfl
  · omega
  · omega
  · exact hf.rng x (List.mem_of_mem_take hx)
  · omega
theorem encR_len {r : Row} (hf : r.fits) (hr : r.p.right = true) : (encR r).length ≤ 19 := by
  have h1 := encP_len hf hr
  obtain ⟨b, hb, _, hb2⟩ := right_b hr
  have h2 := fullB_le hb2
  unfold encR
  rw [List.length_append, h1, hb]
  simp
  omega
theorem encRs_take {t : List Row} {i : Nat} (hi : i < t.length) : encRs (t.take (i + 1)) = encRs (t.take i) ++ encP (rowAt t i).p ++ [(rowAt t i).h % 256] := by
  rw [show t.take (i + 1) = t.take i ++ [rowAt t i] from Shape.take_succ (S := rowK) hi, encRs_snoc]
  simp [encR]
theorem blk_own2 {w w1 : World} {g : Nat} {o : Obj} {A : Option Addr} {n c : Nat} (h : w.heap[g]? = some o) (hg : w.grownBy w1 ((Value.slice A n c).ownBlock)) (ha : ∀ ad, A = some ad → ad.block ≠ g) : w1.heap[g]? = some o :=
  blk_grown h hg (fun e => by
    obtain ⟨ad, e1, e2⟩ := own_of e.symm
    exact ha ad e1 e2)
def encTE (t : List Row) : List Int := if tabB t then encT t else []
set_option maxHeartbeats 4000000 in
theorem tencode_any (A : Option Addr) (n c : Nat) (t : List Row) (w : World) (hL : Laid w) (ht : RT w A n c t) (hn : n ≤ 100000) : Calls Tryd.prog 51 #[.agg (tabV A n c)] w fun e w' => ∃ A' n' c', e = .returned (.tuple #[.slice A' n' c', .int .i64 (errT t)]) ∧ OB w' w.heap.size A' n' c' (encTE t) ∧ Below w.heap.size w w' := by
  have hblk1 := blk_new w (.cells (tabV A n c) 28)
  have hbel1 : Below w.heap.size w (w.alloc (.cells (tabV A n c) 28)) := below_alloc (Below.refl _ _) _
  have HP1 := Lib.hid (tab_at hblk1)
  have HBK1 := Lib.hid hblk1
  have HBE := Lib.hid hbel1
  have HL := Lib.hid (hL.below HBE.out)
  obtain ⟨cs1, hcs1⟩ : ∃ cs, tabV A n c = cs := ⟨_, rfl⟩
  simp only [hcs1] at HBE HL HP1 HBK1 ⊢
  have HC1 := Lib.hid hcs1
  clear hL hcs1 hblk1 hbel1
  have HT := Lib.hid (ht.below HBE.out)
  have hl1 := (HP1.out.all _ (Below.refl _ _)).1
  rw [HC1.out] at hl1
  clear ht
  go_enter Tryd.func51, Tryd.ntmps51
  go_wp2_with (first | ((with_reducible show wpList _ _ _ (Oper.mk _ (Op.load _ _) _ _ _ _ :: _) _ _); refine wpList_load_g hl1 _ rfl rfl (by go_simp) ?_))
  have hch := tcheck_any A n c t _ HL.out HT.out hn
  rw [HC1.out] at hch
  refine hch.mono ?_
  clear hch hl1
  rintro e w1 ⟨rfl, hb1⟩
  have HB1 := Lib.hid hb1
  clear hb1
  cases hR : tabB t with
  | false =>
    have HE := Lib.hid (And.intro (show encTE t = [] by unfold encTE; rw [hR]; rfl) (errT_false hR))
    rw [errT_false hR]
    clear hR
    go_wp2
    go_ret2
    rw [HE.out.1, HE.out.2]
    exact ⟨_, _, _, rfl, OB.nil _ _, below_step HBE.out HB1.out⟩
  | true =>
    have HE := Lib.hid (And.intro (show encTE t = (n : Int) :: encRs t by
      unfold encTE encT
      have := (tabB_to hR).1
      rw [hR, if_pos rfl, HT.out.len, show ((n : Int) % 256) = n by rw [HT.out.len] at this; omega]) (errT_true hR))
    have HALL := Lib.hid (tabB_to hR).2.1
    have hn40 : n ≤ 40 := by have := (tabB_to hR).1; rw [HT.out.len] at this; exact this
    rw [errT_true hR]
    clear hR
    have hl1 := (HP1.out.all w1 HB1.out).2
    have hl2 := (HP1.out.all (w1.alloc (.cells #[.int .u8 (n : Int)] 5)) (below_step HB1.out (below_alloc (Below.refl _ _) _))).2
    have HO0 := Lib.hid (OB.one w1 (n : Int) (by omega) w1.heap.size (Nat.le_refl _))
    go_wp2_with (first | ((with_reducible show wpList _ _ _ (Oper.mk _ (Op.load _ _) _ _ _ _ :: _) _ _); refine wpList_load_g hl1 _ rfl rfl (by go_simp) ?_) | ((with_reducible show wpList _ _ _ (Oper.mk _ (Op.load _ _) _ _ _ _ :: _) _ _); refine wpList_load_g hl2 _ rfl rfl (by go_simp) ?_))
    clear hl1 hl2
    go_loopw [5, 23] (fun y x wr => ∃ (i : Nat) (A1 : Option Addr) (n1 c1 : Nat), x = .int .i64 i ∧ y = .slice A1 n1 c1 ∧ Hid (i ≤ n ∧ n1 ≤ 1 + 19 * i ∧ OB wr w1.heap.size A1 n1 c1 ((n : Int) :: encRs (t.take i)) ∧ Below w1.heap.size w1 wr)) (fun _ x _ => n - (intOf x).toNat)
    case atStart => exact ⟨0, _, 1, 1, rfl, rfl, Nat.zero_le _, by omega, HO0.out, below_alloc (Below.refl _ _) _⟩
    case round =>
      obtain ⟨i, A1, n1, c1, rfl, rfl, HH⟩ := hrel
      have hn1 := HH.out.2.1
      have HBR := Lib.hid (below_step HB1.out HH.out.2.2.2)
      by_cases hlt : i < n
      · have hlt' : (i : Int) < n := by omega
        obtain ⟨b, o, rfl, hc⟩ := RT.at_ HT.out (by omega)
        have HC3 := Lib.hid (hc i hlt)
        have HF := Lib.hid (RT.fits_at HT.out hlt)
        have hilt : i < t.length := by rw [HT.out.len]; exact hlt
        have hrr := ((okB_iff _).1 (HALL.out _ (row_mem hilt))).1
        have HTS := Lib.hid (encRs_take hilt)
        have hrow := (rowLd_of HF.out (HC3.out.below HBR.out)).row
        have HRR := Lib.hid hrr
        clear hc hilt hrr
        go_wp2_with (first | ((with_reducible show wpList _ _ _ (Oper.mk _ (Op.load _ _) _ _ _ _ :: _) _ _); refine wpList_load_g hrow _ rfl rfl (by go_simp) ?_) | ((with_reducible show wpList _ _ _ (Oper.mk _ (Op.store _ _ _) _ _ _ _ :: _) _ _); refine wpList_store_blk (blk_new wr _) 38 0 (rowV (rowAt t i)) (store_row_fit HF.out rfl) (info_row HF.out) (rowV_one _) _ _ rfl rfl rfl rfl ?_; intro w3 hg9 hs9 hb9; rw [splice_row HF.out rfl] at hb9; have H3 := Lib.hid (And.intro hg9 hb9); clear hg9 hs9 hb9) | ((with_reducible show wpList _ _ _ (Oper.mk _ (Op.load _ _) _ _ _ _ :: _) _ _); refine wpList_load_g (((row_at HF.out H3.out.2).all _ (Below.refl _ _)).pfx) _ rfl rfl (by go_simp) ?_))
        have HB3 := Lib.hid (below_grown (below_alloc (Below.refl wr.heap.size wr) (.cells (rowV rowZ) 38)) H3.out.1 (Nat.le_refl _))
        refine (encode_any (rowAt t i).p w3 (HL.out.below (below_step HBR.out HB3.out)) HF.out).mono ?_
        rw [encPE_yes HRR.out]
        rintro e w4 ⟨A2, n2, c2, rfl, hO2, hb4⟩
        have HB4 := Lib.hid (below_step HB3.out hb4)
        have HR4 := Lib.hid (blk_below H3.out.2 hb4)
        have HO4 := Lib.hid (HH.out.2.2.1.below HB4.out)
        have HE4 := Lib.hid hO2.reads
        have HBW := Lib.hid (below_step HH.out.2.2.2 HB4.out)
        have hA1 := HH.out.2.2.1.lt
        have hA1b := HH.out.2.2.1.base_
        have hn2 : n2 + 1 ≤ 19 := by
          have h1 := hO2.len
          have h2 := encR_len HF.out HRR.out
          unfold encR at h2
          rw [List.length_append] at h2
          simp at h2
          omega
        have hg4 := blk_lt HR4.out
        have hs1 := HH.out.2.2.2.size
        have hsw := HBW.out.size
        clear hO2 hb4 hrow H3 HB3
        go_wp2_with fail
        have hn40' : n1 ≤ 761 := by omega
        refine wp_region_fork ((fun w0 => w0.heap[wr.heap.size]? = some (.cells (rowV (rowAt t i)) 38 (0, 0)))) (OrdT.fork [0, 1, 3, 4, 5] 2 6 (OrdT.lin [6, 7, 8]) (OrdT.lin [2, 7, 8])) [(0, 0), (1, 0), (2, 2), (3, 0), (4, 0), (5, 0), (6, 2), (7, 2), (8, 0)] (by kernel_rfl) (by kernel_rfl) (HR4.out) ?_
        simp only [wpF]
        iterate 3 (refine wpO_step0 rfl rfl (fun K hK => ?_); go_simp; refine hK _ _ ?_; clear hK K)
        refine wpO_loadW (t := 3) (ad := ⟨wr.heap.size, 18, none⟩) rfl rfl ?hw rfl rfl ((fun w0 hS => ((row_at HF.out hS).all _ (Below.refl _ _)).hop)) ?_
        case hw => go_simp
        iterate 1 (refine wpO_step0 rfl rfl (fun K hK => ?_); go_simp; refine hK _ _ ?_; clear hK K)
        have hy0 : 0 ≤ (rowAt t i).h % 256 := by omega
        have hy1 : (rowAt t i).h % 256 < 256 := by omega
        refine wpO_nil ⟨?_, ?_⟩
        · refine wpO_step2 rfl rfl (HR4.out) (fun K hK => ?_)
          rw [if_pos (show Region.wanted _ _ = true from rfl)]
          refine oper_append_bytes (.tmp 33) (.tmp 34) rfl rfl rfl (HO4.out.below (below_drew1 _)) (HE4.out.below (below_drew1 _)) hsw (by omega) ?_
          intro A5 c5 w5 h1 h2 h3
          have hR5 := blk_own2 (show (w4.drew).heap[wr.heap.size]? = _ from HR4.out) h2 (fun ad e => by have := hA1 ad e; omega)
          have hb5 : Below w1.heap.size w1 w5 := below_own (below_step HBW.out (below_drew1 _)) h2 hA1b
          have hA5 : ∀ ad, A5 = some ad → ad.block ≠ wr.heap.size := fun ad e => by
            rcases h3 with h | h
            · have := hA1 ad (h ▸ e); omega
            · have := h ad e
              have h4 : wr.heap.size < w4.drew.heap.size := hg4
              omega
          have H5 := Lib.hid (And.intro h1 (And.intro hb5 (And.intro hR5 hA5)))
          have hs5 := hb5.size
          clear h1 h2 h3 hR5 hb5 hA5
          refine hK _ _ ⟨H5.out.2.2.1, ?_⟩
          clear hK K
          refine wpO_nil ?_
          refine wpO_step2 rfl rfl (H5.out.2.2.1) (fun K hK => ?_)
          go_simp
          have HA5 := Lib.hid (below_alloc (Below.refl w5.heap.size w5) (.cells #[.int .u8 ((rowAt t i).h % 256)] 5))
          refine hK _ _ ⟨blk_below H5.out.2.2.1 HA5.out, ?_⟩
          clear hK K
          refine wpO_step2 rfl rfl (blk_below H5.out.2.2.1 HA5.out) (fun K hK => ?_)
          rw [if_pos (show Region.wanted _ _ = true from rfl)]
          refine oper_append_bytes (.tmp 35) (.tmp 39) rfl rfl rfl (H5.out.1.below HA5.out) (OB.one w5 ((rowAt t i).h % 256) ⟨hy0, hy1⟩ w1.heap.size hs5).reads (by simp; omega) (by omega) ?_
          intro A6 c6 w6 h1 h2 h3
          have H6 := Lib.hid (And.intro h1 (below_own (below_step H5.out.2.1 HA5.out) h2 H5.out.1.base_))
          have hR6 := blk_own2 (blk_below H5.out.2.2.1 HA5.out) h2 H5.out.2.2.2
          clear h1 h2 h3
          refine hK _ _ ⟨hR6, ?_⟩
          clear hK K
          iterate 1 (refine wpO_step0 rfl rfl (fun K hK => ?_); go_simp; refine hK _ _ ?_; clear hK K)
          refine wpO_nil ?_
          go_wp2_with fail
          go_roundw
          case measure => simp [intOf]; omega
          case rel => exact ⟨i + 1, A6, n1 + n2 + 1, c6, by go_num, rfl, by omega, by omega, by rw [HTS.out]; exact H6.out.1, H6.out.2⟩
        · refine wpO_step2 rfl rfl (HR4.out) (fun K hK => ?_)
          go_simp
          have HA5 := Lib.hid (below_step (below_alloc (Below.refl w4.heap.size w4) (.cells #[.int .u8 ((rowAt t i).h % 256)] 5)) (below_drew1 _))
          have HR5 := Lib.hid (blk_below HR4.out HA5.out)
          have HY := Lib.hid ((OB.one w4 ((rowAt t i).h % 256) ⟨hy0, hy1⟩ 0 (Nat.zero_le _)).below (below_drew1 _))
          refine hK _ _ ⟨HR5.out, ?_⟩
          clear hK K
          refine wpO_nil ?_
          refine wpO_step2 rfl rfl (HR5.out) (fun K hK => ?_)
          rw [if_pos (show Region.wanted _ _ = true from rfl)]
          refine oper_append_bytes (.tmp 33) (.tmp 34) rfl rfl rfl (HO4.out.below HA5.out) (HE4.out.below HA5.out) (Nat.le_trans hsw HA5.out.size) (by omega) ?_
          intro A5 c5 w5 h1 h2 h3
          have hR5 := blk_own2 HR5.out h2 (fun ad e => by have := hA1 ad e; omega)
          have hb5 : Below w1.heap.size w1 w5 := below_own (below_step HBW.out HA5.out) h2 hA1b
          have hA5 : ∀ ad, A5 = some ad → ad.block ≠ wr.heap.size := fun ad e => by
            rcases h3 with h | h
            · have := hA1 ad (h ▸ e); omega
            · exact Nat.ne_of_gt (Nat.lt_of_lt_of_le hg4 (Nat.le_trans HA5.out.size (h ad e)))
          have hY5 := HY.out.reads.grown h2 (fun ad e h => by
            injection e with e
            subst e
            obtain ⟨ad2, e1, e2⟩ := own_of h.symm
            have := hA1 ad2 e1
            simp only at e2
            omega)
          have H5 := Lib.hid (And.intro h1 (And.intro hb5 (And.intro hR5 hA5)))
          have HY5 := Lib.hid hY5
          have hs5 := hb5.size
          clear h1 h2 h3 hR5 hb5 hA5 hY5
          refine hK _ _ ⟨H5.out.2.2.1, ?_⟩
          clear hK K
          refine wpO_step2 rfl rfl (H5.out.2.2.1) (fun K hK => ?_)
          rw [if_pos (show Region.wanted _ _ = true from rfl)]
          refine oper_append_bytes (.tmp 35) (.tmp 39) rfl rfl rfl H5.out.1 HY5.out hs5 (by omega) ?_
          intro A6 c6 w6 h1 h2 h3
          have H6 := Lib.hid (And.intro h1 (below_own H5.out.2.1 h2 H5.out.1.base_))
          have hR6 := blk_own2 H5.out.2.2.1 h2 H5.out.2.2.2
          clear h1 h2 h3
          refine hK _ _ ⟨hR6, ?_⟩
          clear hK K
          iterate 1 (refine wpO_step0 rfl rfl (fun K hK => ?_); go_simp; refine hK _ _ ?_; clear hK K)
          refine wpO_nil ?_
          go_wp2_with fail
          go_roundw
          case measure => simp [intOf]; omega
          case rel => exact ⟨i + 1, A6, n1 + n2 + 1, c6, by go_num, rfl, by omega, by omega, by rw [HTS.out]; exact H6.out.1, H6.out.2⟩
      · have hlt' : decide (i < n) = false := decide_eq_false hlt
        have htk : t.take i = t := List.take_of_length_le (by rw [HT.out.len]; omega)
        have hO := HH.out.2.2.1
        rw [htk] at hO
        have HO := Lib.hid hO
        clear hlt htk hO
        go_wp2
        go_ret2
        rw [HE.out.1, HE.out.2]
        have hs := (below_step HBE.out HB1.out).size
        exact ⟨_, _, _, rfl, HO.out.lower hs, below_step HBE.out HBR.out⟩
end Go.Proofs.YtihfaknflfmohaaDoor

/- Layer 9 (table): Decode. -/
namespace Go.Proofs.YtihfaknflfmohaaDoor
open Go.RowKit
set_option linter.unusedVariables false
set_option linter.unusedSimpArgs false
set_option maxRecDepth 4000
theorem u8_rd {lo : Nat} (g : Nat) (xs : List Int) (w : World) (hr : Rdr w lo g xs 0) :
    Calls Tryd.prog 89 #[.pointer (some ⟨g, 0, none⟩)] w fun e w' => e = .returned (.int .u8 (rd xs 0)) ∧ Rdr w' lo g (xs.drop 1) (if xs.length = 0 then 7 else 0) ∧ w.grownBy w' (some g) := by
  cases xs with
  | nil => exact u8_none g w hr
  | cons x r => exact u8_some g x r w hr
/-- What Decode bears: its result's cell, its table's block, what it made. -/
structure TD (w wr : World) (gt : Nat) (A : Option Addr) (n c : Nat) (t : List Row) : Prop where
  zero : wr.heap[w.heap.size]? = some (.cells (tabV none 0 0) 28 (0, 0))
  tab : wr.heap[gt]? = some (.cells (tabV A n c) 28 (0, 0))
  own : OT wr (gt + 1) A n c t
  below : Below w.heap.size w wr
theorem TD.step {w wr w2 : World} {gt : Nat} {A : Option Addr} {n c : Nat} {t : List Row} (h : TD w wr gt A n c t) (hb : Below wr.heap.size wr w2) : TD w w2 gt A n c t :=
  ⟨blk_below h.zero hb, blk_below h.tab hb, h.own.below hb, below_step h.below hb⟩
theorem TD.grow {w wr w2 : World} {g gt : Nat} {A : Option Addr} {n c : Nat} {t : List Row} (h : TD w wr gt A n c t) (hg : wr.grownBy w2 (some g)) (h1 : w.heap.size < g) (h2 : g < gt) : TD w w2 gt A n c t :=
  ⟨blk_grown h.zero hg (fun e => by injection e with e; omega), blk_grown h.tab hg (fun e => by injection e with e; omega), h.own.grown hg (fun ad e hh => by have := h.own.base_ ad e; injection hh with hh; omega), below_grown h.below hg (by omega)⟩
theorem TD.push {w W w9 w10 : World} {gt : Nat} {A : Option Addr} {n c : Nat} {t : List Row} {A' : Option Addr} {n' c' : Nat} {t' : List Row} (h : TD w W gt A n c t) (h2 : W.grownBy w9 ((Value.slice A n c).ownBlock)) (h3 : w9.grownBy w10 (some gt)) (ho : OT w9 (gt + 1) A' n' c' t') (ht : w10.heap[gt]? = some (.cells (tabV A' n' c') 28 (0, 0))) (hz : w.heap.size < gt) : TD w w10 gt A' n' c' t' :=
  ⟨blk_grown (blk_own2 h.zero h2 (fun ad e => by have := h.own.base_ ad e; omega)) h3 (fun e => by injection e with e; omega), ht, ho.grown h3 (fun ad e hh => by have := ho.base_ ad e; injection hh with hh; omega), below_grown (below_own h.below h2 (fun ad e => by have := h.own.base_ ad e; omega)) h3 (by omega)⟩
theorem rd_drop2 (xs : List Int) (q : Nat) : rd (xs.drop q) 0 = rd xs (q : Int) := by
  unfold rd
  simp [List.getD_eq_getElem?_getD]
theorem decT_none {xs : List Int} (h : decTE xs ≠ 0) : decTL xs = [] := by unfold decTL; rw [if_neg h]
theorem decAcc_7 {k : Nat} {acc : List Row} {ys : List Int} (hk : 0 < k) (h : decPE ys = 7) : (decAcc k acc ys).1 = 7 := by
  cases k with
  | zero => omega
  | succ k => rw [decAcc, if_pos h]
theorem decAcc_bad {k : Nat} {acc : List Row} {ys : List Int} (hk : 0 < k) (h : decPE ys ≠ 7) (h0 : decPE ys ≠ 0) : (decAcc k acc ys).1 = 190 := by
  cases k with
  | zero => omega
  | succ k => rw [decAcc, if_neg h, if_pos h0]
theorem decAcc_short {k : Nat} {acc : List Row} {ys : List Int} {m : Nat} (hk : 0 < k) (h0 : decPE ys = 0) (hm : decPN ys = m) (hl : ys.length ≤ m) : (decAcc k acc ys).1 = 7 := by
  cases k with
  | zero => omega
  | succ k => rw [decAcc, if_neg (by omega), if_neg (by simp [h0]), if_pos (by rw [hm]; simpa using hl)]
theorem decAcc_step {K k : Nat} {acc : List Row} {ys : List Int} {m : Nat} (hk : k < K) (h0 : decPE ys = 0) (hm : decPN ys = m) (hl : m < ys.length) : decAcc (K - k) acc ys = decAcc (K - (k + 1)) (acc ++ [⟨decP ys, rd ys m⟩]) (ys.drop (m + 1)) := by
  rw [show K - k = (K - (k + 1)) + 1 by omega, decAcc, if_neg (by omega), if_neg (by simp [h0]), if_neg (by rw [hm]; simpa using hl), hm]
  rfl
theorem decTE_of {xs : List Int} {e : Int} (hx : xs.length ≠ 0) (h : (decTR xs).1 = e) (he : e ≠ 0) : decTE xs = e := by
  unfold decTE
  rw [if_neg hx, if_pos (by rw [h]; exact he), h]
theorem decP_16 {xs : List Int} (hx : Bytes xs) : B16 (decP xs).l := by
  by_cases h : decPE xs = 0
  · exact (enc_dec hx h).2.1
  · rw [(decP_no h).1]; exact zero16_B
theorem dec_nat {xs : List Int} (hx : Bytes xs) (h : decPE xs = 0) : ∃ n : Nat, decPN xs = n ∧ n ≤ xs.length := by
  obtain ⟨-, -, n, h1, h2, -⟩ := enc_dec hx h
  exact ⟨n, h1, h2⟩
set_option maxHeartbeats 8000000 in
theorem tdecode_any (A : Option Addr) (n c : Nat) (xs : List Int) (w : World) (hL : Laid w) (hr : RB w A n c xs) (hn : n ≤ 100000) : Calls Tryd.prog 49 #[.slice A n c] w fun e w' => ∃ A' n' c', e = .returned (.tuple #[.agg (tabV A' n' c'), .int .i64 (decTE xs)]) ∧ OT w' w.heap.size A' n' c' (decTL xs) ∧ Below w.heap.size w w' := by
  have HLEN := Lib.hid hr.len
  have HZ := Lib.hid (blk_new w (.cells (tabV none 0 0) 28))
  have HBZ : Hid (Below w.heap.size w (w.alloc (.cells (tabV none 0 0) 28))) := below_alloc (Below.refl _ _) _
  have HR0 := Lib.hid hr
  have HR := Lib.hid (hr.below HBZ.out)
  have HL := Lib.hid hL
  have hbn := run_build_tab_nil
  clear hr hL
  go_enter Tryd.func49, Tryd.ntmps49
  go_wp2_with fail
  refine (read_any A n c xs _ HR.out (by omega)).mono ?_
  rintro e w1 ⟨g, rfl, hg, hrd, hb1⟩
  simp at hg
  have hglt := hrd.lt
  have HBY := Lib.hid hrd.byte
  obtain ⟨gt, hgt⟩ : ∃ gt, w1.heap.size = gt := ⟨_, rfl⟩
  have hZ1 := blk_below HZ.out hb1
  have HD1 : Hid (TD w (w1.alloc (.cells (tabV none 0 0) 28)) gt none 0 0 []) :=
    ⟨blk_below hZ1 (below_alloc (Below.refl _ _) _), hgt ▸ blk_new _ _, OS.nil _ _ _, below_alloc (below_step HBZ.out hb1) _⟩
  have HRD1 := Lib.hid (hrd.below (below_alloc (Below.refl _ _) (.cells (tabV none 0 0) 28)))
  have hggt : g < gt := hgt ▸ hglt
  have hg0 : w.heap.size < g := by omega
  have HGT := Lib.hid hgt
  obtain ⟨lo, hlo⟩ : ∃ lo, (w.alloc (.cells (tabV none 0 0) 28)).heap.size = lo := ⟨_, rfl⟩
  rw [hlo] at HRD1
  clear hrd hb1 hZ1 HR HZ HBZ hglt hg hlo
  go_wp2_with fail
  refine (u8_rd g xs _ HRD1.out).mono ?_
  rintro e w2 ⟨rfl, hr2, hg2⟩
  have HD2 := Lib.hid (HD1.out.grow hg2 hg0 hggt)
  have HR2 := Lib.hid hr2
  have hrx := HBY.out.getD 0
  obtain ⟨K, hK⟩ := Int.eq_ofNat_of_zero_le hrx.1
  have hK1 : K < 256 := by have h1 : rd xs 0 < 256 := hrx.2; have h2 : rd xs 0 = K := hK; omega
  have hK' : rd xs 0 = K := hK
  rw [hK']
  have HK := Lib.hid hK'
  obtain ⟨e0, he0⟩ : ∃ e0 : Int, (if xs.length = 0 then (7 : Int) else 0) = e0 := ⟨_, rfl⟩
  rw [he0] at HR2
  have HE0 := Lib.hid he0
  have HTR : Hid (decTR xs = decAcc K [] (xs.drop 1)) := Lib.hid (by unfold decTR; rw [hK']; rfl)
  have HK0 : Hid (0 < K → e0 = 0 ∧ xs.length ≠ 0) := Lib.hid (fun hh => by
    have : xs.length ≠ 0 := fun h0 => by
      rw [List.length_eq_zero_iff.1 h0] at hK'
      have : (0 : Int) = K := hK'
      omega
    exact ⟨by rw [← he0, if_neg this], this⟩)
  clear hr2 hg2 HD1 HRD1 hrx hK hK' he0
  go_wp2_with fail
  go_loopw [14] (fun x wr => ∃ (k m : Nat) (A1 : Option Addr) (c1 : Nat) (acc : List Row), x = .int .i64 k ∧ Hid (k ≤ K ∧ (0 < K → m ≤ n) ∧ TD w wr gt A1 k c1 acc ∧ Rdr wr lo g (xs.drop m) e0 ∧ decTR xs = decAcc (K - k) acc (xs.drop m))) (fun x _ => K - (intOf x).toNat)
  case atStart =>
    exact ⟨0, 1, none, 0, [], rfl, Nat.zero_le _, fun hh => by have := (HK0.out hh).2; have := HLEN.out; omega, HD2.out, HR2.out, HTR.out⟩
  case round =>
    obtain ⟨k, m, A1, c1, acc, rfl, HH⟩ := hrel
    clear HD2 HR2
    have HD := Lib.hid HH.out.2.2.1
    by_cases hlt : k < K
    · have hlt' : (k : Int) < K := by omega
      have hmn := HH.out.2.1 (by omega)
      have HX := Lib.hid (HK0.out (by omega))
      have hrr := HH.out.2.2.2.1
      rw [HX.out.1] at hrr
      obtain ⟨ys, hys⟩ : ∃ ys, xs.drop m = ys := ⟨_, rfl⟩
      obtain ⟨L, hL⟩ : ∃ L, ys.length = L := ⟨_, rfl⟩
      have hmL : m + L = n := by rw [← hL, ← hys, List.length_drop, HLEN.out]; omega
      have HTE := Lib.hid HH.out.2.2.2.2
      rw [hys] at hrr HTE
      have HRR := Lib.hid hrr
      have HYS := Lib.hid (And.intro hys hL)
      have hsub : IntKind.i64.wrap ((n : Int) - (L : Int)) = m := by rw [IntWalk.i64_in _ (by omega)]; omega
      obtain ⟨A2, hsl, hsr, -⟩ := cut_bytes A n c m (by omega) (by omega)
      rw [Int.toNat_natCast] at hsl hsr
      have HRB := Lib.hid (hsr wr _ (HR0.out.below HD.out.below))
      rw [hys] at HRB
      have hlt2 := hlt
      clear hys hL hsr hrr HH hlt
      go_wp2_with fail
      refine (left_any g ys 0 wr HRR.out).mono ?_
      rw [HYS.out.2]
      rintro e w3 ⟨rfl, rfl⟩
      go_wp2_with fail
      have hp16 : B16 (decP ys).l := decP_16 (HYS.out.1 ▸ HBY.out.drop m)
      refine (decode_any A2 (n - m) (c - m) ys wr (HL.out.below HD.out.below) HRB.out (by omega)).mono ?_
      rintro e w4 ⟨rfl, hb4⟩
      have HD4 := Lib.hid (HD.out.step hb4)
      have HR4 := Lib.hid (HRR.out.below hb4)
      have HLT4 := Lib.hid (Nat.lt_of_lt_of_le (blk_lt HD.out.tab) hb4.size)
      have HAL := Lib.hid (fun ad e => Nat.lt_of_lt_of_le (HD.out.own.lt ad e) hb4.size)
      have HP4 := Lib.hid (blk_new w4 (.cells (pfxV 0 zero16 0) 36))
      obtain ⟨pp, hpp⟩ : ∃ pp, decP ys = pp := ⟨_, rfl⟩
      obtain ⟨ee, hee⟩ : ∃ ee, decPE ys = ee := ⟨_, rfl⟩
      obtain ⟨nn, hnn⟩ : ∃ nn, decPN ys = nn := ⟨_, rfl⟩
      rw [hpp] at hp16
      have hp16l := hp16.len
      rw [hpp, hee, hnn]
      have HPN := Lib.hid (And.intro hpp (And.intro hee hnn))
      clear hb4 HRB HRR HD hpp hee hnn hsl hsub
      by_cases h7 : ee = 7
      · subst h7
        have HE := Lib.hid (And.intro (decTE_of HX.out.2 (show (decTR xs).1 = 7 by rw [HTE.out]; exact decAcc_7 (by omega) HPN.out.2.1) (by decide)) (decT_none (xs := xs) (by rw [decTE_of HX.out.2 (show (decTR xs).1 = 7 by rw [HTE.out]; exact decAcc_7 (by omega) HPN.out.2.1) (by decide)]; decide)))
        go_wp2_with (first | ((with_reducible show wpList _ _ _ (Oper.mk _ (Op.store _ _ _) _ _ _ _ :: _) _ _); refine wpList_store_blk HP4.out 36 0 (pfxV (pp.v) (pp.l) (pp.b)) (store_pfx_fit hp16l rfl) (info_pfx hp16l) (pfx_one _ _ _) _ _ rfl rfl rfl rfl ?_; intro w5 hg9 hs9 hb9; rw [splice_pfx _ _ _ _ hp16l rfl] at hb9; have H5 := Lib.hid (And.intro hg9 hb9); have HD5 := Lib.hid (HD4.out.step (below_grown (below_alloc (Below.refl w4.heap.size w4) _) hg9 (Nat.le_refl _))); clear hg9 hs9 hb9) | ((with_reducible show wpList _ _ _ (Oper.mk _ (Op.store _ _ _) _ _ _ _ :: _) _ _); refine wpList_store_blk HD5.out.zero 28 0 (tabV none 0 0) (Nat.le_refl _) (info_tab _ _ _) (tab_one _ _ _) _ _ rfl rfl rfl rfl ?_; intro w6 hg9 hs9 hb9; rw [splice_tab] at hb9; have H6 := Lib.hid (And.intro hg9 hb9); clear hg9 hs9 hb9))
        have hld := load_tab H6.out.2
        refine bodyPost_ret (results_c2 rfl rfl hld) rfl ?_
        rw [HE.out.1, HE.out.2]
        exact ⟨_, _, _, rfl, OS.nil _ _ _, below_grown HD5.out.below H6.out.1 (by omega)⟩
      · by_cases hz : ee = 0
        · subst hz
          have hnz := dec_nat (HYS.out.1 ▸ HBY.out.drop m) HPN.out.2.1
          rw [HPN.out.2.2] at hnz
          obtain ⟨q, hq, hql⟩ := hnz
          subst hq
          have hqL : q ≤ L := by rw [← HYS.out.2]; exact hql
          clear hql h7
          go_wp2_with (first | ((with_reducible show wpList _ _ _ (Oper.mk _ (Op.store _ _ _) _ _ _ _ :: _) _ _); refine wpList_store_blk HP4.out 36 0 (pfxV (pp.v) (pp.l) (pp.b)) (store_pfx_fit hp16l rfl) (info_pfx hp16l) (pfx_one _ _ _) _ _ rfl rfl rfl rfl ?_; intro w5 hg9 hs9 hb9; rw [splice_pfx _ _ _ _ hp16l rfl] at hb9; have H5 := Lib.hid (And.intro hg9 hb9); have HD5 := Lib.hid (HD4.out.step (below_grown (below_alloc (Below.refl w4.heap.size w4) _) hg9 (Nat.le_refl _))); clear hg9 hs9 hb9))
          have HB5 := Lib.hid (below_grown (below_alloc (Below.refl w4.heap.size w4) (.cells (pfxV 0 zero16 0) 36)) H5.out.1 (Nat.le_refl _))
          have hoB : offB ys 0 (q : Int) = true := by simp [offB, HYS.out.2]; omega
          refine (raw_any g ys 0 q w5 (HR4.out.below HB5.out) (by omega) (by rw [HYS.out.2]; omega)).mono ?_
          rw [offL_true hoB, offE_true hoB, Int.toNat_natCast]
          rintro e w6 ⟨A6, c6, rfl, -, hr6, hg6⟩
          have hgp := HLT4.out
          have HD6 := Lib.hid (HD5.out.grow hg6 hg0 hggt)
          have HP6 := Lib.hid (blk_grown H5.out.2 hg6 (fun e => by injection e with e; omega))
          have HR6 := Lib.hid hr6
          obtain ⟨zs, hzs⟩ : ∃ zs, ys.drop q = zs := ⟨_, rfl⟩
          rw [hzs] at HR6
          have hzr : 0 ≤ rd zs 0 ∧ rd zs 0 < 256 := HR6.out.byte.getD 0
          obtain ⟨hv, hhv⟩ : ∃ hv, rd zs 0 = hv := ⟨_, rfl⟩
          rw [hhv] at hzr
          have hw8 : IntKind.i64.wrap hv = hv := IntWalk.i64_in _ (by omega)
          have HZS := Lib.hid (And.intro hzs hhv)
          obtain ⟨gp, hgpe⟩ : ∃ gp, w4.heap.size = gp := ⟨_, rfl⟩
          rw [hgpe] at hgp HP6 HAL ⊢
          clear hr6 hg6 hoB hzs hhv HP4 HD4 HR4 HB5 HD5 H5
          go_wp2_with fail
          refine wp_region_mix ((fun w0 => w0.heap[gt]? = some (.cells (tabV A1 k c1) 28 (0, 0)) ∧ w0.heap[gp]? = some (.cells (pfxV pp.v pp.l pp.b) 36 (0, 0)))) [(0, 0), (1, 0), (2, 0), (3, 0), (4, 2), (5, 0), (6, 0), (7, 2), (8, 2), (9, 0), (10, 3)] (by kernel_rfl) (by kernel_rfl) (⟨HD6.out.tab, HP6.out⟩) ?_
          simp only [List.map_cons, List.map_nil]
          iterate 1 (refine wpO_step0 rfl rfl (fun K hK => ?_); go_simp; refine hK _ _ ?_; clear hK K)
          refine wpO_loadW (t := 26) (ad := ⟨gt, 0, none⟩) rfl rfl ?hw rfl rfl ((fun w0 hS => ((tab_at hS.1).all _ (Below.refl _ _)).2)) ?_
          case hw => go_simp
          refine wpO_loadW (t := 36) (ad := ⟨gp, 0, none⟩) rfl rfl ?hw rfl rfl ((fun w0 hS => load_pfx hp16 hS.2)) ?_
          case hw => go_simp
          iterate 1 (refine wpO_step0 rfl rfl (fun K hK => ?_); go_simp; refine hK _ _ ?_; clear hK K)
          refine wpO_step2 rfl rfl (⟨HD6.out.tab, HP6.out⟩) (fun K hK => ?_)
          go_simp
          refine (u8_rd g zs _ (HR6.out.below (below_drew1 _))).mono ?_
          rw [HZS.out.2]
          rintro e w7 ⟨rfl, hr7, hg7⟩
          have HD7 := Lib.hid ((HD6.out.step (below_drew1 _)).grow hg7 hg0 hggt)
          have HP7 := Lib.hid (blk_grown (show (w6.drew).heap[gp]? = _ from HP6.out) hg7 (fun e => by injection e with e; omega))
          have HR7 := Lib.hid hr7
          clear hr7 hg7
          refine hK _ _ ⟨⟨HD7.out.tab, HP7.out⟩, ?_⟩
          clear hK K
          iterate 1 (refine wpO_step0 rfl rfl (fun K hK => ?_); go_simp; refine hK _ _ ?_; clear hK K)
          refine wpO_step0 rfl rfl (fun K hK => ?_)
          rw [if_pos (show Region.wanted _ _ = true from rfl)]
          refine ⟨_, fun w0 => exec_build_row (p := pp) (h := hv) rfl rfl rfl hp16l w0, hK _ _ ?_⟩
          clear hK K
          refine wpO_step2 rfl rfl (⟨HD7.out.tab, HP7.out⟩) (fun K hK => ?_)
          rw [if_pos (show Region.wanted _ _ = true from rfl)]
          refine oper_exec (exec_lit1 rowK (x := .tmp 45) rfl ⟨pp, hv⟩ rfl hp16 (by show 19 ≤ _; omega) _) ?_
          have HD8 := Lib.hid (HD7.out.step (below_alloc (Below.refl _ _) (.cells (rowK.enc ⟨pp, hv⟩).toArray rowK.t)))
          have HP8 := Lib.hid (blk_below HP7.out (below_alloc (Below.refl _ _) (.cells (rowK.enc ⟨pp, hv⟩).toArray rowK.t)))
          refine hK _ _ ⟨⟨HD8.out.tab, HP8.out⟩, ?_⟩
          clear hK K
          refine wpO_step2 rfl rfl (⟨HD8.out.tab, HP8.out⟩) (fun K hK => ?_)
          rw [if_pos (show Region.wanted _ _ = true from rfl)]
          refine oper_append_shp (S := rowK) (.tmp 40) (.tmp 46) rfl rfl rfl HD8.out.own (OS.one rowK w7 0 ⟨pp, hv⟩ (Nat.zero_le _) hp16).reads (by have := blk_lt HD7.out.tab; simp; omega) (by omega) ?_
          intro A9 c9 w9 h1 h2 h3
          have hA8 := HD8.out.own.base_
          have hT9 := blk_own2 HD8.out.tab h2 (fun ad e => by have := hA8 ad e; omega)
          have HT9 := Lib.hid hT9
          have H9 := Lib.hid (And.intro h1 h2)
          clear h1 h2 h3 hT9
          refine hK _ _ ⟨⟨HT9.out, blk_own2 HP8.out H9.out.2 (fun ad e => by have := HAL.out ad e; omega)⟩, ?_⟩
          clear hK K
          iterate 1 (refine wpO_step0 rfl rfl (fun K hK => ?_); go_simp; refine hK _ _ ?_; clear hK K)
          refine wpO_step3 rfl rfl (fun K hK => ?_)
          rw [if_pos (show Region.wanted _ _ = true from rfl)]
          refine oper_store_cell HT9.out 26 0 (.slice A9 (k + 1) c9) (Nat.le_refl _) (by kernel_rfl) rfl rfl _ _ rfl rfl rfl ?_
          intro wa hga hsa hta
          have HDa := Lib.hid (HD8.out.push H9.out.2 hga H9.out.1 hta (by omega))
          have HRa := Lib.hid (((HR7.out.below (below_alloc (Below.refl _ _) (.cells (rowK.enc ⟨pp, hv⟩).toArray rowK.t))).grown H9.out.2 (fun b e => by
            obtain ⟨ad, e1, e2⟩ := own_of e
            have := HD8.out.own.base_ ad e1
            omega)).grown hga (fun b e => by injection e with e; omega))
          clear hga hsa hta H9 HT9 HD8 HP8 HD7 HP7 HR7 HD6 HP6 HR6 hA8
          refine hK _ _ ?_
          clear hK K
          refine wpO_nil ?_
          go_wp2_with fail
          refine (err_any g _ _ wa HRa.out).mono ?_
          by_cases hqL2 : L = q
          · have hzl : zs.length = 0 := by rw [← HZS.out.1, List.length_drop, HYS.out.2]; omega
            have he := decTE_of HX.out.2 (show (decTR xs).1 = 7 by rw [HTE.out]; exact decAcc_short (by omega) HPN.out.2.1 HPN.out.2.2 (by rw [HYS.out.2]; omega)) (by decide)
            have HE := Lib.hid (And.intro he (decT_none (xs := xs) (by rw [he]; decide)))
            rw [if_pos hzl]
            clear he hqL2 hzl
            rintro e wb ⟨rfl, rfl⟩
            go_wp2_with (first | ((with_reducible show wpList _ _ _ (Oper.mk _ (Op.store _ _ _) _ _ _ _ :: _) _ _); refine wpList_store_blk HDa.out.zero 28 0 (tabV none 0 0) (Nat.le_refl _) (info_tab _ _ _) (tab_one _ _ _) _ _ rfl rfl rfl rfl ?_; intro wc hg9 hs9 hb9; rw [splice_tab] at hb9; have Hc := Lib.hid (And.intro hg9 hb9); clear hg9 hs9 hb9))
            have hld := load_tab Hc.out.2
            refine bodyPost_ret (results_c2 rfl rfl hld) rfl ?_
            rw [HE.out.1, HE.out.2]
            exact ⟨_, _, _, rfl, OS.nil _ _ _, below_grown HDa.out.below Hc.out.1 (by omega)⟩
          · have hzl : zs.length ≠ 0 := by rw [← HZS.out.1, List.length_drop, HYS.out.2]; omega
            have hra := HRa.out
            rw [if_neg hzl] at hra
            have HRb := Lib.hid hra
            rw [if_neg hzl]
            have hst := decAcc_step hlt2 HPN.out.2.1 HPN.out.2.2 (show q < ys.length by rw [HYS.out.2]; omega) (acc := acc)
            rw [HPN.out.1, ← rd_drop2, HZS.out.1, HZS.out.2] at hst
            have hdr : zs.drop 1 = xs.drop (m + q + 1) := by rw [← HZS.out.1, ← HYS.out.1, List.drop_drop, List.drop_drop]; congr 1
            have hdr2 : ys.drop (q + 1) = xs.drop (m + q + 1) := by rw [← HYS.out.1, List.drop_drop]; congr 1
            rw [hdr2] at hst
            rw [hdr] at HRb
            have HST := Lib.hid hst
            clear hzl hra hst hdr hdr2
            rintro e wb ⟨rfl, rfl⟩
            go_wp2
            go_roundw
            case measure => simp [intOf]; omega
            case rel => exact ⟨k + 1, m + q + 1, A9, c9, acc ++ [⟨pp, hv⟩], by go_num, by omega, fun _ => by omega, HDa.out, HX.out.1 ▸ HRb.out, HTE.out.trans HST.out⟩
        · have he := decTE_of HX.out.2 (show (decTR xs).1 = 190 by rw [HTE.out]; exact decAcc_bad (by omega) (by rw [HPN.out.2.1]; exact h7) (by rw [HPN.out.2.1]; exact hz)) (by decide)
          have HE := Lib.hid (And.intro he (decT_none (xs := xs) (by rw [he]; decide)))
          have h7b : (ee == 7) = false := by simpa using h7
          have hzb : (ee != 0) = true := by simpa using hz
          clear h7 hz he
          go_wp2_with (first | ((with_reducible show wpList _ _ _ (Oper.mk _ (Op.store _ _ _) _ _ _ _ :: _) _ _); refine wpList_store_blk HP4.out 36 0 (pfxV (pp.v) (pp.l) (pp.b)) (store_pfx_fit hp16l rfl) (info_pfx hp16l) (pfx_one _ _ _) _ _ rfl rfl rfl rfl ?_; intro w5 hg9 hs9 hb9; rw [splice_pfx _ _ _ _ hp16l rfl] at hb9; have H5 := Lib.hid (And.intro hg9 hb9); have HD5 := Lib.hid (HD4.out.step (below_grown (below_alloc (Below.refl w4.heap.size w4) _) hg9 (Nat.le_refl _))); clear hg9 hs9 hb9) | ((with_reducible show wpList _ _ _ (Oper.mk _ (Op.store _ _ _) _ _ _ _ :: _) _ _); refine wpList_store_blk HD5.out.zero 28 0 (tabV none 0 0) (Nat.le_refl _) (info_tab _ _ _) (tab_one _ _ _) _ _ rfl rfl rfl rfl ?_; intro w6 hg9 hs9 hb9; rw [splice_tab] at hb9; have H6 := Lib.hid (And.intro hg9 hb9); clear hg9 hs9 hb9))
          have hld := load_tab H6.out.2
          refine bodyPost_ret (results_c2 rfl rfl hld) rfl ?_
          rw [HE.out.1, HE.out.2]
          exact ⟨_, _, _, rfl, OS.nil _ _ _, below_grown HD5.out.below H6.out.1 (by omega)⟩
    · obtain rfl : k = K := by have := HH.out.1; omega
      have HTE := Lib.hid HH.out.2.2.2.2
      rw [Nat.sub_self, decAcc] at HTE
      have HRR := Lib.hid HH.out.2.2.2.1
      clear HH hlt
      go_wp2_with fail
      refine (err_any g _ _ wr HRR.out).mono ?_
      by_cases hx0 : xs.length = 0
      · have he1 : e0 = 7 := by rw [← HE0.out, if_pos hx0]
        subst he1
        have he : decTE xs = 7 := by unfold decTE; rw [if_pos hx0]
        have HE := Lib.hid (And.intro he (decT_none (xs := xs) (by rw [he]; decide)))
        clear he hx0
        rintro e wb ⟨rfl, rfl⟩
        go_wp2_with (first | ((with_reducible show wpList _ _ _ (Oper.mk _ (Op.store _ _ _) _ _ _ _ :: _) _ _); refine wpList_store_blk HD.out.zero 28 0 (tabV none 0 0) (Nat.le_refl _) (info_tab _ _ _) (tab_one _ _ _) _ _ rfl rfl rfl rfl ?_; intro wc hg9 hs9 hb9; rw [splice_tab] at hb9; have Hc := Lib.hid (And.intro hg9 hb9); clear hg9 hs9 hb9))
        have hld := load_tab Hc.out.2
        refine bodyPost_ret (results_c2 rfl rfl hld) rfl ?_
        rw [HE.out.1, HE.out.2]
        exact ⟨_, _, _, rfl, OS.nil _ _ _, below_grown HD.out.below Hc.out.1 (by omega)⟩
      · have he1 : e0 = 0 := by rw [← HE0.out, if_neg hx0]
        subst he1
        have hT : decTE xs = if (xs.drop m).length = 0 ∧ tabB acc = true then 0 else 190 := by
          unfold decTE
          rw [if_neg hx0, HTE.out]
          rfl
        have HTT := Lib.hid hT
        have HAC := Lib.hid (show decTE xs = 0 → decTL xs = acc from fun hh => by unfold decTL; rw [if_pos hh, HTE.out])
        obtain ⟨L, hL⟩ : ∃ L, (xs.drop m).length = L := ⟨_, rfl⟩
        rw [hL] at HTT
        have HLL := Lib.hid hL
        clear hT hx0 hL
        rintro e wb ⟨rfl, rfl⟩
        go_wp2_with fail
        refine (left_any g _ _ wr HRR.out).mono ?_
        rw [HLL.out]
        rintro e wb ⟨rfl, rfl⟩
        by_cases hl0 : L = 0
        · subst hl0
          have hlt := ((tab_at HD.out.tab).all wr (Below.refl _ _)).1
          go_wp2_with (first | ((with_reducible show wpList _ _ _ (Oper.mk _ (Op.load _ _) _ _ _ _ :: _) _ _); refine wpList_load_g hlt _ rfl rfl (by go_simp) ?_))
          refine (tcheck_any A1 k c1 acc wr (HL.out.below HD.out.below) HD.out.own.reads (by omega)).mono ?_
          rintro e w8 ⟨rfl, hb8⟩
          have HD8 := Lib.hid (HD.out.step hb8)
          clear hlt hb8
          cases hR : tabB acc with
          | true =>
            have hE0 : decTE xs = 0 := by rw [HTT.out, if_pos ⟨trivial, hR⟩]
            have HE := Lib.hid (And.intro hE0 (HAC.out hE0))
            rw [errT_true hR]
            have hlt := ((tab_at HD8.out.tab).all w8 (Below.refl _ _)).1
            clear hE0 hR
            go_wp2_with (first | ((with_reducible show wpList _ _ _ (Oper.mk _ (Op.load _ _) _ _ _ _ :: _) _ _); refine wpList_load_g hlt _ rfl rfl (by go_simp) ?_) | ((with_reducible show wpList _ _ _ (Oper.mk _ (Op.store _ _ _) _ _ _ _ :: _) _ _); refine wpList_store_blk HD8.out.zero 28 0 (tabV A1 k c1) (Nat.le_refl _) (info_tab _ _ _) (tab_one _ _ _) _ _ rfl rfl rfl rfl ?_; intro wc hg9 hs9 hb9; rw [splice_tab] at hb9; have Hc := Lib.hid (And.intro hg9 hb9); clear hg9 hs9 hb9))
            have hld := load_tab Hc.out.2
            refine bodyPost_ret (results_c2 rfl rfl hld) rfl ?_
            rw [HE.out.1, HE.out.2]
            exact ⟨_, _, _, rfl, (HD8.out.own.grown Hc.out.1 (fun ad e hh => by have := HD8.out.own.base_ ad e; injection hh with hh; omega)).lower (by omega), below_grown HD8.out.below Hc.out.1 (by omega)⟩
          | false =>
            have hE0 : decTE xs = 190 := by rw [HTT.out, if_neg (fun h => by rw [hR] at h; cases h.2)]
            have HE := Lib.hid (And.intro hE0 (decT_none (xs := xs) (by rw [hE0]; decide)))
            rw [errT_false hR]
            clear hE0 hR
            go_wp2_with (first | ((with_reducible show wpList _ _ _ (Oper.mk _ (Op.store _ _ _) _ _ _ _ :: _) _ _); refine wpList_store_blk HD8.out.zero 28 0 (tabV none 0 0) (Nat.le_refl _) (info_tab _ _ _) (tab_one _ _ _) _ _ rfl rfl rfl rfl ?_; intro wc hg9 hs9 hb9; rw [splice_tab] at hb9; have Hc := Lib.hid (And.intro hg9 hb9); clear hg9 hs9 hb9))
            have hld := load_tab Hc.out.2
            refine bodyPost_ret (results_c2 rfl rfl hld) rfl ?_
            rw [HE.out.1, HE.out.2]
            exact ⟨_, _, _, rfl, OS.nil _ _ _, below_grown HD8.out.below Hc.out.1 (by omega)⟩
        · have hE0 : decTE xs = 190 := by rw [HTT.out, if_neg (fun h => hl0 h.1)]
          have HE := Lib.hid (And.intro hE0 (decT_none (xs := xs) (by rw [hE0]; decide)))
          have hl1 : decide ((0 : Int) < (L : Int)) = true := decide_eq_true (by omega)
          have hl2 : decide (0 < L) = true := decide_eq_true (by omega)
          have hl3 : (0 : Int) < (L : Int) := by omega
          clear hE0
          go_wp2_with (first | ((with_reducible show wpList _ _ _ (Oper.mk _ (Op.store _ _ _) _ _ _ _ :: _) _ _); refine wpList_store_blk HD.out.zero 28 0 (tabV none 0 0) (Nat.le_refl _) (info_tab _ _ _) (tab_one _ _ _) _ _ rfl rfl rfl rfl ?_; intro wc hg9 hs9 hb9; rw [splice_tab] at hb9; have Hc := Lib.hid (And.intro hg9 hb9); clear hg9 hs9 hb9))
          have hld := load_tab Hc.out.2
          refine bodyPost_ret (results_c2 rfl rfl hld) rfl ?_
          rw [HE.out.1, HE.out.2]
          exact ⟨_, _, _, rfl, OS.nil _ _ _, below_grown HD.out.below Hc.out.1 (by omega)⟩
end Go.Proofs.YtihfaknflfmohaaDoor

/- Plain laws of tables (layer 9), sixth part: set, dropped, set again. -/
namespace Go.Proofs.YtihfaknflfmohaaDoor
open Go.RowKit
set_option linter.unusedVariables false
set_option linter.unusedSimpArgs false
set_option maxRecDepth 4000
structure BackT (t : List Row) (p : Pfx) (h : Int) : Prop where
  set : setL t p h = setT t p h
  getN : tgetN (setT t p h) p = h
  getB : tgetB (setT t p h) p = true
  dropE : dropE (setT t p h) p = 0
  dropL : dropL (setT t p h) p = dropT (setT t p h) p
  still : tgetB (dropT (setT t p h) p) p = false
  had : tgetB t p = thereB t p
  was : tgetN t p = getT t p
  new : thereB t p = false → dropT (setT t p h) p = t
  backE : thereB t p = true → setE (dropT (setT t p h) p) p (getT t p) = 0
  backL : thereB t p = true → setL (dropT (setT t p h) p) p (getT t p) = t
  len : (setT t p h).length ≤ 41
  lenD : (dropT (setT t p h) p).length ≤ 41
theorem back_of {t : List Row} {p : Pfx} {h : Int} (hp : B16 p.l) (hf : Fits t) (hs : setE t p h = 0) : tabB t = true ∧ BackT t p h := by
  have hs0 := hs
  unfold setE at hs
  cases hR : tabB t with
  | false => rw [hR] at hs; simp at hs
  | true =>
    rw [hR, if_pos rfl] at hs
    by_cases hc : p.right = true ∧ 1 ≤ h ∧ h ≤ 255
    · rw [if_pos hc] at hs
      by_cases hfull : thereB t p = false ∧ t.length = 40
      · rw [if_pos hfull] at hs; cases hs
      · have hlow : thereB t p = true ∨ t.length ≠ 40 := by
          cases hth : thereB t p with
          | true => exact .inl rfl
          | false => exact .inr (fun h4 => hfull ⟨hth, h4⟩)
        have hT := tabB_setT (h := h) hp hf hR hc.1 hc.2.1 hc.2.2 hlow
        have hFS := fits_setT (h := h) hp hf (tabB_to hR).2.2
        obtain ⟨hg1, hg2⟩ := get_set (h := h) hp hf (tabB_to hR).2.2
        have hD := tabB_dropT (p := p) hT
        have hdE : Go.Proofs.YtihfaknflfmohaaDoor.dropE (setT t p h) p = 0 := by unfold Go.Proofs.YtihfaknflfmohaaDoor.dropE; rw [hT, hg1]; rfl
        have hst := there_drop hp hFS (tabB_to hT).2.2 hg1
        have hbE : thereB t p = true → setE (dropT (setT t p h) p) p (getT t p) = 0 := fun hth => by
          have hlt := lowN_lt hth
          have h2 : getT t p = (rowAt t (lowN t p)).h := by unfold getT; rw [hth]; rfl
          have h3 := ((okB_iff _).1 ((tabB_to hR).2.1 _ (row_mem hlt))).2
          have hl2 := len_dropT' (t := setT t p h) hg1
          rw [len_setT, hth, if_pos rfl] at hl2
          have h40 := (tabB_to hR).1
          unfold setE
          rw [hD, if_pos rfl, if_pos ⟨hc.1, by rw [h2]; exact h3.1, by rw [h2]; exact h3.2⟩, if_neg (fun hh => by omega)]
        refine ⟨rfl, ?_⟩
        refine { set := ?_, getN := ?_, getB := ?_, dropE := hdE, dropL := ?_, still := ?_, had := ?_, was := ?_, new := fun hth => drop_set_new hp hf (tabB_to hR).2.2 hth, backE := hbE, backL := fun hth => ?_, len := ?_, lenD := ?_ }
        · unfold setL; rw [if_pos hs0]
        · unfold tgetN; rw [hT, hg2]; rfl
        · unfold tgetB; rw [hT, hg1]; rfl
        · unfold Go.Proofs.YtihfaknflfmohaaDoor.dropL; rw [if_pos hdE]
        · unfold tgetB; rw [hst]; simp
        · unfold tgetB; rw [hR]; rfl
        · unfold tgetN; rw [hR]; rfl
        · unfold setL
          rw [if_pos (hbE hth)]
          exact set_drop_set hp hf (tabB_to hR).2.2 hth
        · have := (tabB_to hT).1; omega
        · have := (tabB_to hD).1; omega
    · rw [if_neg hc] at hs; cases hs
theorem encT_pos (t : List Row) : 0 < (encT t).length := by simp [encT]
end Go.Proofs.YtihfaknflfmohaaDoor

/- Layer 9 (table): the walk of TableSets. -/
namespace Go.Proofs.YtihfaknflfmohaaDoor
open Go.RowKit
set_option linter.unusedVariables false
set_option linter.unusedSimpArgs false
set_option maxRecDepth 4000
theorem oks_set {t : List Row} {p : Pfx} {h : Int} (ot : Oks t) (hpo : p.ok) (hf : Fits t) : Oks (setL t p h) := by
  unfold setL
  split
  · rename_i he
    have hh : tabB t = true ∧ 1 ≤ h ∧ h ≤ 255 := by
      unfold setE at he
      cases hb : tabB t with
      | false => rw [hb] at he; simp at he
      | true =>
        rw [hb, if_pos rfl] at he
        split at he
        · rename_i hx
          exact ⟨rfl, hx.2⟩
        · cases he
    intro x hx
    rcases (mem_setT hpo.l hf (tabB_to hh.1).2.2).1 hx with rfl | ⟨hx, _⟩
    · refine ⟨hpo, ?_⟩
      simp [Lit.wf, IntKind.min, IntKind.max, IntKind.bits, IntKind.signed]
      omega
    · exact ot x hx
  · intro x hx
    cases hx
theorem oks_drop {t : List Row} {p : Pfx} (ot : Oks t) : Oks (dropL t p) := by
  unfold dropL
  split
  · exact fun x hx => ot x (mem_dropT_of hx)
  · intro x hx
    cases hx
theorem there_get {t : List Row} {p : Pfx} (ht : tabB t = true) : thereB t p = decide (0 < getT t p) := by
  have h1 := getT_zero (p := p) ht
  cases hth : thereB t p with
  | false => rw [getT_no hth]; rfl
  | true =>
    have hlt := lowN_lt hth
    have h2 : getT t p = (rowAt t (lowN t p)).h := by unfold getT; rw [hth]; rfl
    have h3 := ((okB_iff _).1 ((tabB_to ht).2.1 _ (row_mem hlt))).2
    rw [eq_comm, decide_eq_true_iff]
    omega
theorem setL_len (t : List Row) (p : Pfx) (h : Int) : (setL t p h).length ≤ t.length + 1 := by
  unfold setL
  split
  · rw [len_setT]
    split <;> omega
  · simp
theorem dropL_len (t : List Row) (p : Pfx) : (dropL t p).length ≤ t.length := by
  unfold dropL
  split
  · exact len_dropT t
  · simp
set_option maxRecDepth 100000 in
set_option maxHeartbeats 8000000 in
theorem tableSets_any (A : Option Addr) (n c : Nat) (t : List Row) (p : Pfx) (h : Int) (w : World) (hL : Laid w) (ht : RT w A n c t) (ot : Oks t) (hpo : p.ok) : Calls Tryd.prog 10 #[.agg (tabV A n c), .agg (pfxV p.v p.l p.b), .int .i64 h] w fun e w' => e = .returned (.bool true) ∧ Below w.heap.size w w' := by
  have hp := hpo.l
  have hblk1 := blk_new w (.cells (tabV A n c) 28)
  have hbel1 : Below w.heap.size w (w.alloc (.cells (tabV A n c) 28)) := below_alloc (Below.refl _ _) _
  have hblk2 := blk_new (w.alloc (.cells (tabV A n c) 28)) (.cells (pfxV p.v p.l p.b) 36)
  have hbel2 : Below w.heap.size w ((w.alloc (.cells (tabV A n c) 28)).alloc (.cells (pfxV p.v p.l p.b) 36)) := below_alloc (hbel1) _
  rw [show (w.alloc (.cells (tabV A n c) 28)).heap.size = w.heap.size + 1 by simp] at hblk2
  replace hblk1 := blk_below hblk1 (below_alloc (Below.refl _ _) (.cells (pfxV p.v p.l p.b) 36))
  have HP1 := Lib.hid (tab_at hblk1)
  have HBK1 := Lib.hid hblk1
  have HP2 := Lib.hid (pfx_at hp hblk2)
  have HBK2 := Lib.hid hblk2
  have HBE := Lib.hid hbel2
  have HL := Lib.hid (hL.below HBE.out)
  obtain ⟨cs1, hcs1⟩ : ∃ cs, tabV A n c = cs := ⟨_, rfl⟩
  obtain ⟨cs2, hcs2⟩ : ∃ cs, pfxV p.v p.l p.b = cs := ⟨_, rfl⟩
  simp only [hcs1, hcs2] at HBE HL HP1 HP2 HBK1 HBK2 ⊢
  have HC1 := Lib.hid hcs1
  have HC2 := Lib.hid hcs2
  clear hL hcs1 hblk1 hbel1 hcs2 hblk2 hbel2
  have HT := Lib.hid (ht.below HBE.out)
  have OKS := Lib.hid ot
  clear ht ot
  go_enter Tryd.func10, Tryd.ntmps10
  go_wp2_with fail
  refine (wakes09_any _ HL.out).mono ?_
  rintro e w1 ⟨rfl, hb1⟩
  have HB1 := Lib.hid hb1
  have hl1 := (HP1.out.all w1 HB1.out).2
  clear hb1
  by_cases hn : 200 < n
  · have hn' : decide ((200 : Int) < n) = true := decide_eq_true (by omega)
    go_wp2_with (first | ((with_reducible show wpList _ _ _ (Oper.mk _ (Op.load _ _) _ _ _ _ :: _) _ _); refine wpList_load_g hl1 _ rfl rfl (by go_simp) ?_))
    go_ret
    exact ⟨rfl, below_step HBE.out HB1.out⟩
  · have hn' : decide ((200 : Int) < n) = false := decide_eq_false (by omega)
    have hn200 : n ≤ 200 := by omega
    clear hn
    go_upto_region 5 with (first | ((with_reducible show wpList _ _ _ (Oper.mk _ (Op.load _ _) _ _ _ _ :: _) _ _); refine wpList_load_g hl1 _ rfl rfl (by go_simp) ?_))
    clear hl1
    go_cut [7, 8] (fun s7 s8 wx => ∃ (g : Nat) (A7 : Option Addr) (n7 c7 : Nat), s7 = .pointer (some ⟨g, 0, none⟩) ∧ s8 = .int .i64 (setE t p h) ∧ Hid (wx.heap[g]? = some (.cells (tabV A7 n7 c7) 28 (0, 0)) ∧ RT wx A7 n7 c7 (setL t p h) ∧ Below w1.heap.size w1 wx))
    case first =>
      have HBB := HB1
      have HBD := Lib.hid (below_drew1 w1)
      refine wp_region_fork ((fun w0 => Below w1.heap.size w1 w0)) (OrdT.fork [0, 2, 3] 1 8 (OrdT.fork [] 4 8 (OrdT.lin [5, 6, 7, 8, 9, 10]) (OrdT.lin [4, 5, 6, 7, 9, 10])) (OrdT.lin [1, 4, 5, 6, 7, 9, 10])) [(0, 0), (1, 2), (2, 0), (3, 0), (4, 2), (5, 0), (6, 0), (7, 0), (8, 2), (9, 2), (10, 0)] (by kernel_rfl) (by kernel_rfl) ((below_drew1 _)) ?_
      simp only [wpF]
      refine wpO_loadW (t := 28) (ad := ⟨w.heap.size, 0, none⟩) rfl rfl ?hw rfl rfl ((fun w0 hS => (HP1.out.all w0 (below_step HB1.out hS)).1)) ?_
      case hw => go_simp
      refine wpO_loadW (t := 36) (ad := ⟨(w.heap.size+1), 0, none⟩) rfl rfl ?hw rfl rfl ((fun w0 hS => (HP2.out.all w0 (below_step HB1.out hS)).2.2.2.2)) ?_
      case hw => go_simp
      iterate 1 (refine wpO_step0 rfl rfl (fun K hK => ?_); go_simp; refine hK _ _ ?_; clear hK K)
      refine wpO_nil ⟨?_, ?_⟩
      · refine wpO_step2 rfl rfl (HBD.out) (fun K hK => ?_)
        go_simp
        refine (copiedT_any A n c t _ (HT.out.below (below_step HBB.out HBD.out)) (by omega)).mono ?_
        rintro e w2 ⟨Ac, cc, rfl, hO9, hb9⟩
        have HBC := Lib.hid (below_step HBD.out hb9)
        have HCP := Lib.hid hO9.reads
        have hszc := hb9.size
        try replace HZ9 := Lib.hid (blk_below HZ9.out hb9)
        clear hO9 hb9
        refine hK _ _ ⟨HBC.out, ?_⟩
        clear hK K
        refine wpO_nil (wpO_nil ⟨?_, ?_⟩)
        · refine wpO_step2 rfl rfl (HBC.out) (fun K hK => ?_)
          go_simp
          refine (tset_any Ac n cc t p h w2 (HL.out.below (below_step HBB.out HBC.out)) HCP.out hp (by omega)).mono ?_
          rintro e w3 ⟨A7, n7, c7, rfl, hO9, hb9⟩
          have HBK := Lib.hid (below_step HBC.out hb9)
          have HO9 := Lib.hid hO9.reads
          have HLT9 := Lib.hid hO9.lt
          have HBA9 := Lib.hid hO9.base_
          try replace HZ9 := Lib.hid (blk_below HZ9.out hb9)
          clear hO9 hb9
          refine hK _ _ ⟨HBK.out, ?_⟩
          clear hK K
          refine wpO_nil ?_
          iterate 3 (refine wpO_step0 rfl rfl (fun K hK => ?_); go_simp; refine hK _ _ ?_; clear hK K)
          refine wpO_step2 rfl rfl (HBK.out) (fun K hK => ?_)
          go_simp
          have hz9 := blk_new w3 (.cells (tabV none 0 0) 28)
          obtain ⟨w4, hw9⟩ : ∃ w9, World.alloc w3 (.cells (tabV none 0 0) 28) = w9 := ⟨_, rfl⟩
          have ha9 : Below (World.heap w3).size w3 w4 := hw9 ▸ below_alloc (Below.refl _ _) _
          have HBL := Lib.hid (below_step HBK.out ha9)
          rw [show World.alloc w3 (.cells #[.slice none 0 0] 28) = w4 from hw9]
          rw [hw9] at hz9
          have hzl9 := blk_lt hz9
          have HZ9 := Lib.hid hz9
          try replace HCP := Lib.hid (HCP.out.below ha9)
          try replace HO9 := Lib.hid (HO9.out.below ha9)
          clear hw9 hz9 ha9
          refine hK _ _ ⟨HBL.out, ?_⟩
          clear hK K
          refine wpO_step2 rfl rfl (HBL.out) (fun K hK => ?_)
          rw [if_pos (show Region.wanted _ _ = true from rfl)]
          refine oper_store_blk HZ9.out 28 0 (tabV A7 n7 c7) (Nat.le_refl _) (info_tab _ _ _) (tab_one _ _ _) _ _ rfl rfl rfl ?_
          intro w5 hg9 hs9 hb9
          rw [splice_tab] at hb9
          have HBM := Lib.hid (below_grown HBL.out hg9 (by have h2 := HBC.out.size; have h3 := HBK.out.size; omega))
          replace HO9 := Lib.hid (HO9.out.grown hg9 (fun ad e h => by injection h with h; first | (have := HLT9.out ad e; omega) | (have := HBA9.out ad e; omega)))
          replace HZ9 := Lib.hid hb9
          clear hg9 hs9 hb9
          refine hK _ _ ⟨HBM.out, ?_⟩
          clear hK K
          iterate 1 (refine wpO_step0 rfl rfl (fun K hK => ?_); go_simp; refine hK _ _ ?_; clear hK K)
          refine wpO_nil ?_
          go_wp2_with fail
          go_meet
          exact ⟨w3.heap.size, A7, n7, c7, rfl, rfl, HZ9.out, HO9.out, HBM.out⟩
        · refine wpO_step2 rfl rfl (HBC.out) (fun K hK => ?_)
          go_simp
          have hz9 := blk_new w2 (.cells (tabV none 0 0) 28)
          obtain ⟨w3, hw9⟩ : ∃ w9, World.alloc w2 (.cells (tabV none 0 0) 28) = w9 := ⟨_, rfl⟩
          have ha9 : Below (World.heap w2).size w2 w3 := hw9 ▸ below_alloc (Below.refl _ _) _
          have HBK := Lib.hid (below_step HBC.out ha9)
          rw [show World.alloc w2 (.cells #[.slice none 0 0] 28) = w3 from hw9]
          rw [hw9] at hz9
          have hzl9 := blk_lt hz9
          have HZ9 := Lib.hid hz9
          try replace HCP := Lib.hid (HCP.out.below ha9)
          try replace HO9 := Lib.hid (HO9.out.below ha9)
          clear hw9 hz9 ha9
          refine hK _ _ ⟨HBK.out, ?_⟩
          clear hK K
          refine wpO_nil ?_
          refine wpO_step2 rfl rfl (HBK.out) (fun K hK => ?_)
          go_simp
          refine (tset_any Ac n cc t p h w3 (HL.out.below (below_step HBB.out HBK.out)) HCP.out hp (by omega)).mono ?_
          rintro e w4 ⟨A7, n7, c7, rfl, hO9, hb9⟩
          have HBL := Lib.hid (below_step HBK.out hb9)
          have HO9 := Lib.hid hO9.reads
          have HLT9 := Lib.hid hO9.lt
          have HBA9 := Lib.hid hO9.base_
          try replace HZ9 := Lib.hid (blk_below HZ9.out hb9)
          clear hO9 hb9
          refine hK _ _ ⟨HBL.out, ?_⟩
          clear hK K
          iterate 3 (refine wpO_step0 rfl rfl (fun K hK => ?_); go_simp; refine hK _ _ ?_; clear hK K)
          refine wpO_step2 rfl rfl (HBL.out) (fun K hK => ?_)
          rw [if_pos (show Region.wanted _ _ = true from rfl)]
          refine oper_store_blk HZ9.out 28 0 (tabV A7 n7 c7) (Nat.le_refl _) (info_tab _ _ _) (tab_one _ _ _) _ _ rfl rfl rfl ?_
          intro w5 hg9 hs9 hb9
          rw [splice_tab] at hb9
          have HBM := Lib.hid (below_grown HBL.out hg9 (by have h2 := HBC.out.size; have h3 := HBK.out.size; omega))
          replace HO9 := Lib.hid (HO9.out.grown hg9 (fun ad e h => by injection h with h; first | (have := HLT9.out ad e; omega) | (have := HBA9.out ad e; omega)))
          replace HZ9 := Lib.hid hb9
          clear hg9 hs9 hb9
          refine hK _ _ ⟨HBM.out, ?_⟩
          clear hK K
          iterate 1 (refine wpO_step0 rfl rfl (fun K hK => ?_); go_simp; refine hK _ _ ?_; clear hK K)
          refine wpO_nil ?_
          go_wp2_with fail
          go_meet
          exact ⟨w2.heap.size, A7, n7, c7, rfl, rfl, HZ9.out, HO9.out, HBM.out⟩
      · refine wpO_step2 rfl rfl (HBD.out) (fun K hK => ?_)
        go_simp
        have hz9 := blk_new w1 (.cells (tabV none 0 0) 28)
        obtain ⟨w2, hw9⟩ : ∃ w9, (World.alloc w1 (.cells (tabV none 0 0) 28)).drew = w9 := ⟨_, rfl⟩
        have ha9 : Below (World.heap w1).size w1 w2 := hw9 ▸ below_step (below_alloc (Below.refl _ _) _) (below_drew1 _)
        have HBC := Lib.hid ha9
        rw [show (World.alloc w1 (.cells #[.slice none 0 0] 28)).drew = w2 from hw9]
        replace hz9 : (World.heap w2)[(World.heap w1).size]? = some (.cells (tabV none 0 0) 28 (0, 0)) := by rw [← hw9]; exact hz9
        have hzl9 := blk_lt hz9
        have HZ9 := Lib.hid hz9
        clear hw9 hz9 ha9
        refine hK _ _ ⟨HBC.out, ?_⟩
        clear hK K
        refine wpO_nil ?_
        refine wpO_step2 rfl rfl (HBC.out) (fun K hK => ?_)
        go_simp
        refine (copiedT_any A n c t _ (HT.out.below (below_step HBB.out HBC.out)) (by omega)).mono ?_
        rintro e w3 ⟨Ac, cc, rfl, hO9, hb9⟩
        have HBK := Lib.hid (below_step HBC.out hb9)
        have HCP := Lib.hid hO9.reads
        have hszc := hb9.size
        try replace HZ9 := Lib.hid (blk_below HZ9.out hb9)
        clear hO9 hb9
        refine hK _ _ ⟨HBK.out, ?_⟩
        clear hK K
        refine wpO_step2 rfl rfl (HBK.out) (fun K hK => ?_)
        go_simp
        refine (tset_any Ac n cc t p h w3 (HL.out.below (below_step HBB.out HBK.out)) HCP.out hp (by omega)).mono ?_
        rintro e w4 ⟨A7, n7, c7, rfl, hO9, hb9⟩
        have HBL := Lib.hid (below_step HBK.out hb9)
        have HO9 := Lib.hid hO9.reads
        have HLT9 := Lib.hid hO9.lt
        have HBA9 := Lib.hid hO9.base_
        try replace HZ9 := Lib.hid (blk_below HZ9.out hb9)
        clear hO9 hb9
        refine hK _ _ ⟨HBL.out, ?_⟩
        clear hK K
        iterate 3 (refine wpO_step0 rfl rfl (fun K hK => ?_); go_simp; refine hK _ _ ?_; clear hK K)
        refine wpO_step2 rfl rfl (HBL.out) (fun K hK => ?_)
        rw [if_pos (show Region.wanted _ _ = true from rfl)]
        refine oper_store_blk HZ9.out 28 0 (tabV A7 n7 c7) (Nat.le_refl _) (info_tab _ _ _) (tab_one _ _ _) _ _ rfl rfl rfl ?_
        intro w5 hg9 hs9 hb9
        rw [splice_tab] at hb9
        have HBM := Lib.hid (below_grown HBL.out hg9 (by have h2 := HBC.out.size; have h3 := HBK.out.size; omega))
        replace HO9 := Lib.hid (HO9.out.grown hg9 (fun ad e h => by injection h with h; first | (have := HLT9.out ad e; omega) | (have := HBA9.out ad e; omega)))
        replace HZ9 := Lib.hid hb9
        clear hg9 hs9 hb9
        refine hK _ _ ⟨HBM.out, ?_⟩
        clear hK K
        iterate 1 (refine wpO_step0 rfl rfl (fun K hK => ?_); go_simp; refine hK _ _ ?_; clear hK K)
        refine wpO_nil ?_
        go_wp2_with fail
        go_meet
        exact ⟨w1.heap.size, A7, n7, c7, rfl, rfl, HZ9.out, HO9.out, HBM.out⟩
    case rest =>
      obtain ⟨g1, A1, n1, c1, rfl, rfl, HC⟩ := hcut
      obtain ⟨v1, rfl⟩ : ∃ v1, v1 = wc := ⟨wc, rfl⟩
      have hn1 : n1 ≤ 201 := by
        rw [← HC.out.2.1.len]
        have := setL_len t p h
        rw [HT.out.len] at this
        omega
      have HBV := Lib.hid (below_step HB1.out HC.out.2.2)
      have hl1 := (HP1.out.all v1 HBV.out).1
      have hl2 := (HP2.out.all v1 HBV.out).2.2.2.2
      rw [HC1.out] at hl1
      rw [HC2.out] at hl2
      go_wp2_with (first | ((with_reducible show wpList _ _ _ (Oper.mk _ (Op.load _ _) _ _ _ _ :: _) _ _); refine wpList_load_g hl1 _ rfl rfl (by go_simp) ?_) | ((with_reducible show wpList _ _ _ (Oper.mk _ (Op.load _ _) _ _ _ _ :: _) _ _); refine wpList_load_g hl2 _ rfl rfl (by go_simp) ?_))
      have hpl := refset_any A n c t p h v1 (HT.out.below HBV.out) OKS.out hpo (by omega)
      rw [HC1.out, HC2.out] at hpl
      refine hpl.mono ?_
      clear hpl hl1 hl2
      rintro e v2 ⟨A3, n3, c3, rfl, hO3, hb3⟩
      have HO3 := Lib.hid hO3
      have HBV2 := Lib.hid (below_step HBV.out hb3)
      have HG1 := Lib.hid (blk_below HC.out.1 hb3)
      have HR1 := Lib.hid (HC.out.2.1.below hb3)
      have hg1 := blk_lt HG1.out
      have hn3 : n3 ≤ 201 := by
        rw [← HO3.out.len]
        have := setL_len t p h
        rw [HT.out.len] at this
        omega
      have hz3 := blk_new v2 (.cells (tabV none 0 0) 28)
      clear hO3 hb3 HC
      go_upto_region 7 with (first | ((with_reducible show wpList _ _ _ (Oper.mk _ (Op.store _ _ _) _ _ _ _ :: _) _ _); refine wpList_store_blk hz3 28 0 (tabV A3 n3 c3) (Nat.le_refl _) (info_tab _ _ _) (tab_one _ _ _) _ _ rfl rfl rfl rfl ?_; intro v3 hg9 hs9 hb9; rw [splice_tab] at hb9; have H4 := Lib.hid (And.intro hg9 hb9); clear hg9 hs9 hb9))
      have hb23 : Below v2.heap.size v2 v3 := below_grown (below_alloc (Below.refl _ _) _) H4.out.1 (Nat.le_refl _)
      have HB4 := Lib.hid (below_step HBV2.out hb23)
      have HG4 := Lib.hid (blk_below HG1.out hb23)
      have HR4 := Lib.hid (HR1.out.below hb23)
      have HO4 := Lib.hid (HO3.out.reads.below hb23)
      have HZ4 := Lib.hid H4.out.2
      clear hz3 hb23 H4 HG1 HR1 HO3 HBV
      go_cut [11, 12] (fun s7 s8 wx => ∃ (g : Nat) (A7 : Option Addr) (n7 c7 : Nat), s7 = .pointer (some ⟨g, 0, none⟩) ∧ s8 = .int .i64 (dropE t p) ∧ Hid (wx.heap[g]? = some (.cells (tabV A7 n7 c7) 28 (0, 0)) ∧ RT wx A7 n7 c7 (dropL t p) ∧ Below v3.heap.size v3 wx))
      case first =>
        have HBB := HB4
        have HBD := Lib.hid (below_drew1 v3)
        refine wp_region_fork ((fun w0 => Below v3.heap.size v3 w0)) (OrdT.fork [0, 2] 1 7 (OrdT.fork [] 3 7 (OrdT.lin [4, 5, 6, 7, 8, 9]) (OrdT.lin [3, 4, 5, 6, 8, 9])) (OrdT.lin [1, 3, 4, 5, 6, 8, 9])) [(0, 0), (1, 2), (2, 0), (3, 2), (4, 0), (5, 0), (6, 0), (7, 2), (8, 2), (9, 0)] (by kernel_rfl) (by kernel_rfl) ((below_drew1 _)) ?_
        simp only [wpF]
        refine wpO_loadW (t := 28) (ad := ⟨w.heap.size, 0, none⟩) rfl rfl ?hw rfl rfl ((fun w0 hS => (HP1.out.all w0 (below_step HB4.out hS)).1)) ?_
        case hw => go_simp
        refine wpO_loadW (t := 36) (ad := ⟨(w.heap.size+1), 0, none⟩) rfl rfl ?hw rfl rfl ((fun w0 hS => (HP2.out.all w0 (below_step HB4.out hS)).2.2.2.2)) ?_
        case hw => go_simp
        refine wpO_nil ⟨?_, ?_⟩
        · refine wpO_step2 rfl rfl (HBD.out) (fun K hK => ?_)
          go_simp
          refine (copiedT_any A n c t _ (HT.out.below (below_step HBB.out HBD.out)) (by omega)).mono ?_
          rintro e w2 ⟨Ac, cc, rfl, hO9, hb9⟩
          have HBC := Lib.hid (below_step HBD.out hb9)
          have HCP := Lib.hid hO9.reads
          have hszc := hb9.size
          try replace HZ9 := Lib.hid (blk_below HZ9.out hb9)
          clear hO9 hb9
          refine hK _ _ ⟨HBC.out, ?_⟩
          clear hK K
          refine wpO_nil (wpO_nil ⟨?_, ?_⟩)
          · refine wpO_step2 rfl rfl (HBC.out) (fun K hK => ?_)
            go_simp
            refine (tdrop_any Ac n cc t p w2 (HL.out.below (below_step HBB.out HBC.out)) HCP.out hp (by omega)).mono ?_
            rintro e w3 ⟨A7, n7, c7, rfl, hO9, hb9⟩
            have HBK := Lib.hid (below_step HBC.out hb9)
            have HO9 := Lib.hid hO9.reads
            have HLT9 := Lib.hid hO9.lt
            have HBA9 := Lib.hid hO9.base_
            try replace HZ9 := Lib.hid (blk_below HZ9.out hb9)
            clear hO9 hb9
            refine hK _ _ ⟨HBK.out, ?_⟩
            clear hK K
            refine wpO_nil ?_
            iterate 3 (refine wpO_step0 rfl rfl (fun K hK => ?_); go_simp; refine hK _ _ ?_; clear hK K)
            refine wpO_step2 rfl rfl (HBK.out) (fun K hK => ?_)
            go_simp
            have hz9 := blk_new w3 (.cells (tabV none 0 0) 28)
            obtain ⟨w4, hw9⟩ : ∃ w9, World.alloc w3 (.cells (tabV none 0 0) 28) = w9 := ⟨_, rfl⟩
            have ha9 : Below (World.heap w3).size w3 w4 := hw9 ▸ below_alloc (Below.refl _ _) _
            have HBL := Lib.hid (below_step HBK.out ha9)
            rw [show World.alloc w3 (.cells #[.slice none 0 0] 28) = w4 from hw9]
            rw [hw9] at hz9
            have hzl9 := blk_lt hz9
            have HZ9 := Lib.hid hz9
            try replace HCP := Lib.hid (HCP.out.below ha9)
            try replace HO9 := Lib.hid (HO9.out.below ha9)
            clear hw9 hz9 ha9
            refine hK _ _ ⟨HBL.out, ?_⟩
            clear hK K
            refine wpO_step2 rfl rfl (HBL.out) (fun K hK => ?_)
            rw [if_pos (show Region.wanted _ _ = true from rfl)]
            refine oper_store_blk HZ9.out 28 0 (tabV A7 n7 c7) (Nat.le_refl _) (info_tab _ _ _) (tab_one _ _ _) _ _ rfl rfl rfl ?_
            intro w5 hg9 hs9 hb9
            rw [splice_tab] at hb9
            have HBM := Lib.hid (below_grown HBL.out hg9 (by have h2 := HBC.out.size; have h3 := HBK.out.size; omega))
            replace HO9 := Lib.hid (HO9.out.grown hg9 (fun ad e h => by injection h with h; first | (have := HLT9.out ad e; omega) | (have := HBA9.out ad e; omega)))
            replace HZ9 := Lib.hid hb9
            clear hg9 hs9 hb9
            refine hK _ _ ⟨HBM.out, ?_⟩
            clear hK K
            iterate 1 (refine wpO_step0 rfl rfl (fun K hK => ?_); go_simp; refine hK _ _ ?_; clear hK K)
            refine wpO_nil ?_
            go_wp2_with fail
            go_meet
            exact ⟨w3.heap.size, A7, n7, c7, rfl, rfl, HZ9.out, HO9.out, HBM.out⟩
          · refine wpO_step2 rfl rfl (HBC.out) (fun K hK => ?_)
            go_simp
            have hz9 := blk_new w2 (.cells (tabV none 0 0) 28)
            obtain ⟨w3, hw9⟩ : ∃ w9, World.alloc w2 (.cells (tabV none 0 0) 28) = w9 := ⟨_, rfl⟩
            have ha9 : Below (World.heap w2).size w2 w3 := hw9 ▸ below_alloc (Below.refl _ _) _
            have HBK := Lib.hid (below_step HBC.out ha9)
            rw [show World.alloc w2 (.cells #[.slice none 0 0] 28) = w3 from hw9]
            rw [hw9] at hz9
            have hzl9 := blk_lt hz9
            have HZ9 := Lib.hid hz9
            try replace HCP := Lib.hid (HCP.out.below ha9)
            try replace HO9 := Lib.hid (HO9.out.below ha9)
            clear hw9 hz9 ha9
            refine hK _ _ ⟨HBK.out, ?_⟩
            clear hK K
            refine wpO_nil ?_
            refine wpO_step2 rfl rfl (HBK.out) (fun K hK => ?_)
            go_simp
            refine (tdrop_any Ac n cc t p w3 (HL.out.below (below_step HBB.out HBK.out)) HCP.out hp (by omega)).mono ?_
            rintro e w4 ⟨A7, n7, c7, rfl, hO9, hb9⟩
            have HBL := Lib.hid (below_step HBK.out hb9)
            have HO9 := Lib.hid hO9.reads
            have HLT9 := Lib.hid hO9.lt
            have HBA9 := Lib.hid hO9.base_
            try replace HZ9 := Lib.hid (blk_below HZ9.out hb9)
            clear hO9 hb9
            refine hK _ _ ⟨HBL.out, ?_⟩
            clear hK K
            iterate 3 (refine wpO_step0 rfl rfl (fun K hK => ?_); go_simp; refine hK _ _ ?_; clear hK K)
            refine wpO_step2 rfl rfl (HBL.out) (fun K hK => ?_)
            rw [if_pos (show Region.wanted _ _ = true from rfl)]
            refine oper_store_blk HZ9.out 28 0 (tabV A7 n7 c7) (Nat.le_refl _) (info_tab _ _ _) (tab_one _ _ _) _ _ rfl rfl rfl ?_
            intro w5 hg9 hs9 hb9
            rw [splice_tab] at hb9
            have HBM := Lib.hid (below_grown HBL.out hg9 (by have h2 := HBC.out.size; have h3 := HBK.out.size; omega))
            replace HO9 := Lib.hid (HO9.out.grown hg9 (fun ad e h => by injection h with h; first | (have := HLT9.out ad e; omega) | (have := HBA9.out ad e; omega)))
            replace HZ9 := Lib.hid hb9
            clear hg9 hs9 hb9
            refine hK _ _ ⟨HBM.out, ?_⟩
            clear hK K
            iterate 1 (refine wpO_step0 rfl rfl (fun K hK => ?_); go_simp; refine hK _ _ ?_; clear hK K)
            refine wpO_nil ?_
            go_wp2_with fail
            go_meet
            exact ⟨w2.heap.size, A7, n7, c7, rfl, rfl, HZ9.out, HO9.out, HBM.out⟩
        · refine wpO_step2 rfl rfl (HBD.out) (fun K hK => ?_)
          go_simp
          have hz9 := blk_new v3 (.cells (tabV none 0 0) 28)
          obtain ⟨w2, hw9⟩ : ∃ w9, (World.alloc v3 (.cells (tabV none 0 0) 28)).drew = w9 := ⟨_, rfl⟩
          have ha9 : Below (World.heap v3).size v3 w2 := hw9 ▸ below_step (below_alloc (Below.refl _ _) _) (below_drew1 _)
          have HBC := Lib.hid ha9
          rw [show (World.alloc v3 (.cells #[.slice none 0 0] 28)).drew = w2 from hw9]
          replace hz9 : (World.heap w2)[(World.heap v3).size]? = some (.cells (tabV none 0 0) 28 (0, 0)) := by rw [← hw9]; exact hz9
          have hzl9 := blk_lt hz9
          have HZ9 := Lib.hid hz9
          clear hw9 hz9 ha9
          refine hK _ _ ⟨HBC.out, ?_⟩
          clear hK K
          refine wpO_nil ?_
          refine wpO_step2 rfl rfl (HBC.out) (fun K hK => ?_)
          go_simp
          refine (copiedT_any A n c t _ (HT.out.below (below_step HBB.out HBC.out)) (by omega)).mono ?_
          rintro e w3 ⟨Ac, cc, rfl, hO9, hb9⟩
          have HBK := Lib.hid (below_step HBC.out hb9)
          have HCP := Lib.hid hO9.reads
          have hszc := hb9.size
          try replace HZ9 := Lib.hid (blk_below HZ9.out hb9)
          clear hO9 hb9
          refine hK _ _ ⟨HBK.out, ?_⟩
          clear hK K
          refine wpO_step2 rfl rfl (HBK.out) (fun K hK => ?_)
          go_simp
          refine (tdrop_any Ac n cc t p w3 (HL.out.below (below_step HBB.out HBK.out)) HCP.out hp (by omega)).mono ?_
          rintro e w4 ⟨A7, n7, c7, rfl, hO9, hb9⟩
          have HBL := Lib.hid (below_step HBK.out hb9)
          have HO9 := Lib.hid hO9.reads
          have HLT9 := Lib.hid hO9.lt
          have HBA9 := Lib.hid hO9.base_
          try replace HZ9 := Lib.hid (blk_below HZ9.out hb9)
          clear hO9 hb9
          refine hK _ _ ⟨HBL.out, ?_⟩
          clear hK K
          iterate 3 (refine wpO_step0 rfl rfl (fun K hK => ?_); go_simp; refine hK _ _ ?_; clear hK K)
          refine wpO_step2 rfl rfl (HBL.out) (fun K hK => ?_)
          rw [if_pos (show Region.wanted _ _ = true from rfl)]
          refine oper_store_blk HZ9.out 28 0 (tabV A7 n7 c7) (Nat.le_refl _) (info_tab _ _ _) (tab_one _ _ _) _ _ rfl rfl rfl ?_
          intro w5 hg9 hs9 hb9
          rw [splice_tab] at hb9
          have HBM := Lib.hid (below_grown HBL.out hg9 (by have h2 := HBC.out.size; have h3 := HBK.out.size; omega))
          replace HO9 := Lib.hid (HO9.out.grown hg9 (fun ad e h => by injection h with h; first | (have := HLT9.out ad e; omega) | (have := HBA9.out ad e; omega)))
          replace HZ9 := Lib.hid hb9
          clear hg9 hs9 hb9
          refine hK _ _ ⟨HBM.out, ?_⟩
          clear hK K
          iterate 1 (refine wpO_step0 rfl rfl (fun K hK => ?_); go_simp; refine hK _ _ ?_; clear hK K)
          refine wpO_nil ?_
          go_wp2_with fail
          go_meet
          exact ⟨v3.heap.size, A7, n7, c7, rfl, rfl, HZ9.out, HO9.out, HBM.out⟩
      case rest =>
        obtain ⟨g5, A5, n5, c5, rfl, rfl, HC⟩ := hcut
        obtain ⟨v4, rfl⟩ : ∃ v4, v4 = wc := ⟨wc, rfl⟩
        have hn5 : n5 ≤ 200 := by
          rw [← HC.out.2.1.len]
          have := dropL_len t p
          rw [HT.out.len] at this
          omega
        have HBV := Lib.hid (below_step HB4.out HC.out.2.2)
        have hl1 := (HP1.out.all v4 HBV.out).1
        have hl2 := (HP2.out.all v4 HBV.out).2.2.2.2
        rw [HC1.out] at hl1
        rw [HC2.out] at hl2
        go_wp2_with (first | ((with_reducible show wpList _ _ _ (Oper.mk _ (Op.load _ _) _ _ _ _ :: _) _ _); refine wpList_load_g hl1 _ rfl rfl (by go_simp) ?_) | ((with_reducible show wpList _ _ _ (Oper.mk _ (Op.load _ _) _ _ _ _ :: _) _ _); refine wpList_load_g hl2 _ rfl rfl (by go_simp) ?_))
        have hpl := refdrop_any A n c t p v4 (HT.out.below HBV.out) OKS.out hpo (by omega)
        rw [HC1.out, HC2.out] at hpl
        refine hpl.mono ?_
        clear hpl hl1 hl2
        rintro e v5 ⟨A6, n6, c6, rfl, hO6, hb6⟩
        have HO6 := Lib.hid hO6
        have HBV6 := Lib.hid (below_step HBV.out hb6)
        have hb46 := below_step HC.out.2.2 hb6
        have HG1 := Lib.hid (blk_below HG4.out hb46)
        have HR1 := Lib.hid (HR4.out.below hb46)
        have HG3 := Lib.hid (blk_below HZ4.out hb46)
        have HR3 := Lib.hid (HO4.out.below hb46)
        have HG5 := Lib.hid (blk_below HC.out.1 hb6)
        have HR5 := Lib.hid (HC.out.2.1.below hb6)
        have hn6 : n6 ≤ 200 := by
          rw [← HO6.out.len]
          have := dropL_len t p
          rw [HT.out.len] at this
          omega
        have hz6 := blk_new v5 (.cells (tabV none 0 0) 28)
        clear hO6 hb6 HC hb46 HG4 HR4 HZ4 HO4 HBV
        go_upto_region 9 with (first | ((with_reducible show wpList _ _ _ (Oper.mk _ (Op.store _ _ _) _ _ _ _ :: _) _ _); refine wpList_store_blk hz6 28 0 (tabV A6 n6 c6) (Nat.le_refl _) (info_tab _ _ _) (tab_one _ _ _) _ _ rfl rfl rfl rfl ?_; intro v6 hg9 hs9 hb9; rw [splice_tab] at hb9; have H7 := Lib.hid (And.intro hg9 hb9); clear hg9 hs9 hb9))
        have hb67 : Below v5.heap.size v5 v6 := below_grown (below_alloc (Below.refl _ _) _) H7.out.1 (Nat.le_refl _)
        have HB7 := Lib.hid (below_step HBV6.out hb67)
        have HR7 := Lib.hid (HR1.out.below hb67)
        have HR8 := Lib.hid (HR3.out.below hb67)
        have HR9 := Lib.hid (HR5.out.below hb67)
        have HR10 := Lib.hid (HO6.out.reads.below hb67)
        have hla := load_tab (blk_below HG1.out hb67)
        have hlb := load_tab (blk_below HG3.out hb67)
        have hlcB := blk_below HG5.out hb67
        have HLC := Lib.hid hlcB
        have HLD := Lib.hid H7.out.2
        have ho1 := oks_set (h := h) OKS.out hpo HT.out.fits
        have ho2 := oks_drop (p := p) OKS.out
        have HO1 := Lib.hid ho1
        have HO2 := Lib.hid ho2
        clear hz6 hb67 H7 HG1 HR1 HG3 HR3 HG5 HR5 HO6 hlcB ho1 ho2
        go_wp2_with (first | ((with_reducible show wpList _ _ _ (Oper.mk _ (Op.load _ _) _ _ _ _ :: _) _ _); refine wpList_load_g hla _ rfl rfl (by go_simp) ?_) | ((with_reducible show wpList _ _ _ (Oper.mk _ (Op.load _ _) _ _ _ _ :: _) _ _); refine wpList_load_g hlb _ rfl rfl (by go_simp) ?_))
        refine (refsameT_any A1 n1 c1 (setL t p h) A3 n3 c3 (setL t p h) v6 HR7.out HR8.out HO1.out HO1.out (by omega) (by omega)).mono ?_
        rw [(rowE.eqL_iff _ _).2 rfl]
        rintro e v7 ⟨rfl, hb7⟩
        have HB8 := Lib.hid (below_step HB7.out hb7)
        have hlc := load_tab (blk_below HLC.out hb7)
        have hld := load_tab (blk_below HLD.out hb7)
        have HR11 := Lib.hid (HR9.out.below hb7)
        have HR12 := Lib.hid (HR10.out.below hb7)
        clear hb7 hla hlb
        go_wp2_with (first | ((with_reducible show wpList _ _ _ (Oper.mk _ (Op.load _ _) _ _ _ _ :: _) _ _); refine wpList_load_g hlc _ rfl rfl (by go_simp) ?_) | ((with_reducible show wpList _ _ _ (Oper.mk _ (Op.load _ _) _ _ _ _ :: _) _ _); refine wpList_load_g hld _ rfl rfl (by go_simp) ?_))
        refine (refsameT_any A5 n5 c5 (dropL t p) A6 n6 c6 (dropL t p) v7 HR11.out HR12.out HO2.out HO2.out (by omega) (by omega)).mono ?_
        rw [(rowE.eqL_iff _ _).2 rfl]
        rintro e v8 ⟨rfl, hb8⟩
        have HB9 := Lib.hid (below_step HB8.out hb8)
        clear hb8 hlc hld
        go_wp2_with fail
        refine wp_region_mix (fun w0 => Below (v8).heap.size (v8) w0) [(0, 0), (2, 0), (1, 2), (3, 2), (4, 0), (5, 0), (6, 0), (7, 0), (8, 0)] (by kernel_rfl) (by kernel_rfl) (below_drew1 _) ?_
        simp only [List.map_cons, List.map_nil]
        refine wpO_loadW (t := 28) (ad := ⟨w.heap.size, 0, none⟩) rfl rfl ?hw rfl rfl ((fun w0 hS => (HP1.out.all w0 (below_step HB9.out hS)).1)) ?_
        case hw => go_simp
        refine wpO_loadW (t := 36) (ad := ⟨(w.heap.size+1), 0, none⟩) rfl rfl ?hw rfl rfl ((fun w0 hS => (HP2.out.all w0 (below_step HB9.out hS)).2.2.2.2)) ?_
        case hw => go_simp
        refine wpO_step2 rfl rfl (below_drew1 _) (fun K hK => ?_)
        go_simp
        refine (copiedT_any A n c t _ (HT.out.below (below_step HB9.out (below_drew1 _))) (by omega)).mono ?_
        rintro e v9 ⟨Ac, cc, rfl, hO9, hb9⟩
        have HB10 := Lib.hid (below_step (below_drew1 _) hb9)
        have HCP := Lib.hid hO9.reads
        clear hO9 hb9
        refine hK _ _ ⟨HB10.out, ?_⟩
        clear hK K
        refine wpO_step2 rfl rfl (HB10.out) (fun K hK => ?_)
        go_simp
        refine (tget_any Ac n cc t p v9 (HL.out.below (below_step HB9.out HB10.out)) HCP.out hp (by omega)).mono ?_
        rintro e v10 ⟨rfl, hb10⟩
        have HB11 := Lib.hid (below_step HB10.out hb10)
        clear hb10
        refine hK _ _ ⟨HB11.out, ?_⟩
        clear hK K
        iterate 5 (refine wpO_step0 rfl rfl (fun K hK => ?_); go_simp; refine hK _ _ ?_; clear hK K)
        refine wpO_nil ?_
        have HB12 := Lib.hid (below_step HB9.out HB11.out)
        have hl1 := (HP1.out.all v10 HB12.out).1
        rw [HC1.out] at hl1
        go_wp2_with (first | ((with_reducible show wpList _ _ _ (Oper.mk _ (Op.load _ _) _ _ _ _ :: _) _ _); refine wpList_load_g hl1 _ rfl rfl (by go_simp) ?_))
        have hpl := refRight_any A n c t v10 (HT.out.below HB12.out) OKS.out (by omega)
        rw [HC1.out] at hpl
        refine hpl.mono ?_
        clear hpl hl1
        rintro e v11 ⟨rfl, hb11⟩
        have HB13 := Lib.hid (below_step HB12.out hb11)
        clear hb11
        cases hR : tabB t with
        | false =>
          have hE : tgetN t p = 0 ∧ tgetB t p = false := by unfold tgetN tgetB; rw [hR]; exact ⟨rfl, rfl⟩
          rw [hE.1, hE.2]
          clear hE hR
          go_wp2
          go_ret
          exact ⟨rfl, below_step HBE.out HB13.out⟩
        | true =>
          have hE : tgetN t p = getT t p ∧ tgetB t p = decide (0 < getT t p) := by unfold tgetN tgetB; rw [hR, there_get hR]; exact ⟨rfl, by simp⟩
          have hgt : getR t p = getT t p := getR_get hp HT.out.fits (tabB_to hR).2.2
          rw [hE.1, hE.2]
          have HGT := Lib.hid hgt
          obtain ⟨G, hG⟩ : ∃ G, getT t p = G := ⟨_, rfl⟩
          rw [hG] at HGT ⊢
          have hl1 := (HP1.out.all v11 HB13.out).1
          have hl2 := (HP2.out.all v11 HB13.out).2.2.2.2
          rw [HC1.out] at hl1
          rw [HC2.out] at hl2
          clear hE hR hgt hG
          go_wp2_with (first | ((with_reducible show wpList _ _ _ (Oper.mk _ (Op.load _ _) _ _ _ _ :: _) _ _); refine wpList_load_g hl1 _ rfl rfl (by go_simp) ?_) | ((with_reducible show wpList _ _ _ (Oper.mk _ (Op.load _ _) _ _ _ _ :: _) _ _); refine wpList_load_g hl2 _ rfl rfl (by go_simp) ?_))
          have hpl := refget_any A n c t p v11 (HT.out.below HB13.out) OKS.out hpo (by omega)
          rw [HC1.out, HC2.out, HGT.out] at hpl
          refine hpl.mono ?_
          clear hpl hl1 hl2
          rintro e v12 ⟨rfl, hb12⟩
          have HB14 := Lib.hid (below_step HB13.out hb12)
          clear hb12
          go_wp2
          go_ret
          exact ⟨by simp, below_step HBE.out HB14.out⟩
end Go.Proofs.YtihfaknflfmohaaDoor

/- Layer 9 (table): the walk of TableBack. -/
namespace Go.Proofs.YtihfaknflfmohaaDoor
open Go.RowKit
set_option linter.unusedVariables false
set_option linter.unusedSimpArgs false
set_option maxRecDepth 4000
theorem encRs_len : ∀ {t : List Row}, Fits t → (∀ r ∈ t, r.okB = true) → (encRs t).length ≤ 19 * t.length
  | [], _, _ => by simp [encRs]
  | r :: t, hf, hr => by
    have h1 := encR_len (hf r (by simp)) ((okB_iff r).1 (hr r (by simp))).1
    have h2 := encRs_len hf.tail (fun x hx => hr x (by simp [hx]))
    rw [encRs_cons, List.length_append, List.length_cons]
    omega
theorem cut_uptoT (A : Option Addr) (n c j : Nat) (h : j ≤ c) : ∀ W : World, (Instr.slice 90 (.slice A n c) none (some (.int .i64 (j : Int))) none).run Tryd.prog W = .ok (.slice A j c) W := by
  intro W
  have hj : (j : Int) ≤ (c : Int) := by omega
  have h0 : (0 : Int) ≤ (j : Int) := by omega
  go_simp
set_option maxRecDepth 100000 in
set_option maxHeartbeats 8000000 in
theorem tableBack_any (A : Option Addr) (n c : Nat) (t : List Row) (k0 : Int) (r : Row) (w : World) (hL : Laid w) (ht : RT w A n c t) (ot : Oks t) (hk0 : (Lit.int .i64 k0).wf = true) (hro : r.ok) : Calls Tryd.prog 13 #[.agg (tabV A n c), .int .i64 k0, .agg (rowV r)] w fun e w' => e = .returned (.bool true) ∧ Below w.heap.size w w' := by
  have hr := hro.fits
  have hp : B16 r.p.l := hro.p.l
  have hkw := wf_i64 hk0
  have hblk1 := blk_new w (.cells (tabV A n c) 28)
  have hbel1 : Below w.heap.size w (w.alloc (.cells (tabV A n c) 28)) := below_alloc (Below.refl _ _) _
  have hblk2 := blk_new (w.alloc (.cells (tabV A n c) 28)) (.cells (rowV r) 38)
  have hbel2 : Below w.heap.size w ((w.alloc (.cells (tabV A n c) 28)).alloc (.cells (rowV r) 38)) := below_alloc (hbel1) _
  rw [show (w.alloc (.cells (tabV A n c) 28)).heap.size = w.heap.size + 1 by simp] at hblk2
  replace hblk1 := blk_below hblk1 (below_alloc (Below.refl _ _) (.cells (rowV r) 38))
  have HP1 := Lib.hid (tab_at hblk1)
  have HBK1 := Lib.hid hblk1
  have HP2 := Lib.hid (row_at hr hblk2)
  have HBK2 := Lib.hid hblk2
  have HBE := Lib.hid hbel2
  have HL := Lib.hid (hL.below HBE.out)
  obtain ⟨cs1, hcs1⟩ : ∃ cs, tabV A n c = cs := ⟨_, rfl⟩
  obtain ⟨cs2, hcs2⟩ : ∃ cs, rowV r = cs := ⟨_, rfl⟩
  simp only [hcs1, hcs2] at HBE HL HP1 HP2 HBK1 HBK2 ⊢
  have HC1 := Lib.hid hcs1
  have HC2 := Lib.hid hcs2
  clear hL hcs1 hblk1 hbel1 hcs2 hblk2 hbel2
  have HT := Lib.hid (ht.below HBE.out)
  have OKS := Lib.hid ot
  clear ht ot
  go_enter Tryd.func13, Tryd.ntmps13
  go_wp2_with fail
  refine (wakes09_any _ HL.out).mono ?_
  rintro e w1 ⟨rfl, hb1⟩
  have HB1 := Lib.hid hb1
  have hl1 := (HP1.out.all w1 HB1.out).2
  have hl2 := (HP1.out.all w1 HB1.out).1
  rw [HC1.out] at hl2
  clear hb1
  by_cases hn : 200 < n
  · have hn' : decide ((200 : Int) < n) = true := decide_eq_true (by omega)
    go_wp2_with (first | ((with_reducible show wpList _ _ _ (Oper.mk _ (Op.load _ _) _ _ _ _ :: _) _ _); refine wpList_load_g hl1 _ rfl rfl (by go_simp) ?_))
    go_ret
    exact ⟨rfl, below_step HBE.out HB1.out⟩
  · have hn' : decide ((200 : Int) < n) = false := decide_eq_false (by omega)
    have hn200 : n ≤ 200 := by omega
    clear hn
    go_wp2_with (first | ((with_reducible show wpList _ _ _ (Oper.mk _ (Op.load _ _) _ _ _ _ :: _) _ _); refine wpList_load_g hl1 _ rfl rfl (by go_simp) ?_) | ((with_reducible show wpList _ _ _ (Oper.mk _ (Op.load _ _) _ _ _ _ :: _) _ _); refine wpList_load_g hl2 _ rfl rfl (by go_simp) ?_))
    have hen := tencode_any A n c t w1 (HL.out.below HB1.out) (HT.out.below HB1.out) (by omega)
    rw [HC1.out] at hen
    refine hen.mono ?_
    clear hen hl1 hl2
    rintro e w2 ⟨A2, n2, c2, rfl, hO2, hb2⟩
    have HO2 := Lib.hid hO2.reads
    have HB2 := Lib.hid (below_step HB1.out hb2)
    clear hO2 hb2
    cases hR : tabB t with
    | false =>
      have hn2 : n2 = 0 := by rw [← HO2.out.len]; unfold encTE; rw [hR]; rfl
      rw [errT_false hR]
      subst hn2
      clear hR
      go_wp2
      go_ret
      exact ⟨rfl, below_step HBE.out HB2.out⟩
    | true =>
      have HR := Lib.hid hR
      have hee : encTE t = encT t := by unfold encTE; rw [hR]; rfl
      have ho2 := HO2.out
      rw [hee] at ho2
      have hlen := ho2.len
      have hn2 : 0 < n2 := by rw [← hlen]; exact encT_pos t
      have hn2b : n2 ≤ 761 := by
        rw [← hlen]
        have h1 := encRs_len HT.out.fits (tabB_to hR).2.1
        have h2 := (tabB_to hR).1
        simp only [encT, List.length_cons]
        omega
      have HX2 := Lib.hid ho2
      rw [errT_true hR]
      clear hR hee ho2 HO2
      go_wp2_with fail
      have hde := tdecode_any A2 n2 c2 (encT t) w2 (HL.out.below HB2.out) HX2.out (by omega)
      rw [(decT_enc HT.out.fits HR.out).1, (decT_enc HT.out.fits HR.out).2] at hde
      refine hde.mono ?_
      clear hde
      rintro e w3 ⟨A3, n3, c3, rfl, hO3, hb3⟩
      have HB3 := Lib.hid (below_step HB2.out hb3)
      have HX3 := Lib.hid (HX2.out.below hb3)
      have HO3 := Lib.hid hO3.reads
      have hz := blk_new w3 (.cells (tabV none 0 0) 28)
      clear hb3 hO3 HX2
      obtain ⟨q, hq, hqn⟩ : ∃ q : Nat, (max k0 0).tmod (n2 : Int) = (q : Int) ∧ q < n2 := by
        have h1 : (max k0 0).tmod (n2 : Int) = (max k0 0) % n2 := Int.tmod_eq_emod_of_nonneg (by omega)
        have h2 := Int.emod_nonneg (max k0 0) (show (n2 : Int) ≠ 0 by omega)
        have h3 := Int.emod_lt_of_pos (max k0 0) (show (0 : Int) < (n2 : Int) by omega)
        exact ⟨((max k0 0) % n2).toNat, by rw [h1]; omega, by omega⟩
      have hn20 : ((n2 : Int) == 0) = false := by simp; omega
      have hn21 : ¬ (n2 : Int) = 0 := by omega
      have hwq : IntKind.i64.wrap (q : Int) = q := IntWalk.i64_in _ (by omega)
      have hcu := cut_uptoT A2 n2 c2 q (by have := HX3.out.cap; omega)
      go_wp2_with (first | ((with_reducible show wpList _ _ _ (Oper.mk _ (Op.store _ _ _) _ _ _ _ :: _) _ _); refine wpList_store_blk hz 28 0 (tabV A3 n3 c3) (Nat.le_refl _) (info_tab _ _ _) (tab_one _ _ _) _ _ rfl rfl rfl rfl ?_; intro w4 hg9 hs9 hb9; rw [splice_tab] at hb9; have H4 := Lib.hid (And.intro hg9 hb9); clear hg9 hs9 hb9))
      have hb34 : Below w3.heap.size w3 w4 := below_grown (below_alloc (Below.refl _ _) _) H4.out.1 (Nat.le_refl _)
      have HB4 := Lib.hid (below_step HB3.out hb34)
      have HG4 := Lib.hid H4.out.2
      have HX4 := Lib.hid (HX3.out.below hb34)
      have HO4 := Lib.hid (HO3.out.below hb34)
      clear hb34 H4 hz HX3 HO3 hcu hn20 hn21 hwq hq
      have hde := tdecode_any A2 q c2 ((encT t).take q) w4 (HL.out.below HB4.out) (HX4.out.take q (by omega)) (by omega)
      rw [decT_cut HT.out.fits HR.out q (by rw [hlen]; exact hqn)] at hde
      refine hde.mono ?_
      clear hde
      rintro e w5 ⟨A5, n5, c5, rfl, hO5, hb5⟩
      have HB5 := Lib.hid (below_step HB4.out hb5)
      have HX5 := Lib.hid (HX4.out.below hb5)
      have HG5 := Lib.hid (blk_below HG4.out hb5)
      have HO5 := Lib.hid (HO4.out.below hb5)
      have hz := blk_new w5 (.cells (tabV none 0 0) 28)
      clear hb5 hO5 HX4 HG4 HO4
      go_upto_region 10 with (first | ((with_reducible show wpList _ _ _ (Oper.mk _ (Op.store _ _ _) _ _ _ _ :: _) _ _); refine wpList_store_blk hz 28 0 (tabV A5 n5 c5) (Nat.le_refl _) (info_tab _ _ _) (tab_one _ _ _) _ _ rfl rfl rfl rfl ?_; intro w6 hg9 hs9 hb9; rw [splice_tab] at hb9; have H6 := Lib.hid (And.intro hg9 hb9); clear hg9 hs9 hb9))
      have hb56 : Below w5.heap.size w5 w6 := below_grown (below_alloc (Below.refl _ _) _) H6.out.1 (Nat.le_refl _)
      have HB6 := Lib.hid (below_step HB5.out hb56)
      have HX6 := Lib.hid (HX5.out.below hb56)
      have HO6 := Lib.hid (HO5.out.below hb56)
      have hl1 := load_tab (blk_below HG5.out hb56)
      have hl2 := (HP1.out.all w6 HB6.out).1
      rw [HC1.out] at hl2
      have hn3 : n3 ≤ 200 := by rw [← HO6.out.len, HT.out.len]; exact hn200
      clear hb56 H6 hz HX5 HO5 HG5
      go_wp2_with (first | ((with_reducible show wpList _ _ _ (Oper.mk _ (Op.load _ _) _ _ _ _ :: _) _ _); refine wpList_load_g hl1 _ rfl rfl (by go_simp) ?_) | ((with_reducible show wpList _ _ _ (Oper.mk _ (Op.load _ _) _ _ _ _ :: _) _ _); refine wpList_load_g hl2 _ rfl rfl (by go_simp) ?_))
      have hsm := tsame_any A3 n3 c3 t A n c t w6 HO6.out (HT.out.below HB6.out) OKS.out OKS.out (by omega) (by omega)
      rw [HC1.out, (rowE.eqL_iff _ _).2 rfl] at hsm
      refine hsm.mono ?_
      clear hsm hl1 hl2
      rintro e w7 ⟨rfl, hb7⟩
      have HB7 := Lib.hid (below_step HB6.out hb7)
      have HX7 := Lib.hid (HX6.out.below hb7)
      have hl2 := (HP1.out.all w7 HB7.out).1
      have hl3 := (HP2.out.all w7 HB7.out).pfx
      have hl4 := (HP2.out.all w7 HB7.out).hop
      rw [HC1.out] at hl2
      clear hb7 HX6 HO6
      go_wp2_with (first | ((with_reducible show wpList _ _ _ (Oper.mk _ (Op.load _ _) _ _ _ _ :: _) _ _); refine wpList_load_g hl2 _ rfl rfl (by go_simp) ?_) | ((with_reducible show wpList _ _ _ (Oper.mk _ (Op.load _ _) _ _ _ _ :: _) _ _); refine wpList_load_g hl3 _ rfl rfl (by go_simp) ?_) | ((with_reducible show wpList _ _ _ (Oper.mk _ (Op.load _ _) _ _ _ _ :: _) _ _); refine wpList_load_g hl4 _ rfl rfl (by go_simp) ?_))
      have hst := tset_any A n c t r.p r.h w7 (HL.out.below HB7.out) (HT.out.below HB7.out) hp (by omega)
      rw [HC1.out] at hst
      refine hst.mono ?_
      clear hst hl2 hl3 hl4
      rintro e w8 ⟨A8, n8, c8, rfl, hO8, hb8⟩
      have HB8 := Lib.hid (below_step HB7.out hb8)
      have HX8 := Lib.hid (HX7.out.below hb8)
      have HO8 := Lib.hid hO8.reads
      have hz := blk_new w8 (.cells (tabV none 0 0) 28)
      clear hb8 hO8 HX7
      by_cases hse : setE t r.p r.h = 0
      · have hbk := (back_of hp HT.out.fits hse).2
        have HBK := Lib.hid hbk
        rw [hbk.set] at HO8
        rw [hse]
        clear hse hbk
        go_upto_region 13 with (first | ((with_reducible show wpList _ _ _ (Oper.mk _ (Op.store _ _ _) _ _ _ _ :: _) _ _); refine wpList_store_blk hz 28 0 (tabV A8 n8 c8) (Nat.le_refl _) (info_tab _ _ _) (tab_one _ _ _) _ _ rfl rfl rfl rfl ?_; intro w9 hg9 hs9 hb9; rw [splice_tab] at hb9; have H9 := Lib.hid (And.intro hg9 hb9); clear hg9 hs9 hb9))
        have hb89 : Below w8.heap.size w8 w9 := below_grown (below_alloc (Below.refl _ _) _) H9.out.1 (Nat.le_refl _)
        have HB9 := Lib.hid (below_step HB8.out hb89)
        have HX9 := Lib.hid (HX8.out.below hb89)
        have HO9 := Lib.hid (HO8.out.below hb89)
        have HG9 := Lib.hid H9.out.2
        have hn8 : n8 ≤ 41 := by rw [← HO9.out.len]; exact HBK.out.len
        have hlu := load_tab HG9.out
        have hl3 := (HP2.out.all w9 HB9.out).pfx
        clear hb89 H9 hz HX8 HO8
        go_wp2_with (first | ((with_reducible show wpList _ _ _ (Oper.mk _ (Op.load _ _) _ _ _ _ :: _) _ _); refine wpList_load_g hlu _ rfl rfl (by go_simp) ?_) | ((with_reducible show wpList _ _ _ (Oper.mk _ (Op.load _ _) _ _ _ _ :: _) _ _); refine wpList_load_g hl3 _ rfl rfl (by go_simp) ?_))
        have hgt := tget_any A8 n8 c8 (setT t r.p r.h) r.p w9 (HL.out.below HB9.out) HO9.out hp (by omega)
        rw [HBK.out.getN, HBK.out.getB] at hgt
        refine hgt.mono ?_
        clear hgt hlu hl3
        rintro e wa ⟨rfl, hba⟩
        have HBa := Lib.hid (below_step HB9.out hba)
        have HXa := Lib.hid (HX9.out.below hba)
        have HOa := Lib.hid (HO9.out.below hba)
        have hlu := load_tab (blk_below HG9.out hba)
        have hl3 := (HP2.out.all wa HBa.out).pfx
        clear hba HX9 HO9 HG9
        go_wp2_with (first | ((with_reducible show wpList _ _ _ (Oper.mk _ (Op.load _ _) _ _ _ _ :: _) _ _); refine wpList_load_g hlu _ rfl rfl (by go_simp) ?_) | ((with_reducible show wpList _ _ _ (Oper.mk _ (Op.load _ _) _ _ _ _ :: _) _ _); refine wpList_load_g hl3 _ rfl rfl (by go_simp) ?_))
        have hdr := tdrop_any A8 n8 c8 (setT t r.p r.h) r.p wa (HL.out.below HBa.out) HOa.out hp (by omega)
        rw [HBK.out.dropE, HBK.out.dropL] at hdr
        refine hdr.mono ?_
        clear hdr hlu hl3
        rintro e wb ⟨Ab, nb, cb, rfl, hOb, hbb⟩
        have HBb := Lib.hid (below_step HBa.out hbb)
        have HXb := Lib.hid (HXa.out.below hbb)
        have HOb := Lib.hid hOb.reads
        have HAW := Lib.hid (show ∀ ad, A2 = some ad → ad.block < wb.heap.size from fun ad e => by
          obtain ⟨a1, e1, e2⟩ := HXb.out.at_ 0 (by omega) (by omega)
          rw [e] at e1
          injection e1 with e1
          subst e1
          exact World.block_lt_of_cell? _ _ e2)
        have hz := blk_new wb (.cells (tabV none 0 0) 28)
        clear hbb hOb HXa HOa
        go_upto_region 17 with (first | ((with_reducible show wpList _ _ _ (Oper.mk _ (Op.store _ _ _) _ _ _ _ :: _) _ _); refine wpList_store_blk hz 28 0 (tabV Ab nb cb) (Nat.le_refl _) (info_tab _ _ _) (tab_one _ _ _) _ _ rfl rfl rfl rfl ?_; intro wc hg9 hs9 hb9; rw [splice_tab] at hb9; have Hc := Lib.hid (And.intro hg9 hb9); clear hg9 hs9 hb9))
        have hbbc : Below wb.heap.size wb wc := below_grown (below_alloc (Below.refl _ _) _) Hc.out.1 (Nat.le_refl _)
        have HBc := Lib.hid (below_step HBb.out hbbc)
        have HXc := Lib.hid (HXb.out.below hbbc)
        have HOc := Lib.hid (HOb.out.below hbbc)
        have HGc := Lib.hid Hc.out.2
        have hnb : nb ≤ 41 := by rw [← HOc.out.len]; exact HBK.out.lenD
        have hlv := load_tab HGc.out
        have hl3 := (HP2.out.all wc HBc.out).pfx
        clear hbbc Hc hz HXb HOb
        go_wp2_with (first | ((with_reducible show wpList _ _ _ (Oper.mk _ (Op.load _ _) _ _ _ _ :: _) _ _); refine wpList_load_g hlv _ rfl rfl (by go_simp) ?_) | ((with_reducible show wpList _ _ _ (Oper.mk _ (Op.load _ _) _ _ _ _ :: _) _ _); refine wpList_load_g hl3 _ rfl rfl (by go_simp) ?_))
        have hgt := tget_any Ab nb cb (dropT (setT t r.p r.h) r.p) r.p wc (HL.out.below HBc.out) HOc.out hp (by omega)
        rw [HBK.out.still] at hgt
        refine hgt.mono ?_
        clear hgt hlv hl3
        rintro e wd ⟨rfl, hbd⟩
        have HBd := Lib.hid (below_step HBc.out hbd)
        have HXd := Lib.hid (HXc.out.below hbd)
        have HOd := Lib.hid (HOc.out.below hbd)
        have HGd := Lib.hid (blk_below HGc.out hbd)
        have hl2 := (HP1.out.all wd HBd.out).1
        rw [HC1.out] at hl2
        have hl3 := (HP2.out.all wd HBd.out).pfx
        obtain ⟨N1, hN1⟩ : ∃ N1, tgetN (dropT (setT t r.p r.h) r.p) r.p = N1 := ⟨_, rfl⟩
        rw [hN1]
        clear hbd HXc HOc HGc hN1
        go_wp2_with (first | ((with_reducible show wpList _ _ _ (Oper.mk _ (Op.load _ _) _ _ _ _ :: _) _ _); refine wpList_load_g hl2 _ rfl rfl (by go_simp) ?_) | ((with_reducible show wpList _ _ _ (Oper.mk _ (Op.load _ _) _ _ _ _ :: _) _ _); refine wpList_load_g hl3 _ rfl rfl (by go_simp) ?_))
        have hgt := tget_any A n c t r.p wd (HL.out.below HBd.out) (HT.out.below HBd.out) hp (by omega)
        rw [HBK.out.had, HBK.out.was, HC1.out] at hgt
        refine hgt.mono ?_
        clear hgt hl2 hl3
        rintro e we ⟨rfl, hbe⟩
        have HBe := Lib.hid (below_step HBd.out hbe)
        have HXe := Lib.hid (HXd.out.below hbe)
        have HOe := Lib.hid (HOd.out.below hbe)
        have HGe := Lib.hid (blk_below HGd.out hbe)
        have hl4 := (HP2.out.all we HBe.out).hop
        obtain ⟨G, hG⟩ : ∃ G, getT t r.p = G := ⟨_, rfl⟩
        rw [hG]
        have HGG := Lib.hid hG
        clear hbe HXd HOd HGd hG
        cases hth : thereB t r.p with
        | false =>
          have hvt := HBK.out.new hth
          rw [hvt] at HOe
          clear hvt hth
          have hlv := load_tab HGe.out
          go_wp2_with (first | ((with_reducible show wpList _ _ _ (Oper.mk _ (Op.load _ _) _ _ _ _ :: _) _ _); refine wpList_load_g hl4 _ rfl rfl (by go_simp) ?_) | ((with_reducible show wpList _ _ _ (Oper.mk _ (Op.load _ _) _ _ _ _ :: _) _ _); refine wpList_load_g hlv _ rfl rfl (by go_simp) ?_))
          have hees : encTE t = encT t := by unfold encTE; rw [HR.out]; rfl
          have errs := errT_true HR.out
          have hen := tencode_any Ab nb cb t we (HL.out.below HBe.out) HOe.out (by omega)
          rw [hees] at hen
          refine hen.mono ?_
          clear hen hlv
          rintro e wy ⟨Ay, ny, cy, rfl, hOy, hby⟩
          have HBy := Lib.hid (below_step HBe.out hby)
          have HXy := Lib.hid (HXe.out.below hby)
          have HOy := Lib.hid (HOe.out.below hby)
          have HRy := Lib.hid hOy.reads
          have hlv := load_tab (blk_below HGe.out hby)
          have hl2 := (HP1.out.all wy HBy.out).1
          rw [HC1.out] at hl2
          rw [errs]
          clear hby hOy
          go_wp2_with (first | ((with_reducible show wpList _ _ _ (Oper.mk _ (Op.load _ _) _ _ _ _ :: _) _ _); refine wpList_load_g hlv _ rfl rfl (by go_simp) ?_) | ((with_reducible show wpList _ _ _ (Oper.mk _ (Op.load _ _) _ _ _ _ :: _) _ _); refine wpList_load_g hl2 _ rfl rfl (by go_simp) ?_))
          have hsm := tsame_any Ab nb cb t A n c t wy HOy.out (HT.out.below HBy.out) OKS.out OKS.out (by omega) (by omega)
          rw [HC1.out, (rowE.eqL_iff _ _).2 rfl] at hsm
          refine hsm.mono ?_
          clear hsm hlv hl2
          rintro e wz ⟨rfl, hbz⟩
          have HBz := Lib.hid (below_step HBy.out hbz)
          have HXz := Lib.hid (HXy.out.below hbz)
          have HRz := Lib.hid (HRy.out.below hbz)
          clear hbz
          go_wp2_with fail
          refine (equal_any A2 n2 c2 (encT t) Ay ny cy (encT t) wz HXz.out HRz.out).mono ?_
          rintro e wu ⟨rfl, hbu⟩
          have HBu := Lib.hid (below_step HBz.out hbu)
          clear hbu
          go_wp2
          go_ret
          exact ⟨by simp, below_step HBE.out HBu.out⟩
        | true =>
          have hvE := HBK.out.backE hth
          have hvL := HBK.out.backL hth
          rw [HGG.out] at hvE hvL
          clear hth
          have hlv := load_tab HGe.out
          have hl3 := (HP2.out.all we HBe.out).pfx
          go_wp2_with (first | ((with_reducible show wpList _ _ _ (Oper.mk _ (Op.load _ _) _ _ _ _ :: _) _ _); refine wpList_load_g hl4 _ rfl rfl (by go_simp) ?_) | ((with_reducible show wpList _ _ _ (Oper.mk _ (Op.load _ _) _ _ _ _ :: _) _ _); refine wpList_load_g hlv _ rfl rfl (by go_simp) ?_) | ((with_reducible show wpList _ _ _ (Oper.mk _ (Op.load _ _) _ _ _ _ :: _) _ _); refine wpList_load_g hl3 _ rfl rfl (by go_simp) ?_))
          have hst := tset_any Ab nb cb (dropT (setT t r.p r.h) r.p) r.p G we (HL.out.below HBe.out) HOe.out hp (by omega)
          rw [hvE, hvL] at hst
          refine hst.mono ?_
          clear hst hl4 hlv hl3 hvE hvL
          rintro e wf ⟨Af, nf, cf, rfl, hOf, hbf⟩
          have HBf := Lib.hid (below_step HBe.out hbf)
          have HXf := Lib.hid (HXe.out.below hbf)
          have HOf := Lib.hid hOf.reads
          have hgf := blk_below HGe.out hbf
          have hbase := Lib.hid hOf.base_
          have hgl := blk_lt HGe.out
          have hwb := HBb.out.size
          clear hbf hOf HXe HOe HGe
          go_upto_region 23 with (first | ((with_reducible show wpList _ _ _ (Oper.mk _ (Op.store _ _ _) _ _ _ _ :: _) _ _); refine wpList_store_blk hgf 28 0 (tabV Af nf cf) (Nat.le_refl _) (info_tab _ _ _) (tab_one _ _ _) _ _ rfl rfl rfl rfl ?_; intro wg hg9 hs9 hb9; rw [splice_tab] at hb9; have Hg := Lib.hid (And.intro hg9 hb9); clear hg9 hs9 hb9))
          have HBg := Lib.hid (below_grown HBf.out Hg.out.1 hwb)
          have HXg := Lib.hid (HXf.out.grown Hg.out.1 (fun ad e hh => by have := HAW.out ad e; injection hh with hh; omega))
          have HOg := Lib.hid (HOf.out.grown Hg.out.1 (fun ad e hh => by have := hbase.out ad e; injection hh with hh; omega))
          have HGg := Lib.hid Hg.out.2
          have hlv := load_tab HGg.out
          have hnf : nf ≤ 200 := by rw [← HOg.out.len, HT.out.len]; exact hn200
          clear Hg hgf
          go_wp2_with (first | ((with_reducible show wpList _ _ _ (Oper.mk _ (Op.load _ _) _ _ _ _ :: _) _ _); refine wpList_load_g hlv _ rfl rfl (by go_simp) ?_))
          have hees : encTE t = encT t := by unfold encTE; rw [HR.out]; rfl
          have errs := errT_true HR.out
          have hen := tencode_any Af nf cf t wg (HL.out.below HBg.out) HOg.out (by omega)
          rw [hees] at hen
          refine hen.mono ?_
          clear hen hlv
          rintro e wy ⟨Ay, ny, cy, rfl, hOy, hby⟩
          have HBy := Lib.hid (below_step HBg.out hby)
          have HXy := Lib.hid (HXg.out.below hby)
          have HOy := Lib.hid (HOg.out.below hby)
          have HRy := Lib.hid hOy.reads
          have hlv := load_tab (blk_below HGg.out hby)
          have hl2 := (HP1.out.all wy HBy.out).1
          rw [HC1.out] at hl2
          rw [errs]
          clear hby hOy
          go_wp2_with (first | ((with_reducible show wpList _ _ _ (Oper.mk _ (Op.load _ _) _ _ _ _ :: _) _ _); refine wpList_load_g hlv _ rfl rfl (by go_simp) ?_) | ((with_reducible show wpList _ _ _ (Oper.mk _ (Op.load _ _) _ _ _ _ :: _) _ _); refine wpList_load_g hl2 _ rfl rfl (by go_simp) ?_))
          have hsm := tsame_any Af nf cf t A n c t wy HOy.out (HT.out.below HBy.out) OKS.out OKS.out (by omega) (by omega)
          rw [HC1.out, (rowE.eqL_iff _ _).2 rfl] at hsm
          refine hsm.mono ?_
          clear hsm hlv hl2
          rintro e wz ⟨rfl, hbz⟩
          have HBz := Lib.hid (below_step HBy.out hbz)
          have HXz := Lib.hid (HXy.out.below hbz)
          have HRz := Lib.hid (HRy.out.below hbz)
          clear hbz
          go_wp2_with fail
          refine (equal_any A2 n2 c2 (encT t) Ay ny cy (encT t) wz HXz.out HRz.out).mono ?_
          rintro e wu ⟨rfl, hbu⟩
          have HBu := Lib.hid (below_step HBz.out hbu)
          clear hbu
          go_wp2
          go_ret
          exact ⟨by simp, below_step HBE.out HBu.out⟩
      · have hsl : setL t r.p r.h = [] := by unfold setL; rw [if_neg hse]
        have hn8 : n8 = 0 := by rw [← HO8.out.len, hsl]; rfl
        obtain ⟨E, hE⟩ : ∃ E, setE t r.p r.h = E := ⟨_, rfl⟩
        rw [hE] at hse ⊢
        have hse1 : (E != 0) = true := by simpa using hse
        subst hn8
        clear hse hE hsl
        go_upto_region 13 with (first | ((with_reducible show wpList _ _ _ (Oper.mk _ (Op.store _ _ _) _ _ _ _ :: _) _ _); refine wpList_store_blk hz 28 0 (tabV A8 0 c8) (Nat.le_refl _) (info_tab _ _ _) (tab_one _ _ _) _ _ rfl rfl rfl rfl ?_; intro w9 hg9 hs9 hb9; rw [splice_tab] at hb9; have H9 := Lib.hid (And.intro hg9 hb9); clear hg9 hs9 hb9))
        have hb89 : Below w8.heap.size w8 w9 := below_grown (below_alloc (Below.refl _ _) _) H9.out.1 (Nat.le_refl _)
        have HB9 := Lib.hid (below_step HB8.out hb89)
        have hlu := ((tab_at H9.out.2).all w9 (Below.refl _ _)).2
        clear hb89 H9 hz
        go_wp2_with (first | ((with_reducible show wpList _ _ _ (Oper.mk _ (Op.load _ _) _ _ _ _ :: _) _ _); refine wpList_load_g hlu _ rfl rfl (by go_simp) ?_))
        go_ret
        exact ⟨rfl, below_step HBE.out HB9.out⟩
end Go.Proofs.YtihfaknflfmohaaDoor

/- The walk of TableBack, as the row asks it. -/
namespace Go.Proofs.YtihfaknflfmohaaDoor
open Go.RowKit
set_option linter.unusedVariables false
set_option linter.unusedSimpArgs false
set_option maxRecDepth 4000
theorem tableBack_walk (A : Option Addr) (n c : Nat) (t : List Row) (k0 : Int) (r : Row) (w : World) (hL : Laid w) (ht : RT w A n c t) (ot : Oks t) (hy : n * 40 ≤ 140737488351232) (hk0 : (Lit.int .i64 k0).wf = true) (hro : r.ok) : Calls Tryd.prog 13 #[.agg (tabV A n c), .int .i64 k0, .agg (rowV r)] w fun e w' => e = .returned (.bool true) ∧ Below w.heap.size w w' := tableBack_any A n c t k0 r w hL ht ot hk0 hro
end Go.Proofs.YtihfaknflfmohaaDoor
