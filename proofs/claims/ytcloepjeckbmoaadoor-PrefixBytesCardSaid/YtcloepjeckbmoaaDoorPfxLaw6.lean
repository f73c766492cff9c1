/- Layer 5: the walk of PrefixBytes. -/
import Derived.Test.YtcloepjeckbmoaaDoorPfxLaw5
import Derived.Test.YtcloepjeckbmoaaDoorPfxRefDecA
namespace Go.Proofs.YtcloepjeckbmoaaDoor
open Go.RowKit
set_option linter.unusedVariables false
set_option linter.unusedSimpArgs false

theorem decA_okk {xs : List Int} (hx : Bytes xs) : (Lit.int .i64 (decAV xs)).wf = true ∧ B16 (decAL xs) := by
  have hr := hx.getD 0
  have e0 : rd xs 0 = xs.getD 0 0 := rfl
  have hw8 : ∀ y : Int, 0 ≤ y ∧ y < 256 → (Lit.int .i64 y).wf = true := fun y hy => by
    simp [Lit.wf, IntKind.min, IntKind.max, IntKind.bits, IntKind.signed]; omega
  refine ⟨?_, ?_⟩
  · unfold decAV
    split
    · exact hw8 _ (by rw [e0]; exact hr)
    · decide
  · unfold decAL
    split
    · refine pad_16 ?_ ((hx.drop 1).take _)
      have := widthA_le (rd xs 0)
      rw [List.length_take]
      omega
    · exact zero16_B
set_option maxRecDepth 100000 in
set_option maxHeartbeats 8000000 in
theorem prefixBytes_any (v : Int) (l : List Int) (p : Pfx) (A : Option Addr) (n c : Nat) (xs : List Int) (w : World) (hL : Laid w) (hl : B16 l) (hpo : p.ok) (hr : RB w A n c xs) :
    Calls Tryd.prog 7 #[.agg (adrV v l), .agg (pfxV p.v p.l p.b), .slice A n c] w fun e w' => e = .returned (.bool true) ∧ Below w.heap.size w w' := by
  have hp := hpo.l
  have hsm := hr.small
  have hpb : p.b ≤ 9223372036854775807 := by have := hpo.b; simp [Lit.wf, IntKind.min, IntKind.max, IntKind.bits, IntKind.signed] at this; omega
  have hblk1 := blk_new w (.cells (adrV v l) 24)
  have hbel1 : Below w.heap.size w (w.alloc (.cells (adrV v l) 24)) := below_alloc (Below.refl _ _) _
  have hblk2 := blk_new (w.alloc (.cells (adrV v l) 24)) (.cells (pfxV p.v p.l p.b) 26)
  have hbel2 : Below w.heap.size w ((w.alloc (.cells (adrV v l) 24)).alloc (.cells (pfxV p.v p.l p.b) 26)) := below_alloc (hbel1) _
  rw [show (w.alloc (.cells (adrV v l) 24)).heap.size = w.heap.size + 1 by simp] at hblk2
  replace hblk1 := blk_below hblk1 (below_alloc (Below.refl _ _) (.cells (pfxV p.v p.l p.b) 26))
  have HP1 := Lib.hid (adr_at hl hblk1)
  have HBK1 := Lib.hid hblk1
  have HP2 := Lib.hid (pfx_at hp hblk2)
  have HBK2 := Lib.hid hblk2
  have HBE := Lib.hid hbel2
  have HL := Lib.hid (hL.below HBE.out)
  obtain ⟨cs1, hcs1⟩ : ∃ cs, adrV v l = cs := ⟨_, rfl⟩
  obtain ⟨cs2, hcs2⟩ : ∃ cs, pfxV p.v p.l p.b = cs := ⟨_, rfl⟩
  simp only [hcs1, hcs2] at HBE HL HP1 HP2 HBK1 HBK2 ⊢
  have HC1 := Lib.hid hcs1
  have HC2 := Lib.hid hcs2
  clear hL hcs1 hblk1 hbel1 hcs2 hblk2 hbel2
  have HR := Lib.hid (hr.below HBE.out)
  have hxb := hr.range
  obtain ⟨hAV, hAL⟩ := decA_okk hxb
  have hPok := decP_okk hxb
  obtain ⟨av, hav⟩ : ∃ av, decAV xs = av := ⟨_, rfl⟩
  obtain ⟨al, hal⟩ : ∃ al, decAL xs = al := ⟨_, rfl⟩
  obtain ⟨an, han⟩ : ∃ an, decAN xs = an := ⟨_, rfl⟩
  obtain ⟨ae, hae⟩ : ∃ ae, decAE xs = ae := ⟨_, rfl⟩
  obtain ⟨P, hP⟩ : ∃ P, decP xs = P := ⟨_, rfl⟩
  obtain ⟨pn, hpn⟩ : ∃ pn, decPN xs = pn := ⟨_, rfl⟩
  obtain ⟨pe, hpe⟩ : ∃ pe, decPE xs = pe := ⟨_, rfl⟩
  rw [hav] at hAV
  rw [hal] at hAL
  rw [hP] at hPok
  have HDA := Lib.hid (And.intro hav (And.intro hal (And.intro han hae)))
  have HDP := Lib.hid (And.intro hP (And.intro hpn hpe))
  clear hr hav hal han hae hP hpn hpe
  go_enter Tryd.func7, Tryd.ntmps7
  go_wp2_with fail
  refine (wakes05_any _ HL.out).mono ?_
  rintro e w1 ⟨rfl, hbb1⟩
  have HB1 := Lib.hid hbb1
  clear hbb1
  by_cases hn : 1000 < n
  · have hn' : decide ((1000 : Int) < n) = true := decide_eq_true (by omega)
    go_wp2
    go_ret
    exact ⟨rfl, below_step HBE.out HB1.out⟩
  · have hn1 : n ≤ 1000 := by omega
    have hn2 : decide (1000 < n) = false := decide_eq_false hn
    have hn3 : decide ((1000 : Int) < n) = false := decide_eq_false (by omega)
    have HR1 := Lib.hid (HR.out.below HB1.out)
    clear hn
    go_wp2_with (at_builtin; refine wpList_append_bytes rfl (.tmp 27) (.tmp 28) rfl rfl rfl (OB.empty w1 w1.heap.size (Nat.le_refl _)) (HR1.out.below (below_alloc (Below.refl _ _) _)) (by simp) (by omega) ?_; intro A2 c2 w2 h1 h2 h3; rw [Nat.zero_add, List.nil_append] at h1; rw [Nat.zero_add]; have H2 := Lib.hid (And.intro h1 ((below_alloc (Below.refl w1.heap.size w1) (.cells #[] 5)).grown h2 (by simp) (own_row (fun ad e => by injection e with e; rw [← e]; exact Nat.le_refl _)))); clear h1 h2 h3)
    have HB2 := Lib.hid (below_step HB1.out H2.out.2)
    refine (decodeAddr_any A2 n c2 xs w2 (HL.out.below HB2.out) H2.out.1.reads (by omega)).mono ?_
    rw [HDA.out.1, HDA.out.2.1, HDA.out.2.2.1, HDA.out.2.2.2]
    rintro e w3 ⟨rfl, hb⟩
    have HB3 := Lib.hid (below_step HB2.out hb)
    have hz3 := blk_new w3 (.cells (adrV 0 zero16) 24)
    clear hb hn2 hn3
    go_wp2_with (refine wpList_store_blk hz3 24 0 (adrV av al) (by rw [adr_size hAL.len, adr_size rfl]; exact Nat.le_refl _) (info_adr hAL.len) (adr_one _ _) _ _ rfl rfl rfl rfl ?_; intro w4 hg9 hs9 hb9; rw [splice_adr0 _ _ al hAL.len rfl] at hb9; have H4 := Lib.hid (And.intro hg9 hb9); clear hg9 hs9 hb9)
    have HB4 := Lib.hid (below_grown (below_alloc HB3.out _) H4.out.1 HB3.out.size)
    clear hz3
    refine (refdecodeAddr_any A n c xs w4 (HR.out.below HB4.out)).mono ?_
    rw [HDA.out.1, HDA.out.2.1, HDA.out.2.2.1, HDA.out.2.2.2]
    rintro e w5 ⟨rfl, hb⟩
    have HB5 := Lib.hid (below_step HB4.out hb)
    have HA5 := Lib.hid (blk_below H4.out.2 hb)
    have hlt5 := blk_lt HA5.out
    have hz5 := blk_new w5 (.cells (adrV 0 zero16) 24)
    clear hb
    go_wp2_with (first | (refine wpList_store_blk hz5 24 0 (adrV av al) (by rw [adr_size hAL.len, adr_size rfl]; exact Nat.le_refl _) (info_adr hAL.len) (adr_one _ _) _ _ rfl rfl rfl rfl ?_; intro w6 hg9 hs9 hb9; rw [splice_adr0 _ _ al hAL.len rfl] at hb9; have H6 := Lib.hid (And.intro hg9 hb9); clear hg9 hs9 hb9) | (at_builtin; refine wpList_append_bytes rfl (.tmp 41) (.tmp 42) rfl rfl rfl (OB.empty w6 w6.heap.size (Nat.le_refl _)) ((HR.out.below (below_grown (below_alloc HB5.out _) H6.out.1 HB5.out.size)).below (below_alloc (Below.refl _ _) _)) (by simp) (by omega) ?_; intro A7 c7 w7 h1 h2 h3; rw [Nat.zero_add, List.nil_append] at h1; rw [Nat.zero_add]; have H7 := Lib.hid (And.intro h1 ((below_alloc (Below.refl w6.heap.size w6) (.cells #[] 5)).grown h2 (by simp) (own_row (fun ad e => by injection e with e; rw [← e]; exact Nat.le_refl _)))); clear h1 h2 h3))
    have HB6 := Lib.hid (below_grown (below_alloc HB5.out _) H6.out.1 HB5.out.size)
    have HB7 := Lib.hid (below_step HB6.out H7.out.2)
    have HA7 := Lib.hid (blk_below (blk_grown (blk_below HA5.out (below_alloc (Below.refl _ _) _)) H6.out.1 (fun e => by injection e with e; omega)) H7.out.2)
    have HC7 := Lib.hid (blk_below H6.out.2 H7.out.2)
    clear hz5
    refine (decode_any A7 n c7 xs w7 (HL.out.below HB7.out) H7.out.1.reads (by omega)).mono ?_
    rw [HDP.out.1, HDP.out.2.1, HDP.out.2.2]
    rintro e w8 ⟨rfl, hb⟩
    have HB8 := Lib.hid (below_step HB7.out hb)
    have HA8 := Lib.hid (blk_below HA7.out hb)
    have HC8 := Lib.hid (blk_below HC7.out hb)
    have hlA8 := blk_lt HA8.out
    have hlC8 := blk_lt HC8.out
    have hz8 := blk_new w8 (.cells (pfxV 0 zero16 0) 26)
    clear hb
    go_wp2_with (refine wpList_store_blk hz8 26 0 (pfxV P.v P.l P.b) (store_pfx_fit hPok.l.len rfl) (info_pfx hPok.l.len) (pfx_one _ _ _) _ _ rfl rfl rfl rfl ?_; intro w9 hg9 hs9 hb9; rw [splice_pfx _ _ _ P.l hPok.l.len rfl] at hb9; have H9 := Lib.hid (And.intro hg9 hb9); clear hg9 hs9 hb9)
    have HB9 := Lib.hid (below_grown (below_alloc HB8.out _) H9.out.1 HB8.out.size)
    clear hz8
    refine (refdecode_any A n c xs w9 (HR.out.below HB9.out)).mono ?_
    rw [HDP.out.1, HDP.out.2.1, HDP.out.2.2]
    rintro e w10 ⟨rfl, hb⟩
    have HB10 := Lib.hid (below_step HB9.out hb)
    have HA10 := Lib.hid (blk_below (blk_grown (blk_below HA8.out (below_alloc (Below.refl _ _) _)) H9.out.1 (fun e => by injection e with e; omega)) hb)
    have HC10 := Lib.hid (blk_below (blk_grown (blk_below HC8.out (below_alloc (Below.refl _ _) _)) H9.out.1 (fun e => by injection e with e; omega)) hb)
    have HP10 := Lib.hid (blk_below H9.out.2 hb)
    have hlA10 := blk_lt HA10.out
    have hlC10 := blk_lt HC10.out
    have hlP10 := blk_lt HP10.out
    have hz10 := blk_new w10 (.cells (pfxV 0 zero16 0) 26)
    have hpp : (!P.eqB P) = false := by rw [(Pfx.eqB_iff P P).2 rfl]; rfl
    clear hb
    go_wp2_with (first | (refine wpList_store_blk hz10 26 0 (pfxV P.v P.l P.b) (store_pfx_fit hPok.l.len rfl) (info_pfx hPok.l.len) (pfx_one _ _ _) _ _ rfl rfl rfl rfl ?_; intro w11 hg9 hs9 hb9; rw [splice_pfx _ _ _ P.l hPok.l.len rfl] at hb9; have H11 := Lib.hid (And.intro hg9 hb9); clear hg9 hs9 hb9) | (refine wpList_load_g (load_adr0 hAL (blk_grown (blk_below HA10.out (below_alloc (Below.refl _ _) _)) H11.out.1 (fun e => by injection e with e; omega))) _ rfl rfl (by go_simp) ?_) | (refine wpList_load_g (load_adr0 hAL (blk_grown (blk_below HC10.out (below_alloc (Below.refl _ _) _)) H11.out.1 (fun e => by injection e with e; omega))) _ rfl rfl (by go_simp) ?_) | (refine wpList_load_g (load_pfx hPok.l (blk_grown (blk_below HP10.out (below_alloc (Below.refl _ _) _)) H11.out.1 (fun e => by injection e with e; omega))) _ rfl rfl (by go_simp) ?_) | (refine wpList_load_g (load_pfx hPok.l H11.out.2) _ rfl rfl (by go_simp) ?_) | (refine wpList_exec_w (pfx_neq_exec rfl P P rfl rfl hPok hPok _) (by go_simp) ?_) | (refine wpList_exec_w (adr_neq_exec rfl av al av al rfl rfl hAL hAL hAV hAV _) (by go_simp) ?_) | (refine wpList_load_g (HP1.out.all _ (below_grown (below_alloc HB10.out _) H11.out.1 HB10.out.size)).1 _ rfl rfl (by go_simp) ?_))
    have HB11 := Lib.hid (below_grown (below_alloc HB10.out _) H11.out.1 HB10.out.size)
    clear hz10 hpp
    refine (encodeAddr_any v l w11 (HL.out.below HB11.out) hl).mono ?_
    rintro e w12 ⟨A1, n1, c1, rfl, hO, hb⟩
    have HB12 := Lib.hid (below_step HB11.out hb)
    have HO1 := Lib.hid hO.reads
    have hlp := (HP2.out.all w12 HB12.out).2.2.2.2
    clear hb hO
    go_wp2_with (refine wpList_load_g hlp _ rfl rfl (by go_simp) ?_)
    refine (encode_any p w12 (HL.out.below HB12.out) hp).mono ?_
    rintro e w13 ⟨A4, n4, c4, rfl, hO, hb⟩
    have HB13 := Lib.hid (below_step HB12.out hb)
    have HO2 := Lib.hid (HO1.out.below hb)
    have HO4 := Lib.hid hO.reads
    have hla := (HP1.out.all w13 HB13.out).1
    clear hb hO hlp
    go_wp2_with (refine wpList_load_g hla _ rfl rfl (by go_simp) ?_)
    refine (rightAddr_any v l w13 hl).mono ?_
    rintro e w14 ⟨rfl, hb⟩
    have HB14 := Lib.hid (below_step HB13.out hb)
    have HO5 := Lib.hid (HO2.out.below hb)
    have HO6 := Lib.hid (HO4.out.below hb)
    clear hb hla
    cases hR : rightA v l with
    | false =>
      have hea := errA_false hR
      have hz := HO5.out
      rw [encAE_no hR] at hz
      have hn0 : 0 = n1 := hz.len
      rw [hea]
      subst hn0
      have hlq := (HP2.out.all w14 HB14.out).2.2.2.2
      clear hea hz hR
      go_wp2_with (refine wpList_load_g hlq _ rfl rfl (by go_simp) ?_)
      refine (right_any p.v p.l p.b w14 hp hpb).mono ?_
      rintro e w17 ⟨rfl, hb⟩
      have HB17 := Lib.hid (below_step HB14.out hb)
      have HO9 := Lib.hid (HO6.out.below hb)
      clear hb hlq
      cases hQ : rightP p.v p.l p.b with
      | false =>
        have hep := errP_false hQ
        have hz := HO9.out
        rw [encPE_no (p := p) hQ] at hz
        have hn0 : 0 = n4 := hz.len
        rw [hep]
        subst hn0
        clear hep hz hQ
        go_wp2
        go_ret
        exact ⟨rfl, below_step HBE.out HB17.out⟩
      | true =>
        have hep := errP_true hQ
        have hz := HO9.out
        rw [encPE_yes (p := p) hQ] at hz
        have HZ3 := Lib.hid hz
        have hq0 : 0 ≤ p.b := by obtain ⟨b0, hb0, -, hb128⟩ := right_b (p := p) hQ; omega
        have hq1 : p.b ≤ 128 := by obtain ⟨b0, hb0, -, hb128⟩ := right_b (p := p) hQ; omega
        rw [hep]
        have hlr := (HP2.out.all w17 HB17.out).2.2.2.2
        clear hep hz hQ
        go_wp2_with (refine wpList_load_g hlr _ rfl rfl (by go_simp) ?_)
        refine (refbytes_any p w17 hp hq0 hq1).mono ?_
        rintro e w18 ⟨A6, n6, c6, rfl, hO, hb⟩
        have HB18 := Lib.hid (below_step HB17.out hb)
        have HZ4 := Lib.hid (HZ3.out.below hb)
        have HS2 := Lib.hid hO.reads
        clear hb hO hlr
        go_wp2_with fail
        refine (same_any A4 n4 c4 (encP p) A6 n6 c6 (encP p) w18 HZ4.out HS2.out).mono ?_
        rw [decide_eq_true rfl]
        rintro e w19 ⟨rfl, hb⟩
        have HB19 := Lib.hid (below_step HB18.out hb)
        clear hb
        go_wp2
        go_ret
        exact ⟨rfl, below_step HBE.out HB19.out⟩
    | true =>
      have hea := errA_true hR
      have hz := HO5.out
      rw [encAE_yes hR] at hz
      have HZ := Lib.hid hz
      rw [hea]
      have hlb := (HP1.out.all w14 HB14.out).1
      clear hea hz hR
      go_wp2_with (refine wpList_load_g hlb _ rfl rfl (by go_simp) ?_)
      refine (refaddrbytes_any v l w14 hl).mono ?_
      rintro e w15 ⟨A5, n5, c5, rfl, hO, hb⟩
      have HB15 := Lib.hid (below_step HB14.out hb)
      have HO7 := Lib.hid (HO6.out.below hb)
      have HZ2 := Lib.hid (HZ.out.below hb)
      have HS := Lib.hid hO.reads
      clear hb hO hlb
      go_wp2_with fail
      refine (same_any A1 n1 c1 (encA v l) A5 n5 c5 (encA v l) w15 HZ2.out HS.out).mono ?_
      rw [decide_eq_true rfl]
      rintro e w16 ⟨rfl, hb⟩
      have HB16 := Lib.hid (below_step HB15.out hb)
      have HO8 := Lib.hid (HO7.out.below hb)
      have hlq := (HP2.out.all w16 HB16.out).2.2.2.2
      clear hb
      go_wp2_with (refine wpList_load_g hlq _ rfl rfl (by go_simp) ?_)
      refine (right_any p.v p.l p.b w16 hp hpb).mono ?_
      rintro e w17 ⟨rfl, hb⟩
      have HB17 := Lib.hid (below_step HB16.out hb)
      have HO9 := Lib.hid (HO8.out.below hb)
      clear hb hlq
      cases hQ : rightP p.v p.l p.b with
      | false =>
        have hep := errP_false hQ
        have hz := HO9.out
        rw [encPE_no (p := p) hQ] at hz
        have hn0 : 0 = n4 := hz.len
        rw [hep]
        subst hn0
        clear hep hz hQ
        go_wp2
        go_ret
        exact ⟨rfl, below_step HBE.out HB17.out⟩
      | true =>
        have hep := errP_true hQ
        have hz := HO9.out
        rw [encPE_yes (p := p) hQ] at hz
        have HZ3 := Lib.hid hz
        have hq0 : 0 ≤ p.b := by obtain ⟨b0, hb0, -, hb128⟩ := right_b (p := p) hQ; omega
        have hq1 : p.b ≤ 128 := by obtain ⟨b0, hb0, -, hb128⟩ := right_b (p := p) hQ; omega
        rw [hep]
        have hlr := (HP2.out.all w17 HB17.out).2.2.2.2
        clear hep hz hQ
        go_wp2_with (refine wpList_load_g hlr _ rfl rfl (by go_simp) ?_)
        refine (refbytes_any p w17 hp hq0 hq1).mono ?_
        rintro e w18 ⟨A6, n6, c6, rfl, hO, hb⟩
        have HB18 := Lib.hid (below_step HB17.out hb)
        have HZ4 := Lib.hid (HZ3.out.below hb)
        have HS2 := Lib.hid hO.reads
        clear hb hO hlr
        go_wp2_with fail
        refine (same_any A4 n4 c4 (encP p) A6 n6 c6 (encP p) w18 HZ4.out HS2.out).mono ?_
        rw [decide_eq_true rfl]
        rintro e w19 ⟨rfl, hb⟩
        have HB19 := Lib.hid (below_step HB18.out hb)
        clear hb
        go_wp2
        go_ret
        exact ⟨rfl, below_step HBE.out HB19.out⟩
end Go.Proofs.YtcloepjeckbmoaaDoor
