/- Layer 5: the walk of PrefixBack. -/
import Derived.Test.YtcloepjeckbmoaaDoorPfxLaw2
import Derived.Test.YtcloepjeckbmoaaDoorRef1
namespace Go.Proofs.YtcloepjeckbmoaaDoor
open Go.RowKit
set_option linter.unusedVariables false
set_option linter.unusedSimpArgs false

theorem wpList_exec_w {P : Program} {ops : Array Oper} {rest : List Oper} {o : Oper} {a : Act} {Q : Exit → Act → World → Prop} {W w' : World} {v : Value} (hrun : (execOp a.eval o).run P W = .ok (.value v) w') (hw : Region.wanted o (yielded ops a.tmps) = true) (h : wpList P ops Q rest (a.put o.dst v) w') : wpList P ops Q (o :: rest) a W := by
  refine wpList_step (fun K hK => ?_)
  rw [if_pos hw]
  unfold Oper.wp
  rw [hrun]
  exact hK _ _ h
theorem decP_okk {xs : List Int} (hx : Bytes xs) : (decP xs).ok := by
  have hz : Pfx.ok ⟨0, zero16, 0⟩ := ⟨zero16_B, by decide, by decide⟩
  by_cases h : decPE xs = 0
  · obtain ⟨h1, h2, -⟩ := enc_dec hx h
    have hw8 : ∀ y : Int, 0 ≤ y ∧ y < 256 → (Lit.int .i64 y).wf = true := fun y hy => by
      simp [Lit.wf, IntKind.min, IntKind.max, IntKind.bits, IntKind.signed]; omega
    refine ⟨h2, ?_, ?_⟩
    · rcases right_v h1 with h | h <;> rw [h] <;> decide
    · obtain ⟨b, hb, -, hb2⟩ := right_b h1
      rw [hb]
      exact hw8 _ (by omega)
  · rw [(decP_no h).1]
    exact hz
set_option maxRecDepth 100000 in
set_option maxHeartbeats 8000000 in
theorem prefixBack_any (p : Pfx) (cut : Int) (A : Option Addr) (n c : Nat) (xs : List Int) (w : World) (hL : Laid w) (hpo : p.ok) (hr : RB w A n c xs) (hcut : cut ≤ 9223372036854775807) :
    Calls Tryd.prog 4 #[.agg (pfxV p.v p.l p.b), .int .i64 cut, .slice A n c] w fun e w' => e = .returned (.bool true) ∧ Below w.heap.size w w' := by
  have hp := hpo.l
  have hsm := hr.small
  have hblk1 := blk_new w (.cells (pfxV p.v p.l p.b) 26)
  have hbel1 : Below w.heap.size w (w.alloc (.cells (pfxV p.v p.l p.b) 26)) := below_alloc (Below.refl _ _) _
  have HP1 := Lib.hid (pfx_at hp hblk1)
  have HBK1 := Lib.hid hblk1
  have HBE := Lib.hid hbel1
  have HL := Lib.hid (hL.below HBE.out)
  obtain ⟨cs1, hcs1⟩ : ∃ cs, pfxV p.v p.l p.b = cs := ⟨_, rfl⟩
  simp only [hcs1] at HBE HL HP1 HBK1 ⊢
  have HC1 := Lib.hid hcs1
  clear hL hcs1 hblk1 hbel1
  have HR := Lib.hid (hr.below HBE.out)
  have HXL := Lib.hid hr.len
  have hxb := hr.range
  clear hr
  go_enter Tryd.func4, Tryd.ntmps4
  go_wp2_with fail
  refine (wakes05_any _ HL.out).mono ?_
  rintro e w1 ⟨rfl, hbb1⟩
  have HB1 := Lib.hid hbb1
  clear hbb1
  by_cases hn : 1000 < n
  · have hn' : decide ((1000 : Int) < n) = true := decide_eq_true (by omega)
    go_wp2
    go_ret
    exact ⟨rfl, below_step HBE.out HB1.out⟩
  · have hn1 : n ≤ 1000 := by omega
    have hn2 : decide (1000 < n) = false := decide_eq_false hn
    have hn3 : decide ((1000 : Int) < n) = false := decide_eq_false (by omega)
    clear hn
    go_wp2_with fail
    refine (decode_any A n c xs w1 (HL.out.below HB1.out) (HR.out.below HB1.out) (by omega)).mono ?_
    rintro e w2 ⟨rfl, hb2⟩
    have hed := enc_dec hxb
    obtain ⟨P, hP⟩ : ∃ P, decP xs = P := ⟨_, rfl⟩
    obtain ⟨E, hE⟩ : ∃ E, decPE xs = E := ⟨_, rfl⟩
    obtain ⟨N, hN⟩ : ∃ N, decPN xs = N := ⟨_, rfl⟩
    have hpok : P.ok := hP ▸ decP_okk hxb
    rw [hP, hE, hN] at hed ⊢
    have HED := Lib.hid hed
    have HB2 := Lib.hid (below_step HB1.out hb2)
    have hz2 := blk_new w2 (.cells (pfxV 0 zero16 0) 26)
    clear hb2 hed hP hE hN
    go_upto_if 32 with ((refine wpList_store_blk hz2 26 0 (pfxV P.v P.l P.b) (store_pfx_fit hpok.l.len rfl) (info_pfx hpok.l.len) (pfx_one _ _ _) _ _ rfl rfl rfl rfl ?_; intro w3 hg9 hs9 hb9; rw [splice_pfx _ _ _ P.l hpok.l.len rfl] at hb9; have H3 := Lib.hid (And.intro hg9 hb9); clear hg9 hs9 hb9))
    clear hz2
    have HB3 := Lib.hid (below_grown (below_alloc HB2.out _) H3.out.1 HB2.out.size)
    go_cut [6] (fun s wx => s = .bool false ∧ Hid (Below (w.alloc (.cells cs1 26)).heap.size (w.alloc (.cells cs1 26)) wx))
    case first =>
      by_cases hE0 : E = 0
      · obtain ⟨hright, h16, k, hk, hkn, henc⟩ := HED.out hE0
        subst hE0
        subst hk
        have hep : errP P.v P.l P.b = 0 := errP_true hright
        have hlp := load_pfx hpok.l H3.out.2
        go_wp2_with (refine wpList_load_g hlp _ rfl rfl (by go_simp) ?_)
        refine (encode_any P w3 (HL.out.below HB3.out) hpok.l).mono ?_
        rw [hep, encPE_yes hright, henc]
        rintro e w4 ⟨A1, n1, c1, rfl, hO, hb4⟩
        have HB4 := Lib.hid (below_step HB3.out hb4)
        have HO := Lib.hid hO.reads
        have HR4 := Lib.hid ((HR.out.below HB4.out).take k (by rw [← HXL.out]; exact hkn))
        have hkn2 : k ≤ n := by rw [← HXL.out]; exact hkn
        have hkc : k ≤ c := by have := HR.out.cap; omega
        have hkd : decide ((n : Int) < k) = false := decide_eq_false (by omega)
        have hkd2 : decide (n < k) = false := decide_eq_false (by omega)
        clear hO hb4 hkn henc hep hright
        go_wp2_with fail
        refine (bequal_any A1 n1 c1 (xs.take k) A k c (xs.take k) w4 HO.out HR4.out).mono ?_
        rw [decide_eq_true rfl]
        rintro e w5 ⟨rfl, rfl⟩
        go_wp2_with fail
        go_meet
        exact ⟨rfl, HB4.out⟩
      · have hEb : (E == 0) = false := by simpa using hE0
        clear hE0
        go_wp2_with fail
        go_meet
        exact ⟨rfl, HB3.out⟩
    case rest =>
      obtain ⟨rfl, HB4⟩ := hcut
      have hlp := (HP1.out.all wc HB4.out).2.2.2.2
      clear H3 HB3
      go_wp2_with (refine wpList_load_g hlp _ rfl rfl (by go_simp) ?_)
      refine (encode_any p wc (HL.out.below HB4.out) hp).mono ?_
      rintro e w4 ⟨A1, n1, c1, rfl, hO, hb4⟩
      have HB5 := Lib.hid (below_step HB4.out hb4)
      have HO := Lib.hid hO
      clear hO hb4 hlp
      by_cases hright : p.right = true
      · have hep : errP p.v p.l p.b = 0 := errP_true hright
        have hO := HO.out.reads
        rw [encPE_yes hright] at hO
        have hbl := encP_len hp hright
        have hn1l := hO.len
        have hde := dec_enc hp hright xs
        have hdc := dec_cut hp hright
        obtain ⟨b0, hb0, -, hb128⟩ := right_b hright
        have hf16 := fullB_le hb128
        rw [hb0] at hbl
        obtain ⟨bs, hbs⟩ : ∃ bs, encP p = bs := ⟨_, rfl⟩
        rw [hbs] at hbl hn1l hO hde hdc
        have HDE := Lib.hid hde
        have HDC := Lib.hid hdc
        have HOR := Lib.hid hO
        have hn1p : 0 < n1 := by omega
        have hn118 : n1 ≤ 18 := by omega
        have HNL := Lib.hid hn1l
        have hw45 := HB5.out.size
        rw [hep]
        clear hep hO hbl hn1l hde hdc hb0 hbs hright hf16 hb128
        go_wp2_with (first | (at_builtin; refine wpList_append_bytes rfl (.tmp 65) (.tmp 66) rfl rfl rfl (OB.empty w4 w4.heap.size (Nat.le_refl _)) (HOR.out.below (below_alloc (Below.refl _ _) _)) (by simp) (by omega) ?_; intro A5 c5 w5 h1 h2 h3; rw [Nat.zero_add, List.nil_append] at h1; rw [Nat.zero_add]; have H5 := Lib.hid (And.intro h1 ((below_alloc (Below.refl w4.heap.size w4) (.cells #[] 5)).grown h2 (by simp) (own_row (fun ad e => by injection e with e; rw [← e]; exact Nat.le_refl _)))); have hs5 := H5.out.2.size; clear h1 h2 h3) | (at_builtin; refine wpList_append_bytes rfl (.tmp 67) (.tmp 68) rfl rfl rfl H5.out.1 (HR.out.below (below_step HB5.out H5.out.2)) hs5 (by omega) ?_; intro A6 c6 w6 h1 h2 h3; have H6 := Lib.hid (And.intro h1 (H5.out.2.grown h2 hs5 (own_row H5.out.1.base_))); clear h1 h2 h3))
        refine (decode_any A6 (n1 + n) c6 (bs ++ xs) w6 (HL.out.below (below_step HB5.out H6.out.2)) H6.out.1.reads (by omega)).mono ?_
        rw [HDE.out.1, HDE.out.2.1, HDE.out.2.2, HNL.out]
        rintro e w7 ⟨rfl, hb7⟩
        have HB7 := Lib.hid (below_step (below_step HB5.out H6.out.2) hb7)
        have HOR7 := Lib.hid (HOR.out.below (below_step H6.out.2 hb7))
        have hw47 := (below_step H6.out.2 hb7).size
        have hz7 := blk_new w7 (.cells (pfxV 0 zero16 0) 26)
        clear hb7
        obtain ⟨mc, hmc⟩ : ∃ mc : Int, max cut 0 = mc := ⟨_, rfl⟩
        have hmc0 : 0 ≤ mc := by omega
        have hmc1 : mc ≤ 9223372036854775807 := by omega
        obtain ⟨k, hk⟩ : ∃ k : Nat, mc % (n1 : Int) = k := ⟨(mc % (n1 : Int)).toNat, by have := Int.emod_nonneg mc (show (n1 : Int) ≠ 0 by omega); omega⟩
        have hkn : k < n1 := by have := Int.emod_lt_of_pos mc (show (0 : Int) < n1 by omega); omega
        have hn0 : (0 : Int) < n1 := by omega
        have hkc : k ≤ c1 := by have := HOR.out.cap; omega
        have hkc2 : (k : Int) ≤ c1 := by omega
        go_wp2_with (first | (refine wpList_store_blk hz7 26 0 (pfxV p.v p.l p.b) (store_pfx_fit hp.len rfl) (info_pfx hp.len) (pfx_one _ _ _) _ _ rfl rfl rfl rfl ?_; intro w8 hg9 hs9 hb9; rw [splice_pfx _ _ _ p.l hp.len rfl] at hb9; have H8 := Lib.hid (And.intro hg9 hb9); clear hg9 hs9 hb9))
        have HB8 := Lib.hid (below_grown (below_alloc HB7.out _) H8.out.1 HB7.out.size)
        have hA1 : ∀ ad, A1 = some ad → ad.block < w7.heap.size := fun ad e => by
          have h1 := HO.out.lt ad e
          omega
        have HOR8 := Lib.hid (((HOR7.out.below (below_alloc (Below.refl _ _) (.cells (pfxV 0 zero16 0) 26))).grown H8.out.1 (fun ad e h => by have := hA1 ad e; injection h with h; omega)).take k (by omega))
        have hbsb : Bytes (bs.take k) := HOR8.out.range
        refine (decode_any A1 k c1 (bs.take k) w8 (HL.out.below HB8.out) HOR8.out (by omega)).mono ?_
        rw [HDC.out k (by rw [HNL.out]; exact hkn)]
        obtain ⟨R, hR⟩ : ∃ R, decP (bs.take k) = R := ⟨_, rfl⟩
        have hrok : R.ok := hR ▸ decP_okk hbsb
        rw [hR]
        rintro e w9 ⟨rfl, hb9⟩
        have HB9 := Lib.hid (below_step HB8.out hb9)
        have HP9 := Lib.hid (blk_below H8.out.2 hb9)
        have hz9 := blk_new w9 (.cells (pfxV 0 zero16 0) 26)
        have hlt9 := blk_lt HP9.out
        have hpe : p.eqB p = true := (Pfx.eqB_iff p p).2 rfl
        clear hb9 hR hmc hk hz7
        go_wp2_with (first | (refine wpList_store_blk hz9 26 0 (pfxV R.v R.l R.b) (store_pfx_fit hrok.l.len rfl) (info_pfx hrok.l.len) (pfx_one _ _ _) _ _ rfl rfl rfl rfl ?_; intro w10 hg9 hs9 hb9; rw [splice_pfx _ _ _ R.l hrok.l.len rfl] at hb9; have H10 := Lib.hid (And.intro hg9 hb9); clear hg9 hs9 hb9) | (refine wpList_load_g (load_pfx hp (blk_grown (blk_below HP9.out (below_alloc (Below.refl _ _) _)) H10.out.1 (fun e => by injection e with e; omega))) _ rfl rfl (by go_simp) ?_) | (refine wpList_load_g (HP1.out.all _ (below_grown (below_alloc HB9.out _) H10.out.1 HB9.out.size)).2.2.2.2 _ rfl rfl (by go_simp) ?_) | (refine wpList_exec_w (pfx_eql_exec rfl p p rfl rfl hpo hpo _) (by go_simp) ?_))
        have HB10 := Lib.hid (below_grown (below_alloc HB9.out _) H10.out.1 HB9.out.size)
        go_ret
        exact ⟨by simp, below_step HBE.out HB10.out⟩
      · have hw : p.right = false := by simpa using hright
        have hO := HO.out
        rw [encPE_no hw] at hO
        have hn1 : 0 = n1 := hO.len
        subst hn1
        have hep : errP p.v p.l p.b = 151 := errP_false hw
        rw [hep]
        clear hep hw hright hO
        go_wp2
        go_ret
        exact ⟨rfl, below_step HBE.out HB5.out⟩
end Go.Proofs.YtcloepjeckbmoaaDoor
