/- Layer 5: the walk of PrefixOf. -/
import Derived.Test.YtcloepjeckbmoaaDoorPfxLaw2
import Derived.Test.YtcloepjeckbmoaaDoorPureP5
namespace Go.Proofs.YtcloepjeckbmoaaDoor
open Go.RowKit
set_option linter.unusedVariables false
set_option linter.unusedSimpArgs false

/-- A prefix in a cell of its own. -/
structure OneP (W : World) (g : Nat) (P : Pfx) (w0 : World) : Prop where
  below : Below W.heap.size W w0
  p : w0.heap[g]? = some (.cells (pfxV P.v P.l P.b) 26 (0, 0))
theorem OneP.step {W w0 w1 : World} {g : Nat} {P : Pfx} (s : OneP W g P w0) (hb : Below w0.heap.size w0 w1) : OneP W g P w1 := ⟨below_step s.below hb, blk_below s.p hb⟩

set_option maxHeartbeats 4000000 in
theorem prefixOf_any (v : Int) (l : List Int) (k m : Int) (w : World) (hL : Laid w) (hl : B16 l) (hv : (Lit.int .i64 v).wf = true) (hk : (Lit.int .i64 k).wf = true) (hm : (Lit.int .i64 m).wf = true) :
    Calls Tryd.prog 6 #[.agg (adrV v l), .int .i64 k, .int .i64 m] w fun e w' => e = .returned (.bool true) ∧ Below w.heap.size w w' := by
  have hblk1 := blk_new w (.cells (adrV v l) 24)
  have hbel1 : Below w.heap.size w (w.alloc (.cells (adrV v l) 24)) := below_alloc (Below.refl _ _) _
  have HP1 := Lib.hid (adr_at hl hblk1)
  have HBK1 := Lib.hid hblk1
  have HBE := Lib.hid hbel1
  have HL := Lib.hid (hL.below HBE.out)
  obtain ⟨cs1, hcs1⟩ : ∃ cs, adrV v l = cs := ⟨_, rfl⟩
  simp only [hcs1] at HBE HL HP1 HBK1 ⊢
  have HC1 := Lib.hid hcs1
  clear hL hcs1 hblk1 hbel1
  obtain ⟨P, hP⟩ : ∃ P, ofP v l k = P := ⟨_, rfl⟩
  obtain ⟨E, hE⟩ : ∃ E, ofE v l k = E := ⟨_, rfl⟩
  have hok : P.ok := hP ▸ ofP_ok hl hv hk
  have hcase := ofE_cases v l k
  rw [hP, hE] at hcase
  have HCASE := Lib.hid hcase
  have HPE := Lib.hid (And.intro hP hE)
  clear hP hE hk hcase
  go_enter Tryd.func6, Tryd.ntmps6
  go_wp2_with fail
  refine (wakes05_any _ HL.out).mono ?_
  rintro e w1 ⟨rfl, hbb1⟩
  have HB1 := Lib.hid hbb1
  have hla := (HP1.out.all w1 hbb1).1
  clear hbb1
  go_wp2_with (refine wpList_load_g hla _ rfl rfl (by go_simp) ?_)
  refine (of_any v l k w1 (HL.out.below HB1.out) hl).mono ?_
  rw [HPE.out.1, HPE.out.2]
  rintro e w2 ⟨rfl, hb2⟩
  have HB2 := Lib.hid (below_step HB1.out hb2)
  have hz2 := blk_new w2 (.cells (pfxV 0 zero16 0) 26)
  clear hb2 hla
  rcases HCASE.out with ⟨he, hr, h0, h1, hpp⟩ | ⟨he, hno, hpp⟩
  · subst he
    have HR := Lib.hid hr
    have HPP := Lib.hid hpp
    have hok16 := hok.l
    have hd0 : decide (k < 0) = false := decide_eq_false (by omega)
    have hpb : P.b = k := by rw [hpp]
    have hpr : errP P.v P.l P.b = 0 := errP_true (by rw [hpp]; exact of_right hr h0 h1)
    have hph : P.has v l = true := by rw [hpp]; exact of_has hl hr h0 h1
    have HPH := Lib.hid (And.intro hpr (And.intro hph hpb))
    clear hr hpp hpr hph hpb
    go_wp2_with (first | (refine wpList_store_blk hz2 26 0 (pfxV P.v P.l P.b) (store_pfx_fit hok.l.len rfl) (info_pfx hok.l.len) (pfx_one _ _ _) _ _ rfl rfl rfl rfl ?_; intro w3 hg9 hs9 hb9; rw [splice_pfx _ _ _ P.l hok.l.len rfl] at hb9; have H3 := Lib.hid (And.intro hg9 hb9); clear hg9 hs9 hb9) | (refine wpList_load_g (load_pfx hok.l H3.out.2) _ rfl rfl (by go_simp) ?_))
    clear hz2
    have HB3 := Lib.hid (below_grown (below_alloc HB2.out _) H3.out.1 HB2.out.size)
    refine (check_any P.v P.l P.b w3 (HL.out.below HB3.out) hok.l).mono ?_
    rw [HPH.out.1]
    rintro e w4 ⟨rfl, hb4⟩
    have HS4 : Hid (OneP (w.alloc (.cells cs1 24)) w2.heap.size P w4) := ⟨below_step HB3.out hb4, blk_below H3.out.2 hb4⟩
    have HQ4 := Lib.hid (pfx_at hok.l HS4.out.p)
    have hlb := (HQ4.out.all _ (Below.refl _ _)).2.1
    have hlp := (HQ4.out.all _ (Below.refl _ _)).2.2.2.2
    have hla := (HP1.out.all w4 HS4.out.below).1
    rw [HPH.out.2.2] at hlb
    have hne : (k != k) = false := by simp
    clear hb4
    go_wp2_with (first | (refine wpList_load_g hlb _ rfl rfl (by go_simp) ?_) | (refine wpList_load_g hlp _ rfl rfl (by go_simp) ?_) | (refine wpList_load_g hla _ rfl rfl (by go_simp) ?_))
    refine (has_any P v l w4 (HL.out.below HS4.out.below) hok.l hl).mono ?_
    rw [HPH.out.2.1]
    rintro e w5 ⟨rfl, hb5⟩
    have HS5 := Lib.hid (HS4.out.step hb5)
    have hlv := (HP1.out.all w5 HS5.out.below).2.1
    clear hb5 hla hlb hlp hne
    go_wp2_with (refine wpList_load_g hlv _ rfl rfl (by go_simp) ?_)
    refine (width_any v w5 (HL.out.below HS5.out.below)).mono ?_
    rintro e w6 ⟨rfl, rfl⟩
    clear hlv
    have HBIT : Hid (∀ j : Nat, j < widthA v → bitP P.v P.l j = if (j : Int) < k then bitP v l j else 0) := fun j hj => by rw [HPP.out]; exact of_bit j HR.out hj
    have hwl := widthA_le v
    go_wp2_with fail
    go_loopw [54] (fun i wr => ∃ j : Nat, i = .int .i64 j ∧ Hid (OneP (w.alloc (.cells cs1 24)) w2.heap.size P wr)) (fun i _ => 128 - (intOf i).toNat)
    case atStart => exact ⟨0, rfl, HS5.out⟩
    case round =>
      obtain ⟨j, rfl, HH⟩ := hrel
      by_cases hlt : j < widthA v
      · have hlt' : (j : Int) < (widthA v : Int) := by omega
        have hbit := HBIT.out j hlt
        by_cases hjk : (j : Int) < k
        · rw [if_pos hjk] at hbit
          have hb : (bitP P.v P.l j != bitP v l j) = false := by rw [hbit]; simp
          have hla := (HP1.out.all wr HH.out.below).1
          clear hbit hlt
          go_wp2_with (refine wpList_load_g hla _ rfl rfl (by go_simp) ?_)
          refine (bit5_any v l j wr (HL.out.below HH.out.below) hl).mono ?_
          rintro e w7 ⟨rfl, hb7⟩
          have HS7 := Lib.hid (HH.out.step hb7)
          have hlp := ((pfx_at hok.l HS7.out.p).all _ (Below.refl _ _)).1
          clear hb7 hla
          go_wp2_with (refine wpList_load_g hlp _ rfl rfl (by go_simp) ?_)
          refine (bit5_any P.v P.l j w7 (HL.out.below HS7.out.below) hok.l).mono ?_
          rintro e w8 ⟨rfl, hb8⟩
          have HS8 := Lib.hid (HS7.out.step hb8)
          clear hb8 hlp
          go_wp2_with fail
          go_roundw
          case measure => simp [intOf]; omega
          case rel => exact ⟨j + 1, by go_num, HS8.out⟩
        · rw [if_neg hjk] at hbit
          have hb : (bitP P.v P.l j != 0) = false := by rw [hbit]; rfl
          have hjd : decide ((j : Int) < k) = false := decide_eq_false hjk
          have hlp := ((pfx_at hok.l HH.out.p).all _ (Below.refl _ _)).1
          clear hbit hlt hjk
          go_wp2_with (refine wpList_load_g hlp _ rfl rfl (by go_simp) ?_)
          refine (bit5_any P.v P.l j wr (HL.out.below HH.out.below) hok.l).mono ?_
          rintro e w8 ⟨rfl, hb8⟩
          have HS8 := Lib.hid (HH.out.step hb8)
          clear hb8 hlp
          go_wp2_with fail
          go_roundw
          case measure => simp [intOf]; omega
          case rel => exact ⟨j + 1, by go_num, HS8.out⟩
      · have hdd : decide (j < widthA v) = false := decide_eq_false hlt
        have hla := (HP1.out.all wr HH.out.below).1
        obtain ⟨Q, hQ⟩ : ∃ Q, ofP v l m = Q := ⟨_, rfl⟩
        obtain ⟨E, hE⟩ : ∃ E, ofE v l m = E := ⟨_, rfl⟩
        have hqok : Q.ok := hQ ▸ ofP_ok hl hv hm
        have hcase := ofE_cases v l m
        rw [hQ, hE] at hcase
        have HC2 := Lib.hid hcase
        have HQE := Lib.hid (And.intro hQ hE)
        clear hQ hE hcase hlt
        go_wp2_with (refine wpList_load_g hla _ rfl rfl (by go_simp) ?_)
        refine (of_any v l m wr (HL.out.below HH.out.below) hl).mono ?_
        rw [HQE.out.1, HQE.out.2]
        rintro e w7 ⟨rfl, hb7⟩
        have HS7 := Lib.hid (HH.out.step hb7)
        have hz7 := blk_new w7 (.cells (pfxV 0 zero16 0) 26)
        have hlt7 := blk_lt HS7.out.p
        clear hb7 hla
        by_cases hE0 : E = 0
        · subst hE0
          rcases HC2.out with ⟨-, -, g0, g1, hqq⟩ | ⟨hn, -⟩
          · have HHD := Lib.hid (show P.holds Q = decide (k ≤ m) by rw [HPP.out, hqq]; exact of_holds hl HR.out h0 h1 g0 g1)
            clear hqq g0 g1
            go_wp2_with (first | (refine wpList_store_blk hz7 26 0 (pfxV Q.v Q.l Q.b) (store_pfx_fit hqok.l.len rfl) (info_pfx hqok.l.len) (pfx_one _ _ _) _ _ rfl rfl rfl rfl ?_; intro w8 hg9 hs9 hb9; rw [splice_pfx _ _ _ Q.l hqok.l.len rfl] at hb9; have H8 := Lib.hid (And.intro hg9 hb9); clear hg9 hs9 hb9) | (refine wpList_load_g (load_pfx hok.l (blk_grown (blk_below HS7.out.p (below_alloc (Below.refl _ _) _)) H8.out.1 (fun e => by injection e with e; omega))) _ rfl rfl (by go_simp) ?_) | (refine wpList_load_g (load_pfx hqok.l H8.out.2) _ rfl rfl (by go_simp) ?_))
            have HB8 := Lib.hid (below_grown (below_alloc HS7.out.below _) H8.out.1 HS7.out.below.size)
            refine (holds_any P Q w8 (HL.out.below HB8.out) hok.l hqok.l).mono ?_
            rw [HHD.out]
            rintro e w9 ⟨rfl, hb9⟩
            have HB9 := Lib.hid (below_step HB8.out hb9)
            clear hb9
            go_wp2
            go_ret
            exact ⟨by simp, below_step HBE.out HB9.out⟩
          · exact absurd rfl hn
        · have hEb : (E != 0) = true := by simpa using hE0
          clear hE0
          go_wp2_with (refine wpList_store_blk hz7 26 0 (pfxV Q.v Q.l Q.b) (store_pfx_fit hqok.l.len rfl) (info_pfx hqok.l.len) (pfx_one _ _ _) _ _ rfl rfl rfl rfl ?_; intro w8 hg9 hs9 hb9; rw [splice_pfx _ _ _ Q.l hqok.l.len rfl] at hb9; have H8 := Lib.hid (And.intro hg9 hb9); clear hg9 hs9 hb9)
          have HB8 := Lib.hid (below_grown (below_alloc HS7.out.below _) H8.out.1 HS7.out.below.size)
          go_ret
          exact ⟨rfl, below_step HBE.out HB8.out⟩
  · have hEb : (E != 0) = true := by simpa using he
    clear he hpp
    go_wp2_with (first | (refine wpList_store_blk hz2 26 0 (pfxV P.v P.l P.b) (store_pfx_fit hok.l.len rfl) (info_pfx hok.l.len) (pfx_one _ _ _) _ _ rfl rfl rfl rfl ?_; intro w3 hg9 hs9 hb9; rw [splice_pfx _ _ _ P.l hok.l.len rfl] at hb9; have H3 := Lib.hid (And.intro hg9 hb9); clear hg9 hs9 hb9) | (refine wpList_load_g (HP1.out.all _ (below_grown (below_alloc HB2.out _) H3.out.1 HB2.out.size)).1 _ rfl rfl (by go_simp) ?_))
    have HB3 := Lib.hid (below_grown (below_alloc HB2.out _) H3.out.1 HB2.out.size)
    refine (checkAddr_any v l w3 (HL.out.below HB3.out) hl).mono ?_
    rintro e w4 ⟨rfl, hb4⟩
    have HB4 := Lib.hid (below_step HB3.out hb4)
    clear hb4
    rcases hno with hr | ⟨hr, hk⟩ | ⟨hr, hk0, hk⟩
    · rw [errA_false hr]
      clear hr
      go_wp2
      go_ret
      exact ⟨rfl, below_step HBE.out HB4.out⟩
    · rw [errA_true hr]
      clear hr
      go_wp2
      go_ret
      exact ⟨by simp [hk], below_step HBE.out HB4.out⟩
    · rw [errA_true hr]
      have hlv := (HP1.out.all w4 HB4.out).2.1
      clear hr
      go_wp2_with (refine wpList_load_g hlv _ rfl rfl (by go_simp) ?_)
      refine (width_any v w4 (HL.out.below HB4.out)).mono ?_
      rintro e w5 ⟨rfl, rfl⟩
      go_wp2
      go_ret
      exact ⟨by simp [hk], below_step HBE.out HB4.out⟩
end Go.Proofs.YtcloepjeckbmoaaDoor
