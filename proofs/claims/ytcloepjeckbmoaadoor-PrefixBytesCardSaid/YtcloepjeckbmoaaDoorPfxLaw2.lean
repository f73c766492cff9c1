/- Layer 5: the walks of PrefixBits, PrefixHolds. -/
import Derived.Test.YtcloepjeckbmoaaDoorPfxWakes
import Derived.Test.YtcloepjeckbmoaaDoorPfxRefCmp
import Derived.Test.YtcloepjeckbmoaaDoorPfxRefOf
import Derived.Test.YtcloepjeckbmoaaDoorPfxRef
namespace Go.Proofs.YtcloepjeckbmoaaDoor
open Go.RowKit
set_option linter.unusedVariables false
set_option linter.unusedSimpArgs false

theorem ofP_ok {v : Int} {l : List Int} {k : Int} (hl : B16 l) (hv : (Lit.int .i64 v).wf = true) (hk : (Lit.int .i64 k).wf = true) : (ofP v l k).ok := by
  refine ⟨ofP_16 k hl, ?_, ?_⟩
  · unfold ofP; split
    · exact hv
    · decide
  · unfold ofP; split
    · exact hk
    · decide
/-- Two prefixes in cells of their own. -/
structure TwoP (W : World) (g h : Nat) (P Q : Pfx) (w0 : World) : Prop where
  below : Below W.heap.size W w0
  p : w0.heap[g]? = some (.cells (pfxV P.v P.l P.b) 26 (0, 0))
  q : w0.heap[h]? = some (.cells (pfxV Q.v Q.l Q.b) 26 (0, 0))
theorem TwoP.step {W w0 w1 : World} {g h : Nat} {P Q : Pfx} (s : TwoP W g h P Q w0) (hb : Below w0.heap.size w0 w1) : TwoP W g h P Q w1 := ⟨below_step s.below hb, blk_below s.p hb, blk_below s.q hb⟩
set_option maxHeartbeats 4000000 in
theorem prefixBits_any (v : Int) (l : List Int) (i : Int) (w : World) (hL : Laid w) (hl : B16 l) (hv : (Lit.int .i64 v).wf = true) (hi : (Lit.int .i64 i).wf = true) :
    Calls Tryd.prog 5 #[.agg (adrV v l), .int .i64 i] w fun e w' => e = .returned (.bool true) ∧ Below w.heap.size w w' := by
  have hblk1 := blk_new w (.cells (adrV v l) 24)
  have hbel1 : Below w.heap.size w (w.alloc (.cells (adrV v l) 24)) := below_alloc (Below.refl _ _) _
  have HP1 := Lib.hid (adr_at hl hblk1)
  have HBK1 := Lib.hid hblk1
  have HBE := Lib.hid hbel1
  have HL := Lib.hid (hL.below HBE.out)
  obtain ⟨cs1, hcs1⟩ : ∃ cs, adrV v l = cs := ⟨_, rfl⟩
  simp only [hcs1] at HBE HL HP1 HBK1 ⊢
  have HC1 := Lib.hid hcs1
  clear hL hcs1 hblk1 hbel1
  obtain ⟨P, hP⟩ : ∃ P, ofP v l i = P := ⟨_, rfl⟩
  obtain ⟨E, hE⟩ : ∃ E, ofE v l i = E := ⟨_, rfl⟩
  have hok : P.ok := hP ▸ ofP_ok hl hv hi
  have HPE := Lib.hid (And.intro hP hE)
  clear hP hE hv hi
  go_enter Tryd.func5, Tryd.ntmps5
  go_wp2_with fail
  refine (wakes05_any _ HL.out).mono ?_
  rintro e w1 ⟨rfl, hbb1⟩
  have HB1 := Lib.hid hbb1
  have hla := (HP1.out.all w1 hbb1).1
  clear hbb1
  go_wp2_with (refine wpList_load_g hla _ rfl rfl (by go_simp) ?_)
  refine (of_any v l i w1 (HL.out.below HB1.out) hl).mono ?_
  rw [HPE.out.1, HPE.out.2]
  rintro e w2 ⟨rfl, hb2⟩
  have HB2 := Lib.hid (below_step HB1.out hb2)
  have hz2 := blk_new w2 (.cells (pfxV 0 zero16 0) 26)
  clear hb2 hla
  go_wp2_with (first | (refine wpList_store_blk hz2 26 0 (pfxV P.v P.l P.b) (store_pfx_fit hok.l.len rfl) (info_pfx hok.l.len) (pfx_one _ _ _) _ _ rfl rfl rfl rfl ?_; intro w3 hg9 hs9 hb9; rw [splice_pfx _ _ _ P.l hok.l.len rfl] at hb9; have H3 := Lib.hid (And.intro hg9 hb9); clear hg9 hs9 hb9) | (refine wpList_load_g (HP1.out.all _ (below_grown (below_alloc HB2.out _) H3.out.1 HB2.out.size)).1 _ rfl rfl (by go_simp) ?_))
  clear hz2
  have HB3 := Lib.hid (below_grown (below_alloc HB2.out _) H3.out.1 HB2.out.size)
  refine (refof_any v l i w3 hl).mono ?_
  rw [HPE.out.1, HPE.out.2]
  rintro e w4 ⟨rfl, hb4⟩
  have HB4 := Lib.hid (below_step HB3.out hb4)
  have HP4 := Lib.hid (blk_below H3.out.2 hb4)
  have hz4 := blk_new w4 (.cells (pfxV 0 zero16 0) 26)
  have hlt4 := blk_lt HP4.out
  clear hb4
  go_wp2_with (refine wpList_store_blk hz4 26 0 (pfxV P.v P.l P.b) (store_pfx_fit hok.l.len rfl) (info_pfx hok.l.len) (pfx_one _ _ _) _ _ rfl rfl rfl rfl ?_; intro w6 hg9 hs9 hb9; rw [splice_pfx _ _ _ P.l hok.l.len rfl] at hb9; have H6 := Lib.hid (And.intro hg9 hb9); clear hg9 hs9 hb9)
  have HS : Hid (TwoP (w.alloc (.cells cs1 24)) w2.heap.size w4.heap.size P P w6) := ⟨below_grown (below_alloc HB4.out _) H6.out.1 HB4.out.size, blk_grown (blk_below HP4.out (below_alloc (Below.refl _ _) _)) H6.out.1 (fun e => by injection e with e; omega), H6.out.2⟩
  clear hz4
  refine wp_region_mix ((TwoP (w.alloc (.cells cs1 24)) w2.heap.size w4.heap.size P P)) [(0, 0), (1, 0), (2, 0), (3, 0), (4, 0), (5, 0), (6, 0), (7, 0), (8, 0), (9, 0), (10, 0), (12, 0), (13, 0), (11, 2), (14, 2), (15, 0), (16, 0), (17, 0), (18, 0), (19, 0), (21, 0), (22, 0), (20, 2), (23, 2), (24, 0), (25, 0), (26, 0)] (by kernel_rfl) (by kernel_rfl) ((HS.out.step (below_drew1 _))) ?_
  simp only [List.map_cons, List.map_nil]
  iterate 4 (refine wpO_step0 rfl rfl (fun K hK => ?_); go_simp; refine hK _ _ ?_; clear hK K)
  refine wpO_loadW (t := 26) (ad := ⟨w2.heap.size, 0, none⟩) rfl rfl ?hw rfl rfl ((fun w0 hS => load_pfx hok.l hS.p)) ?_
  case hw => go_simp
  refine wpO_loadW (t := 26) (ad := ⟨w4.heap.size, 0, none⟩) rfl rfl ?hw rfl rfl ((fun w0 hS => load_pfx hok.l hS.q)) ?_
  case hw => go_simp
  refine wpO_step0 rfl rfl (fun K hK => ?_)
  rw [if_pos (by go_simp)]
  refine ⟨_, fun w0 => pfx_eql_exec rfl P P rfl rfl hok hok w0, hK _ _ ?_⟩
  clear hK K
  rw [(Pfx.eqB_iff P P).2 rfl]
  iterate 2 (refine wpO_step0 rfl rfl (fun K hK => ?_); go_simp; refine hK _ _ ?_; clear hK K)
  refine wpO_loadW (t := 24) (ad := ⟨w.heap.size, 0, none⟩) rfl rfl ?hw rfl rfl ((fun w0 hS => (HP1.out.all w0 hS.below).1)) ?_
  case hw => go_simp
  iterate 1 (refine wpO_step0 rfl rfl (fun K hK => ?_); go_simp; refine hK _ _ ?_; clear hK K)
  refine wpO_loadW (t := 24) (ad := ⟨w.heap.size, 0, none⟩) rfl rfl ?hw rfl rfl ((fun w0 hS => (HP1.out.all w0 hS.below).1)) ?_
  case hw => go_simp
  iterate 1 (refine wpO_step0 rfl rfl (fun K hK => ?_); go_simp; refine hK _ _ ?_; clear hK K)
  refine wpO_step2 rfl rfl (HS.out.step (below_drew1 _)) (fun K hK => ?_)
  go_simp
  refine (bit5_any v l i _ (HL.out.below (HS.out.step (below_drew1 _)).below) hl).mono ?_
  rintro e w7 ⟨rfl, hb7⟩
  have HS7 := Lib.hid ((HS.out.step (below_drew1 _)).step hb7)
  clear hb7
  refine hK _ _ ⟨HS7.out, ?_⟩
  clear hK K
  refine wpO_step2 rfl rfl (HS7.out) (fun K hK => ?_)
  go_simp
  refine (refbit5_any v l i _ hl).mono ?_
  rintro e w8 ⟨rfl, hb7⟩
  have HS8 := Lib.hid (HS7.out.step hb7)
  clear hb7
  refine hK _ _ ⟨HS8.out, ?_⟩
  clear hK K
  iterate 3 (refine wpO_step0 rfl rfl (fun K hK => ?_); go_simp; refine hK _ _ ?_; clear hK K)
  refine wpO_loadW (t := 24) (ad := ⟨w.heap.size, 0, none⟩) rfl rfl ?hw rfl rfl ((fun w0 hS => (HP1.out.all w0 hS.below).1)) ?_
  case hw => go_simp
  iterate 1 (refine wpO_step0 rfl rfl (fun K hK => ?_); go_simp; refine hK _ _ ?_; clear hK K)
  refine wpO_loadW (t := 24) (ad := ⟨w.heap.size, 0, none⟩) rfl rfl ?hw rfl rfl ((fun w0 hS => (HP1.out.all w0 hS.below).1)) ?_
  case hw => go_simp
  iterate 1 (refine wpO_step0 rfl rfl (fun K hK => ?_); go_simp; refine hK _ _ ?_; clear hK K)
  refine wpO_step2 rfl rfl (HS8.out) (fun K hK => ?_)
  go_simp
  refine (nib5_any v l i _ (HL.out.below HS8.out.below) hl).mono ?_
  rintro e w9 ⟨rfl, hb7⟩
  have HS9 := Lib.hid (HS8.out.step hb7)
  clear hb7
  refine hK _ _ ⟨HS9.out, ?_⟩
  clear hK K
  refine wpO_step2 rfl rfl (HS9.out) (fun K hK => ?_)
  go_simp
  refine (refnib5_any v l i _ hl).mono ?_
  rintro e w10 ⟨rfl, hb7⟩
  have HS10 := Lib.hid (HS9.out.step hb7)
  clear hb7
  refine hK _ _ ⟨HS10.out, ?_⟩
  clear hK K
  iterate 3 (refine wpO_step0 rfl rfl (fun K hK => ?_); go_simp; refine hK _ _ ?_; clear hK K)
  refine wpO_nil ?_
  go_wp2
  go_ret
  exact ⟨by simp, below_step HBE.out HS10.out.below⟩

set_option maxHeartbeats 4000000 in
theorem prefixHolds_any (p q : Pfx) (v : Int) (l : List Int) (w : World) (hL : Laid w) (hp : B16 p.l) (hq : B16 q.l) (hl : B16 l) (hpb : p.b ≤ 9223372036854775807) (hqb : q.b ≤ 9223372036854775807) :
    Calls Tryd.prog 8 #[.agg (pfxV p.v p.l p.b), .agg (pfxV q.v q.l q.b), .agg (adrV v l)] w fun e w' => e = .returned (.bool true) ∧ Below w.heap.size w w' := by
  have hblk1 := blk_new w (.cells (pfxV p.v p.l p.b) 26)
  have hbel1 : Below w.heap.size w (w.alloc (.cells (pfxV p.v p.l p.b) 26)) := below_alloc (Below.refl _ _) _
  have hblk2 := blk_new (w.alloc (.cells (pfxV p.v p.l p.b) 26)) (.cells (pfxV q.v q.l q.b) 26)
  have hbel2 : Below w.heap.size w ((w.alloc (.cells (pfxV p.v p.l p.b) 26)).alloc (.cells (pfxV q.v q.l q.b) 26)) := below_alloc (hbel1) _
  rw [show (w.alloc (.cells (pfxV p.v p.l p.b) 26)).heap.size = w.heap.size + 1 by simp] at hblk2
  replace hblk1 := blk_below hblk1 (below_alloc (Below.refl _ _) (.cells (pfxV q.v q.l q.b) 26))
  have hblk3 := blk_new ((w.alloc (.cells (pfxV p.v p.l p.b) 26)).alloc (.cells (pfxV q.v q.l q.b) 26)) (.cells (adrV v l) 24)
  have hbel3 : Below w.heap.size w (((w.alloc (.cells (pfxV p.v p.l p.b) 26)).alloc (.cells (pfxV q.v q.l q.b) 26)).alloc (.cells (adrV v l) 24)) := below_alloc (hbel2) _
  rw [show ((w.alloc (.cells (pfxV p.v p.l p.b) 26)).alloc (.cells (pfxV q.v q.l q.b) 26)).heap.size = w.heap.size + 2 by simp] at hblk3
  replace hblk1 := blk_below hblk1 (below_alloc (Below.refl _ _) (.cells (adrV v l) 24))
  replace hblk2 := blk_below hblk2 (below_alloc (Below.refl _ _) (.cells (adrV v l) 24))
  have HP1 := Lib.hid (pfx_at hp hblk1)
  have HBK1 := Lib.hid hblk1
  have HP2 := Lib.hid (pfx_at hq hblk2)
  have HBK2 := Lib.hid hblk2
  have HP3 := Lib.hid (adr_at hl hblk3)
  have HBK3 := Lib.hid hblk3
  have HBE := Lib.hid hbel3
  have HL := Lib.hid (hL.below HBE.out)
  obtain ⟨cs1, hcs1⟩ : ∃ cs, pfxV p.v p.l p.b = cs := ⟨_, rfl⟩
  obtain ⟨cs2, hcs2⟩ : ∃ cs, pfxV q.v q.l q.b = cs := ⟨_, rfl⟩
  obtain ⟨cs3, hcs3⟩ : ∃ cs, adrV v l = cs := ⟨_, rfl⟩
  simp only [hcs1, hcs2, hcs3] at HBE HL HP1 HP2 HP3 HBK1 HBK2 HBK3 ⊢
  have HC1 := Lib.hid hcs1
  have HC2 := Lib.hid hcs2
  have HC3 := Lib.hid hcs3
  clear hL hcs1 hblk1 hbel1 hcs2 hblk2 hbel2 hcs3 hblk3 hbel3
  go_enter Tryd.func8, Tryd.ntmps8
  go_wp2_with fail
  refine (wakes05_any _ HL.out).mono ?_
  rintro e w1 ⟨rfl, hbb1⟩
  have HB1 := Lib.hid hbb1
  have HL1 := Lib.hid (HL.out.below hbb1)
  clear hbb1
  go_wp2_with fail
  refine wp_region_mix ((fun w0 => Below w1.heap.size w1 w0)) [(0, 2), (1, 0), (2, 0), (3, 0), (5, 0), (6, 0), (4, 2), (7, 2), (8, 0), (9, 0), (10, 0), (11, 0), (12, 0), (14, 0), (15, 0), (13, 2), (16, 2), (17, 0), (18, 0), (19, 0), (20, 0), (21, 0), (23, 0), (24, 0), (22, 2), (25, 2), (26, 0), (27, 0), (28, 0)] (by kernel_rfl) (by kernel_rfl) ((below_drew1 _)) ?_
  simp only [List.map_cons, List.map_nil]
  have HD := Lib.hid (below_drew1 w1)
  refine wpO_step2 rfl rfl (HD.out) (fun K hK => ?_)
  go_simp
  refine (wakes05_any _ (HL1.out.below HD.out)).mono ?_
  rintro e w2 ⟨rfl, hb7⟩
  have HD2 := Lib.hid (below_step HD.out hb7)
  clear hb7
  refine hK _ _ ⟨HD2.out, ?_⟩
  clear hK K
  iterate 1 (refine wpO_step0 rfl rfl (fun K hK => ?_); go_simp; refine hK _ _ ?_; clear hK K)
  refine wpO_loadW (t := 26) (ad := ⟨w.heap.size, 0, none⟩) rfl rfl ?hw rfl rfl ((fun w0 hS => (HP1.out.all w0 (below_step HB1.out hS)).2.2.2.2)) ?_
  case hw => go_simp
  refine wpO_loadW (t := 24) (ad := ⟨(w.heap.size+1+1), 0, none⟩) rfl rfl ?hw rfl rfl ((fun w0 hS => (HP3.out.all w0 (below_step HB1.out hS)).1)) ?_
  case hw => go_simp
  refine wpO_loadW (t := 26) (ad := ⟨w.heap.size, 0, none⟩) rfl rfl ?hw rfl rfl ((fun w0 hS => (HP1.out.all w0 (below_step HB1.out hS)).2.2.2.2)) ?_
  case hw => go_simp
  refine wpO_loadW (t := 24) (ad := ⟨(w.heap.size+1+1), 0, none⟩) rfl rfl ?hw rfl rfl ((fun w0 hS => (HP3.out.all w0 (below_step HB1.out hS)).1)) ?_
  case hw => go_simp
  refine wpO_step2 rfl rfl (HD2.out) (fun K hK => ?_)
  go_simp
  refine (has_any p v l _ (HL1.out.below HD2.out) hp hl).mono ?_
  rintro e w3 ⟨rfl, hb7⟩
  have HD3 := Lib.hid (below_step HD2.out hb7)
  clear hb7
  refine hK _ _ ⟨HD3.out, ?_⟩
  clear hK K
  refine wpO_step2 rfl rfl (HD3.out) (fun K hK => ?_)
  go_simp
  refine (refhas_any p v l _ hp hl hpb).mono ?_
  rintro e w4 ⟨rfl, hb7⟩
  have HD4 := Lib.hid (below_step HD3.out hb7)
  clear hb7
  refine hK _ _ ⟨HD4.out, ?_⟩
  clear hK K
  iterate 3 (refine wpO_step0 rfl rfl (fun K hK => ?_); go_simp; refine hK _ _ ?_; clear hK K)
  refine wpO_loadW (t := 26) (ad := ⟨w.heap.size, 0, none⟩) rfl rfl ?hw rfl rfl ((fun w0 hS => (HP1.out.all w0 (below_step HB1.out hS)).2.2.2.2)) ?_
  case hw => go_simp
  refine wpO_loadW (t := 26) (ad := ⟨(w.heap.size+1), 0, none⟩) rfl rfl ?hw rfl rfl ((fun w0 hS => (HP2.out.all w0 (below_step HB1.out hS)).2.2.2.2)) ?_
  case hw => go_simp
  refine wpO_loadW (t := 26) (ad := ⟨w.heap.size, 0, none⟩) rfl rfl ?hw rfl rfl ((fun w0 hS => (HP1.out.all w0 (below_step HB1.out hS)).2.2.2.2)) ?_
  case hw => go_simp
  refine wpO_loadW (t := 26) (ad := ⟨(w.heap.size+1), 0, none⟩) rfl rfl ?hw rfl rfl ((fun w0 hS => (HP2.out.all w0 (below_step HB1.out hS)).2.2.2.2)) ?_
  case hw => go_simp
  refine wpO_step2 rfl rfl (HD4.out) (fun K hK => ?_)
  go_simp
  refine (holds_any p q _ (HL1.out.below HD4.out) hp hq).mono ?_
  rintro e w5 ⟨rfl, hb7⟩
  have HD5 := Lib.hid (below_step HD4.out hb7)
  clear hb7
  refine hK _ _ ⟨HD5.out, ?_⟩
  clear hK K
  refine wpO_step2 rfl rfl (HD5.out) (fun K hK => ?_)
  go_simp
  refine (refholds_any p q _ hp hq hpb hqb).mono ?_
  rintro e w6 ⟨rfl, hb7⟩
  have HD6 := Lib.hid (below_step HD5.out hb7)
  clear hb7
  refine hK _ _ ⟨HD6.out, ?_⟩
  clear hK K
  iterate 3 (refine wpO_step0 rfl rfl (fun K hK => ?_); go_simp; refine hK _ _ ?_; clear hK K)
  refine wpO_loadW (t := 26) (ad := ⟨w.heap.size, 0, none⟩) rfl rfl ?hw rfl rfl ((fun w0 hS => (HP1.out.all w0 (below_step HB1.out hS)).2.2.2.2)) ?_
  case hw => go_simp
  refine wpO_loadW (t := 26) (ad := ⟨(w.heap.size+1), 0, none⟩) rfl rfl ?hw rfl rfl ((fun w0 hS => (HP2.out.all w0 (below_step HB1.out hS)).2.2.2.2)) ?_
  case hw => go_simp
  refine wpO_loadW (t := 26) (ad := ⟨w.heap.size, 0, none⟩) rfl rfl ?hw rfl rfl ((fun w0 hS => (HP1.out.all w0 (below_step HB1.out hS)).2.2.2.2)) ?_
  case hw => go_simp
  refine wpO_loadW (t := 26) (ad := ⟨(w.heap.size+1), 0, none⟩) rfl rfl ?hw rfl rfl ((fun w0 hS => (HP2.out.all w0 (below_step HB1.out hS)).2.2.2.2)) ?_
  case hw => go_simp
  refine wpO_step2 rfl rfl (HD6.out) (fun K hK => ?_)
  go_simp
  refine (compare_any p q _ hp hq).mono ?_
  rintro e w7 ⟨rfl, hb7⟩
  have HD7 := Lib.hid (below_step HD6.out hb7)
  clear hb7
  refine hK _ _ ⟨HD7.out, ?_⟩
  clear hK K
  refine wpO_step2 rfl rfl (HD7.out) (fun K hK => ?_)
  go_simp
  refine (refcompare_any p q _ hp hq).mono ?_
  rintro e w8 ⟨rfl, hb7⟩
  have HD8 := Lib.hid (below_step HD7.out hb7)
  clear hb7
  refine hK _ _ ⟨HD8.out, ?_⟩
  clear hK K
  iterate 3 (refine wpO_step0 rfl rfl (fun K hK => ?_); go_simp; refine hK _ _ ?_; clear hK K)
  refine wpO_nil ?_
  go_wp2
  go_ret
  exact ⟨by simp, below_step HBE.out (below_step HB1.out HD8.out)⟩
end Go.Proofs.YtcloepjeckbmoaaDoor
