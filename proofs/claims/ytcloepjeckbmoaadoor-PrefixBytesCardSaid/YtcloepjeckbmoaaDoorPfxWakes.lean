/- Layer 5: wakes. -/
import Derived.Test.YtcloepjeckbmoaaDoorPfxEql
import Derived.Test.YtcloepjeckbmoaaDoorPfxNib
import Derived.Test.YtcloepjeckbmoaaDoorPfx9
import Derived.Test.YtcloepjeckbmoaaDoorPfxOf
import Derived.Test.YtcloepjeckbmoaaDoorPfxDecP
namespace Go.Proofs.YtcloepjeckbmoaaDoor
open Go.RowKit
set_option linter.unusedVariables false
set_option linter.unusedSimpArgs false

def tenL : List Int := [10, 1, 2, 3, 0, 0, 0, 0, 0, 0, 0, 0, 0, 0, 0, 0]
def ten8 : List Int := [10, 0, 0, 0, 0, 0, 0, 0, 0, 0, 0, 0, 0, 0, 0, 0]
theorem tenL_B : B16 tenL := ⟨rfl, fun x hx => by simp [tenL] at hx; omega⟩
theorem ten8_B : B16 ten8 := ⟨rfl, fun x hx => by simp [ten8] at hx; omega⟩
theorem ten_any (w : World) : Calls Tryd.prog 39 #[] w fun e w' => e = .returned (.agg (adrV 4 tenL)) ∧ Below w.heap.size w w' := by
  have hz := blk_new w (.cells (adrV 0 zero16) 24)
  go_enter Tryd.func39, Tryd.ntmps39
  go_wp2_with (refine wpList_store_blk hz 24 0 (adrV 4 tenL) (by rw [adr_size rfl]; exact Nat.le_refl _) (info_adr rfl) (adr_one _ _) _ _ rfl rfl rfl rfl ?_; intro w9 hg9 hs9 hb9; rw [splice_adr0 _ 4 tenL rfl rfl] at hb9; have H9 := Lib.hid (And.intro hg9 hb9); clear hg9 hs9 hb9)
  have hld := ((adr_at tenL_B H9.out.2).all _ (Below.refl _ _)).1
  refine bodyPost_ret (results_c1 rfl rfl hld) rfl ⟨rfl, below_grown (below_alloc (Below.refl _ _) _) H9.out.1 (Nat.le_refl _)⟩
theorem ten_right : rightA 4 tenL = true := by decide
theorem ten_of : ofE 4 tenL 8 = 0 ∧ ofP 4 tenL 8 = ⟨4, ten8, 8⟩ := by
  obtain ⟨h1, h2⟩ := of_ok (k := 8) ten_right (by decide) (by decide)
  rw [h1, h2]
  exact ⟨rfl, rfl⟩
theorem ten_enc : errP 4 ten8 8 = 0 ∧ encPE ⟨4, ten8, 8⟩ = [4, 8, 10] := by
  refine ⟨by decide, by decide⟩
theorem ten_dec : decPE [4, 8, 10] = 0 ∧ decPN [4, 8, 10] = 3 ∧ decP [4, 8, 10] = ⟨4, ten8, 8⟩ := ⟨by decide, by decide, rfl⟩
theorem ten_has : Pfx.has ⟨4, ten8, 8⟩ 4 tenL = true := by decide
theorem ten_nib : nibP 4 tenL 1 = 10 := by decide
theorem ten_ok : Pfx.ok ⟨4, ten8, 8⟩ := ⟨ten8_B, by decide, by decide⟩
/-- A whole prefix stored into a cell just made. -/
structure WakS (w : World) (g h : Nat) (w0 : World) : Prop where
  below : Below w.heap.size w w0
  p : w0.heap[g]? = some (.cells (pfxV 4 ten8 8) 26 (0, 0))
  q : w0.heap[h]? = some (.cells (pfxV 4 ten8 8) 26 (0, 0))
theorem WakS.step {w w0 w1 : World} {g h : Nat} (s : WakS w g h w0) (hb : Below w0.heap.size w0 w1) : WakS w g h w1 := ⟨below_step s.below hb, blk_below s.p hb, blk_below s.q hb⟩
set_option maxHeartbeats 4000000 in
theorem wakes05_any (w : World) (hL : Laid w) : Calls Tryd.prog 10 #[] w fun e w' => e = .returned (.bool true) ∧ Below w.heap.size w w' := by
  have HL := Lib.hid hL
  clear hL
  go_enter Tryd.func10, Tryd.ntmps10
  go_wp2_with fail
  refine (ten_any w).mono ?_
  rintro e w1 ⟨rfl, hb1⟩
  have HB1 := Lib.hid hb1
  clear hb1
  go_wp2_with fail
  refine (of_any 4 tenL 8 w1 (HL.out.below HB1.out) tenL_B).mono ?_
  rw [ten_of.1, ten_of.2]
  rintro e w2 ⟨rfl, hb2⟩
  have HB2 := Lib.hid (below_step HB1.out hb2)
  have hz2 := blk_new w2 (.cells (pfxV 0 zero16 0) 26)
  clear hb2
  go_wp2_with (first | (refine wpList_store_blk hz2 26 0 (pfxV 4 ten8 8) (store_pfx_fit rfl rfl) (info_pfx rfl) (pfx_one _ _ _) _ _ rfl rfl rfl rfl ?_; intro w3 hg9 hs9 hb9; rw [splice_pfx _ _ _ ten8 rfl rfl] at hb9; have H3 := Lib.hid (And.intro hg9 hb9); clear hg9 hs9 hb9) | (refine wpList_load_g (load_pfx ten8_B H3.out.2) _ rfl rfl (by go_simp) ?_))
  clear hz2
  have HB3 := Lib.hid (below_grown (below_alloc HB2.out _) H3.out.1 HB2.out.size)
  refine (encode_any ⟨4, ten8, 8⟩ w3 (HL.out.below HB3.out) ten8_B).mono ?_
  rw [ten_enc.1, ten_enc.2]
  rintro e w4 ⟨A, n, c, rfl, hO, hb4⟩
  obtain rfl : 3 = n := hO.len
  have HB4 := Lib.hid (below_step HB3.out hb4)
  have HP4 := Lib.hid (blk_below H3.out.2 hb4)
  have HO := Lib.hid hO.reads
  clear hO hb4
  go_wp2_with fail
  refine (decode_any A 3 c [4, 8, 10] w4 (HL.out.below HB4.out) HO.out (by omega)).mono ?_
  rw [ten_dec.1, ten_dec.2.1, ten_dec.2.2]
  rintro e w5 ⟨rfl, hb5⟩
  have HB5 := Lib.hid (below_step HB4.out hb5)
  have HP5 := Lib.hid (blk_below HP4.out hb5)
  have hz5 := blk_new w5 (.cells (pfxV 0 zero16 0) 26)
  have hlt5 := blk_lt HP5.out
  clear hb5 HO
  go_wp2_with (refine wpList_store_blk hz5 26 0 (pfxV 4 ten8 8) (store_pfx_fit rfl rfl) (info_pfx rfl) (pfx_one _ _ _) _ _ rfl rfl rfl rfl ?_; intro w6 hg9 hs9 hb9; rw [splice_pfx _ _ _ ten8 rfl rfl] at hb9; have H6 := Lib.hid (And.intro hg9 hb9); clear hg9 hs9 hb9)
  have HS : Hid (WakS w w2.heap.size w5.heap.size w6) := ⟨below_grown (below_alloc HB5.out _) H6.out.1 HB5.out.size, blk_grown (blk_below HP5.out (below_alloc (Below.refl _ _) _)) H6.out.1 (fun e => by injection e with e; omega), H6.out.2⟩
  clear hz5
  refine wp_region_mix ((WakS w w2.heap.size w5.heap.size)) [(0, 0), (1, 0), (2, 0), (3, 0), (4, 0), (5, 0), (6, 0), (7, 0), (8, 0), (9, 0), (10, 0), (11, 0), (12, 0), (13, 0), (14, 0), (15, 0), (16, 0), (17, 0), (18, 0), (19, 0), (20, 0), (21, 0), (22, 0), (23, 0), (24, 0), (25, 0), (26, 2), (27, 2), (28, 0), (29, 0), (30, 2), (31, 2), (32, 0), (33, 0), (34, 0)] (by kernel_rfl) (by kernel_rfl) ((HS.out.step (below_drew1 _))) ?_
  simp only [List.map_cons, List.map_nil]
  iterate 15 (refine wpO_step0 rfl rfl (fun K hK => ?_); go_simp; refine hK _ _ ?_; clear hK K)
  refine wpO_loadW (t := 26) (ad := ⟨w2.heap.size, 0, none⟩) rfl rfl ?hw rfl rfl ((fun w0 hS => load_pfx ten8_B hS.p)) ?_
  case hw => go_simp
  refine wpO_loadW (t := 26) (ad := ⟨w5.heap.size, 0, none⟩) rfl rfl ?hw rfl rfl ((fun w0 hS => load_pfx ten8_B hS.q)) ?_
  case hw => go_simp
  refine wpO_step0 rfl rfl (fun K hK => ?_)
  rw [if_pos (show Region.wanted _ _ = true from rfl)]
  refine ⟨_, fun w0 => pfx_eql_exec rfl ⟨4, ten8, 8⟩ ⟨4, ten8, 8⟩ rfl rfl ten_ok ten_ok w0, hK _ _ ?_⟩
  clear hK K
  rw [(Pfx.eqB_iff _ _).2 rfl]
  iterate 3 (refine wpO_step0 rfl rfl (fun K hK => ?_); go_simp; refine hK _ _ ?_; clear hK K)
  refine wpO_loadW (t := 3) (ad := ⟨w2.heap.size, 17, none⟩) rfl rfl ?hw rfl rfl ((fun w0 hS => ((pfx_at ten8_B hS.p).all _ (Below.refl _ _)).2.1)) ?_
  case hw => go_simp
  iterate 3 (refine wpO_step0 rfl rfl (fun K hK => ?_); go_simp; refine hK _ _ ?_; clear hK K)
  refine wpO_loadW (t := 26) (ad := ⟨w2.heap.size, 0, none⟩) rfl rfl ?hw rfl rfl ((fun w0 hS => load_pfx ten8_B hS.p)) ?_
  case hw => go_simp
  refine wpO_step2 rfl rfl (HS.out.step (below_drew1 _)) (fun K hK => ?_)
  go_simp
  refine (ten_any _).mono ?_
  rintro e w7 ⟨rfl, hb7⟩
  have HS7 := Lib.hid ((HS.out.step (below_drew1 _)).step hb7)
  clear hb7
  refine hK _ _ ⟨HS7.out, ?_⟩
  clear hK K
  refine wpO_step2 rfl rfl (HS7.out) (fun K hK => ?_)
  go_simp
  refine (has_any ⟨4, ten8, 8⟩ 4 tenL _ (HL.out.below HS7.out.below) ten8_B tenL_B).mono ?_
  rw [ten_has]
  rintro e w8 ⟨rfl, hb7⟩
  have HS8 := Lib.hid (HS7.out.step hb7)
  clear hb7
  refine hK _ _ ⟨HS8.out, ?_⟩
  clear hK K
  iterate 2 (refine wpO_step0 rfl rfl (fun K hK => ?_); go_simp; refine hK _ _ ?_; clear hK K)
  refine wpO_step2 rfl rfl (HS8.out) (fun K hK => ?_)
  go_simp
  refine (ten_any _).mono ?_
  rintro e w9 ⟨rfl, hb7⟩
  have HS9 := Lib.hid (HS8.out.step hb7)
  clear hb7
  refine hK _ _ ⟨HS9.out, ?_⟩
  clear hK K
  refine wpO_step2 rfl rfl (HS9.out) (fun K hK => ?_)
  go_simp
  refine (nib5_any 4 tenL 1 _ (HL.out.below HS9.out.below) tenL_B).mono ?_
  rw [ten_nib]
  rintro e w10 ⟨rfl, hb7⟩
  have HS10 := Lib.hid (HS9.out.step hb7)
  clear hb7
  refine hK _ _ ⟨HS10.out, ?_⟩
  clear hK K
  iterate 3 (refine wpO_step0 rfl rfl (fun K hK => ?_); go_simp; refine hK _ _ ?_; clear hK K)
  refine wpO_nil ?_
  go_wp2
  go_ret
  exact ⟨rfl, HS10.out.below⟩
end Go.Proofs.YtcloepjeckbmoaaDoor
