/- Layer 20 (client): the law's wakes. -/
import Derived.Test.YtifejiclenpfoaaDoorClientTellsB
import Derived.Test.YtifejiclenpfoaaDoorClientTellsC
namespace Go.Proofs.YtifejiclenpfoaaDoor
open Go.RowKit
set_option linter.unusedVariables false
set_option linter.unusedSimpArgs false
set_option maxRecDepth 4000
set_option maxHeartbeats 8000000 in
set_option maxRecDepth 100000 in
theorem wakes20_any (w : World) (hL : Laid w) : Calls Tryd.prog 10 #[] w fun e w' => e = .returned (.bool true) ∧ Below w.heap.size w w' := by
  have HL := Lib.hid hL
  clear hL
  obtain ⟨b, hb⟩ : ∃ b, b = oneB := ⟨_, rfl⟩
  have HBB : Hid (batB b = true) := Lib.hid (hb ▸ oneB_bat)
  have HBO : Hid (Oku b) := Lib.hid (hb ▸ oneB_ok)
  have HBE := Lib.hid hb
  have hin : (1 : Int) ≤ 1 ∧ (1 : Int) ≤ 2 := by decide
  have HIN := Lib.hid hin
  obtain ⟨k1, hk1⟩ : ∃ k, k = newK 1 := ⟨_, rfl⟩
  have HK1 := Lib.hid hk1
  have HO1 : Hid k1.ok := Lib.hid (hk1 ▸ ⟨by decide, by decide, fun r hr => by cases hr⟩)
  have HS1 : Hid (subN k1 b = 0 ∧ subK k1 b = ⟨1, 1, true, b⟩) := Lib.hid (hk1 ▸ sub_new hin HBB.out)
  have hcall := cnew_any 1 w HL.out
  rw [newC_in hin, newE_in hin, ← hk1] at hcall
  clear hb hk1 hin
  go_enter Tryd.func10, Tryd.ntmps10
  go_wp2_with fail
  refine hcall.mono ?_
  clear hcall
  rintro e w1 ⟨rfl, hb1⟩
  have HB1 := Lib.hid hb1
  obtain ⟨W2, hW2⟩ : ∃ W2, w1.alloc (.cells (cliV ckZ none 0 0) 27) = W2 := ⟨_, rfl⟩
  have HZ2 : Hid (W2.heap[w1.heap.size]? = some (.cells (cliV ckZ none 0 0) 27 (0, 0))) := Lib.hid (by rw [← hW2]; exact blk_new _ _)
  have HB2 : Hid (Below w.heap.size w W2) := Lib.hid (hW2 ▸ below_alloc hb1 _)
  have hw2 : w1.alloc (.cells #[.int .i64 0, .int .u32 0, .slice none 0 0, .bool false] 27) = W2 := hW2
  clear hb1 hW2
  go_upto_region 4 with (first | ((with_reducible show wpList _ _ _ (Oper.mk _ (Op.store _ _ _) _ _ _ _ :: _) _ _); refine wpList_store_blk HZ2.out 27 0 (cliV k1 none 0 0) (Nat.le_refl _) (info_cli _ _ _ _) (cli_one _ _ _ _) _ _ rfl rfl rfl rfl ?_; intro w3 hg9 hs9 hb9; rw [splice_cli] at hb9; have H3 := Lib.hid (And.intro hg9 hb9); clear hg9 hs9 hb9))
  try dsimp only [Act.put]
  have HX3 := Lib.hid H3.out.2
  have HB3 := Lib.hid (below_grown HB2.out H3.out.1 HB1.out.size)
  clear H3 hw2 HZ2 HB2
  refine wp_region_mix ((fun w0 => Below w3.heap.size w3 w0)) [(0, 0), (1, 2), (2, 2), (3, 4), (4, 4), (5, 4), (6, 3), (7, 3)] (by kernel_rfl) (by kernel_rfl) ((below_drew1 _)) ?_
  simp only [List.map_cons, List.map_nil]
  refine wpO_loadW (t := 27) (ad := ⟨w1.heap.size, 0, none⟩) rfl rfl ?hw rfl rfl ((fun w0 hS => load_cli (blk_below HX3.out hS))) ?_
  case hw => go_simp
  refine wpO_step2 rfl rfl (below_drew1 _) (fun K hK => ?_)
  go_simp
  refine (one20_any _).mono ?_
  rintro e w4 ⟨A4, rfl, hO4, hb4⟩
  rw [← HBE.out] at hO4
  have HV4 := Lib.hid (below_step (below_drew1 w3) hb4)
  have HO4 := Lib.hid (hO4.lower HB3.out.size)
  clear hO4 hb4
  refine hK _ _ ⟨HV4.out, ?_⟩
  clear hK K
  refine wpO_step2 rfl rfl (HV4.out) (fun K hK => ?_)
  go_simp
  refine (csubmit_any k1 none 0 0 A4 1 1 b w4 (HL.out.below (below_step HB3.out HV4.out)) (HK1.out ▸ RS.nil _ _ _ _) HO1.out (by omega) HO4.out.reads HBO.out (by omega)).mono ?_
  rw [HS1.out.1, HS1.out.2]
  rintro e w5 ⟨A5, n5, c5, rfl, hO5, hb5⟩
  have HV5 := Lib.hid (below_step HV4.out hb5)
  have HO5 := Lib.hid (hO5.lower (below_step HB3.out HV4.out).size)
  have HN5 : Hid (n5 = 1) := Lib.hid (by have := hO5.len; rw [← this]; show b.length = 1; rw [HBE.out]; rfl)
  have HA5 := Lib.hid hO5.base_
  clear hO5 hb5 HO4
  refine hK _ _ ⟨HV5.out, ?_⟩
  clear hK K
  iterate 3 (refine wpO_step4 rfl rfl (fun K hK => ?_); go_simp; refine hK _ _ ?_; clear hK K)
  refine wpO_step3 rfl rfl (fun K hK => ?_)
  rw [if_pos (show Region.wanted _ _ = true from rfl)]
  refine oper_store_blk (blk_below HX3.out HV5.out) 27 0 (cliV ⟨1, 1, true, b⟩ A5 n5 c5) (Nat.le_refl _) (info_cli _ _ _ _) (cli_one _ _ _ _) _ _ rfl rfl rfl ?_
  intro w6 hg9 hs9 hb9
  rw [splice_cli] at hb9
  have HX6 := Lib.hid hb9
  have HB6 := Lib.hid (below_grown (below_step HB3.out HV5.out) hg9 HB1.out.size)
  have HO6 : Hid (OS updK w6 w.heap.size A5 n5 c5 b) := Lib.hid (OS.grown HO5.out hg9 (fun ad e h => by have h1 := HA5.out ad e; have := blk_lt HX3.out; have := HV4.out.size; injection h with h; omega))
  clear hg9 hs9 hb9 HX3 HO5 HA5
  refine hK _ _ ?_
  clear hK K
  refine wpO_step3 rfl rfl (fun K hK => ?_); go_simp; refine hK _ _ ?_; clear hK K
  refine wpO_nil ?_
  have hca : ckB ⟨1, 1, true, b⟩ = true := ckB_away HIN.out (by decide) HBB.out
  have hok : Ck.ok ⟨1, 1, true, b⟩ := ⟨(by decide : (Lit.int .i64 (1 : Int)).wf = true), (by decide : (Lit.int .u32 (1 : Int)).wf = true), HBO.out⟩
  have hcall := cask_any ⟨1, 1, true, b⟩ A5 n5 c5 2 w6 (HL.out.below HB6.out) HO6.out.reads hok (by have := HN5.out; omega)
  have hak := ask_away (tg := 2) hca rfl (by decide)
  rw [hak.1, hak.2] at hcall
  obtain ⟨m, hm⟩ : ∃ m, (⟨6, 2 + (⟨1, 1, true, b⟩ : Ck).num, 2, (⟨1, 1, true, b⟩ : Ck).seq, (⟨1, 1, true, b⟩ : Ck).t⟩ : Gm) = m := ⟨_, rfl⟩
  rw [hm] at hcall
  have HM := Lib.hid hm
  have HMO : Hid (AskOk m) := Lib.hid (hm ▸ ⟨rfl, (by decide : (2 : Int) < 2 + 1 ∧ (2 : Int) + 1 ≤ 4), (by decide : (1 : Int) ≤ 2 ∧ (2 : Int) ≤ 2)⟩)
  have HMT : Hid (m.t = b) := Lib.hid (hm ▸ rfl)
  have HM6 : Hid (m.kd = 6 ∧ m.frm = 3 ∧ m.seq = 1) := Lib.hid (hm ▸ ⟨rfl, rfl, rfl⟩)
  have HCA := Lib.hid hca
  have HOK := Lib.hid hok
  clear hca hak hok hm
  go_wp2_with (first | ((with_reducible show wpList _ _ _ (Oper.mk _ (Op.load _ _) _ _ _ _ :: _) _ _); refine wpList_load_g (load_cli HX6.out) _ rfl rfl (by go_simp) ?_))
  refine hcall.mono ?_
  clear hcall
  rintro e w7 ⟨A7, n7, c7, rfl, hO7, hb7⟩
  have HB7 := Lib.hid (below_step HB6.out hb7)
  have HX7 := Lib.hid (blk_below HX6.out hb7)
  have HO7 := Lib.hid (HO6.out.below hb7)
  have HT7 := Lib.hid hO7.reads
  have HA7 := Lib.hid hO7.base_
  have HS7 := Lib.hid hb7.size
  clear hO7 hb7 HX6 HO6 HB6
  go_upto_region 6 with (first | ((with_reducible show wpList _ _ _ (Oper.mk _ (Op.store _ _ _) _ _ _ _ :: _) _ _); refine wpList_store_blk (blk_new w7 (.cells (gmV gmZ none 0 0) 45)) 45 0 (gmV m A7 n7 c7) (Nat.le_refl _) (info_gm _ _ _ _) (gm_one _ _ _ _) _ _ rfl rfl rfl rfl ?_; intro w8 hg9 hs9 hb9; rw [splice_gm] at hb9; have H8 := Lib.hid (And.intro hg9 hb9); clear hg9 hs9 hb9))
  try dsimp only [Act.put]
  have hb78 := below_grown (below_alloc (Below.refl w7.heap.size w7) (.cells (gmV gmZ none 0 0) 45)) H8.out.1 (Nat.le_refl _)
  have HB8 := Lib.hid (below_step HB7.out hb78)
  have HX8 := Lib.hid (blk_below HX7.out hb78)
  have HO8 := Lib.hid (HO7.out.below hb78)
  have HT8 := Lib.hid (HT7.out.below hb78)
  have HG8 := Lib.hid H8.out.2
  obtain ⟨g8, hg8⟩ : ∃ g, w7.heap.size = g := ⟨_, rfl⟩
  rw [hg8] at HG8 ⊢
  have HLD := Lib.hid (gm_ld HG8.out)
  have HKD := Lib.hid HLD.out.kind
  have HSQ := Lib.hid HLD.out.seq
  have HFR := Lib.hid HLD.out.frm
  rw [HM6.out.1] at HKD
  rw [HM6.out.2.2] at HSQ
  rw [HM6.out.2.1] at HFR
  have HN7 : Hid (n7 = 1) := Lib.hid (by have := HT8.out.len; rw [HMT.out, HBE.out] at this; rw [← this]; rfl)
  have hcall := fcheck_ask m A7 n7 c7 w8 (HL.out.below HB8.out) HT8.out (by rw [HMT.out]; exact HBO.out) (by have := HN7.out; omega) HMO.out (by rw [HM6.out.2.2]; decide) (by rw [HM6.out.2.2]; decide) (by rw [HMT.out]; exact HBB.out)
  clear hb78 H8 HX7 HO7 HT7 HB7 hg8 HA7 HS7
  go_wp2_with (first | ((with_reducible show wpList _ _ _ (Oper.mk _ (Op.load _ _) _ _ _ _ :: _) _ _); refine wpList_load_g (HKD.out) _ rfl rfl (by go_simp) ?_) | ((with_reducible show wpList _ _ _ (Oper.mk _ (Op.load _ _) _ _ _ _ :: _) _ _); refine wpList_load_g (HSQ.out) _ rfl rfl (by go_simp) ?_) | ((with_reducible show wpList _ _ _ (Oper.mk _ (Op.load _ _) _ _ _ _ :: _) _ _); refine wpList_load_g (HFR.out) _ rfl rfl (by go_simp) ?_) | ((with_reducible show wpList _ _ _ (Oper.mk _ (Op.load _ _) _ _ _ _ :: _) _ _); refine wpList_load_g (HLD.out.all) _ rfl rfl (by go_simp) ?_))
  refine hcall.mono ?_
  clear hcall
  rintro e w9 ⟨rfl, hb9⟩
  have HB9 := Lib.hid (below_step HB8.out hb9)
  have HX9 := Lib.hid (blk_below HX8.out hb9)
  have HO9 := Lib.hid (HO8.out.below hb9)
  clear hb9 HB8 HX8 HO8 HT8 HG8 HLD HKD HSQ HFR
  obtain ⟨q, hq⟩ : ∃ q, mw = q := ⟨_, rfl⟩
  have HQ : Hid (∀ W : World, (Instr.build 45 #[(0, .int .i64 7), (1, .int .i64 2), (2, .int .i64 3), (11, .int .u32 1), (8, .int .u64 7)]).run Tryd.prog W = .ok (.agg (msgV q)) W) := Lib.hid (fun W => by rw [← hq]; exact run_build_mw W)
  have hcall := chear_any ⟨1, 1, true, b⟩ A5 n5 c5 mw w9 (HL.out.below HB9.out) HO9.out.reads HOK.out (by have := HN5.out; omega) mw_fits
  rw [show hearB ⟨1, 1, true, b⟩ mw.kind mw.tgt mw.seq mw.err = true from rfl, show hearK ⟨1, 1, true, b⟩ true = ⟨1, 1, false, []⟩ by unfold hearK; rw [HCA.out]; rfl, show hearH ⟨1, 1, true, b⟩ true mw.err mw.index = ⟨true, 0, 1, 7, b⟩ by unfold hearH; rw [HCA.out]; rfl, show ckE ⟨1, 1, true, b⟩ = 0 by unfold ckE; rw [HCA.out]; rfl, hq] at hcall
  clear hq
  go_wp2_with (first | ((with_reducible show wpList _ _ _ (Oper.mk _ (Op.load _ _) _ _ _ _ :: _) _ _); refine wpList_load_g (load_cli HX9.out) _ rfl rfl (by go_simp) ?_) | ((with_reducible show wpList _ _ _ (Oper.mk _ (Op.build 45 _) _ _ _ _ :: _) _ _); refine wpList_exw rfl (exec_build5 rfl rfl rfl rfl rfl rfl (HQ.out _)) ?_))
  refine hcall.mono ?_
  clear hcall
  rintro e w10 ⟨A1, n1, c1, A2, n2, c2, rfl, hO1, hO2, hb10⟩
  have HB10 := Lib.hid (below_step HB9.out hb10)
  have HX10 := Lib.hid (blk_below HX9.out hb10)
  have hn1 : n1 = 0 := hO1.len.symm
  subst hn1
  have hxa := blk_below HX10.out (below_alloc (Below.refl _ _) (.cells (hdV hdZ none 0 0) 61))
  have hha := blk_new w10 (.cells (hdV hdZ none 0 0) 61)
  have HSZ : Hid (w1.heap.size < w10.heap.size) := Lib.hid (blk_lt HX10.out)
  clear hO1 hO2 hb10 HX9 HO9
  go_upto_region 9 with (first | ((with_reducible show wpList _ _ _ (Oper.mk _ (Op.store _ _ _) _ _ _ _ :: _) _ _); refine wpList_store_blk hxa 27 0 (cliV ⟨1, 1, false, []⟩ A1 0 c1) (Nat.le_refl _) (info_cli _ _ _ _) (cli_one _ _ _ _) _ _ rfl rfl rfl rfl ?_; intro w11 hg9 hs9 hb9; rw [splice_cli] at hb9; have H11 := Lib.hid (And.intro hg9 hb9); clear hg9 hs9 hb9) | ((with_reducible show wpList _ _ _ (Oper.mk _ (Op.store _ _ _) _ _ _ _ :: _) _ _); refine wpList_store_blk (blk_grown hha H11.out.1 (fun e => by injection e with e; have := HSZ.out; omega)) 61 0 (hdV ⟨true, 0, 1, 7, b⟩ A2 n2 c2) (Nat.le_refl _) (info_hd _ _ _ _) (hd_one _ _ _ _) _ _ rfl rfl rfl rfl ?_; intro w12 hg9 hs9 hb9; rw [splice_hd] at hb9; have H12 := Lib.hid (And.intro hg9 hb9); clear hg9 hs9 hb9))
  try dsimp only [Act.put]
  have HC12 := Lib.hid ((cli_at (blk_grown H11.out.2 H12.out.1 (fun e => by injection e with e; have := HSZ.out; omega))).all _ (Below.refl _ _))
  have HD12 := Lib.hid (load_hdf H12.out.2)
  have HB12 := Lib.hid (below_grown (below_grown (below_alloc HB10.out (.cells (hdV hdZ none 0 0) 61)) H11.out.1 HB1.out.size) H12.out.1 HB10.out.size)
  clear hxa hha H11 H12 HX10 HB10
  go_wp2_with (first | ((with_reducible show wpList _ _ _ (Oper.mk _ (Op.load _ _) _ _ _ _ :: _) _ _); refine wpList_load_g (HD12.out.1) _ rfl rfl (by go_simp) ?_) | ((with_reducible show wpList _ _ _ (Oper.mk _ (Op.load _ _) _ _ _ _ :: _) _ _); refine wpList_load_g (HD12.out.2) _ rfl rfl (by go_simp) ?_) | ((with_reducible show wpList _ _ _ (Oper.mk _ (Op.load _ _) _ _ _ _ :: _) _ _); refine wpList_load_g (HC12.out.away) _ rfl rfl (by go_simp) ?_) | ((with_reducible show wpList _ _ _ (Oper.mk _ (Op.load _ _) _ _ _ _ :: _) _ _); refine wpList_load_g (HC12.out.upd) _ rfl rfl (by go_simp) ?_))
  go_ret
  exact ⟨rfl, HB12.out⟩
end Go.Proofs.YtifejiclenpfoaaDoor

/- Layer 15 (frame): entries, and whole messages, in memory. -/
namespace Go.Proofs.YtifejiclenpfoaaDoor
open Go.RowKit
set_option linter.unusedVariables false
set_option linter.unusedSimpArgs false
set_option maxRecDepth 4000
/-- An entry of a journal, and where its batch lies. -/
structure En where
  epoch : Int
  client : Int
  seq : Int
  A : Option Addr
  n : Nat
  c : Nat
  t : List Upd
def enC (e : En) : List Value := [.int .u64 e.epoch, .int .i64 e.client, .int .u32 e.seq, .slice e.A e.n e.c]
def enV (e : En) : Array Value := #[.int .u64 e.epoch, .int .i64 e.client, .int .u32 e.seq, .slice e.A e.n e.c]
def enZ : En := ⟨0, 0, 0, none, 0, 0, []⟩
theorem zero_en : (Tryd.prog.info? 95).map (fun i => (i.zero, i.size, i.bytes)) = some (some (.agg (enV enZ)), 4, 48) := by kernel_rfl
theorem info_en (e : En) : (Tryd.prog.info? 95).map (·.size) = some (enV e).size := by show _ = some 4; kernel_rfl
def enK : Shape En where
  t := 95
  ts := 34
  sz := 4
  bytes := 48
  z := enZ
  ok := fun _ => True
  enc := enC
  val := fun x => .agg (enV x)
  len := fun _ _ => rfl
  one := fun x u hu => by
    simp only [enC, List.mem_cons, List.not_mem_nil, or_false] at hu
    rcases hu with rfl | rfl | rfl | rfl <;> rfl
  okz := trivial
  pos := by omega
  bpos := by omega
  blt := by omega
  und := Tryd.underlying34
  info := zero_en
  venc := fun _ => rfl
  ld := fun w b o x _ h => load_cells (cs := enV x) h Tryd.underlying95 rfl (info_en _)
structure En.ok (e : En) : Prop where
  epoch : (Lit.int .u64 e.epoch).wf = true
  client : (Lit.int .i64 e.client).wf = true
  seq : (Lit.int .u32 e.seq).wf = true
  t : Oku e.t
/-- What holds of entries that were handed in. -/
structure EnIn (W : World) (e : En) : Prop where
  rs : RS updK W e.A e.n e.c e.t
  ok : e.ok
  small : e.n * 64 ≤ 140737488351232
/-- A whole message, and where its parts lie. -/
structure Fm where
  kd : Int
  frm : Int
  tgt : Int
  epo : Int
  pi : Int
  pe : Int
  EA : Option Addr
  en : Nat
  ec : Nat
  done : Int
  ok : Bool
  idx : Int
  stm : Int
  bi : Int
  be : Int
  RA : Option Addr
  rn : Nat
  rc : Nat
  s0 : Int
  i0 : Int
  s1 : Int
  i1 : Int
  s2 : Int
  i2 : Int
  seq : Int
  BA : Option Addr
  bn : Nat
  bc : Nat
  err : Int
  es : List En
  rib : List Rte
  t : List Upd
structure Fm.wf (m : Fm) : Prop where
  kd : (Lit.int .i64 m.kd).wf = true
  frm : (Lit.int .i64 m.frm).wf = true
  tgt : (Lit.int .i64 m.tgt).wf = true
  epo : (Lit.int .u64 m.epo).wf = true
  pi : (Lit.int .u64 m.pi).wf = true
  pe : (Lit.int .u64 m.pe).wf = true
  done : (Lit.int .u64 m.done).wf = true
  idx : (Lit.int .u64 m.idx).wf = true
  stm : (Lit.int .u64 m.stm).wf = true
  bi : (Lit.int .u64 m.bi).wf = true
  be : (Lit.int .u64 m.be).wf = true
  s0 : (Lit.int .u32 m.s0).wf = true
  i0 : (Lit.int .u64 m.i0).wf = true
  s1 : (Lit.int .u32 m.s1).wf = true
  i1 : (Lit.int .u64 m.i1).wf = true
  s2 : (Lit.int .u32 m.s2).wf = true
  i2 : (Lit.int .u64 m.i2).wf = true
  seq : (Lit.int .u32 m.seq).wf = true
  err : (Lit.int .i64 m.err).wf = true
/-- What holds of a message that was handed in, and of what it has. -/
structure FmIn (W : World) (m : Fm) : Prop where
  wf : m.wf
  es : RS enK W m.EA m.en m.ec m.es
  each : ∀ e ∈ m.es, EnIn W e
  rib : RS rteK W m.RA m.rn m.rc m.rib
  okr : Okr m.rib
  t : RS updK W m.BA m.bn m.bc m.t
  oku : Oku m.t
  esm : m.en * 48 ≤ 140737488351232
  rsm : m.rn * 56 ≤ 140737488351232
  tsm : m.bn * 64 ≤ 140737488351232
theorem EnIn.below {W W1 : World} {e : En} (h : EnIn W e) (hb : Below W.heap.size W W1) : EnIn W1 e := ⟨h.rs.below hb, h.ok, h.small⟩
theorem FmIn.below {W W1 : World} {m : Fm} (h : FmIn W m) (hb : Below W.heap.size W W1) : FmIn W1 m :=
  ⟨h.wf, h.es.below hb, fun e he => (h.each e he).below hb, h.rib.below hb, h.okr, h.t.below hb, h.oku, h.esm, h.rsm, h.tsm⟩
end Go.Proofs.YtifejiclenpfoaaDoor

/- Layer 20 (client): what the law's ops need: msg, spoil; the document's Copy, SameHeard. -/
namespace Go.Proofs.YtifejiclenpfoaaDoor
open Go.RowKit
set_option linter.unusedVariables false
set_option linter.unusedSimpArgs false
set_option maxRecDepth 4000
/-- What may be written over: a row in cells of its own. -/
structure Soft (w : World) (A : Option Addr) (n c : Nat) : Prop where
  bare : A = none → n = 0
  cap : n ≤ c
  small : n ≤ 281474976710656
  form : ∀ ad, A = some ad → ad.spot = none ∧ ∃ cur t, w.heap[ad.block]? = some (.cells cur t (0, 0)) ∧ ad.off + c * 22 ≤ cur.size
theorem Soft.grown {w w1 : World} {A : Option Addr} {n c : Nat} (h : Soft w A n c) {row : Option Nat} (hg : w.grownBy w1 row) (hne : ∀ ad, A = some ad → some ad.block ≠ row) : Soft w1 A n c :=
  ⟨h.bare, h.cap, h.small, fun ad e => by
    obtain ⟨h2, cur, t, h3, h4⟩ := h.form ad e
    exact ⟨h2, cur, t, blk_grown h3 hg (hne ad e), h4⟩⟩
theorem Soft.below {w w1 : World} {A : Option Addr} {n c : Nat} (h : Soft w A n c) (hb : Below w.heap.size w w1) : Soft w1 A n c := h.grown (grown_of_below hb none) (fun _ _ => by simp)
end Go.Proofs.YtifejiclenpfoaaDoor

/- Layer 20 (client): the document's Copy, Ask. -/
namespace Go.Proofs.YtifejiclenpfoaaDoor
open Go.RowKit
set_option linter.unusedVariables false
set_option linter.unusedSimpArgs false
set_option maxRecDepth 4000
end Go.Proofs.YtifejiclenpfoaaDoor

/- Layer 20 (client): the document's Hear. -/
namespace Go.Proofs.YtifejiclenpfoaaDoor
open Go.RowKit
set_option linter.unusedVariables false
set_option linter.unusedSimpArgs false
set_option maxRecDepth 4000
end Go.Proofs.YtifejiclenpfoaaDoor

/- Layer 20 (client): the law's asks. -/
namespace Go.Proofs.YtifejiclenpfoaaDoor
open Go.RowKit
set_option linter.unusedVariables false
set_option linter.unusedSimpArgs false
set_option maxRecDepth 4000
end Go.Proofs.YtifejiclenpfoaaDoor

/- A region that draws its order, where two or three operations that act may stand in any order: all orders are walked. -/
namespace Go.Proofs.YtifejiclenpfoaaDoor
open Go.RowKit
set_option linter.unusedVariables false
set_option linter.unusedSimpArgs false
set_option maxRecDepth 4000

section
variable {P : Program} {S : World → Prop} {ops : Array Oper} {md : Region.Mode} {cl : Nat → Nat}
inductive OrdN where
  | lin (l : List Nat)
  | fork (l : List Nat) (i j : Nat) (r s : OrdN)
  | fork3 (l : List Nat) (i j k : Nat) (r s t : OrdN)
def OrdN.len : OrdN → Nat
  | .lin l => l.length
  | .fork l _ _ r _ => l.length + (r.len + 1)
  | .fork3 l _ _ _ r _ _ => l.length + (r.len + 1)
def wpN (P : Program) (S : World → Prop) (ops : Array Oper) (cl : Nat → Nat) (K : Act → World → Prop) : OrdN → Act → World → Prop
  | .lin l, a, w => wpO P S ops (onlyNormal K) cl l a w
  | .fork l i j r s, a, w => wpO P S ops (onlyNormal fun a w => wpO P S ops (onlyNormal (wpN P S ops cl K r)) cl [i] a w ∧ wpO P S ops (onlyNormal (wpN P S ops cl K s)) cl [j] a w) cl l a w
  | .fork3 l i j k r s t, a, w => wpO P S ops (onlyNormal fun a w => wpO P S ops (onlyNormal (wpN P S ops cl K r)) cl [i] a w ∧ wpO P S ops (onlyNormal (wpN P S ops cl K s)) cl [j] a w ∧ wpO P S ops (onlyNormal (wpN P S ops cl K t)) cl [k] a w) cl l a w
def ordN (md : Region.Mode) (ops : Array Oper) (cl : Nat → Nat) : OrdN → Array Bool → Bool
  | .lin l, listed => ordB md ops cl l listed
  | .fork l i j r s, listed => ordP md ops cl l listed && (Region.ready md ops (afterL l listed) == [i, j]) && decide (r.len = s.len) && ordN md ops cl r ((afterL l listed).setIfInBounds i true) && ordN md ops cl s ((afterL l listed).setIfInBounds j true)
  | .fork3 l i j k r s t, listed => ordP md ops cl l listed && (Region.ready md ops (afterL l listed) == [i, j, k]) && decide (r.len = s.len) && decide (r.len = t.len) && ordN md ops cl r ((afterL l listed).setIfInBounds i true) && ordN md ops cl s ((afterL l listed).setIfInBounds j true) && ordN md ops cl t ((afterL l listed).setIfInBounds k true)

theorem wpM_of_wpN (hf : Fin md ops cl) (hs : Region.noSelect ops = true) {K : Act → World → Prop} : ∀ (t : OrdN) (listed : Array Bool) (a : Act) (w : World), Closed md ops listed → ordN md ops cl t listed = true → wpN P S ops cl K t a w →
    wpM P S md ops (onlyNormal K) cl t.len listed a w
  | .lin l, listed, a, w, hcl, hB, h => wpM_of_wpO hf hs (fun c dst v a w h => h) l listed a w hcl hB h
  | .fork l i j r s, listed, a, w, hcl, hB, h => by
    simp only [ordN, Bool.and_eq_true, decide_eq_true_eq, beq_iff_eq] at hB
    obtain ⟨⟨⟨⟨h1, h2⟩, h3⟩, h4⟩, h5⟩ := hB
    show wpM P S md ops (onlyNormal K) cl (l.length + (r.len + 1)) listed a w
    rw [Nat.add_comm]
    refine wpM_prefix hf hs l listed a w hcl h1 h (fun a w hc hx => ?_)
    refine ⟨fun h => (by rw [h2] at h; cases h), fun k hk => ?_⟩
    have hri : i ∈ Region.ready md ops (afterL l listed) := by rw [h2]; simp
    have hrj : j ∈ Region.ready md ops (afterL l listed) := by rw [h2]; simp
    rw [h2] at hk
    rcases List.mem_cons.1 hk with rfl | hk
    · exact mOp_normal (fun a' w' h' => wpM_of_wpN hf hs r _ a' w' (hc.set hri) h4 h') hx.1
    · rw [List.mem_singleton] at hk
      subst hk
      exact mOp_normal (fun a' w' h' => by rw [h3]; exact wpM_of_wpN hf hs s _ a' w' (hc.set hrj) h5 h') hx.2
  | .fork3 l i j k r s t, listed, a, w, hcl, hB, h => by
    simp only [ordN, Bool.and_eq_true, decide_eq_true_eq, beq_iff_eq] at hB
    obtain ⟨⟨⟨⟨⟨⟨h1, h2⟩, h3⟩, h6⟩, h4⟩, h5⟩, h7⟩ := hB
    show wpM P S md ops (onlyNormal K) cl (l.length + (r.len + 1)) listed a w
    rw [Nat.add_comm]
    refine wpM_prefix hf hs l listed a w hcl h1 h (fun a w hc hx => ?_)
    refine ⟨fun h => (by rw [h2] at h; cases h), fun q hq => ?_⟩
    have hri : i ∈ Region.ready md ops (afterL l listed) := by rw [h2]; simp
    have hrj : j ∈ Region.ready md ops (afterL l listed) := by rw [h2]; simp
    have hrk : k ∈ Region.ready md ops (afterL l listed) := by rw [h2]; simp
    rw [h2] at hq
    rcases List.mem_cons.1 hq with rfl | hq
    · exact mOp_normal (fun a' w' h' => wpM_of_wpN hf hs r _ a' w' (hc.set hri) h4 h') hx.1
    · rcases List.mem_cons.1 hq with rfl | hq
      · exact mOp_normal (fun a' w' h' => by rw [h3]; exact wpM_of_wpN hf hs s _ a' w' (hc.set hrj) h5 h') hx.2.1
      · rw [List.mem_singleton] at hq
        subst hq
        exact mOp_normal (fun a' w' h' => by rw [h6]; exact wpM_of_wpN hf hs t _ a' w' (hc.set hrk) h7 h') hx.2.2
end
theorem wp_region_forkN {P : Program} (S : World → Prop) {ops : Array Oper} {id : Nat} {Q : Exit → Act → World → Prop} {a : Act} {w : World} (t : OrdN) (l : List (Nat × Nat)) (hm : P.follows .mixedOrders = true)
    (hB : (finB .any ops l && Region.noSelect ops && decide (t.len = ops.size) && ordN .any ops (clOf l) t (Array.replicate ops.size false)) = true)
    (hS : S w.drew) (h : wpN P S ops (clOf l) (Q .normal) t a w.drew) : (Code.region id ops true).wp P Q a w := by
  simp only [Bool.and_eq_true, decide_eq_true_eq] at hB
  refine wp_mono (Q := onlyNormal (Q .normal)) (wp_region_any hm (wpAny_of_wpM (S := S) (cl := clOf l) (fin_of hB.1.1.1) _ _ _ _ (Closed.start _) hS ?_)) (fun e a w hq => ?_)
  · have := wpM_of_wpN (P := P) (S := S) (md := .any) (cl := clOf l) (fin_of hB.1.1.1) hB.1.1.2 t (Array.replicate ops.size false) a w.drew (Closed.start _) hB.2 h
    rw [hB.1.2] at this
    exact this
  · cases e <;> first | exact hq | exact hq.elim
end Go.Proofs.YtifejiclenpfoaaDoor

/- Layer 20 (client): the law's ops in memory. -/
namespace Go.Proofs.YtifejiclenpfoaaDoor
open Go.RowKit
set_option linter.unusedVariables false
set_option linter.unusedSimpArgs false
set_option maxRecDepth 4000
/-- What happens, and where its batch lies. -/
structure Opn where
  kind : Int
  tg : Int
  A : Option Addr
  n : Nat
  c : Nat
  t : List Upd
  m : Fm
/-- What holds of an op that was handed in. -/
structure OpIn (W : World) (o : Opn) : Prop where
  rs : RS updK W o.A o.n o.c o.t
  oku : Oku o.t
  small : o.n * 64 ≤ 140737488351232
  m : FmIn W o.m
theorem OpIn.below {W W1 : World} {o : Opn} (h : OpIn W o) (hb : Below W.heap.size W W1) : OpIn W1 o := ⟨h.rs.below hb, h.oku, h.small, h.m.below hb⟩
/-- A block of another type is another block. -/
theorem OS.apart {α : Type} {S : Shape α} {w : World} {base : Nat} {A : Option Addr} {n c : Nat} {l : List α} (h : OS S w base A n c l) {g : Nat} {cs : Array Value} {t : TypeId} (hz : w.heap[g]? = some (.cells cs t (0, 0))) (hne : S.t ≠ t) : ∀ ad, A = some ad → ad.block ≠ g := fun ad e hg => by
  obtain ⟨_, _, cur, hh, _⟩ := h.ov.form ad e
  rw [hg, hz] at hh
  injection hh with hh
  injection hh with h1 h2
  exact hne h2.symm
theorem OS.grownT {α : Type} {S : Shape α} {w w1 : World} {base : Nat} {A : Option Addr} {n c : Nat} {l : List α} (h : OS S w base A n c l) {g : Nat} {cs : Array Value} {t : TypeId} (hz : w.heap[g]? = some (.cells cs t (0, 0))) (hne : S.t ≠ t) (hg : w.grownBy w1 (some g)) : OS S w1 base A n c l :=
  h.grown hg (fun ad e k => h.apart hz hne ad e (by injection k))
end Go.Proofs.YtifejiclenpfoaaDoor

/- Layer 20 (client): the law ClientTells. -/
namespace Go.Proofs.YtifejiclenpfoaaDoor
open Go.RowKit
set_option linter.unusedVariables false
set_option linter.unusedSimpArgs false
set_option maxRecDepth 4000
theorem RN.spots {w : World} {k : IntKind} {A : Option Addr} {n c : Nat} {xs : List Int} (h : RN w k A n c xs) (hp : 0 < n) : ∃ b o, A = some ⟨b, o, none⟩ ∧ ∀ i, i < n → w.cell? ⟨b, o + i, none⟩ = some (.int k (xs.getD i 0)) := by
  obtain ⟨ad, rfl, hc⟩ := h.rv.cells hp
  have hl := h.len
  have h0 := hc 0 _ (nums_get k xs 0 (by omega))
  have hs : ad.spot = none := by
    have k := cell_spot2 h0
    unfold Addr.add at k
    simpa using k
  obtain ⟨b, o, s⟩ := ad
  simp only at hs
  subst hs
  exact ⟨b, o, rfl, fun i hi => by
    have := hc i _ (nums_get k xs i (by omega))
    rwa [add_plain2] at this⟩
/-- Clients that were handed in. -/
def ClisIn (w : World) (l : List Cli) : Prop := ∀ x ∈ l, RS updK w x.A x.n x.c x.k.t ∧ x.k.ok ∧ x.n ≤ 140737488355328
set_option maxHeartbeats 8000000 in
set_option maxRecDepth 100000 in
theorem tells20_any (A : Option Addr) (n c : Nat) (l : List Cli) (A2 : Option Addr) (m c2 : Nat) (ns : List Int) (w : World) (hL : Laid w) (hl : RS cliK w A n c l) (hi : ClisIn w l) (hn : n ≤ 140737488355328) (hm : RN w .i64 A2 m c2 ns) (hmm : m ≤ 140737488355328) :
    Calls Tryd.prog 6 #[.slice A n c, .slice A2 m c2] w fun e w' => e = .returned (.bool true) ∧ Below w.heap.size w w' := by
  have HLW := Lib.hid hL
  have HLS := Lib.hid hl
  have HIN := Lib.hid hi
  have HNS := Lib.hid hm
  clear hL hl hi hm
  go_enter Tryd.func6, Tryd.ntmps6
  go_wp2_with fail
  refine (wakes20_any w HLW.out).mono ?_
  rintro e w1 ⟨rfl, hb1⟩
  have HB1 := Lib.hid hb1
  clear hb1
  go_wp2_with fail
  go_loopw [19] (fun s19 wr => ∃ j : Nat, s19 = .int .i64 j ∧ Hid (j ≤ n ∧ Below w.heap.size w wr)) (fun x _ => n - (intOf x).toNat)
  case atStart => exact ⟨0, rfl, Nat.zero_le _, HB1.out⟩
  case round =>
    obtain ⟨j, rfl, HI⟩ := hrel
    obtain ⟨wk, rfl⟩ : ∃ wk, wk = wr := ⟨wr, rfl⟩
    have HBK := Lib.hid HI.out.2
    by_cases hlt : j < n
    · have hlt' : (j : Int) < n := by omega
      obtain ⟨b, o, rfl, hc⟩ := RS.at_ HLS.out (by omega)
      have hla := Shape.ld cliK wk b _ _ (RS.fits_at HLS.out hlt) ((hc j hlt).below HBK.out)
      have hla : (Instr.loadAt 27 (.pointer (some ⟨b, o + j * 4, none⟩))).run Tryd.prog wk = .ok (.agg (cliV (l.getD j cliK.z).k (l.getD j cliK.z).A (l.getD j cliK.z).n (l.getD j cliK.z).c)) wk := hla
      have HX := Lib.hid (HIN.out _ (getD_mem (z := cliK.z) (by rw [HLS.out.len]; exact hlt)))
      obtain ⟨x, hx⟩ : ∃ x, l.getD j cliK.z = x := ⟨_, rfl⟩
      rw [hx] at hla HX
      have HC0 : Hid (CellsAt w b o (cliK.enc (l.getD 0 cliK.z))) := Lib.hid (by have := hc 0 (by omega); rw [Nat.zero_mul, Nat.add_zero] at this; exact this)
      have HF0 := Lib.hid (RS.fits_at HLS.out (i := 0) (by omega))
      have HX0 := Lib.hid (HIN.out (l.getD 0 cliK.z) (getD_mem (z := cliK.z) (by rw [HLS.out.len]; omega)))
      clear hc hx
      have hz9 := blk_new wk (.cells (cliV ckZ none 0 0) 27)
      have HBA := Lib.hid (below_alloc (Below.refl wk.heap.size wk) (.cells (cliV ckZ none 0 0) 27))
      by_cases h10 : j = 10
      · have h10' : ((j : Int) == 10) = true := by simp; omega
        clear h10
        go_upto_region 13 with (first | ((with_reducible show wpList _ _ _ (Oper.mk _ (Op.load _ _) _ _ _ _ :: _) _ _); refine wpList_load_g hla _ rfl rfl (by go_simp) ?_) | ((with_reducible show wpList _ _ _ (Oper.mk _ (Op.store _ _ _) _ _ _ _ :: _) _ _); refine wpList_store_blk hz9 27 0 (cliV x.k x.A x.n x.c) (Nat.le_refl _) (info_cli _ _ _ _) (cli_one _ _ _ _) _ _ rfl rfl rfl rfl ?_; intro w4 hg9 hs9 hb9; rw [splice_cli] at hb9; have H4 := Lib.hid (And.intro hg9 hb9); clear hg9 hs9 hb9))
        try dsimp only [Act.put]
        have HBK := Lib.hid (below_step HBK.out (below_grown HBA.out H4.out.1 (Nat.le_refl _)))
        clear hz9 HBA H4 hla HI
        go_wp2_with fail
        go_loopw [67] (fun s67 wr => ∃ j : Nat, s67 = .int .i64 j ∧ Hid (j ≤ m ∧ Below w.heap.size w wr)) (fun x _ => m - (intOf x).toNat)
        case atStart => exact ⟨0, rfl, Nat.zero_le _, HBK.out⟩
        case round =>
          obtain ⟨j2, rfl, HI2⟩ := hrel
          obtain ⟨wl, rfl⟩ : ∃ wk, wk = wr := ⟨wr, rfl⟩
          have HBL := Lib.hid HI2.out.2
          by_cases hlt2 : j2 < m
          · have hlt' : (j2 : Int) < m := by omega
            obtain ⟨b2, o2, rfl, hc2⟩ := HNS.out.spots (by omega)
            have hlb := load_int (cell_below HBL.out (hc2 j2 hlt2))
            obtain ⟨x, hx⟩ : ∃ x, ns.getD j2 0 = x := ⟨_, rfl⟩
            rw [hx] at hlb
            clear hc2 hx
            by_cases h8 : j2 = 8
            · have h8' : ((j2 : Int) == 8) = true := by simp; omega
              clear h8
              go_wp2_with (first | ((with_reducible show wpList _ _ _ (Oper.mk _ (Op.load _ _) _ _ _ _ :: _) _ _); refine wpList_load_g hlb _ rfl rfl (by go_simp) ?_))
              go_ret
              exact ⟨rfl, HBL.out⟩
            · have h8' : ((j2 : Int) == 8) = false := by simp; omega
              clear h8
              go_wp2_with (first | ((with_reducible show wpList _ _ _ (Oper.mk _ (Op.load _ _) _ _ _ _ :: _) _ _); refine wpList_load_g hlb _ rfl rfl (by go_simp) ?_))
              clear hlb
              refine (cnew_any x wl (HLW.out.below HBL.out)).mono ?_
              rintro e w20 ⟨rfl, hb20⟩
              have HB20 := Lib.hid (below_step HBL.out hb20)
              clear hb20
              have hz9 := blk_new w20 (.cells (cliV ckZ none 0 0) 27)
              have HBA := Lib.hid (below_alloc (Below.refl w20.heap.size w20) (.cells (cliV ckZ none 0 0) 27))
              by_cases hnum : 1 ≤ x ∧ x ≤ 2
              · have h1 : decide (x < 1) = false := decide_eq_false (by omega)
                have h2 : decide (2 < x) = false := decide_eq_false (by omega)
                rw [newC_in hnum, newE_in hnum]
                clear hnum
                obtain ⟨kx, hkx⟩ : ∃ k, newK x = k := ⟨_, rfl⟩
                have HKX := Lib.hid hkx
                have HKT : Hid (kx.t = []) := Lib.hid (hkx ▸ rfl)
                rw [hkx]
                clear hkx
                have HBU : Hid (∀ W : World, (Instr.build 27 #[(0, .int .i64 x)]).run Tryd.prog W = .ok (.agg (cliV kx none 0 0)) W) := Lib.hid (fun W => by rw [← HKX.out]; exact run_build_cli1 W x)
                go_wp2_with (first | ((with_reducible show wpList _ _ _ (Oper.mk _ (Op.store _ _ _) _ _ _ _ :: _) _ _); refine wpList_store_blk hz9 27 0 (cliV kx none 0 0) (Nat.le_refl _) (info_cli _ _ _ _) (cli_one _ _ _ _) _ _ rfl rfl rfl rfl ?_; intro w21 hg9 hs9 hb9; rw [splice_cli] at hb9; have H21 := Lib.hid (And.intro hg9 hb9); clear hg9 hs9 hb9) | ((with_reducible show wpList _ _ _ (Oper.mk _ (Op.load _ _) _ _ _ _ :: _) _ _); refine wpList_load_g (load_cli H21.out.2) _ rfl rfl (by go_simp) ?_) | ((with_reducible show wpList _ _ _ (Oper.mk _ (Op.build 27 _) _ _ _ _ :: _) _ _); refine wpList_exw rfl (exec_build1 rfl rfl (HBU.out _)) ?_))
                have hb21 := below_grown HBA.out H21.out.1 (Nat.le_refl _)
                have HB21 := Lib.hid (below_step HB20.out hb21)
                clear hz9 HBA H21 hb21
                refine (refsame20_any kx none 0 0 kx none 0 0 w21 (by rw [HKT.out]; exact RS.nil _ _ _ _) (by rw [HKT.out]; exact RS.nil _ _ _ _) (fun u hu => by rw [HKT.out] at hu; cases hu) (fun u hu => by rw [HKT.out] at hu; cases hu) (by omega) (by omega)).mono ?_
                rw [cliB_self]
                rintro e w22 ⟨rfl, hb22⟩
                have HB22 := Lib.hid (below_step HB21.out hb22)
                clear hb22
                go_wp2_with fail
                go_roundw
                case measure => simp [intOf]; omega
                case rel => exact ⟨j2 + 1, by go_num, by omega, HB22.out⟩
              · have hC : newC x = ckZ ∧ newE x = 2 := ⟨by unfold newC; rw [if_neg hnum], by unfold newE; rw [if_neg hnum]⟩
                rw [hC.1, hC.2]
                have hlt3 : (decide (x < 1) || decide (2 < x)) = true := by
                  by_cases h : x < 1
                  · simp [h]
                  · have : 2 < x := by omega
                    simp [this]
                clear hC
                by_cases h1 : x < 1
                · have h1' : decide (x < 1) = true := decide_eq_true h1
                  clear hnum hlt3 h1
                  go_wp2_with (first | ((with_reducible show wpList _ _ _ (Oper.mk _ (Op.store _ _ _) _ _ _ _ :: _) _ _); refine wpList_store_blk hz9 27 0 (cliV ckZ none 0 0) (Nat.le_refl _) (info_cli _ _ _ _) (cli_one _ _ _ _) _ _ rfl rfl rfl rfl ?_; intro w21 hg9 hs9 hb9; rw [splice_cli] at hb9; have H21 := Lib.hid (And.intro hg9 hb9); clear hg9 hs9 hb9) | ((with_reducible show wpList _ _ _ (Oper.mk _ (Op.load _ _) _ _ _ _ :: _) _ _); refine wpList_load_g (load_cli H21.out.2) _ rfl rfl (by go_simp) ?_) | ((with_reducible show wpList _ _ _ (Oper.mk _ (Op.build _ _) _ _ _ _ :: _) _ _); refine wpList_exw rfl (exec_build 27 #[] rfl #[] rfl ((run_build_cli_nil _))) ?_))
                  have hb21 := below_grown HBA.out H21.out.1 (Nat.le_refl _)
                  have HB21 := Lib.hid (below_step HB20.out hb21)
                  clear hz9 HBA H21 hb21
                  refine (refsame20_any ckZ none 0 0 ckZ none 0 0 w21 (RS.nil _ _ _ _) (RS.nil _ _ _ _) (fun u hu => by cases hu) (fun u hu => by cases hu) (by omega) (by omega)).mono ?_
                  rw [cliB_self]
                  rintro e w22 ⟨rfl, hb22⟩
                  have HB22 := Lib.hid (below_step HB21.out hb22)
                  clear hb22
                  go_wp2_with fail
                  go_roundw
                  case measure => simp [intOf]; omega
                  case rel => exact ⟨j2 + 1, by go_num, by omega, HB22.out⟩
                · have h1' : decide (x < 1) = false := decide_eq_false h1
                  have h2' : decide (2 < x) = true := decide_eq_true (by omega)
                  clear hnum hlt3 h1
                  go_wp2_with (first | ((with_reducible show wpList _ _ _ (Oper.mk _ (Op.store _ _ _) _ _ _ _ :: _) _ _); refine wpList_store_blk hz9 27 0 (cliV ckZ none 0 0) (Nat.le_refl _) (info_cli _ _ _ _) (cli_one _ _ _ _) _ _ rfl rfl rfl rfl ?_; intro w21 hg9 hs9 hb9; rw [splice_cli] at hb9; have H21 := Lib.hid (And.intro hg9 hb9); clear hg9 hs9 hb9) | ((with_reducible show wpList _ _ _ (Oper.mk _ (Op.load _ _) _ _ _ _ :: _) _ _); refine wpList_load_g (load_cli H21.out.2) _ rfl rfl (by go_simp) ?_) | ((with_reducible show wpList _ _ _ (Oper.mk _ (Op.build _ _) _ _ _ _ :: _) _ _); refine wpList_exw rfl (exec_build 27 #[] rfl #[] rfl ((run_build_cli_nil _))) ?_))
                  have hb21 := below_grown HBA.out H21.out.1 (Nat.le_refl _)
                  have HB21 := Lib.hid (below_step HB20.out hb21)
                  clear hz9 HBA H21 hb21
                  refine (refsame20_any ckZ none 0 0 ckZ none 0 0 w21 (RS.nil _ _ _ _) (RS.nil _ _ _ _) (fun u hu => by cases hu) (fun u hu => by cases hu) (by omega) (by omega)).mono ?_
                  rw [cliB_self]
                  rintro e w22 ⟨rfl, hb22⟩
                  have HB22 := Lib.hid (below_step HB21.out hb22)
                  clear hb22
                  go_wp2_with fail
                  go_roundw
                  case measure => simp [intOf]; omega
                  case rel => exact ⟨j2 + 1, by go_num, by omega, HB22.out⟩
          · have hlt' : decide (j2 < m) = false := decide_eq_false hlt2
            clear hlt2
            go_wp2_with fail
            go_ret
            exact ⟨rfl, HBL.out⟩
      · have h10' : ((j : Int) == 10) = false := by simp; omega
        clear h10
        go_upto_region 7 with (first | ((with_reducible show wpList _ _ _ (Oper.mk _ (Op.load _ _) _ _ _ _ :: _) _ _); refine wpList_load_g hla _ rfl rfl (by go_simp) ?_) | ((with_reducible show wpList _ _ _ (Oper.mk _ (Op.store _ _ _) _ _ _ _ :: _) _ _); refine wpList_store_blk hz9 27 0 (cliV x.k x.A x.n x.c) (Nat.le_refl _) (info_cli _ _ _ _) (cli_one _ _ _ _) _ _ rfl rfl rfl rfl ?_; intro w4 hg9 hs9 hb9; rw [splice_cli] at hb9; have H4 := Lib.hid (And.intro hg9 hb9); clear hg9 hs9 hb9))
        try dsimp only [Act.put]
        have hb4 := below_grown HBA.out H4.out.1 (Nat.le_refl _)
        have HB4 := Lib.hid (below_step HBK.out hb4)
        have HY4 := Lib.hid H4.out.2
        obtain ⟨g4, hg4⟩ : ∃ g, wk.heap.size = g := ⟨_, rfl⟩
        rw [hg4] at HY4 ⊢
        clear hz9 HBA H4 hb4 hg4 hla
        obtain ⟨y, hy⟩ : ∃ y, l.getD 0 cliK.z = y := ⟨_, rfl⟩
        rw [hy] at HC0 HX0
        clear hy
        obtain ⟨nx, hnx⟩ : ∃ q, min x.n 10 = q := ⟨_, rfl⟩
        obtain ⟨ny, hny⟩ : ∃ q, min y.n 10 = q := ⟨_, rfl⟩
        obtain ⟨kx, hkx⟩ : ∃ q, shortK x.k = q := ⟨_, rfl⟩
        obtain ⟨ky, hky⟩ : ∃ q, shortK y.k = q := ⟨_, rfl⟩
        have HNQ := Lib.hid (And.intro (And.intro hnx hny) (And.intro hkx hky))
        have HN10 : Hid (nx ≤ 10 ∧ ny ≤ 10) := Lib.hid (by omega)
        have h0n : 0 < n := by omega
        have OKX : Hid (kx.ok ∧ ky.ok) := Lib.hid ⟨hkx ▸ shortK_ok HX.out.2.1, hky ▸ shortK_ok HX0.out.2.1⟩
        clear hnx hny hkx hky
        go_cut [7, 8] (fun s7 s8 wx => ∃ (g6 g7 : Nat) (Ab : Option Addr) (cb : Nat) (Ad : Option Addr) (cd : Nat), s7 = .pointer (some ⟨g6, 0, none⟩) ∧ s8 = .pointer (some ⟨g7, 0, none⟩) ∧ Hid (wx.heap[g6]? = some (.cells (cliV kx Ab nx cb) 27 (0, 0)) ∧ wx.heap[g7]? = some (.cells (cliV ky Ad ny cd) 27 (0, 0)) ∧ RS updK wx Ab nx cb kx.t ∧ RS updK wx Ad ny cd ky.t ∧ Below w4.heap.size w4 wx))
        case first =>
          refine wp_region_forkN ((fun w0 => Below w4.heap.size w4 w0)) (OrdN.fork3 [0, 2, 3, 4] 1 6 7 (OrdN.fork3 [] 5 6 7 (OrdN.fork [] 6 7 (OrdN.lin [7, 8, 9]) (OrdN.lin [6, 8, 9])) (OrdN.fork [] 5 7 (OrdN.lin [7, 8, 9]) (OrdN.lin [5, 8, 9])) (OrdN.fork [] 5 6 (OrdN.lin [6, 8, 9]) (OrdN.lin [5, 8, 9]))) (OrdN.fork [] 1 7 (OrdN.fork [] 5 7 (OrdN.lin [7, 8, 9]) (OrdN.lin [5, 8, 9])) (OrdN.lin [1, 5, 8, 9])) (OrdN.fork [] 1 6 (OrdN.fork [] 5 6 (OrdN.lin [6, 8, 9]) (OrdN.lin [5, 8, 9])) (OrdN.lin [1, 5, 8, 9]))) [(0, 0), (1, 2), (2, 0), (3, 0), (4, 0), (5, 2), (6, 2), (7, 2), (8, 2), (9, 2)] (by kernel_rfl) (by kernel_rfl) ((below_drew1 _)) ?_
          simp only [wpN]
          have HV0 := Lib.hid (below_drew1 w4)
          obtain ⟨v0, hv0⟩ : ∃ v0, World.drew w4 = v0 := ⟨_, rfl⟩
          rw [hv0] at HV0 ⊢
          clear hv0
          refine wpO_loadW (t := 27) (ad := ⟨g4, 0, none⟩) rfl rfl ?hw rfl rfl ((fun w0 hS => load_cli (blk_below HY4.out hS))) ?_
          case hw => go_simp
          iterate 2 (refine wpO_step0 rfl rfl (fun K hK => ?_); go_simp; refine hK _ _ ?_; clear hK K)
          refine wpO_loadW (t := 27) (ad := ⟨b, o, none⟩) rfl rfl ?hw rfl rfl ((fun w0 hS => (show (Instr.loadAt 27 (.pointer (some ⟨b, o, none⟩))).run Tryd.prog w0 = .ok (.agg (cliV y.k y.A y.n y.c)) w0 from Shape.ld cliK w0 b o y trivial (HC0.out.below (below_step HB4.out hS))))) ?_
          case hw => go_simp
          refine wpO_nil ⟨?_, ?_, ?_⟩
          · refine wpO_step2 rfl rfl (HV0.out) (fun K hK => ?_)
            go_simp
            refine (lshort_any x.k x.A x.n x.c v0 (HX.out.1.below (below_step HB4.out HV0.out)) HX.out.2.2).mono ?_
            rw [HNQ.out.2.1, HNQ.out.1.1]
            rintro e v1 ⟨Ab, cb, rfl, hO9, hb9⟩
            have HV1 := Lib.hid (below_step HV0.out hb9)
            try (first | replace HOb := Lib.hid (RS.below HOb.out hb9) | replace HOb := Lib.hid (blk_below HOb.out hb9) | replace HOb := Lib.hid (below_step HOb.out hb9) | replace HOb := Lib.hid (HOb.out.below hb9))
            try (first | replace HOd := Lib.hid (RS.below HOd.out hb9) | replace HOd := Lib.hid (blk_below HOd.out hb9) | replace HOd := Lib.hid (below_step HOd.out hb9) | replace HOd := Lib.hid (HOd.out.below hb9))
            try (first | replace HZ6 := Lib.hid (RS.below HZ6.out hb9) | replace HZ6 := Lib.hid (blk_below HZ6.out hb9) | replace HZ6 := Lib.hid (below_step HZ6.out hb9) | replace HZ6 := Lib.hid (HZ6.out.below hb9))
            try (first | replace HZ7 := Lib.hid (RS.below HZ7.out hb9) | replace HZ7 := Lib.hid (blk_below HZ7.out hb9) | replace HZ7 := Lib.hid (below_step HZ7.out hb9) | replace HZ7 := Lib.hid (HZ7.out.below hb9))
            have HOb := Lib.hid hO9
            clear hO9 hb9
            refine hK _ _ ⟨HV1.out, ?_⟩
            clear hK K
            refine wpO_nil ?_
            refine wpO_nil ⟨?_, ?_, ?_⟩
            · refine wpO_step2 rfl rfl (HV1.out) (fun K hK => ?_)
              go_simp
              refine (lshort_any y.k y.A y.n y.c v1 (HX0.out.1.below (below_step HB4.out HV1.out)) HX0.out.2.2).mono ?_
              rw [HNQ.out.2.2, HNQ.out.1.2]
              rintro e v2 ⟨Ad, cd, rfl, hO9, hb9⟩
              have HV2 := Lib.hid (below_step HV1.out hb9)
              try (first | replace HOb := Lib.hid (RS.below HOb.out hb9) | replace HOb := Lib.hid (blk_below HOb.out hb9) | replace HOb := Lib.hid (below_step HOb.out hb9) | replace HOb := Lib.hid (HOb.out.below hb9))
              try (first | replace HOd := Lib.hid (RS.below HOd.out hb9) | replace HOd := Lib.hid (blk_below HOd.out hb9) | replace HOd := Lib.hid (below_step HOd.out hb9) | replace HOd := Lib.hid (HOd.out.below hb9))
              try (first | replace HZ6 := Lib.hid (RS.below HZ6.out hb9) | replace HZ6 := Lib.hid (blk_below HZ6.out hb9) | replace HZ6 := Lib.hid (below_step HZ6.out hb9) | replace HZ6 := Lib.hid (HZ6.out.below hb9))
              try (first | replace HZ7 := Lib.hid (RS.below HZ7.out hb9) | replace HZ7 := Lib.hid (blk_below HZ7.out hb9) | replace HZ7 := Lib.hid (below_step HZ7.out hb9) | replace HZ7 := Lib.hid (HZ7.out.below hb9))
              have HOd := Lib.hid hO9
              clear hO9 hb9
              refine hK _ _ ⟨HV2.out, ?_⟩
              clear hK K
              refine wpO_nil ?_
              refine wpO_nil ⟨?_, ?_⟩
              · refine wpO_step2 rfl rfl (HV2.out) (fun K hK => ?_)
                go_simp
                have hz9 := blk_new v2 (.cells (cliV ckZ none 0 0) 27)
                obtain ⟨v3, hw9⟩ : ∃ w9, World.alloc v2 (.cells (cliV ckZ none 0 0) 27) = w9 := ⟨_, rfl⟩
                have ha9 : Below (World.heap v2).size v2 v3 := hw9 ▸ below_alloc (Below.refl _ _) _
                have HV3 := Lib.hid (below_step HV2.out ha9)
                refine kw_cast hw9 ?_
                rw [hw9] at hz9
                refine hK _ _ ⟨HV3.out, ?_⟩
                clear hK K
                obtain ⟨g6, hg6⟩ : ∃ g, (World.heap v2).size = g := ⟨_, rfl⟩
                try have HD67 : Hid (g6 ≠ g7) := Lib.hid (by first | (have h9 := blk_lt HZ6.out; omega) | (have h9 := blk_lt HZ7.out; omega))
                rw [hg6] at hz9 ⊢
                have HZ6 := Lib.hid hz9
                have HGE6 : Hid ((World.heap w4).size ≤ g6) := Lib.hid (by have h9 := HV2.out.size; omega)
                try (first | replace HOb := Lib.hid (RS.below HOb.out ha9) | replace HOb := Lib.hid (blk_below HOb.out ha9) | replace HOb := Lib.hid (below_step HOb.out ha9) | replace HOb := Lib.hid (HOb.out.below ha9))
                try (first | replace HOd := Lib.hid (RS.below HOd.out ha9) | replace HOd := Lib.hid (blk_below HOd.out ha9) | replace HOd := Lib.hid (below_step HOd.out ha9) | replace HOd := Lib.hid (HOd.out.below ha9))
                try (first | replace HZ6 := Lib.hid (RS.below HZ6.out ha9) | replace HZ6 := Lib.hid (blk_below HZ6.out ha9) | replace HZ6 := Lib.hid (below_step HZ6.out ha9) | replace HZ6 := Lib.hid (HZ6.out.below ha9))
                try (first | replace HZ7 := Lib.hid (RS.below HZ7.out ha9) | replace HZ7 := Lib.hid (blk_below HZ7.out ha9) | replace HZ7 := Lib.hid (below_step HZ7.out ha9) | replace HZ7 := Lib.hid (HZ7.out.below ha9))
                clear hw9 hz9 ha9 hg6
                refine wpO_nil ?_
                refine wpO_step2 rfl rfl (HV3.out) (fun K hK => ?_)
                go_simp
                have hz9 := blk_new v3 (.cells (cliV ckZ none 0 0) 27)
                obtain ⟨v4, hw9⟩ : ∃ w9, World.alloc v3 (.cells (cliV ckZ none 0 0) 27) = w9 := ⟨_, rfl⟩
                have ha9 : Below (World.heap v3).size v3 v4 := hw9 ▸ below_alloc (Below.refl _ _) _
                have HV4 := Lib.hid (below_step HV3.out ha9)
                refine kw_cast hw9 ?_
                rw [hw9] at hz9
                refine hK _ _ ⟨HV4.out, ?_⟩
                clear hK K
                obtain ⟨g7, hg7⟩ : ∃ g, (World.heap v3).size = g := ⟨_, rfl⟩
                try have HD67 : Hid (g6 ≠ g7) := Lib.hid (by first | (have h9 := blk_lt HZ6.out; omega) | (have h9 := blk_lt HZ7.out; omega))
                rw [hg7] at hz9 ⊢
                have HZ7 := Lib.hid hz9
                have HGE7 : Hid ((World.heap w4).size ≤ g7) := Lib.hid (by have h9 := HV3.out.size; omega)
                try (first | replace HOb := Lib.hid (RS.below HOb.out ha9) | replace HOb := Lib.hid (blk_below HOb.out ha9) | replace HOb := Lib.hid (below_step HOb.out ha9) | replace HOb := Lib.hid (HOb.out.below ha9))
                try (first | replace HOd := Lib.hid (RS.below HOd.out ha9) | replace HOd := Lib.hid (blk_below HOd.out ha9) | replace HOd := Lib.hid (below_step HOd.out ha9) | replace HOd := Lib.hid (HOd.out.below ha9))
                try (first | replace HZ6 := Lib.hid (RS.below HZ6.out ha9) | replace HZ6 := Lib.hid (blk_below HZ6.out ha9) | replace HZ6 := Lib.hid (below_step HZ6.out ha9) | replace HZ6 := Lib.hid (HZ6.out.below ha9))
                try (first | replace HZ7 := Lib.hid (RS.below HZ7.out ha9) | replace HZ7 := Lib.hid (blk_below HZ7.out ha9) | replace HZ7 := Lib.hid (below_step HZ7.out ha9) | replace HZ7 := Lib.hid (HZ7.out.below ha9))
                clear hw9 hz9 ha9 hg7
                refine wpO_step2 rfl rfl (HV4.out) (fun K hK => ?_)
                rw [if_pos (show Region.wanted _ _ = true from rfl)]
                refine oper_store_blk HZ6.out 27 0 (cliV kx Ab nx cb) (Nat.le_refl _) (info_cli _ _ _ _) (cli_one _ _ _ _) _ _ rfl rfl rfl ?_
                intro v5 hg9 hs9 hb9
                rw [splice_cli] at hb9
                have HV5 := Lib.hid (below_grown HV4.out hg9 HGE6.out)
                have HOb := Lib.hid (HOb.out.grownT HZ6.out (by decide) hg9)
                have HOd := Lib.hid (HOd.out.grownT HZ6.out (by decide) hg9)
                have HZ7 := Lib.hid (blk_grown HZ7.out hg9 (fun e => by injection e with e; have := HD67.out; omega))
                have HZ6 := Lib.hid hb9
                clear hg9 hs9 hb9
                refine hK _ _ ⟨HV5.out, ?_⟩
                clear hK K
                refine wpO_step2 rfl rfl (HV5.out) (fun K hK => ?_)
                rw [if_pos (show Region.wanted _ _ = true from rfl)]
                refine oper_store_blk HZ7.out 27 0 (cliV ky Ad ny cd) (Nat.le_refl _) (info_cli _ _ _ _) (cli_one _ _ _ _) _ _ rfl rfl rfl ?_
                intro v6 hg9 hs9 hb9
                rw [splice_cli] at hb9
                have HV6 := Lib.hid (below_grown HV5.out hg9 HGE7.out)
                have HOb := Lib.hid (HOb.out.grownT HZ7.out (by decide) hg9)
                have HOd := Lib.hid (HOd.out.grownT HZ7.out (by decide) hg9)
                have HZ6 := Lib.hid (blk_grown HZ6.out hg9 (fun e => by injection e with e; have := HD67.out; omega))
                have HZ7 := Lib.hid hb9
                clear hg9 hs9 hb9
                refine hK _ _ ⟨HV6.out, ?_⟩
                clear hK K
                refine wpO_nil ?_
                go_wp2_with fail
                go_meet
                exact ⟨g6, g7, Ab, cb, Ad, cd, rfl, rfl, HZ6.out, HZ7.out, HOb.out.reads, HOd.out.reads, HV6.out⟩
              · refine wpO_step2 rfl rfl (HV2.out) (fun K hK => ?_)
                go_simp
                have hz9 := blk_new v2 (.cells (cliV ckZ none 0 0) 27)
                obtain ⟨v3, hw9⟩ : ∃ w9, World.alloc v2 (.cells (cliV ckZ none 0 0) 27) = w9 := ⟨_, rfl⟩
                have ha9 : Below (World.heap v2).size v2 v3 := hw9 ▸ below_alloc (Below.refl _ _) _
                have HV3 := Lib.hid (below_step HV2.out ha9)
                refine kw_cast hw9 ?_
                rw [hw9] at hz9
                refine hK _ _ ⟨HV3.out, ?_⟩
                clear hK K
                obtain ⟨g7, hg7⟩ : ∃ g, (World.heap v2).size = g := ⟨_, rfl⟩
                try have HD67 : Hid (g6 ≠ g7) := Lib.hid (by first | (have h9 := blk_lt HZ6.out; omega) | (have h9 := blk_lt HZ7.out; omega))
                rw [hg7] at hz9 ⊢
                have HZ7 := Lib.hid hz9
                have HGE7 : Hid ((World.heap w4).size ≤ g7) := Lib.hid (by have h9 := HV2.out.size; omega)
                try (first | replace HOb := Lib.hid (RS.below HOb.out ha9) | replace HOb := Lib.hid (blk_below HOb.out ha9) | replace HOb := Lib.hid (below_step HOb.out ha9) | replace HOb := Lib.hid (HOb.out.below ha9))
                try (first | replace HOd := Lib.hid (RS.below HOd.out ha9) | replace HOd := Lib.hid (blk_below HOd.out ha9) | replace HOd := Lib.hid (below_step HOd.out ha9) | replace HOd := Lib.hid (HOd.out.below ha9))
                try (first | replace HZ6 := Lib.hid (RS.below HZ6.out ha9) | replace HZ6 := Lib.hid (blk_below HZ6.out ha9) | replace HZ6 := Lib.hid (below_step HZ6.out ha9) | replace HZ6 := Lib.hid (HZ6.out.below ha9))
                try (first | replace HZ7 := Lib.hid (RS.below HZ7.out ha9) | replace HZ7 := Lib.hid (blk_below HZ7.out ha9) | replace HZ7 := Lib.hid (below_step HZ7.out ha9) | replace HZ7 := Lib.hid (HZ7.out.below ha9))
                clear hw9 hz9 ha9 hg7
                refine wpO_nil ?_
                refine wpO_step2 rfl rfl (HV3.out) (fun K hK => ?_)
                go_simp
                have hz9 := blk_new v3 (.cells (cliV ckZ none 0 0) 27)
                obtain ⟨v4, hw9⟩ : ∃ w9, World.alloc v3 (.cells (cliV ckZ none 0 0) 27) = w9 := ⟨_, rfl⟩
                have ha9 : Below (World.heap v3).size v3 v4 := hw9 ▸ below_alloc (Below.refl _ _) _
                have HV4 := Lib.hid (below_step HV3.out ha9)
                refine kw_cast hw9 ?_
                rw [hw9] at hz9
                refine hK _ _ ⟨HV4.out, ?_⟩
                clear hK K
                obtain ⟨g6, hg6⟩ : ∃ g, (World.heap v3).size = g := ⟨_, rfl⟩
                try have HD67 : Hid (g6 ≠ g7) := Lib.hid (by first | (have h9 := blk_lt HZ6.out; omega) | (have h9 := blk_lt HZ7.out; omega))
                rw [hg6] at hz9 ⊢
                have HZ6 := Lib.hid hz9
                have HGE6 : Hid ((World.heap w4).size ≤ g6) := Lib.hid (by have h9 := HV3.out.size; omega)
                try (first | replace HOb := Lib.hid (RS.below HOb.out ha9) | replace HOb := Lib.hid (blk_below HOb.out ha9) | replace HOb := Lib.hid (below_step HOb.out ha9) | replace HOb := Lib.hid (HOb.out.below ha9))
                try (first | replace HOd := Lib.hid (RS.below HOd.out ha9) | replace HOd := Lib.hid (blk_below HOd.out ha9) | replace HOd := Lib.hid (below_step HOd.out ha9) | replace HOd := Lib.hid (HOd.out.below ha9))
                try (first | replace HZ6 := Lib.hid (RS.below HZ6.out ha9) | replace HZ6 := Lib.hid (blk_below HZ6.out ha9) | replace HZ6 := Lib.hid (below_step HZ6.out ha9) | replace HZ6 := Lib.hid (HZ6.out.below ha9))
                try (first | replace HZ7 := Lib.hid (RS.below HZ7.out ha9) | replace HZ7 := Lib.hid (blk_below HZ7.out ha9) | replace HZ7 := Lib.hid (below_step HZ7.out ha9) | replace HZ7 := Lib.hid (HZ7.out.below ha9))
                clear hw9 hz9 ha9 hg6
                refine wpO_step2 rfl rfl (HV4.out) (fun K hK => ?_)
                rw [if_pos (show Region.wanted _ _ = true from rfl)]
                refine oper_store_blk HZ6.out 27 0 (cliV kx Ab nx cb) (Nat.le_refl _) (info_cli _ _ _ _) (cli_one _ _ _ _) _ _ rfl rfl rfl ?_
                intro v5 hg9 hs9 hb9
                rw [splice_cli] at hb9
                have HV5 := Lib.hid (below_grown HV4.out hg9 HGE6.out)
                have HOb := Lib.hid (HOb.out.grownT HZ6.out (by decide) hg9)
                have HOd := Lib.hid (HOd.out.grownT HZ6.out (by decide) hg9)
                have HZ7 := Lib.hid (blk_grown HZ7.out hg9 (fun e => by injection e with e; have := HD67.out; omega))
                have HZ6 := Lib.hid hb9
                clear hg9 hs9 hb9
                refine hK _ _ ⟨HV5.out, ?_⟩
                clear hK K
                refine wpO_step2 rfl rfl (HV5.out) (fun K hK => ?_)
                rw [if_pos (show Region.wanted _ _ = true from rfl)]
                refine oper_store_blk HZ7.out 27 0 (cliV ky Ad ny cd) (Nat.le_refl _) (info_cli _ _ _ _) (cli_one _ _ _ _) _ _ rfl rfl rfl ?_
                intro v6 hg9 hs9 hb9
                rw [splice_cli] at hb9
                have HV6 := Lib.hid (below_grown HV5.out hg9 HGE7.out)
                have HOb := Lib.hid (HOb.out.grownT HZ7.out (by decide) hg9)
                have HOd := Lib.hid (HOd.out.grownT HZ7.out (by decide) hg9)
                have HZ6 := Lib.hid (blk_grown HZ6.out hg9 (fun e => by injection e with e; have := HD67.out; omega))
                have HZ7 := Lib.hid hb9
                clear hg9 hs9 hb9
                refine hK _ _ ⟨HV6.out, ?_⟩
                clear hK K
                refine wpO_nil ?_
                go_wp2_with fail
                go_meet
                exact ⟨g6, g7, Ab, cb, Ad, cd, rfl, rfl, HZ6.out, HZ7.out, HOb.out.reads, HOd.out.reads, HV6.out⟩
            · refine wpO_step2 rfl rfl (HV1.out) (fun K hK => ?_)
              go_simp
              have hz9 := blk_new v1 (.cells (cliV ckZ none 0 0) 27)
              obtain ⟨v2, hw9⟩ : ∃ w9, World.alloc v1 (.cells (cliV ckZ none 0 0) 27) = w9 := ⟨_, rfl⟩
              have ha9 : Below (World.heap v1).size v1 v2 := hw9 ▸ below_alloc (Below.refl _ _) _
              have HV2 := Lib.hid (below_step HV1.out ha9)
              refine kw_cast hw9 ?_
              rw [hw9] at hz9
              refine hK _ _ ⟨HV2.out, ?_⟩
              clear hK K
              obtain ⟨g6, hg6⟩ : ∃ g, (World.heap v1).size = g := ⟨_, rfl⟩
              try have HD67 : Hid (g6 ≠ g7) := Lib.hid (by first | (have h9 := blk_lt HZ6.out; omega) | (have h9 := blk_lt HZ7.out; omega))
              rw [hg6] at hz9 ⊢
              have HZ6 := Lib.hid hz9
              have HGE6 : Hid ((World.heap w4).size ≤ g6) := Lib.hid (by have h9 := HV1.out.size; omega)
              try (first | replace HOb := Lib.hid (RS.below HOb.out ha9) | replace HOb := Lib.hid (blk_below HOb.out ha9) | replace HOb := Lib.hid (below_step HOb.out ha9) | replace HOb := Lib.hid (HOb.out.below ha9))
              try (first | replace HOd := Lib.hid (RS.below HOd.out ha9) | replace HOd := Lib.hid (blk_below HOd.out ha9) | replace HOd := Lib.hid (below_step HOd.out ha9) | replace HOd := Lib.hid (HOd.out.below ha9))
              try (first | replace HZ6 := Lib.hid (RS.below HZ6.out ha9) | replace HZ6 := Lib.hid (blk_below HZ6.out ha9) | replace HZ6 := Lib.hid (below_step HZ6.out ha9) | replace HZ6 := Lib.hid (HZ6.out.below ha9))
              try (first | replace HZ7 := Lib.hid (RS.below HZ7.out ha9) | replace HZ7 := Lib.hid (blk_below HZ7.out ha9) | replace HZ7 := Lib.hid (below_step HZ7.out ha9) | replace HZ7 := Lib.hid (HZ7.out.below ha9))
              clear hw9 hz9 ha9 hg6
              refine wpO_nil ?_
              refine wpO_nil ⟨?_, ?_⟩
              · refine wpO_step2 rfl rfl (HV2.out) (fun K hK => ?_)
                go_simp
                refine (lshort_any y.k y.A y.n y.c v2 (HX0.out.1.below (below_step HB4.out HV2.out)) HX0.out.2.2).mono ?_
                rw [HNQ.out.2.2, HNQ.out.1.2]
                rintro e v3 ⟨Ad, cd, rfl, hO9, hb9⟩
                have HV3 := Lib.hid (below_step HV2.out hb9)
                try (first | replace HOb := Lib.hid (RS.below HOb.out hb9) | replace HOb := Lib.hid (blk_below HOb.out hb9) | replace HOb := Lib.hid (below_step HOb.out hb9) | replace HOb := Lib.hid (HOb.out.below hb9))
                try (first | replace HOd := Lib.hid (RS.below HOd.out hb9) | replace HOd := Lib.hid (blk_below HOd.out hb9) | replace HOd := Lib.hid (below_step HOd.out hb9) | replace HOd := Lib.hid (HOd.out.below hb9))
                try (first | replace HZ6 := Lib.hid (RS.below HZ6.out hb9) | replace HZ6 := Lib.hid (blk_below HZ6.out hb9) | replace HZ6 := Lib.hid (below_step HZ6.out hb9) | replace HZ6 := Lib.hid (HZ6.out.below hb9))
                try (first | replace HZ7 := Lib.hid (RS.below HZ7.out hb9) | replace HZ7 := Lib.hid (blk_below HZ7.out hb9) | replace HZ7 := Lib.hid (below_step HZ7.out hb9) | replace HZ7 := Lib.hid (HZ7.out.below hb9))
                have HOd := Lib.hid hO9
                clear hO9 hb9
                refine hK _ _ ⟨HV3.out, ?_⟩
                clear hK K
                refine wpO_nil ?_
                refine wpO_step2 rfl rfl (HV3.out) (fun K hK => ?_)
                go_simp
                have hz9 := blk_new v3 (.cells (cliV ckZ none 0 0) 27)
                obtain ⟨v4, hw9⟩ : ∃ w9, World.alloc v3 (.cells (cliV ckZ none 0 0) 27) = w9 := ⟨_, rfl⟩
                have ha9 : Below (World.heap v3).size v3 v4 := hw9 ▸ below_alloc (Below.refl _ _) _
                have HV4 := Lib.hid (below_step HV3.out ha9)
                refine kw_cast hw9 ?_
                rw [hw9] at hz9
                refine hK _ _ ⟨HV4.out, ?_⟩
                clear hK K
                obtain ⟨g7, hg7⟩ : ∃ g, (World.heap v3).size = g := ⟨_, rfl⟩
                try have HD67 : Hid (g6 ≠ g7) := Lib.hid (by first | (have h9 := blk_lt HZ6.out; omega) | (have h9 := blk_lt HZ7.out; omega))
                rw [hg7] at hz9 ⊢
                have HZ7 := Lib.hid hz9
                have HGE7 : Hid ((World.heap w4).size ≤ g7) := Lib.hid (by have h9 := HV3.out.size; omega)
                try (first | replace HOb := Lib.hid (RS.below HOb.out ha9) | replace HOb := Lib.hid (blk_below HOb.out ha9) | replace HOb := Lib.hid (below_step HOb.out ha9) | replace HOb := Lib.hid (HOb.out.below ha9))
                try (first | replace HOd := Lib.hid (RS.below HOd.out ha9) | replace HOd := Lib.hid (blk_below HOd.out ha9) | replace HOd := Lib.hid (below_step HOd.out ha9) | replace HOd := Lib.hid (HOd.out.below ha9))
                try (first | replace HZ6 := Lib.hid (RS.below HZ6.out ha9) | replace HZ6 := Lib.hid (blk_below HZ6.out ha9) | replace HZ6 := Lib.hid (below_step HZ6.out ha9) | replace HZ6 := Lib.hid (HZ6.out.below ha9))
                try (first | replace HZ7 := Lib.hid (RS.below HZ7.out ha9) | replace HZ7 := Lib.hid (blk_below HZ7.out ha9) | replace HZ7 := Lib.hid (below_step HZ7.out ha9) | replace HZ7 := Lib.hid (HZ7.out.below ha9))
                clear hw9 hz9 ha9 hg7
                refine wpO_step2 rfl rfl (HV4.out) (fun K hK => ?_)
                rw [if_pos (show Region.wanted _ _ = true from rfl)]
                refine oper_store_blk HZ6.out 27 0 (cliV kx Ab nx cb) (Nat.le_refl _) (info_cli _ _ _ _) (cli_one _ _ _ _) _ _ rfl rfl rfl ?_
                intro v5 hg9 hs9 hb9
                rw [splice_cli] at hb9
                have HV5 := Lib.hid (below_grown HV4.out hg9 HGE6.out)
                have HOb := Lib.hid (HOb.out.grownT HZ6.out (by decide) hg9)
                have HOd := Lib.hid (HOd.out.grownT HZ6.out (by decide) hg9)
                have HZ7 := Lib.hid (blk_grown HZ7.out hg9 (fun e => by injection e with e; have := HD67.out; omega))
                have HZ6 := Lib.hid hb9
                clear hg9 hs9 hb9
                refine hK _ _ ⟨HV5.out, ?_⟩
                clear hK K
                refine wpO_step2 rfl rfl (HV5.out) (fun K hK => ?_)
                rw [if_pos (show Region.wanted _ _ = true from rfl)]
                refine oper_store_blk HZ7.out 27 0 (cliV ky Ad ny cd) (Nat.le_refl _) (info_cli _ _ _ _) (cli_one _ _ _ _) _ _ rfl rfl rfl ?_
                intro v6 hg9 hs9 hb9
                rw [splice_cli] at hb9
                have HV6 := Lib.hid (below_grown HV5.out hg9 HGE7.out)
                have HOb := Lib.hid (HOb.out.grownT HZ7.out (by decide) hg9)
                have HOd := Lib.hid (HOd.out.grownT HZ7.out (by decide) hg9)
                have HZ6 := Lib.hid (blk_grown HZ6.out hg9 (fun e => by injection e with e; have := HD67.out; omega))
                have HZ7 := Lib.hid hb9
                clear hg9 hs9 hb9
                refine hK _ _ ⟨HV6.out, ?_⟩
                clear hK K
                refine wpO_nil ?_
                go_wp2_with fail
                go_meet
                exact ⟨g6, g7, Ab, cb, Ad, cd, rfl, rfl, HZ6.out, HZ7.out, HOb.out.reads, HOd.out.reads, HV6.out⟩
              · refine wpO_step2 rfl rfl (HV2.out) (fun K hK => ?_)
                go_simp
                have hz9 := blk_new v2 (.cells (cliV ckZ none 0 0) 27)
                obtain ⟨v3, hw9⟩ : ∃ w9, World.alloc v2 (.cells (cliV ckZ none 0 0) 27) = w9 := ⟨_, rfl⟩
                have ha9 : Below (World.heap v2).size v2 v3 := hw9 ▸ below_alloc (Below.refl _ _) _
                have HV3 := Lib.hid (below_step HV2.out ha9)
                refine kw_cast hw9 ?_
                rw [hw9] at hz9
                refine hK _ _ ⟨HV3.out, ?_⟩
                clear hK K
                obtain ⟨g7, hg7⟩ : ∃ g, (World.heap v2).size = g := ⟨_, rfl⟩
                try have HD67 : Hid (g6 ≠ g7) := Lib.hid (by first | (have h9 := blk_lt HZ6.out; omega) | (have h9 := blk_lt HZ7.out; omega))
                rw [hg7] at hz9 ⊢
                have HZ7 := Lib.hid hz9
                have HGE7 : Hid ((World.heap w4).size ≤ g7) := Lib.hid (by have h9 := HV2.out.size; omega)
                try (first | replace HOb := Lib.hid (RS.below HOb.out ha9) | replace HOb := Lib.hid (blk_below HOb.out ha9) | replace HOb := Lib.hid (below_step HOb.out ha9) | replace HOb := Lib.hid (HOb.out.below ha9))
                try (first | replace HOd := Lib.hid (RS.below HOd.out ha9) | replace HOd := Lib.hid (blk_below HOd.out ha9) | replace HOd := Lib.hid (below_step HOd.out ha9) | replace HOd := Lib.hid (HOd.out.below ha9))
                try (first | replace HZ6 := Lib.hid (RS.below HZ6.out ha9) | replace HZ6 := Lib.hid (blk_below HZ6.out ha9) | replace HZ6 := Lib.hid (below_step HZ6.out ha9) | replace HZ6 := Lib.hid (HZ6.out.below ha9))
                try (first | replace HZ7 := Lib.hid (RS.below HZ7.out ha9) | replace HZ7 := Lib.hid (blk_below HZ7.out ha9) | replace HZ7 := Lib.hid (below_step HZ7.out ha9) | replace HZ7 := Lib.hid (HZ7.out.below ha9))
                clear hw9 hz9 ha9 hg7
                refine wpO_nil ?_
                refine wpO_step2 rfl rfl (HV3.out) (fun K hK => ?_)
                go_simp
                refine (lshort_any y.k y.A y.n y.c v3 (HX0.out.1.below (below_step HB4.out HV3.out)) HX0.out.2.2).mono ?_
                rw [HNQ.out.2.2, HNQ.out.1.2]
                rintro e v4 ⟨Ad, cd, rfl, hO9, hb9⟩
                have HV4 := Lib.hid (below_step HV3.out hb9)
                try (first | replace HOb := Lib.hid (RS.below HOb.out hb9) | replace HOb := Lib.hid (blk_below HOb.out hb9) | replace HOb := Lib.hid (below_step HOb.out hb9) | replace HOb := Lib.hid (HOb.out.below hb9))
                try (first | replace HOd := Lib.hid (RS.below HOd.out hb9) | replace HOd := Lib.hid (blk_below HOd.out hb9) | replace HOd := Lib.hid (below_step HOd.out hb9) | replace HOd := Lib.hid (HOd.out.below hb9))
                try (first | replace HZ6 := Lib.hid (RS.below HZ6.out hb9) | replace HZ6 := Lib.hid (blk_below HZ6.out hb9) | replace HZ6 := Lib.hid (below_step HZ6.out hb9) | replace HZ6 := Lib.hid (HZ6.out.below hb9))
                try (first | replace HZ7 := Lib.hid (RS.below HZ7.out hb9) | replace HZ7 := Lib.hid (blk_below HZ7.out hb9) | replace HZ7 := Lib.hid (below_step HZ7.out hb9) | replace HZ7 := Lib.hid (HZ7.out.below hb9))
                have HOd := Lib.hid hO9
                clear hO9 hb9
                refine hK _ _ ⟨HV4.out, ?_⟩
                clear hK K
                refine wpO_step2 rfl rfl (HV4.out) (fun K hK => ?_)
                rw [if_pos (show Region.wanted _ _ = true from rfl)]
                refine oper_store_blk HZ6.out 27 0 (cliV kx Ab nx cb) (Nat.le_refl _) (info_cli _ _ _ _) (cli_one _ _ _ _) _ _ rfl rfl rfl ?_
                intro v5 hg9 hs9 hb9
                rw [splice_cli] at hb9
                have HV5 := Lib.hid (below_grown HV4.out hg9 HGE6.out)
                have HOb := Lib.hid (HOb.out.grownT HZ6.out (by decide) hg9)
                have HOd := Lib.hid (HOd.out.grownT HZ6.out (by decide) hg9)
                have HZ7 := Lib.hid (blk_grown HZ7.out hg9 (fun e => by injection e with e; have := HD67.out; omega))
                have HZ6 := Lib.hid hb9
                clear hg9 hs9 hb9
                refine hK _ _ ⟨HV5.out, ?_⟩
                clear hK K
                refine wpO_step2 rfl rfl (HV5.out) (fun K hK => ?_)
                rw [if_pos (show Region.wanted _ _ = true from rfl)]
                refine oper_store_blk HZ7.out 27 0 (cliV ky Ad ny cd) (Nat.le_refl _) (info_cli _ _ _ _) (cli_one _ _ _ _) _ _ rfl rfl rfl ?_
                intro v6 hg9 hs9 hb9
                rw [splice_cli] at hb9
                have HV6 := Lib.hid (below_grown HV5.out hg9 HGE7.out)
                have HOb := Lib.hid (HOb.out.grownT HZ7.out (by decide) hg9)
                have HOd := Lib.hid (HOd.out.grownT HZ7.out (by decide) hg9)
                have HZ6 := Lib.hid (blk_grown HZ6.out hg9 (fun e => by injection e with e; have := HD67.out; omega))
                have HZ7 := Lib.hid hb9
                clear hg9 hs9 hb9
                refine hK _ _ ⟨HV6.out, ?_⟩
                clear hK K
                refine wpO_nil ?_
                go_wp2_with fail
                go_meet
                exact ⟨g6, g7, Ab, cb, Ad, cd, rfl, rfl, HZ6.out, HZ7.out, HOb.out.reads, HOd.out.reads, HV6.out⟩
            · refine wpO_step2 rfl rfl (HV1.out) (fun K hK => ?_)
              go_simp
              have hz9 := blk_new v1 (.cells (cliV ckZ none 0 0) 27)
              obtain ⟨v2, hw9⟩ : ∃ w9, World.alloc v1 (.cells (cliV ckZ none 0 0) 27) = w9 := ⟨_, rfl⟩
              have ha9 : Below (World.heap v1).size v1 v2 := hw9 ▸ below_alloc (Below.refl _ _) _
              have HV2 := Lib.hid (below_step HV1.out ha9)
              refine kw_cast hw9 ?_
              rw [hw9] at hz9
              refine hK _ _ ⟨HV2.out, ?_⟩
              clear hK K
              obtain ⟨g7, hg7⟩ : ∃ g, (World.heap v1).size = g := ⟨_, rfl⟩
              try have HD67 : Hid (g6 ≠ g7) := Lib.hid (by first | (have h9 := blk_lt HZ6.out; omega) | (have h9 := blk_lt HZ7.out; omega))
              rw [hg7] at hz9 ⊢
              have HZ7 := Lib.hid hz9
              have HGE7 : Hid ((World.heap w4).size ≤ g7) := Lib.hid (by have h9 := HV1.out.size; omega)
              try (first | replace HOb := Lib.hid (RS.below HOb.out ha9) | replace HOb := Lib.hid (blk_below HOb.out ha9) | replace HOb := Lib.hid (below_step HOb.out ha9) | replace HOb := Lib.hid (HOb.out.below ha9))
              try (first | replace HOd := Lib.hid (RS.below HOd.out ha9) | replace HOd := Lib.hid (blk_below HOd.out ha9) | replace HOd := Lib.hid (below_step HOd.out ha9) | replace HOd := Lib.hid (HOd.out.below ha9))
              try (first | replace HZ6 := Lib.hid (RS.below HZ6.out ha9) | replace HZ6 := Lib.hid (blk_below HZ6.out ha9) | replace HZ6 := Lib.hid (below_step HZ6.out ha9) | replace HZ6 := Lib.hid (HZ6.out.below ha9))
              try (first | replace HZ7 := Lib.hid (RS.below HZ7.out ha9) | replace HZ7 := Lib.hid (blk_below HZ7.out ha9) | replace HZ7 := Lib.hid (below_step HZ7.out ha9) | replace HZ7 := Lib.hid (HZ7.out.below ha9))
              clear hw9 hz9 ha9 hg7
              refine wpO_nil ?_
              refine wpO_nil ⟨?_, ?_⟩
              · refine wpO_step2 rfl rfl (HV2.out) (fun K hK => ?_)
                go_simp
                refine (lshort_any y.k y.A y.n y.c v2 (HX0.out.1.below (below_step HB4.out HV2.out)) HX0.out.2.2).mono ?_
                rw [HNQ.out.2.2, HNQ.out.1.2]
                rintro e v3 ⟨Ad, cd, rfl, hO9, hb9⟩
                have HV3 := Lib.hid (below_step HV2.out hb9)
                try (first | replace HOb := Lib.hid (RS.below HOb.out hb9) | replace HOb := Lib.hid (blk_below HOb.out hb9) | replace HOb := Lib.hid (below_step HOb.out hb9) | replace HOb := Lib.hid (HOb.out.below hb9))
                try (first | replace HOd := Lib.hid (RS.below HOd.out hb9) | replace HOd := Lib.hid (blk_below HOd.out hb9) | replace HOd := Lib.hid (below_step HOd.out hb9) | replace HOd := Lib.hid (HOd.out.below hb9))
                try (first | replace HZ6 := Lib.hid (RS.below HZ6.out hb9) | replace HZ6 := Lib.hid (blk_below HZ6.out hb9) | replace HZ6 := Lib.hid (below_step HZ6.out hb9) | replace HZ6 := Lib.hid (HZ6.out.below hb9))
                try (first | replace HZ7 := Lib.hid (RS.below HZ7.out hb9) | replace HZ7 := Lib.hid (blk_below HZ7.out hb9) | replace HZ7 := Lib.hid (below_step HZ7.out hb9) | replace HZ7 := Lib.hid (HZ7.out.below hb9))
                have HOd := Lib.hid hO9
                clear hO9 hb9
                refine hK _ _ ⟨HV3.out, ?_⟩
                clear hK K
                refine wpO_nil ?_
                refine wpO_step2 rfl rfl (HV3.out) (fun K hK => ?_)
                go_simp
                have hz9 := blk_new v3 (.cells (cliV ckZ none 0 0) 27)
                obtain ⟨v4, hw9⟩ : ∃ w9, World.alloc v3 (.cells (cliV ckZ none 0 0) 27) = w9 := ⟨_, rfl⟩
                have ha9 : Below (World.heap v3).size v3 v4 := hw9 ▸ below_alloc (Below.refl _ _) _
                have HV4 := Lib.hid (below_step HV3.out ha9)
                refine kw_cast hw9 ?_
                rw [hw9] at hz9
                refine hK _ _ ⟨HV4.out, ?_⟩
                clear hK K
                obtain ⟨g6, hg6⟩ : ∃ g, (World.heap v3).size = g := ⟨_, rfl⟩
                try have HD67 : Hid (g6 ≠ g7) := Lib.hid (by first | (have h9 := blk_lt HZ6.out; omega) | (have h9 := blk_lt HZ7.out; omega))
                rw [hg6] at hz9 ⊢
                have HZ6 := Lib.hid hz9
                have HGE6 : Hid ((World.heap w4).size ≤ g6) := Lib.hid (by have h9 := HV3.out.size; omega)
                try (first | replace HOb := Lib.hid (RS.below HOb.out ha9) | replace HOb := Lib.hid (blk_below HOb.out ha9) | replace HOb := Lib.hid (below_step HOb.out ha9) | replace HOb := Lib.hid (HOb.out.below ha9))
                try (first | replace HOd := Lib.hid (RS.below HOd.out ha9) | replace HOd := Lib.hid (blk_below HOd.out ha9) | replace HOd := Lib.hid (below_step HOd.out ha9) | replace HOd := Lib.hid (HOd.out.below ha9))
                try (first | replace HZ6 := Lib.hid (RS.below HZ6.out ha9) | replace HZ6 := Lib.hid (blk_below HZ6.out ha9) | replace HZ6 := Lib.hid (below_step HZ6.out ha9) | replace HZ6 := Lib.hid (HZ6.out.below ha9))
                try (first | replace HZ7 := Lib.hid (RS.below HZ7.out ha9) | replace HZ7 := Lib.hid (blk_below HZ7.out ha9) | replace HZ7 := Lib.hid (below_step HZ7.out ha9) | replace HZ7 := Lib.hid (HZ7.out.below ha9))
                clear hw9 hz9 ha9 hg6
                refine wpO_step2 rfl rfl (HV4.out) (fun K hK => ?_)
                rw [if_pos (show Region.wanted _ _ = true from rfl)]
                refine oper_store_blk HZ6.out 27 0 (cliV kx Ab nx cb) (Nat.le_refl _) (info_cli _ _ _ _) (cli_one _ _ _ _) _ _ rfl rfl rfl ?_
                intro v5 hg9 hs9 hb9
                rw [splice_cli] at hb9
                have HV5 := Lib.hid (below_grown HV4.out hg9 HGE6.out)
                have HOb := Lib.hid (HOb.out.grownT HZ6.out (by decide) hg9)
                have HOd := Lib.hid (HOd.out.grownT HZ6.out (by decide) hg9)
                have HZ7 := Lib.hid (blk_grown HZ7.out hg9 (fun e => by injection e with e; have := HD67.out; omega))
                have HZ6 := Lib.hid hb9
                clear hg9 hs9 hb9
                refine hK _ _ ⟨HV5.out, ?_⟩
                clear hK K
                refine wpO_step2 rfl rfl (HV5.out) (fun K hK => ?_)
                rw [if_pos (show Region.wanted _ _ = true from rfl)]
                refine oper_store_blk HZ7.out 27 0 (cliV ky Ad ny cd) (Nat.le_refl _) (info_cli _ _ _ _) (cli_one _ _ _ _) _ _ rfl rfl rfl ?_
                intro v6 hg9 hs9 hb9
                rw [splice_cli] at hb9
                have HV6 := Lib.hid (below_grown HV5.out hg9 HGE7.out)
                have HOb := Lib.hid (HOb.out.grownT HZ7.out (by decide) hg9)
                have HOd := Lib.hid (HOd.out.grownT HZ7.out (by decide) hg9)
                have HZ6 := Lib.hid (blk_grown HZ6.out hg9 (fun e => by injection e with e; have := HD67.out; omega))
                have HZ7 := Lib.hid hb9
                clear hg9 hs9 hb9
                refine hK _ _ ⟨HV6.out, ?_⟩
                clear hK K
                refine wpO_nil ?_
                go_wp2_with fail
                go_meet
                exact ⟨g6, g7, Ab, cb, Ad, cd, rfl, rfl, HZ6.out, HZ7.out, HOb.out.reads, HOd.out.reads, HV6.out⟩
              · refine wpO_step2 rfl rfl (HV2.out) (fun K hK => ?_)
                go_simp
                have hz9 := blk_new v2 (.cells (cliV ckZ none 0 0) 27)
                obtain ⟨v3, hw9⟩ : ∃ w9, World.alloc v2 (.cells (cliV ckZ none 0 0) 27) = w9 := ⟨_, rfl⟩
                have ha9 : Below (World.heap v2).size v2 v3 := hw9 ▸ below_alloc (Below.refl _ _) _
                have HV3 := Lib.hid (below_step HV2.out ha9)
                refine kw_cast hw9 ?_
                rw [hw9] at hz9
                refine hK _ _ ⟨HV3.out, ?_⟩
                clear hK K
                obtain ⟨g6, hg6⟩ : ∃ g, (World.heap v2).size = g := ⟨_, rfl⟩
                try have HD67 : Hid (g6 ≠ g7) := Lib.hid (by first | (have h9 := blk_lt HZ6.out; omega) | (have h9 := blk_lt HZ7.out; omega))
                rw [hg6] at hz9 ⊢
                have HZ6 := Lib.hid hz9
                have HGE6 : Hid ((World.heap w4).size ≤ g6) := Lib.hid (by have h9 := HV2.out.size; omega)
                try (first | replace HOb := Lib.hid (RS.below HOb.out ha9) | replace HOb := Lib.hid (blk_below HOb.out ha9) | replace HOb := Lib.hid (below_step HOb.out ha9) | replace HOb := Lib.hid (HOb.out.below ha9))
                try (first | replace HOd := Lib.hid (RS.below HOd.out ha9) | replace HOd := Lib.hid (blk_below HOd.out ha9) | replace HOd := Lib.hid (below_step HOd.out ha9) | replace HOd := Lib.hid (HOd.out.below ha9))
                try (first | replace HZ6 := Lib.hid (RS.below HZ6.out ha9) | replace HZ6 := Lib.hid (blk_below HZ6.out ha9) | replace HZ6 := Lib.hid (below_step HZ6.out ha9) | replace HZ6 := Lib.hid (HZ6.out.below ha9))
                try (first | replace HZ7 := Lib.hid (RS.below HZ7.out ha9) | replace HZ7 := Lib.hid (blk_below HZ7.out ha9) | replace HZ7 := Lib.hid (below_step HZ7.out ha9) | replace HZ7 := Lib.hid (HZ7.out.below ha9))
                clear hw9 hz9 ha9 hg6
                refine wpO_nil ?_
                refine wpO_step2 rfl rfl (HV3.out) (fun K hK => ?_)
                go_simp
                refine (lshort_any y.k y.A y.n y.c v3 (HX0.out.1.below (below_step HB4.out HV3.out)) HX0.out.2.2).mono ?_
                rw [HNQ.out.2.2, HNQ.out.1.2]
                rintro e v4 ⟨Ad, cd, rfl, hO9, hb9⟩
                have HV4 := Lib.hid (below_step HV3.out hb9)
                try (first | replace HOb := Lib.hid (RS.below HOb.out hb9) | replace HOb := Lib.hid (blk_below HOb.out hb9) | replace HOb := Lib.hid (below_step HOb.out hb9) | replace HOb := Lib.hid (HOb.out.below hb9))
                try (first | replace HOd := Lib.hid (RS.below HOd.out hb9) | replace HOd := Lib.hid (blk_below HOd.out hb9) | replace HOd := Lib.hid (below_step HOd.out hb9) | replace HOd := Lib.hid (HOd.out.below hb9))
                try (first | replace HZ6 := Lib.hid (RS.below HZ6.out hb9) | replace HZ6 := Lib.hid (blk_below HZ6.out hb9) | replace HZ6 := Lib.hid (below_step HZ6.out hb9) | replace HZ6 := Lib.hid (HZ6.out.below hb9))
                try (first | replace HZ7 := Lib.hid (RS.below HZ7.out hb9) | replace HZ7 := Lib.hid (blk_below HZ7.out hb9) | replace HZ7 := Lib.hid (below_step HZ7.out hb9) | replace HZ7 := Lib.hid (HZ7.out.below hb9))
                have HOd := Lib.hid hO9
                clear hO9 hb9
                refine hK _ _ ⟨HV4.out, ?_⟩
                clear hK K
                refine wpO_step2 rfl rfl (HV4.out) (fun K hK => ?_)
                rw [if_pos (show Region.wanted _ _ = true from rfl)]
                refine oper_store_blk HZ6.out 27 0 (cliV kx Ab nx cb) (Nat.le_refl _) (info_cli _ _ _ _) (cli_one _ _ _ _) _ _ rfl rfl rfl ?_
                intro v5 hg9 hs9 hb9
                rw [splice_cli] at hb9
                have HV5 := Lib.hid (below_grown HV4.out hg9 HGE6.out)
                have HOb := Lib.hid (HOb.out.grownT HZ6.out (by decide) hg9)
                have HOd := Lib.hid (HOd.out.grownT HZ6.out (by decide) hg9)
                have HZ7 := Lib.hid (blk_grown HZ7.out hg9 (fun e => by injection e with e; have := HD67.out; omega))
                have HZ6 := Lib.hid hb9
                clear hg9 hs9 hb9
                refine hK _ _ ⟨HV5.out, ?_⟩
                clear hK K
                refine wpO_step2 rfl rfl (HV5.out) (fun K hK => ?_)
                rw [if_pos (show Region.wanted _ _ = true from rfl)]
                refine oper_store_blk HZ7.out 27 0 (cliV ky Ad ny cd) (Nat.le_refl _) (info_cli _ _ _ _) (cli_one _ _ _ _) _ _ rfl rfl rfl ?_
                intro v6 hg9 hs9 hb9
                rw [splice_cli] at hb9
                have HV6 := Lib.hid (below_grown HV5.out hg9 HGE7.out)
                have HOb := Lib.hid (HOb.out.grownT HZ7.out (by decide) hg9)
                have HOd := Lib.hid (HOd.out.grownT HZ7.out (by decide) hg9)
                have HZ6 := Lib.hid (blk_grown HZ6.out hg9 (fun e => by injection e with e; have := HD67.out; omega))
                have HZ7 := Lib.hid hb9
                clear hg9 hs9 hb9
                refine hK _ _ ⟨HV6.out, ?_⟩
                clear hK K
                refine wpO_nil ?_
                go_wp2_with fail
                go_meet
                exact ⟨g6, g7, Ab, cb, Ad, cd, rfl, rfl, HZ6.out, HZ7.out, HOb.out.reads, HOd.out.reads, HV6.out⟩
          · refine wpO_step2 rfl rfl (HV0.out) (fun K hK => ?_)
            go_simp
            have hz9 := blk_new v0 (.cells (cliV ckZ none 0 0) 27)
            obtain ⟨v1, hw9⟩ : ∃ w9, World.alloc v0 (.cells (cliV ckZ none 0 0) 27) = w9 := ⟨_, rfl⟩
            have ha9 : Below (World.heap v0).size v0 v1 := hw9 ▸ below_alloc (Below.refl _ _) _
            have HV1 := Lib.hid (below_step HV0.out ha9)
            refine kw_cast hw9 ?_
            rw [hw9] at hz9
            refine hK _ _ ⟨HV1.out, ?_⟩
            clear hK K
            obtain ⟨g6, hg6⟩ : ∃ g, (World.heap v0).size = g := ⟨_, rfl⟩
            try have HD67 : Hid (g6 ≠ g7) := Lib.hid (by first | (have h9 := blk_lt HZ6.out; omega) | (have h9 := blk_lt HZ7.out; omega))
            rw [hg6] at hz9 ⊢
            have HZ6 := Lib.hid hz9
            have HGE6 : Hid ((World.heap w4).size ≤ g6) := Lib.hid (by have h9 := HV0.out.size; omega)
            try (first | replace HOb := Lib.hid (RS.below HOb.out ha9) | replace HOb := Lib.hid (blk_below HOb.out ha9) | replace HOb := Lib.hid (below_step HOb.out ha9) | replace HOb := Lib.hid (HOb.out.below ha9))
            try (first | replace HOd := Lib.hid (RS.below HOd.out ha9) | replace HOd := Lib.hid (blk_below HOd.out ha9) | replace HOd := Lib.hid (below_step HOd.out ha9) | replace HOd := Lib.hid (HOd.out.below ha9))
            try (first | replace HZ6 := Lib.hid (RS.below HZ6.out ha9) | replace HZ6 := Lib.hid (blk_below HZ6.out ha9) | replace HZ6 := Lib.hid (below_step HZ6.out ha9) | replace HZ6 := Lib.hid (HZ6.out.below ha9))
            try (first | replace HZ7 := Lib.hid (RS.below HZ7.out ha9) | replace HZ7 := Lib.hid (blk_below HZ7.out ha9) | replace HZ7 := Lib.hid (below_step HZ7.out ha9) | replace HZ7 := Lib.hid (HZ7.out.below ha9))
            clear hw9 hz9 ha9 hg6
            refine wpO_nil ?_
            refine wpO_nil ⟨?_, ?_⟩
            · refine wpO_step2 rfl rfl (HV1.out) (fun K hK => ?_)
              go_simp
              refine (lshort_any x.k x.A x.n x.c v1 (HX.out.1.below (below_step HB4.out HV1.out)) HX.out.2.2).mono ?_
              rw [HNQ.out.2.1, HNQ.out.1.1]
              rintro e v2 ⟨Ab, cb, rfl, hO9, hb9⟩
              have HV2 := Lib.hid (below_step HV1.out hb9)
              try (first | replace HOb := Lib.hid (RS.below HOb.out hb9) | replace HOb := Lib.hid (blk_below HOb.out hb9) | replace HOb := Lib.hid (below_step HOb.out hb9) | replace HOb := Lib.hid (HOb.out.below hb9))
              try (first | replace HOd := Lib.hid (RS.below HOd.out hb9) | replace HOd := Lib.hid (blk_below HOd.out hb9) | replace HOd := Lib.hid (below_step HOd.out hb9) | replace HOd := Lib.hid (HOd.out.below hb9))
              try (first | replace HZ6 := Lib.hid (RS.below HZ6.out hb9) | replace HZ6 := Lib.hid (blk_below HZ6.out hb9) | replace HZ6 := Lib.hid (below_step HZ6.out hb9) | replace HZ6 := Lib.hid (HZ6.out.below hb9))
              try (first | replace HZ7 := Lib.hid (RS.below HZ7.out hb9) | replace HZ7 := Lib.hid (blk_below HZ7.out hb9) | replace HZ7 := Lib.hid (below_step HZ7.out hb9) | replace HZ7 := Lib.hid (HZ7.out.below hb9))
              have HOb := Lib.hid hO9
              clear hO9 hb9
              refine hK _ _ ⟨HV2.out, ?_⟩
              clear hK K
              refine wpO_nil ?_
              refine wpO_nil ⟨?_, ?_⟩
              · refine wpO_step2 rfl rfl (HV2.out) (fun K hK => ?_)
                go_simp
                refine (lshort_any y.k y.A y.n y.c v2 (HX0.out.1.below (below_step HB4.out HV2.out)) HX0.out.2.2).mono ?_
                rw [HNQ.out.2.2, HNQ.out.1.2]
                rintro e v3 ⟨Ad, cd, rfl, hO9, hb9⟩
                have HV3 := Lib.hid (below_step HV2.out hb9)
                try (first | replace HOb := Lib.hid (RS.below HOb.out hb9) | replace HOb := Lib.hid (blk_below HOb.out hb9) | replace HOb := Lib.hid (below_step HOb.out hb9) | replace HOb := Lib.hid (HOb.out.below hb9))
                try (first | replace HOd := Lib.hid (RS.below HOd.out hb9) | replace HOd := Lib.hid (blk_below HOd.out hb9) | replace HOd := Lib.hid (below_step HOd.out hb9) | replace HOd := Lib.hid (HOd.out.below hb9))
                try (first | replace HZ6 := Lib.hid (RS.below HZ6.out hb9) | replace HZ6 := Lib.hid (blk_below HZ6.out hb9) | replace HZ6 := Lib.hid (below_step HZ6.out hb9) | replace HZ6 := Lib.hid (HZ6.out.below hb9))
                try (first | replace HZ7 := Lib.hid (RS.below HZ7.out hb9) | replace HZ7 := Lib.hid (blk_below HZ7.out hb9) | replace HZ7 := Lib.hid (below_step HZ7.out hb9) | replace HZ7 := Lib.hid (HZ7.out.below hb9))
                have HOd := Lib.hid hO9
                clear hO9 hb9
                refine hK _ _ ⟨HV3.out, ?_⟩
                clear hK K
                refine wpO_nil ?_
                refine wpO_step2 rfl rfl (HV3.out) (fun K hK => ?_)
                go_simp
                have hz9 := blk_new v3 (.cells (cliV ckZ none 0 0) 27)
                obtain ⟨v4, hw9⟩ : ∃ w9, World.alloc v3 (.cells (cliV ckZ none 0 0) 27) = w9 := ⟨_, rfl⟩
                have ha9 : Below (World.heap v3).size v3 v4 := hw9 ▸ below_alloc (Below.refl _ _) _
                have HV4 := Lib.hid (below_step HV3.out ha9)
                refine kw_cast hw9 ?_
                rw [hw9] at hz9
                refine hK _ _ ⟨HV4.out, ?_⟩
                clear hK K
                obtain ⟨g7, hg7⟩ : ∃ g, (World.heap v3).size = g := ⟨_, rfl⟩
                try have HD67 : Hid (g6 ≠ g7) := Lib.hid (by first | (have h9 := blk_lt HZ6.out; omega) | (have h9 := blk_lt HZ7.out; omega))
                rw [hg7] at hz9 ⊢
                have HZ7 := Lib.hid hz9
                have HGE7 : Hid ((World.heap w4).size ≤ g7) := Lib.hid (by have h9 := HV3.out.size; omega)
                try (first | replace HOb := Lib.hid (RS.below HOb.out ha9) | replace HOb := Lib.hid (blk_below HOb.out ha9) | replace HOb := Lib.hid (below_step HOb.out ha9) | replace HOb := Lib.hid (HOb.out.below ha9))
                try (first | replace HOd := Lib.hid (RS.below HOd.out ha9) | replace HOd := Lib.hid (blk_below HOd.out ha9) | replace HOd := Lib.hid (below_step HOd.out ha9) | replace HOd := Lib.hid (HOd.out.below ha9))
                try (first | replace HZ6 := Lib.hid (RS.below HZ6.out ha9) | replace HZ6 := Lib.hid (blk_below HZ6.out ha9) | replace HZ6 := Lib.hid (below_step HZ6.out ha9) | replace HZ6 := Lib.hid (HZ6.out.below ha9))
                try (first | replace HZ7 := Lib.hid (RS.below HZ7.out ha9) | replace HZ7 := Lib.hid (blk_below HZ7.out ha9) | replace HZ7 := Lib.hid (below_step HZ7.out ha9) | replace HZ7 := Lib.hid (HZ7.out.below ha9))
                clear hw9 hz9 ha9 hg7
                refine wpO_step2 rfl rfl (HV4.out) (fun K hK => ?_)
                rw [if_pos (show Region.wanted _ _ = true from rfl)]
                refine oper_store_blk HZ6.out 27 0 (cliV kx Ab nx cb) (Nat.le_refl _) (info_cli _ _ _ _) (cli_one _ _ _ _) _ _ rfl rfl rfl ?_
                intro v5 hg9 hs9 hb9
                rw [splice_cli] at hb9
                have HV5 := Lib.hid (below_grown HV4.out hg9 HGE6.out)
                have HOb := Lib.hid (HOb.out.grownT HZ6.out (by decide) hg9)
                have HOd := Lib.hid (HOd.out.grownT HZ6.out (by decide) hg9)
                have HZ7 := Lib.hid (blk_grown HZ7.out hg9 (fun e => by injection e with e; have := HD67.out; omega))
                have HZ6 := Lib.hid hb9
                clear hg9 hs9 hb9
                refine hK _ _ ⟨HV5.out, ?_⟩
                clear hK K
                refine wpO_step2 rfl rfl (HV5.out) (fun K hK => ?_)
                rw [if_pos (show Region.wanted _ _ = true from rfl)]
                refine oper_store_blk HZ7.out 27 0 (cliV ky Ad ny cd) (Nat.le_refl _) (info_cli _ _ _ _) (cli_one _ _ _ _) _ _ rfl rfl rfl ?_
                intro v6 hg9 hs9 hb9
                rw [splice_cli] at hb9
                have HV6 := Lib.hid (below_grown HV5.out hg9 HGE7.out)
                have HOb := Lib.hid (HOb.out.grownT HZ7.out (by decide) hg9)
                have HOd := Lib.hid (HOd.out.grownT HZ7.out (by decide) hg9)
                have HZ6 := Lib.hid (blk_grown HZ6.out hg9 (fun e => by injection e with e; have := HD67.out; omega))
                have HZ7 := Lib.hid hb9
                clear hg9 hs9 hb9
                refine hK _ _ ⟨HV6.out, ?_⟩
                clear hK K
                refine wpO_nil ?_
                go_wp2_with fail
                go_meet
                exact ⟨g6, g7, Ab, cb, Ad, cd, rfl, rfl, HZ6.out, HZ7.out, HOb.out.reads, HOd.out.reads, HV6.out⟩
              · refine wpO_step2 rfl rfl (HV2.out) (fun K hK => ?_)
                go_simp
                have hz9 := blk_new v2 (.cells (cliV ckZ none 0 0) 27)
                obtain ⟨v3, hw9⟩ : ∃ w9, World.alloc v2 (.cells (cliV ckZ none 0 0) 27) = w9 := ⟨_, rfl⟩
                have ha9 : Below (World.heap v2).size v2 v3 := hw9 ▸ below_alloc (Below.refl _ _) _
                have HV3 := Lib.hid (below_step HV2.out ha9)
                refine kw_cast hw9 ?_
                rw [hw9] at hz9
                refine hK _ _ ⟨HV3.out, ?_⟩
                clear hK K
                obtain ⟨g7, hg7⟩ : ∃ g, (World.heap v2).size = g := ⟨_, rfl⟩
                try have HD67 : Hid (g6 ≠ g7) := Lib.hid (by first | (have h9 := blk_lt HZ6.out; omega) | (have h9 := blk_lt HZ7.out; omega))
                rw [hg7] at hz9 ⊢
                have HZ7 := Lib.hid hz9
                have HGE7 : Hid ((World.heap w4).size ≤ g7) := Lib.hid (by have h9 := HV2.out.size; omega)
                try (first | replace HOb := Lib.hid (RS.below HOb.out ha9) | replace HOb := Lib.hid (blk_below HOb.out ha9) | replace HOb := Lib.hid (below_step HOb.out ha9) | replace HOb := Lib.hid (HOb.out.below ha9))
                try (first | replace HOd := Lib.hid (RS.below HOd.out ha9) | replace HOd := Lib.hid (blk_below HOd.out ha9) | replace HOd := Lib.hid (below_step HOd.out ha9) | replace HOd := Lib.hid (HOd.out.below ha9))
                try (first | replace HZ6 := Lib.hid (RS.below HZ6.out ha9) | replace HZ6 := Lib.hid (blk_below HZ6.out ha9) | replace HZ6 := Lib.hid (below_step HZ6.out ha9) | replace HZ6 := Lib.hid (HZ6.out.below ha9))
                try (first | replace HZ7 := Lib.hid (RS.below HZ7.out ha9) | replace HZ7 := Lib.hid (blk_below HZ7.out ha9) | replace HZ7 := Lib.hid (below_step HZ7.out ha9) | replace HZ7 := Lib.hid (HZ7.out.below ha9))
                clear hw9 hz9 ha9 hg7
                refine wpO_nil ?_
                refine wpO_step2 rfl rfl (HV3.out) (fun K hK => ?_)
                go_simp
                refine (lshort_any y.k y.A y.n y.c v3 (HX0.out.1.below (below_step HB4.out HV3.out)) HX0.out.2.2).mono ?_
                rw [HNQ.out.2.2, HNQ.out.1.2]
                rintro e v4 ⟨Ad, cd, rfl, hO9, hb9⟩
                have HV4 := Lib.hid (below_step HV3.out hb9)
                try (first | replace HOb := Lib.hid (RS.below HOb.out hb9) | replace HOb := Lib.hid (blk_below HOb.out hb9) | replace HOb := Lib.hid (below_step HOb.out hb9) | replace HOb := Lib.hid (HOb.out.below hb9))
                try (first | replace HOd := Lib.hid (RS.below HOd.out hb9) | replace HOd := Lib.hid (blk_below HOd.out hb9) | replace HOd := Lib.hid (below_step HOd.out hb9) | replace HOd := Lib.hid (HOd.out.below hb9))
                try (first | replace HZ6 := Lib.hid (RS.below HZ6.out hb9) | replace HZ6 := Lib.hid (blk_below HZ6.out hb9) | replace HZ6 := Lib.hid (below_step HZ6.out hb9) | replace HZ6 := Lib.hid (HZ6.out.below hb9))
                try (first | replace HZ7 := Lib.hid (RS.below HZ7.out hb9) | replace HZ7 := Lib.hid (blk_below HZ7.out hb9) | replace HZ7 := Lib.hid (below_step HZ7.out hb9) | replace HZ7 := Lib.hid (HZ7.out.below hb9))
                have HOd := Lib.hid hO9
                clear hO9 hb9
                refine hK _ _ ⟨HV4.out, ?_⟩
                clear hK K
                refine wpO_step2 rfl rfl (HV4.out) (fun K hK => ?_)
                rw [if_pos (show Region.wanted _ _ = true from rfl)]
                refine oper_store_blk HZ6.out 27 0 (cliV kx Ab nx cb) (Nat.le_refl _) (info_cli _ _ _ _) (cli_one _ _ _ _) _ _ rfl rfl rfl ?_
                intro v5 hg9 hs9 hb9
                rw [splice_cli] at hb9
                have HV5 := Lib.hid (below_grown HV4.out hg9 HGE6.out)
                have HOb := Lib.hid (HOb.out.grownT HZ6.out (by decide) hg9)
                have HOd := Lib.hid (HOd.out.grownT HZ6.out (by decide) hg9)
                have HZ7 := Lib.hid (blk_grown HZ7.out hg9 (fun e => by injection e with e; have := HD67.out; omega))
                have HZ6 := Lib.hid hb9
                clear hg9 hs9 hb9
                refine hK _ _ ⟨HV5.out, ?_⟩
                clear hK K
                refine wpO_step2 rfl rfl (HV5.out) (fun K hK => ?_)
                rw [if_pos (show Region.wanted _ _ = true from rfl)]
                refine oper_store_blk HZ7.out 27 0 (cliV ky Ad ny cd) (Nat.le_refl _) (info_cli _ _ _ _) (cli_one _ _ _ _) _ _ rfl rfl rfl ?_
                intro v6 hg9 hs9 hb9
                rw [splice_cli] at hb9
                have HV6 := Lib.hid (below_grown HV5.out hg9 HGE7.out)
                have HOb := Lib.hid (HOb.out.grownT HZ7.out (by decide) hg9)
                have HOd := Lib.hid (HOd.out.grownT HZ7.out (by decide) hg9)
                have HZ6 := Lib.hid (blk_grown HZ6.out hg9 (fun e => by injection e with e; have := HD67.out; omega))
                have HZ7 := Lib.hid hb9
                clear hg9 hs9 hb9
                refine hK _ _ ⟨HV6.out, ?_⟩
                clear hK K
                refine wpO_nil ?_
                go_wp2_with fail
                go_meet
                exact ⟨g6, g7, Ab, cb, Ad, cd, rfl, rfl, HZ6.out, HZ7.out, HOb.out.reads, HOd.out.reads, HV6.out⟩
            · refine wpO_step2 rfl rfl (HV1.out) (fun K hK => ?_)
              go_simp
              have hz9 := blk_new v1 (.cells (cliV ckZ none 0 0) 27)
              obtain ⟨v2, hw9⟩ : ∃ w9, World.alloc v1 (.cells (cliV ckZ none 0 0) 27) = w9 := ⟨_, rfl⟩
              have ha9 : Below (World.heap v1).size v1 v2 := hw9 ▸ below_alloc (Below.refl _ _) _
              have HV2 := Lib.hid (below_step HV1.out ha9)
              refine kw_cast hw9 ?_
              rw [hw9] at hz9
              refine hK _ _ ⟨HV2.out, ?_⟩
              clear hK K
              obtain ⟨g7, hg7⟩ : ∃ g, (World.heap v1).size = g := ⟨_, rfl⟩
              try have HD67 : Hid (g6 ≠ g7) := Lib.hid (by first | (have h9 := blk_lt HZ6.out; omega) | (have h9 := blk_lt HZ7.out; omega))
              rw [hg7] at hz9 ⊢
              have HZ7 := Lib.hid hz9
              have HGE7 : Hid ((World.heap w4).size ≤ g7) := Lib.hid (by have h9 := HV1.out.size; omega)
              try (first | replace HOb := Lib.hid (RS.below HOb.out ha9) | replace HOb := Lib.hid (blk_below HOb.out ha9) | replace HOb := Lib.hid (below_step HOb.out ha9) | replace HOb := Lib.hid (HOb.out.below ha9))
              try (first | replace HOd := Lib.hid (RS.below HOd.out ha9) | replace HOd := Lib.hid (blk_below HOd.out ha9) | replace HOd := Lib.hid (below_step HOd.out ha9) | replace HOd := Lib.hid (HOd.out.below ha9))
              try (first | replace HZ6 := Lib.hid (RS.below HZ6.out ha9) | replace HZ6 := Lib.hid (blk_below HZ6.out ha9) | replace HZ6 := Lib.hid (below_step HZ6.out ha9) | replace HZ6 := Lib.hid (HZ6.out.below ha9))
              try (first | replace HZ7 := Lib.hid (RS.below HZ7.out ha9) | replace HZ7 := Lib.hid (blk_below HZ7.out ha9) | replace HZ7 := Lib.hid (below_step HZ7.out ha9) | replace HZ7 := Lib.hid (HZ7.out.below ha9))
              clear hw9 hz9 ha9 hg7
              refine wpO_nil ?_
              refine wpO_step2 rfl rfl (HV2.out) (fun K hK => ?_)
              go_simp
              refine (lshort_any x.k x.A x.n x.c v2 (HX.out.1.below (below_step HB4.out HV2.out)) HX.out.2.2).mono ?_
              rw [HNQ.out.2.1, HNQ.out.1.1]
              rintro e v3 ⟨Ab, cb, rfl, hO9, hb9⟩
              have HV3 := Lib.hid (below_step HV2.out hb9)
              try (first | replace HOb := Lib.hid (RS.below HOb.out hb9) | replace HOb := Lib.hid (blk_below HOb.out hb9) | replace HOb := Lib.hid (below_step HOb.out hb9) | replace HOb := Lib.hid (HOb.out.below hb9))
              try (first | replace HOd := Lib.hid (RS.below HOd.out hb9) | replace HOd := Lib.hid (blk_below HOd.out hb9) | replace HOd := Lib.hid (below_step HOd.out hb9) | replace HOd := Lib.hid (HOd.out.below hb9))
              try (first | replace HZ6 := Lib.hid (RS.below HZ6.out hb9) | replace HZ6 := Lib.hid (blk_below HZ6.out hb9) | replace HZ6 := Lib.hid (below_step HZ6.out hb9) | replace HZ6 := Lib.hid (HZ6.out.below hb9))
              try (first | replace HZ7 := Lib.hid (RS.below HZ7.out hb9) | replace HZ7 := Lib.hid (blk_below HZ7.out hb9) | replace HZ7 := Lib.hid (below_step HZ7.out hb9) | replace HZ7 := Lib.hid (HZ7.out.below hb9))
              have HOb := Lib.hid hO9
              clear hO9 hb9
              refine hK _ _ ⟨HV3.out, ?_⟩
              clear hK K
              refine wpO_step2 rfl rfl (HV3.out) (fun K hK => ?_)
              go_simp
              refine (lshort_any y.k y.A y.n y.c v3 (HX0.out.1.below (below_step HB4.out HV3.out)) HX0.out.2.2).mono ?_
              rw [HNQ.out.2.2, HNQ.out.1.2]
              rintro e v4 ⟨Ad, cd, rfl, hO9, hb9⟩
              have HV4 := Lib.hid (below_step HV3.out hb9)
              try (first | replace HOb := Lib.hid (RS.below HOb.out hb9) | replace HOb := Lib.hid (blk_below HOb.out hb9) | replace HOb := Lib.hid (below_step HOb.out hb9) | replace HOb := Lib.hid (HOb.out.below hb9))
              try (first | replace HOd := Lib.hid (RS.below HOd.out hb9) | replace HOd := Lib.hid (blk_below HOd.out hb9) | replace HOd := Lib.hid (below_step HOd.out hb9) | replace HOd := Lib.hid (HOd.out.below hb9))
              try (first | replace HZ6 := Lib.hid (RS.below HZ6.out hb9) | replace HZ6 := Lib.hid (blk_below HZ6.out hb9) | replace HZ6 := Lib.hid (below_step HZ6.out hb9) | replace HZ6 := Lib.hid (HZ6.out.below hb9))
              try (first | replace HZ7 := Lib.hid (RS.below HZ7.out hb9) | replace HZ7 := Lib.hid (blk_below HZ7.out hb9) | replace HZ7 := Lib.hid (below_step HZ7.out hb9) | replace HZ7 := Lib.hid (HZ7.out.below hb9))
              have HOd := Lib.hid hO9
              clear hO9 hb9
              refine hK _ _ ⟨HV4.out, ?_⟩
              clear hK K
              refine wpO_step2 rfl rfl (HV4.out) (fun K hK => ?_)
              rw [if_pos (show Region.wanted _ _ = true from rfl)]
              refine oper_store_blk HZ6.out 27 0 (cliV kx Ab nx cb) (Nat.le_refl _) (info_cli _ _ _ _) (cli_one _ _ _ _) _ _ rfl rfl rfl ?_
              intro v5 hg9 hs9 hb9
              rw [splice_cli] at hb9
              have HV5 := Lib.hid (below_grown HV4.out hg9 HGE6.out)
              have HOb := Lib.hid (HOb.out.grownT HZ6.out (by decide) hg9)
              have HOd := Lib.hid (HOd.out.grownT HZ6.out (by decide) hg9)
              have HZ7 := Lib.hid (blk_grown HZ7.out hg9 (fun e => by injection e with e; have := HD67.out; omega))
              have HZ6 := Lib.hid hb9
              clear hg9 hs9 hb9
              refine hK _ _ ⟨HV5.out, ?_⟩
              clear hK K
              refine wpO_step2 rfl rfl (HV5.out) (fun K hK => ?_)
              rw [if_pos (show Region.wanted _ _ = true from rfl)]
              refine oper_store_blk HZ7.out 27 0 (cliV ky Ad ny cd) (Nat.le_refl _) (info_cli _ _ _ _) (cli_one _ _ _ _) _ _ rfl rfl rfl ?_
              intro v6 hg9 hs9 hb9
              rw [splice_cli] at hb9
              have HV6 := Lib.hid (below_grown HV5.out hg9 HGE7.out)
              have HOb := Lib.hid (HOb.out.grownT HZ7.out (by decide) hg9)
              have HOd := Lib.hid (HOd.out.grownT HZ7.out (by decide) hg9)
              have HZ6 := Lib.hid (blk_grown HZ6.out hg9 (fun e => by injection e with e; have := HD67.out; omega))
              have HZ7 := Lib.hid hb9
              clear hg9 hs9 hb9
              refine hK _ _ ⟨HV6.out, ?_⟩
              clear hK K
              refine wpO_nil ?_
              go_wp2_with fail
              go_meet
              exact ⟨g6, g7, Ab, cb, Ad, cd, rfl, rfl, HZ6.out, HZ7.out, HOb.out.reads, HOd.out.reads, HV6.out⟩
          · refine wpO_step2 rfl rfl (HV0.out) (fun K hK => ?_)
            go_simp
            have hz9 := blk_new v0 (.cells (cliV ckZ none 0 0) 27)
            obtain ⟨v1, hw9⟩ : ∃ w9, World.alloc v0 (.cells (cliV ckZ none 0 0) 27) = w9 := ⟨_, rfl⟩
            have ha9 : Below (World.heap v0).size v0 v1 := hw9 ▸ below_alloc (Below.refl _ _) _
            have HV1 := Lib.hid (below_step HV0.out ha9)
            refine kw_cast hw9 ?_
            rw [hw9] at hz9
            refine hK _ _ ⟨HV1.out, ?_⟩
            clear hK K
            obtain ⟨g7, hg7⟩ : ∃ g, (World.heap v0).size = g := ⟨_, rfl⟩
            try have HD67 : Hid (g6 ≠ g7) := Lib.hid (by first | (have h9 := blk_lt HZ6.out; omega) | (have h9 := blk_lt HZ7.out; omega))
            rw [hg7] at hz9 ⊢
            have HZ7 := Lib.hid hz9
            have HGE7 : Hid ((World.heap w4).size ≤ g7) := Lib.hid (by have h9 := HV0.out.size; omega)
            try (first | replace HOb := Lib.hid (RS.below HOb.out ha9) | replace HOb := Lib.hid (blk_below HOb.out ha9) | replace HOb := Lib.hid (below_step HOb.out ha9) | replace HOb := Lib.hid (HOb.out.below ha9))
            try (first | replace HOd := Lib.hid (RS.below HOd.out ha9) | replace HOd := Lib.hid (blk_below HOd.out ha9) | replace HOd := Lib.hid (below_step HOd.out ha9) | replace HOd := Lib.hid (HOd.out.below ha9))
            try (first | replace HZ6 := Lib.hid (RS.below HZ6.out ha9) | replace HZ6 := Lib.hid (blk_below HZ6.out ha9) | replace HZ6 := Lib.hid (below_step HZ6.out ha9) | replace HZ6 := Lib.hid (HZ6.out.below ha9))
            try (first | replace HZ7 := Lib.hid (RS.below HZ7.out ha9) | replace HZ7 := Lib.hid (blk_below HZ7.out ha9) | replace HZ7 := Lib.hid (below_step HZ7.out ha9) | replace HZ7 := Lib.hid (HZ7.out.below ha9))
            clear hw9 hz9 ha9 hg7
            refine wpO_nil ?_
            refine wpO_nil ⟨?_, ?_⟩
            · refine wpO_step2 rfl rfl (HV1.out) (fun K hK => ?_)
              go_simp
              refine (lshort_any x.k x.A x.n x.c v1 (HX.out.1.below (below_step HB4.out HV1.out)) HX.out.2.2).mono ?_
              rw [HNQ.out.2.1, HNQ.out.1.1]
              rintro e v2 ⟨Ab, cb, rfl, hO9, hb9⟩
              have HV2 := Lib.hid (below_step HV1.out hb9)
              try (first | replace HOb := Lib.hid (RS.below HOb.out hb9) | replace HOb := Lib.hid (blk_below HOb.out hb9) | replace HOb := Lib.hid (below_step HOb.out hb9) | replace HOb := Lib.hid (HOb.out.below hb9))
              try (first | replace HOd := Lib.hid (RS.below HOd.out hb9) | replace HOd := Lib.hid (blk_below HOd.out hb9) | replace HOd := Lib.hid (below_step HOd.out hb9) | replace HOd := Lib.hid (HOd.out.below hb9))
              try (first | replace HZ6 := Lib.hid (RS.below HZ6.out hb9) | replace HZ6 := Lib.hid (blk_below HZ6.out hb9) | replace HZ6 := Lib.hid (below_step HZ6.out hb9) | replace HZ6 := Lib.hid (HZ6.out.below hb9))
              try (first | replace HZ7 := Lib.hid (RS.below HZ7.out hb9) | replace HZ7 := Lib.hid (blk_below HZ7.out hb9) | replace HZ7 := Lib.hid (below_step HZ7.out hb9) | replace HZ7 := Lib.hid (HZ7.out.below hb9))
              have HOb := Lib.hid hO9
              clear hO9 hb9
              refine hK _ _ ⟨HV2.out, ?_⟩
              clear hK K
              refine wpO_nil ?_
              refine wpO_nil ⟨?_, ?_⟩
              · refine wpO_step2 rfl rfl (HV2.out) (fun K hK => ?_)
                go_simp
                refine (lshort_any y.k y.A y.n y.c v2 (HX0.out.1.below (below_step HB4.out HV2.out)) HX0.out.2.2).mono ?_
                rw [HNQ.out.2.2, HNQ.out.1.2]
                rintro e v3 ⟨Ad, cd, rfl, hO9, hb9⟩
                have HV3 := Lib.hid (below_step HV2.out hb9)
                try (first | replace HOb := Lib.hid (RS.below HOb.out hb9) | replace HOb := Lib.hid (blk_below HOb.out hb9) | replace HOb := Lib.hid (below_step HOb.out hb9) | replace HOb := Lib.hid (HOb.out.below hb9))
                try (first | replace HOd := Lib.hid (RS.below HOd.out hb9) | replace HOd := Lib.hid (blk_below HOd.out hb9) | replace HOd := Lib.hid (below_step HOd.out hb9) | replace HOd := Lib.hid (HOd.out.below hb9))
                try (first | replace HZ6 := Lib.hid (RS.below HZ6.out hb9) | replace HZ6 := Lib.hid (blk_below HZ6.out hb9) | replace HZ6 := Lib.hid (below_step HZ6.out hb9) | replace HZ6 := Lib.hid (HZ6.out.below hb9))
                try (first | replace HZ7 := Lib.hid (RS.below HZ7.out hb9) | replace HZ7 := Lib.hid (blk_below HZ7.out hb9) | replace HZ7 := Lib.hid (below_step HZ7.out hb9) | replace HZ7 := Lib.hid (HZ7.out.below hb9))
                have HOd := Lib.hid hO9
                clear hO9 hb9
                refine hK _ _ ⟨HV3.out, ?_⟩
                clear hK K
                refine wpO_nil ?_
                refine wpO_step2 rfl rfl (HV3.out) (fun K hK => ?_)
                go_simp
                have hz9 := blk_new v3 (.cells (cliV ckZ none 0 0) 27)
                obtain ⟨v4, hw9⟩ : ∃ w9, World.alloc v3 (.cells (cliV ckZ none 0 0) 27) = w9 := ⟨_, rfl⟩
                have ha9 : Below (World.heap v3).size v3 v4 := hw9 ▸ below_alloc (Below.refl _ _) _
                have HV4 := Lib.hid (below_step HV3.out ha9)
                refine kw_cast hw9 ?_
                rw [hw9] at hz9
                refine hK _ _ ⟨HV4.out, ?_⟩
                clear hK K
                obtain ⟨g6, hg6⟩ : ∃ g, (World.heap v3).size = g := ⟨_, rfl⟩
                try have HD67 : Hid (g6 ≠ g7) := Lib.hid (by first | (have h9 := blk_lt HZ6.out; omega) | (have h9 := blk_lt HZ7.out; omega))
                rw [hg6] at hz9 ⊢
                have HZ6 := Lib.hid hz9
                have HGE6 : Hid ((World.heap w4).size ≤ g6) := Lib.hid (by have h9 := HV3.out.size; omega)
                try (first | replace HOb := Lib.hid (RS.below HOb.out ha9) | replace HOb := Lib.hid (blk_below HOb.out ha9) | replace HOb := Lib.hid (below_step HOb.out ha9) | replace HOb := Lib.hid (HOb.out.below ha9))
                try (first | replace HOd := Lib.hid (RS.below HOd.out ha9) | replace HOd := Lib.hid (blk_below HOd.out ha9) | replace HOd := Lib.hid (below_step HOd.out ha9) | replace HOd := Lib.hid (HOd.out.below ha9))
                try (first | replace HZ6 := Lib.hid (RS.below HZ6.out ha9) | replace HZ6 := Lib.hid (blk_below HZ6.out ha9) | replace HZ6 := Lib.hid (below_step HZ6.out ha9) | replace HZ6 := Lib.hid (HZ6.out.below ha9))
                try (first | replace HZ7 := Lib.hid (RS.below HZ7.out ha9) | replace HZ7 := Lib.hid (blk_below HZ7.out ha9) | replace HZ7 := Lib.hid (below_step HZ7.out ha9) | replace HZ7 := Lib.hid (HZ7.out.below ha9))
                clear hw9 hz9 ha9 hg6
                refine wpO_step2 rfl rfl (HV4.out) (fun K hK => ?_)
                rw [if_pos (show Region.wanted _ _ = true from rfl)]
                refine oper_store_blk HZ6.out 27 0 (cliV kx Ab nx cb) (Nat.le_refl _) (info_cli _ _ _ _) (cli_one _ _ _ _) _ _ rfl rfl rfl ?_
                intro v5 hg9 hs9 hb9
                rw [splice_cli] at hb9
                have HV5 := Lib.hid (below_grown HV4.out hg9 HGE6.out)
                have HOb := Lib.hid (HOb.out.grownT HZ6.out (by decide) hg9)
                have HOd := Lib.hid (HOd.out.grownT HZ6.out (by decide) hg9)
                have HZ7 := Lib.hid (blk_grown HZ7.out hg9 (fun e => by injection e with e; have := HD67.out; omega))
                have HZ6 := Lib.hid hb9
                clear hg9 hs9 hb9
                refine hK _ _ ⟨HV5.out, ?_⟩
                clear hK K
                refine wpO_step2 rfl rfl (HV5.out) (fun K hK => ?_)
                rw [if_pos (show Region.wanted _ _ = true from rfl)]
                refine oper_store_blk HZ7.out 27 0 (cliV ky Ad ny cd) (Nat.le_refl _) (info_cli _ _ _ _) (cli_one _ _ _ _) _ _ rfl rfl rfl ?_
                intro v6 hg9 hs9 hb9
                rw [splice_cli] at hb9
                have HV6 := Lib.hid (below_grown HV5.out hg9 HGE7.out)
                have HOb := Lib.hid (HOb.out.grownT HZ7.out (by decide) hg9)
                have HOd := Lib.hid (HOd.out.grownT HZ7.out (by decide) hg9)
                have HZ6 := Lib.hid (blk_grown HZ6.out hg9 (fun e => by injection e with e; have := HD67.out; omega))
                have HZ7 := Lib.hid hb9
                clear hg9 hs9 hb9
                refine hK _ _ ⟨HV6.out, ?_⟩
                clear hK K
                refine wpO_nil ?_
                go_wp2_with fail
                go_meet
                exact ⟨g6, g7, Ab, cb, Ad, cd, rfl, rfl, HZ6.out, HZ7.out, HOb.out.reads, HOd.out.reads, HV6.out⟩
              · refine wpO_step2 rfl rfl (HV2.out) (fun K hK => ?_)
                go_simp
                have hz9 := blk_new v2 (.cells (cliV ckZ none 0 0) 27)
                obtain ⟨v3, hw9⟩ : ∃ w9, World.alloc v2 (.cells (cliV ckZ none 0 0) 27) = w9 := ⟨_, rfl⟩
                have ha9 : Below (World.heap v2).size v2 v3 := hw9 ▸ below_alloc (Below.refl _ _) _
                have HV3 := Lib.hid (below_step HV2.out ha9)
                refine kw_cast hw9 ?_
                rw [hw9] at hz9
                refine hK _ _ ⟨HV3.out, ?_⟩
                clear hK K
                obtain ⟨g6, hg6⟩ : ∃ g, (World.heap v2).size = g := ⟨_, rfl⟩
                try have HD67 : Hid (g6 ≠ g7) := Lib.hid (by first | (have h9 := blk_lt HZ6.out; omega) | (have h9 := blk_lt HZ7.out; omega))
                rw [hg6] at hz9 ⊢
                have HZ6 := Lib.hid hz9
                have HGE6 : Hid ((World.heap w4).size ≤ g6) := Lib.hid (by have h9 := HV2.out.size; omega)
                try (first | replace HOb := Lib.hid (RS.below HOb.out ha9) | replace HOb := Lib.hid (blk_below HOb.out ha9) | replace HOb := Lib.hid (below_step HOb.out ha9) | replace HOb := Lib.hid (HOb.out.below ha9))
                try (first | replace HOd := Lib.hid (RS.below HOd.out ha9) | replace HOd := Lib.hid (blk_below HOd.out ha9) | replace HOd := Lib.hid (below_step HOd.out ha9) | replace HOd := Lib.hid (HOd.out.below ha9))
                try (first | replace HZ6 := Lib.hid (RS.below HZ6.out ha9) | replace HZ6 := Lib.hid (blk_below HZ6.out ha9) | replace HZ6 := Lib.hid (below_step HZ6.out ha9) | replace HZ6 := Lib.hid (HZ6.out.below ha9))
                try (first | replace HZ7 := Lib.hid (RS.below HZ7.out ha9) | replace HZ7 := Lib.hid (blk_below HZ7.out ha9) | replace HZ7 := Lib.hid (below_step HZ7.out ha9) | replace HZ7 := Lib.hid (HZ7.out.below ha9))
                clear hw9 hz9 ha9 hg6
                refine wpO_nil ?_
                refine wpO_step2 rfl rfl (HV3.out) (fun K hK => ?_)
                go_simp
                refine (lshort_any y.k y.A y.n y.c v3 (HX0.out.1.below (below_step HB4.out HV3.out)) HX0.out.2.2).mono ?_
                rw [HNQ.out.2.2, HNQ.out.1.2]
                rintro e v4 ⟨Ad, cd, rfl, hO9, hb9⟩
                have HV4 := Lib.hid (below_step HV3.out hb9)
                try (first | replace HOb := Lib.hid (RS.below HOb.out hb9) | replace HOb := Lib.hid (blk_below HOb.out hb9) | replace HOb := Lib.hid (below_step HOb.out hb9) | replace HOb := Lib.hid (HOb.out.below hb9))
                try (first | replace HOd := Lib.hid (RS.below HOd.out hb9) | replace HOd := Lib.hid (blk_below HOd.out hb9) | replace HOd := Lib.hid (below_step HOd.out hb9) | replace HOd := Lib.hid (HOd.out.below hb9))
                try (first | replace HZ6 := Lib.hid (RS.below HZ6.out hb9) | replace HZ6 := Lib.hid (blk_below HZ6.out hb9) | replace HZ6 := Lib.hid (below_step HZ6.out hb9) | replace HZ6 := Lib.hid (HZ6.out.below hb9))
                try (first | replace HZ7 := Lib.hid (RS.below HZ7.out hb9) | replace HZ7 := Lib.hid (blk_below HZ7.out hb9) | replace HZ7 := Lib.hid (below_step HZ7.out hb9) | replace HZ7 := Lib.hid (HZ7.out.below hb9))
                have HOd := Lib.hid hO9
                clear hO9 hb9
                refine hK _ _ ⟨HV4.out, ?_⟩
                clear hK K
                refine wpO_step2 rfl rfl (HV4.out) (fun K hK => ?_)
                rw [if_pos (show Region.wanted _ _ = true from rfl)]
                refine oper_store_blk HZ6.out 27 0 (cliV kx Ab nx cb) (Nat.le_refl _) (info_cli _ _ _ _) (cli_one _ _ _ _) _ _ rfl rfl rfl ?_
                intro v5 hg9 hs9 hb9
                rw [splice_cli] at hb9
                have HV5 := Lib.hid (below_grown HV4.out hg9 HGE6.out)
                have HOb := Lib.hid (HOb.out.grownT HZ6.out (by decide) hg9)
                have HOd := Lib.hid (HOd.out.grownT HZ6.out (by decide) hg9)
                have HZ7 := Lib.hid (blk_grown HZ7.out hg9 (fun e => by injection e with e; have := HD67.out; omega))
                have HZ6 := Lib.hid hb9
                clear hg9 hs9 hb9
                refine hK _ _ ⟨HV5.out, ?_⟩
                clear hK K
                refine wpO_step2 rfl rfl (HV5.out) (fun K hK => ?_)
                rw [if_pos (show Region.wanted _ _ = true from rfl)]
                refine oper_store_blk HZ7.out 27 0 (cliV ky Ad ny cd) (Nat.le_refl _) (info_cli _ _ _ _) (cli_one _ _ _ _) _ _ rfl rfl rfl ?_
                intro v6 hg9 hs9 hb9
                rw [splice_cli] at hb9
                have HV6 := Lib.hid (below_grown HV5.out hg9 HGE7.out)
                have HOb := Lib.hid (HOb.out.grownT HZ7.out (by decide) hg9)
                have HOd := Lib.hid (HOd.out.grownT HZ7.out (by decide) hg9)
                have HZ6 := Lib.hid (blk_grown HZ6.out hg9 (fun e => by injection e with e; have := HD67.out; omega))
                have HZ7 := Lib.hid hb9
                clear hg9 hs9 hb9
                refine hK _ _ ⟨HV6.out, ?_⟩
                clear hK K
                refine wpO_nil ?_
                go_wp2_with fail
                go_meet
                exact ⟨g6, g7, Ab, cb, Ad, cd, rfl, rfl, HZ6.out, HZ7.out, HOb.out.reads, HOd.out.reads, HV6.out⟩
            · refine wpO_step2 rfl rfl (HV1.out) (fun K hK => ?_)
              go_simp
              have hz9 := blk_new v1 (.cells (cliV ckZ none 0 0) 27)
              obtain ⟨v2, hw9⟩ : ∃ w9, World.alloc v1 (.cells (cliV ckZ none 0 0) 27) = w9 := ⟨_, rfl⟩
              have ha9 : Below (World.heap v1).size v1 v2 := hw9 ▸ below_alloc (Below.refl _ _) _
              have HV2 := Lib.hid (below_step HV1.out ha9)
              refine kw_cast hw9 ?_
              rw [hw9] at hz9
              refine hK _ _ ⟨HV2.out, ?_⟩
              clear hK K
              obtain ⟨g6, hg6⟩ : ∃ g, (World.heap v1).size = g := ⟨_, rfl⟩
              try have HD67 : Hid (g6 ≠ g7) := Lib.hid (by first | (have h9 := blk_lt HZ6.out; omega) | (have h9 := blk_lt HZ7.out; omega))
              rw [hg6] at hz9 ⊢
              have HZ6 := Lib.hid hz9
              have HGE6 : Hid ((World.heap w4).size ≤ g6) := Lib.hid (by have h9 := HV1.out.size; omega)
              try (first | replace HOb := Lib.hid (RS.below HOb.out ha9) | replace HOb := Lib.hid (blk_below HOb.out ha9) | replace HOb := Lib.hid (below_step HOb.out ha9) | replace HOb := Lib.hid (HOb.out.below ha9))
              try (first | replace HOd := Lib.hid (RS.below HOd.out ha9) | replace HOd := Lib.hid (blk_below HOd.out ha9) | replace HOd := Lib.hid (below_step HOd.out ha9) | replace HOd := Lib.hid (HOd.out.below ha9))
              try (first | replace HZ6 := Lib.hid (RS.below HZ6.out ha9) | replace HZ6 := Lib.hid (blk_below HZ6.out ha9) | replace HZ6 := Lib.hid (below_step HZ6.out ha9) | replace HZ6 := Lib.hid (HZ6.out.below ha9))
              try (first | replace HZ7 := Lib.hid (RS.below HZ7.out ha9) | replace HZ7 := Lib.hid (blk_below HZ7.out ha9) | replace HZ7 := Lib.hid (below_step HZ7.out ha9) | replace HZ7 := Lib.hid (HZ7.out.below ha9))
              clear hw9 hz9 ha9 hg6
              refine wpO_nil ?_
              refine wpO_step2 rfl rfl (HV2.out) (fun K hK => ?_)
              go_simp
              refine (lshort_any x.k x.A x.n x.c v2 (HX.out.1.below (below_step HB4.out HV2.out)) HX.out.2.2).mono ?_
              rw [HNQ.out.2.1, HNQ.out.1.1]
              rintro e v3 ⟨Ab, cb, rfl, hO9, hb9⟩
              have HV3 := Lib.hid (below_step HV2.out hb9)
              try (first | replace HOb := Lib.hid (RS.below HOb.out hb9) | replace HOb := Lib.hid (blk_below HOb.out hb9) | replace HOb := Lib.hid (below_step HOb.out hb9) | replace HOb := Lib.hid (HOb.out.below hb9))
              try (first | replace HOd := Lib.hid (RS.below HOd.out hb9) | replace HOd := Lib.hid (blk_below HOd.out hb9) | replace HOd := Lib.hid (below_step HOd.out hb9) | replace HOd := Lib.hid (HOd.out.below hb9))
              try (first | replace HZ6 := Lib.hid (RS.below HZ6.out hb9) | replace HZ6 := Lib.hid (blk_below HZ6.out hb9) | replace HZ6 := Lib.hid (below_step HZ6.out hb9) | replace HZ6 := Lib.hid (HZ6.out.below hb9))
              try (first | replace HZ7 := Lib.hid (RS.below HZ7.out hb9) | replace HZ7 := Lib.hid (blk_below HZ7.out hb9) | replace HZ7 := Lib.hid (below_step HZ7.out hb9) | replace HZ7 := Lib.hid (HZ7.out.below hb9))
              have HOb := Lib.hid hO9
              clear hO9 hb9
              refine hK _ _ ⟨HV3.out, ?_⟩
              clear hK K
              refine wpO_step2 rfl rfl (HV3.out) (fun K hK => ?_)
              go_simp
              refine (lshort_any y.k y.A y.n y.c v3 (HX0.out.1.below (below_step HB4.out HV3.out)) HX0.out.2.2).mono ?_
              rw [HNQ.out.2.2, HNQ.out.1.2]
              rintro e v4 ⟨Ad, cd, rfl, hO9, hb9⟩
              have HV4 := Lib.hid (below_step HV3.out hb9)
              try (first | replace HOb := Lib.hid (RS.below HOb.out hb9) | replace HOb := Lib.hid (blk_below HOb.out hb9) | replace HOb := Lib.hid (below_step HOb.out hb9) | replace HOb := Lib.hid (HOb.out.below hb9))
              try (first | replace HOd := Lib.hid (RS.below HOd.out hb9) | replace HOd := Lib.hid (blk_below HOd.out hb9) | replace HOd := Lib.hid (below_step HOd.out hb9) | replace HOd := Lib.hid (HOd.out.below hb9))
              try (first | replace HZ6 := Lib.hid (RS.below HZ6.out hb9) | replace HZ6 := Lib.hid (blk_below HZ6.out hb9) | replace HZ6 := Lib.hid (below_step HZ6.out hb9) | replace HZ6 := Lib.hid (HZ6.out.below hb9))
              try (first | replace HZ7 := Lib.hid (RS.below HZ7.out hb9) | replace HZ7 := Lib.hid (blk_below HZ7.out hb9) | replace HZ7 := Lib.hid (below_step HZ7.out hb9) | replace HZ7 := Lib.hid (HZ7.out.below hb9))
              have HOd := Lib.hid hO9
              clear hO9 hb9
              refine hK _ _ ⟨HV4.out, ?_⟩
              clear hK K
              refine wpO_step2 rfl rfl (HV4.out) (fun K hK => ?_)
              rw [if_pos (show Region.wanted _ _ = true from rfl)]
              refine oper_store_blk HZ6.out 27 0 (cliV kx Ab nx cb) (Nat.le_refl _) (info_cli _ _ _ _) (cli_one _ _ _ _) _ _ rfl rfl rfl ?_
              intro v5 hg9 hs9 hb9
              rw [splice_cli] at hb9
              have HV5 := Lib.hid (below_grown HV4.out hg9 HGE6.out)
              have HOb := Lib.hid (HOb.out.grownT HZ6.out (by decide) hg9)
              have HOd := Lib.hid (HOd.out.grownT HZ6.out (by decide) hg9)
              have HZ7 := Lib.hid (blk_grown HZ7.out hg9 (fun e => by injection e with e; have := HD67.out; omega))
              have HZ6 := Lib.hid hb9
              clear hg9 hs9 hb9
              refine hK _ _ ⟨HV5.out, ?_⟩
              clear hK K
              refine wpO_step2 rfl rfl (HV5.out) (fun K hK => ?_)
              rw [if_pos (show Region.wanted _ _ = true from rfl)]
              refine oper_store_blk HZ7.out 27 0 (cliV ky Ad ny cd) (Nat.le_refl _) (info_cli _ _ _ _) (cli_one _ _ _ _) _ _ rfl rfl rfl ?_
              intro v6 hg9 hs9 hb9
              rw [splice_cli] at hb9
              have HV6 := Lib.hid (below_grown HV5.out hg9 HGE7.out)
              have HOb := Lib.hid (HOb.out.grownT HZ7.out (by decide) hg9)
              have HOd := Lib.hid (HOd.out.grownT HZ7.out (by decide) hg9)
              have HZ6 := Lib.hid (blk_grown HZ6.out hg9 (fun e => by injection e with e; have := HD67.out; omega))
              have HZ7 := Lib.hid hb9
              clear hg9 hs9 hb9
              refine hK _ _ ⟨HV6.out, ?_⟩
              clear hK K
              refine wpO_nil ?_
              go_wp2_with fail
              go_meet
              exact ⟨g6, g7, Ab, cb, Ad, cd, rfl, rfl, HZ6.out, HZ7.out, HOb.out.reads, HOd.out.reads, HV6.out⟩
        case rest =>
          obtain ⟨g6, g7, Ab, cb, Ad, cd, rfl, rfl, HC⟩ := hcut
          obtain ⟨w8, rfl⟩ : ∃ w8, w8 = wc := ⟨wc, rfl⟩
          have HG6 := Lib.hid HC.out.1
          have HG7 := Lib.hid HC.out.2.1
          have HRb := Lib.hid HC.out.2.2.1
          have HRd := Lib.hid HC.out.2.2.2.1
          have HY8 := Lib.hid (blk_below HY4.out HC.out.2.2.2.2)
          have HB8 := Lib.hid (below_step HB4.out HC.out.2.2.2.2)
          clear HC HY4 HB4
          have hn10 := HN10.out
          go_wp2_with (first | ((with_reducible show wpList _ _ _ (Oper.mk _ (Op.load _ _) _ _ _ _ :: _) _ _); refine wpList_load_g (load_cli HG6.out) _ rfl rfl (by go_simp) ?_))
          refine (refck_any kx Ab nx cb w8 HRb.out OKX.out.1.t (by omega)).mono ?_
          rintro e w9 ⟨rfl, hb9⟩
          (first | replace HG6 := Lib.hid (RS.below HG6.out hb9) | replace HG6 := Lib.hid (blk_below HG6.out hb9) | replace HG6 := Lib.hid (below_step HG6.out hb9) | replace HG6 := Lib.hid (HG6.out.below hb9))
          (first | replace HG7 := Lib.hid (RS.below HG7.out hb9) | replace HG7 := Lib.hid (blk_below HG7.out hb9) | replace HG7 := Lib.hid (below_step HG7.out hb9) | replace HG7 := Lib.hid (HG7.out.below hb9))
          (first | replace HRb := Lib.hid (RS.below HRb.out hb9) | replace HRb := Lib.hid (blk_below HRb.out hb9) | replace HRb := Lib.hid (below_step HRb.out hb9) | replace HRb := Lib.hid (HRb.out.below hb9))
          (first | replace HRd := Lib.hid (RS.below HRd.out hb9) | replace HRd := Lib.hid (blk_below HRd.out hb9) | replace HRd := Lib.hid (below_step HRd.out hb9) | replace HRd := Lib.hid (HRd.out.below hb9))
          (first | replace HY8 := Lib.hid (RS.below HY8.out hb9) | replace HY8 := Lib.hid (blk_below HY8.out hb9) | replace HY8 := Lib.hid (below_step HY8.out hb9) | replace HY8 := Lib.hid (HY8.out.below hb9))
          (first | replace HB8 := Lib.hid (RS.below HB8.out hb9) | replace HB8 := Lib.hid (blk_below HB8.out hb9) | replace HB8 := Lib.hid (below_step HB8.out hb9) | replace HB8 := Lib.hid (HB8.out.below hb9))
          clear hb9
          go_wp2_with (first | ((with_reducible show wpList _ _ _ (Oper.mk _ (Op.load _ _) _ _ _ _ :: _) _ _); refine wpList_load_g (load_cli HG6.out) _ rfl rfl (by go_simp) ?_))
          refine (ccheck20_any kx Ab nx cb w9 (HLW.out.below HB8.out) HRb.out OKX.out.1.t (by omega)).mono ?_
          rintro e w10 ⟨rfl, hb10⟩
          (first | replace HG6 := Lib.hid (RS.below HG6.out hb10) | replace HG6 := Lib.hid (blk_below HG6.out hb10) | replace HG6 := Lib.hid (below_step HG6.out hb10) | replace HG6 := Lib.hid (HG6.out.below hb10))
          (first | replace HG7 := Lib.hid (RS.below HG7.out hb10) | replace HG7 := Lib.hid (blk_below HG7.out hb10) | replace HG7 := Lib.hid (below_step HG7.out hb10) | replace HG7 := Lib.hid (HG7.out.below hb10))
          (first | replace HRb := Lib.hid (RS.below HRb.out hb10) | replace HRb := Lib.hid (blk_below HRb.out hb10) | replace HRb := Lib.hid (below_step HRb.out hb10) | replace HRb := Lib.hid (HRb.out.below hb10))
          (first | replace HRd := Lib.hid (RS.below HRd.out hb10) | replace HRd := Lib.hid (blk_below HRd.out hb10) | replace HRd := Lib.hid (below_step HRd.out hb10) | replace HRd := Lib.hid (HRd.out.below hb10))
          (first | replace HY8 := Lib.hid (RS.below HY8.out hb10) | replace HY8 := Lib.hid (blk_below HY8.out hb10) | replace HY8 := Lib.hid (below_step HY8.out hb10) | replace HY8 := Lib.hid (HY8.out.below hb10))
          (first | replace HB8 := Lib.hid (RS.below HB8.out hb10) | replace HB8 := Lib.hid (blk_below HB8.out hb10) | replace HB8 := Lib.hid (below_step HB8.out hb10) | replace HB8 := Lib.hid (HB8.out.below hb10))
          clear hb10
          cases hck : ckB kx with
          | true =>
            rw [show ckE kx = 0 by unfold ckE; rw [hck]; rfl]
            clear hck
            go_upto_region 10 with fail
            try dsimp only [Act.put]
            refine wp_region_mix (fun w0 => Below (w10).heap.size (w10) w0) [(0, 0), (1, 0), (2, 0), (3, 0), (4, 0), (5, 0), (6, 0), (7, 0), (8, 0), (9, 0), (10, 0), (11, 0), (12, 0), (13, 0), (14, 0), (16, 0), (17, 0), (15, 2), (18, 2), (19, 0), (20, 0), (21, 0), (22, 0), (23, 0), (24, 2), (25, 2), (26, 0), (27, 0)] (by kernel_rfl) (by kernel_rfl) (below_drew1 _) ?_
            simp only [List.map_cons, List.map_nil]
            iterate 13 (refine wpO_step0 rfl rfl (fun K hK => ?_); go_simp; refine hK _ _ ?_; clear hK K)
            refine wpO_loadW (t := 27) (ad := ⟨g6, 0, none⟩) rfl rfl ?hw rfl rfl ((fun w0 hS => load_cli (blk_below HG6.out hS))) ?_
            case hw => go_simp
            refine wpO_loadW (t := 27) (ad := ⟨g7, 0, none⟩) rfl rfl ?hw rfl rfl ((fun w0 hS => load_cli (blk_below HG7.out hS))) ?_
            case hw => go_simp
            refine wpO_loadW (t := 27) (ad := ⟨g6, 0, none⟩) rfl rfl ?hw rfl rfl ((fun w0 hS => load_cli (blk_below HG6.out hS))) ?_
            case hw => go_simp
            refine wpO_loadW (t := 27) (ad := ⟨g7, 0, none⟩) rfl rfl ?hw rfl rfl ((fun w0 hS => load_cli (blk_below HG7.out hS))) ?_
            case hw => go_simp
            refine wpO_step2 rfl rfl (below_drew1 _) (fun K hK => ?_)
            go_simp
            refine (csame20_any kx Ab nx cb ky Ad ny cd _ (HRb.out.below (below_drew1 _)) (HRd.out.below (below_drew1 _)) OKX.out.1.t OKX.out.2.t (by omega) (by omega)).mono ?_
            rintro e w11 ⟨rfl, hb11⟩
            have HV11 := Lib.hid (below_step (below_drew1 w10) hb11)
            clear hb11
            refine hK _ _ ⟨HV11.out, ?_⟩
            clear hK K
            refine wpO_step2 rfl rfl (HV11.out) (fun K hK => ?_)
            go_simp
            refine (refsame20_any kx Ab nx cb ky Ad ny cd _ (HRb.out.below HV11.out) (HRd.out.below HV11.out) OKX.out.1.t OKX.out.2.t (by omega) (by omega)).mono ?_
            rintro e w12 ⟨rfl, hb12⟩
            have HV12 := Lib.hid (below_step HV11.out hb12)
            clear hb12
            refine hK _ _ ⟨HV12.out, ?_⟩
            clear hK K
            iterate 3 (refine wpO_step0 rfl rfl (fun K hK => ?_); go_simp; refine hK _ _ ?_; clear hK K)
            refine wpO_loadW (t := 27) (ad := ⟨g6, 0, none⟩) rfl rfl ?hw rfl rfl ((fun w0 hS => load_cli (blk_below HG6.out hS))) ?_
            case hw => go_simp
            refine wpO_loadW (t := 27) (ad := ⟨g4, 0, none⟩) rfl rfl ?hw rfl rfl ((fun w0 hS => load_cli (blk_below HY8.out hS))) ?_
            case hw => go_simp
            refine wpO_step2 rfl rfl (HV12.out) (fun K hK => ?_)
            go_simp
            refine (lshort_any x.k x.A x.n x.c _ (HX.out.1.below (below_step HB8.out HV12.out)) HX.out.2.2).mono ?_
            rw [HNQ.out.2.1, HNQ.out.1.1]
            rintro e w13 ⟨A13, c13, rfl, hO13, hb13⟩
            have HV13 := Lib.hid (below_step HV12.out hb13)
            have HO13 := Lib.hid hO13.reads
            clear hb13 hO13
            refine hK _ _ ⟨HV13.out, ?_⟩
            clear hK K
            refine wpO_step2 rfl rfl (HV13.out) (fun K hK => ?_)
            go_simp
            refine (csame20_any kx Ab nx cb kx A13 nx c13 _ (HRb.out.below HV13.out) HO13.out OKX.out.1.t OKX.out.1.t (by omega) (by omega)).mono ?_
            rw [cliB_self]
            rintro e w14 ⟨rfl, hb14⟩
            have HV14 := Lib.hid (below_step HV13.out hb14)
            clear hb14
            refine hK _ _ ⟨HV14.out, ?_⟩
            clear hK K
            iterate 2 (refine wpO_step0 rfl rfl (fun K hK => ?_); go_simp; refine hK _ _ ?_; clear hK K)
            refine wpO_nil ?_
            have HBF := Lib.hid (below_step HB8.out HV14.out)
            go_wp2_with fail
            go_roundw
            case measure => simp [intOf]; omega
            case rel => exact ⟨j + 1, by go_num, by omega, HBF.out⟩
          | false =>
            rw [show ckE kx = 300 by unfold ckE; rw [hck]; rfl]
            clear hck
            go_upto_region 10 with fail
            try dsimp only [Act.put]
            refine wp_region_mix (fun w0 => Below (w10).heap.size (w10) w0) [(0, 0), (1, 0), (2, 0), (3, 0), (4, 0), (5, 0), (6, 0), (7, 0), (8, 0), (9, 0), (10, 0), (11, 0), (12, 0), (13, 0), (14, 0), (16, 0), (17, 0), (15, 2), (18, 2), (19, 0), (20, 0), (21, 0), (22, 0), (23, 0), (24, 2), (25, 2), (26, 0), (27, 0)] (by kernel_rfl) (by kernel_rfl) (below_drew1 _) ?_
            simp only [List.map_cons, List.map_nil]
            iterate 13 (refine wpO_step0 rfl rfl (fun K hK => ?_); go_simp; refine hK _ _ ?_; clear hK K)
            refine wpO_loadW (t := 27) (ad := ⟨g6, 0, none⟩) rfl rfl ?hw rfl rfl ((fun w0 hS => load_cli (blk_below HG6.out hS))) ?_
            case hw => go_simp
            refine wpO_loadW (t := 27) (ad := ⟨g7, 0, none⟩) rfl rfl ?hw rfl rfl ((fun w0 hS => load_cli (blk_below HG7.out hS))) ?_
            case hw => go_simp
            refine wpO_loadW (t := 27) (ad := ⟨g6, 0, none⟩) rfl rfl ?hw rfl rfl ((fun w0 hS => load_cli (blk_below HG6.out hS))) ?_
            case hw => go_simp
            refine wpO_loadW (t := 27) (ad := ⟨g7, 0, none⟩) rfl rfl ?hw rfl rfl ((fun w0 hS => load_cli (blk_below HG7.out hS))) ?_
            case hw => go_simp
            refine wpO_step2 rfl rfl (below_drew1 _) (fun K hK => ?_)
            go_simp
            refine (csame20_any kx Ab nx cb ky Ad ny cd _ (HRb.out.below (below_drew1 _)) (HRd.out.below (below_drew1 _)) OKX.out.1.t OKX.out.2.t (by omega) (by omega)).mono ?_
            rintro e w11 ⟨rfl, hb11⟩
            have HV11 := Lib.hid (below_step (below_drew1 w10) hb11)
            clear hb11
            refine hK _ _ ⟨HV11.out, ?_⟩
            clear hK K
            refine wpO_step2 rfl rfl (HV11.out) (fun K hK => ?_)
            go_simp
            refine (refsame20_any kx Ab nx cb ky Ad ny cd _ (HRb.out.below HV11.out) (HRd.out.below HV11.out) OKX.out.1.t OKX.out.2.t (by omega) (by omega)).mono ?_
            rintro e w12 ⟨rfl, hb12⟩
            have HV12 := Lib.hid (below_step HV11.out hb12)
            clear hb12
            refine hK _ _ ⟨HV12.out, ?_⟩
            clear hK K
            iterate 3 (refine wpO_step0 rfl rfl (fun K hK => ?_); go_simp; refine hK _ _ ?_; clear hK K)
            refine wpO_loadW (t := 27) (ad := ⟨g6, 0, none⟩) rfl rfl ?hw rfl rfl ((fun w0 hS => load_cli (blk_below HG6.out hS))) ?_
            case hw => go_simp
            refine wpO_loadW (t := 27) (ad := ⟨g4, 0, none⟩) rfl rfl ?hw rfl rfl ((fun w0 hS => load_cli (blk_below HY8.out hS))) ?_
            case hw => go_simp
            refine wpO_step2 rfl rfl (HV12.out) (fun K hK => ?_)
            go_simp
            refine (lshort_any x.k x.A x.n x.c _ (HX.out.1.below (below_step HB8.out HV12.out)) HX.out.2.2).mono ?_
            rw [HNQ.out.2.1, HNQ.out.1.1]
            rintro e w13 ⟨A13, c13, rfl, hO13, hb13⟩
            have HV13 := Lib.hid (below_step HV12.out hb13)
            have HO13 := Lib.hid hO13.reads
            clear hb13 hO13
            refine hK _ _ ⟨HV13.out, ?_⟩
            clear hK K
            refine wpO_step2 rfl rfl (HV13.out) (fun K hK => ?_)
            go_simp
            refine (csame20_any kx Ab nx cb kx A13 nx c13 _ (HRb.out.below HV13.out) HO13.out OKX.out.1.t OKX.out.1.t (by omega) (by omega)).mono ?_
            rw [cliB_self]
            rintro e w14 ⟨rfl, hb14⟩
            have HV14 := Lib.hid (below_step HV13.out hb14)
            clear hb14
            refine hK _ _ ⟨HV14.out, ?_⟩
            clear hK K
            iterate 2 (refine wpO_step0 rfl rfl (fun K hK => ?_); go_simp; refine hK _ _ ?_; clear hK K)
            refine wpO_nil ?_
            have HBF := Lib.hid (below_step HB8.out HV14.out)
            go_wp2_with fail
            go_roundw
            case measure => simp [intOf]; omega
            case rel => exact ⟨j + 1, by go_num, by omega, HBF.out⟩
    · have hlt' : decide (j < n) = false := decide_eq_false hlt
      clear hlt
      go_upto_region 13 with fail
      try dsimp only [Act.put]
      go_wp2_with fail
      go_loopw [67] (fun s67 wr => ∃ j : Nat, s67 = .int .i64 j ∧ Hid (j ≤ m ∧ Below w.heap.size w wr)) (fun x _ => m - (intOf x).toNat)
      case atStart => exact ⟨0, rfl, Nat.zero_le _, HBK.out⟩
      case round =>
        obtain ⟨j2, rfl, HI2⟩ := hrel
        obtain ⟨wl, rfl⟩ : ∃ wk, wk = wr := ⟨wr, rfl⟩
        have HBL := Lib.hid HI2.out.2
        by_cases hlt2 : j2 < m
        · have hlt' : (j2 : Int) < m := by omega
          obtain ⟨b2, o2, rfl, hc2⟩ := HNS.out.spots (by omega)
          have hlb := load_int (cell_below HBL.out (hc2 j2 hlt2))
          obtain ⟨x, hx⟩ : ∃ x, ns.getD j2 0 = x := ⟨_, rfl⟩
          rw [hx] at hlb
          clear hc2 hx
          by_cases h8 : j2 = 8
          · have h8' : ((j2 : Int) == 8) = true := by simp; omega
            clear h8
            go_wp2_with (first | ((with_reducible show wpList _ _ _ (Oper.mk _ (Op.load _ _) _ _ _ _ :: _) _ _); refine wpList_load_g hlb _ rfl rfl (by go_simp) ?_))
            go_ret
            exact ⟨rfl, HBL.out⟩
          · have h8' : ((j2 : Int) == 8) = false := by simp; omega
            clear h8
            go_wp2_with (first | ((with_reducible show wpList _ _ _ (Oper.mk _ (Op.load _ _) _ _ _ _ :: _) _ _); refine wpList_load_g hlb _ rfl rfl (by go_simp) ?_))
            clear hlb
            refine (cnew_any x wl (HLW.out.below HBL.out)).mono ?_
            rintro e w20 ⟨rfl, hb20⟩
            have HB20 := Lib.hid (below_step HBL.out hb20)
            clear hb20
            have hz9 := blk_new w20 (.cells (cliV ckZ none 0 0) 27)
            have HBA := Lib.hid (below_alloc (Below.refl w20.heap.size w20) (.cells (cliV ckZ none 0 0) 27))
            by_cases hnum : 1 ≤ x ∧ x ≤ 2
            · have h1 : decide (x < 1) = false := decide_eq_false (by omega)
              have h2 : decide (2 < x) = false := decide_eq_false (by omega)
              rw [newC_in hnum, newE_in hnum]
              clear hnum
              obtain ⟨kx, hkx⟩ : ∃ k, newK x = k := ⟨_, rfl⟩
              have HKX := Lib.hid hkx
              have HKT : Hid (kx.t = []) := Lib.hid (hkx ▸ rfl)
              rw [hkx]
              clear hkx
              have HBU : Hid (∀ W : World, (Instr.build 27 #[(0, .int .i64 x)]).run Tryd.prog W = .ok (.agg (cliV kx none 0 0)) W) := Lib.hid (fun W => by rw [← HKX.out]; exact run_build_cli1 W x)
              go_wp2_with (first | ((with_reducible show wpList _ _ _ (Oper.mk _ (Op.store _ _ _) _ _ _ _ :: _) _ _); refine wpList_store_blk hz9 27 0 (cliV kx none 0 0) (Nat.le_refl _) (info_cli _ _ _ _) (cli_one _ _ _ _) _ _ rfl rfl rfl rfl ?_; intro w21 hg9 hs9 hb9; rw [splice_cli] at hb9; have H21 := Lib.hid (And.intro hg9 hb9); clear hg9 hs9 hb9) | ((with_reducible show wpList _ _ _ (Oper.mk _ (Op.load _ _) _ _ _ _ :: _) _ _); refine wpList_load_g (load_cli H21.out.2) _ rfl rfl (by go_simp) ?_) | ((with_reducible show wpList _ _ _ (Oper.mk _ (Op.build 27 _) _ _ _ _ :: _) _ _); refine wpList_exw rfl (exec_build1 rfl rfl (HBU.out _)) ?_))
              have hb21 := below_grown HBA.out H21.out.1 (Nat.le_refl _)
              have HB21 := Lib.hid (below_step HB20.out hb21)
              clear hz9 HBA H21 hb21
              refine (refsame20_any kx none 0 0 kx none 0 0 w21 (by rw [HKT.out]; exact RS.nil _ _ _ _) (by rw [HKT.out]; exact RS.nil _ _ _ _) (fun u hu => by rw [HKT.out] at hu; cases hu) (fun u hu => by rw [HKT.out] at hu; cases hu) (by omega) (by omega)).mono ?_
              rw [cliB_self]
              rintro e w22 ⟨rfl, hb22⟩
              have HB22 := Lib.hid (below_step HB21.out hb22)
              clear hb22
              go_wp2_with fail
              go_roundw
              case measure => simp [intOf]; omega
              case rel => exact ⟨j2 + 1, by go_num, by omega, HB22.out⟩
            · have hC : newC x = ckZ ∧ newE x = 2 := ⟨by unfold newC; rw [if_neg hnum], by unfold newE; rw [if_neg hnum]⟩
              rw [hC.1, hC.2]
              have hlt3 : (decide (x < 1) || decide (2 < x)) = true := by
                by_cases h : x < 1
                · simp [h]
                · have : 2 < x := by omega
                  simp [this]
              clear hC
              by_cases h1 : x < 1
              · have h1' : decide (x < 1) = true := decide_eq_true h1
                clear hnum hlt3 h1
                go_wp2_with (first | ((with_reducible show wpList _ _ _ (Oper.mk _ (Op.store _ _ _) _ _ _ _ :: _) _ _); refine wpList_store_blk hz9 27 0 (cliV ckZ none 0 0) (Nat.le_refl _) (info_cli _ _ _ _) (cli_one _ _ _ _) _ _ rfl rfl rfl rfl ?_; intro w21 hg9 hs9 hb9; rw [splice_cli] at hb9; have H21 := Lib.hid (And.intro hg9 hb9); clear hg9 hs9 hb9) | ((with_reducible show wpList _ _ _ (Oper.mk _ (Op.load _ _) _ _ _ _ :: _) _ _); refine wpList_load_g (load_cli H21.out.2) _ rfl rfl (by go_simp) ?_) | ((with_reducible show wpList _ _ _ (Oper.mk _ (Op.build _ _) _ _ _ _ :: _) _ _); refine wpList_exw rfl (exec_build 27 #[] rfl #[] rfl ((run_build_cli_nil _))) ?_))
                have hb21 := below_grown HBA.out H21.out.1 (Nat.le_refl _)
                have HB21 := Lib.hid (below_step HB20.out hb21)
                clear hz9 HBA H21 hb21
                refine (refsame20_any ckZ none 0 0 ckZ none 0 0 w21 (RS.nil _ _ _ _) (RS.nil _ _ _ _) (fun u hu => by cases hu) (fun u hu => by cases hu) (by omega) (by omega)).mono ?_
                rw [cliB_self]
                rintro e w22 ⟨rfl, hb22⟩
                have HB22 := Lib.hid (below_step HB21.out hb22)
                clear hb22
                go_wp2_with fail
                go_roundw
                case measure => simp [intOf]; omega
                case rel => exact ⟨j2 + 1, by go_num, by omega, HB22.out⟩
              · have h1' : decide (x < 1) = false := decide_eq_false h1
                have h2' : decide (2 < x) = true := decide_eq_true (by omega)
                clear hnum hlt3 h1
                go_wp2_with (first | ((with_reducible show wpList _ _ _ (Oper.mk _ (Op.store _ _ _) _ _ _ _ :: _) _ _); refine wpList_store_blk hz9 27 0 (cliV ckZ none 0 0) (Nat.le_refl _) (info_cli _ _ _ _) (cli_one _ _ _ _) _ _ rfl rfl rfl rfl ?_; intro w21 hg9 hs9 hb9; rw [splice_cli] at hb9; have H21 := Lib.hid (And.intro hg9 hb9); clear hg9 hs9 hb9) | ((with_reducible show wpList _ _ _ (Oper.mk _ (Op.load _ _) _ _ _ _ :: _) _ _); refine wpList_load_g (load_cli H21.out.2) _ rfl rfl (by go_simp) ?_) | ((with_reducible show wpList _ _ _ (Oper.mk _ (Op.build _ _) _ _ _ _ :: _) _ _); refine wpList_exw rfl (exec_build 27 #[] rfl #[] rfl ((run_build_cli_nil _))) ?_))
                have hb21 := below_grown HBA.out H21.out.1 (Nat.le_refl _)
                have HB21 := Lib.hid (below_step HB20.out hb21)
                clear hz9 HBA H21 hb21
                refine (refsame20_any ckZ none 0 0 ckZ none 0 0 w21 (RS.nil _ _ _ _) (RS.nil _ _ _ _) (fun u hu => by cases hu) (fun u hu => by cases hu) (by omega) (by omega)).mono ?_
                rw [cliB_self]
                rintro e w22 ⟨rfl, hb22⟩
                have HB22 := Lib.hid (below_step HB21.out hb22)
                clear hb22
                go_wp2_with fail
                go_roundw
                case measure => simp [intOf]; omega
                case rel => exact ⟨j2 + 1, by go_num, by omega, HB22.out⟩
        · have hlt' : decide (j2 < m) = false := decide_eq_false hlt2
          clear hlt2
          go_wp2_with fail
          go_ret
          exact ⟨rfl, HBL.out⟩
end Go.Proofs.YtifejiclenpfoaaDoor

/- The walk of ClientTells, as the row asks it. -/
namespace Go.Proofs.YtifejiclenpfoaaDoor
open Go.RowKit
set_option linter.unusedVariables false
set_option linter.unusedSimpArgs false
set_option maxRecDepth 4000
theorem clientTells_walk (A : Option Addr) (n c : Nat) (l : List Cli) (A2 : Option Addr) (m c2 : Nat) (ns : List Int) (w : World) (hL : Laid w) (hl : RS cliK w A n c l) (hi : ∀ x ∈ l, CliIn w x.k x.A x.n x.c) (hn : n * 48 ≤ 140737488351232) (hm : RN w .i64 A2 m c2 ns) (hmm : m * 8 ≤ 140737488351232) : Calls Tryd.prog 6 #[.slice A n c, .slice A2 m c2] w fun e w' => e = .returned (.bool true) ∧ Below w.heap.size w w' :=
  tells20_any A n c l A2 m c2 ns w hL hl (fun x hx => ⟨(hi x hx).rs, (hi x hx).ok, by have := (hi x hx).small; omega⟩) (by omega) hm (by omega)
end Go.Proofs.YtifejiclenpfoaaDoor
