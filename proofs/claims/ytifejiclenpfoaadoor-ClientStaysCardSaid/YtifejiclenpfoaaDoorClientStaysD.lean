/- Layer 20 (client): the plain law of ClientStays. -/
import Derived.Test.YtifejiclenpfoaaDoorClientStaysC
namespace Go.Proofs.YtifejiclenpfoaaDoor
open Go.RowKit
set_option linter.unusedVariables false
set_option linter.unusedSimpArgs false
set_option maxRecDepth 4000
theorem hearB_away {k : Ck} {a b c d : Int} (h : hearB k a b c d = true) : k.away = true ∧ d ≠ 270 := by
  unfold hearB at h
  simp only [Bool.and_eq_true, Bool.not_eq_true', decide_eq_false_iff_not] at h
  exact ⟨h.1.2, h.2⟩
structure StayF (k kn : Ck) : Prop where
  ck : ckB kn = true
  ok : kn.ok
  num : kn.num = k.num
  seq : k.seq ≤ kn.seq
  len : kn.t.length ≤ 10
theorem ckB_parts {k : Ck} (h : ckB k = true) : (1 ≤ k.num ∧ k.num ≤ 2) ∧ (k.away = true → 0 < k.seq ∧ batB k.t = true) ∧ (k.away = false → k.t.length = 0) := by
  unfold ckB at h
  simp only [Bool.and_eq_true, decide_eq_true_eq] at h
  refine ⟨h.1, fun ha => ?_, fun ha => ?_⟩
  · have h2 := h.2
    rw [ha] at h2
    simpa using h2
  · have h2 := h.2
    rw [ha] at h2
    simpa using h2
theorem ckB_of {k : Ck} (h : 1 ≤ k.num ∧ k.num ≤ 2) (h2 : k.away = true → 0 < k.seq ∧ batB k.t = true) (h3 : k.away = false → k.t.length = 0) : ckB k = true := by
  unfold ckB
  cases ha : k.away with
  | true => obtain ⟨a, b⟩ := h2 ha; simp [h.1, h.2, a, b]
  | false => have := h3 ha; simp [h.1, h.2, this]
theorem StayF.refl {k : Ck} (h : ckB k = true) (ok : k.ok) (hl : k.t.length ≤ 10) : StayF k k := ⟨h, ok, rfl, Int.le_refl _, hl⟩
theorem step_stay {k : Ck} {q : Int} {b : List Upd} {hb : Bool} (h : ckB k = true) (ok : k.ok) (hl : k.t.length ≤ 10) (hob : Oku b) (hlb : b.length ≤ 10) : StayF k (stepK k q b hb) := by
  unfold stepK
  split
  · split
    · rename_i h0
      have hk := subK_ok ok hob h0
      unfold subK at hk ⊢
      rw [if_pos h0] at hk ⊢
      have hbb : batB b = true := by
        unfold subN at h0
        rw [if_pos h] at h0
        split at h0
        · omega
        · split at h0
          · rename_i hb; exact hb
          · omega
      have hs := (u32_wf ok.seq).1
      refine ⟨ckB_of (ckB_parts h).1 (fun _ => ⟨?_, hbb⟩) (fun e => by cases e), hk, rfl, ?_, hlb⟩
      · show 0 < k.seq + 1
        omega
      · show k.seq ≤ k.seq + 1
        omega
    · exact .refl h ok hl
  · split
    · exact .refl h ok hl
    · try rw [if_pos h]
      have hk := hearK_ok ok hb h
      unfold hearK at hk ⊢
      rw [if_pos h] at hk ⊢
      split
      · rename_i hb1
        rw [if_pos hb1] at hk
        exact ⟨ckB_of (ckB_parts h).1 (fun e => by cases e) (fun _ => rfl), hk, rfl, Int.le_refl _, Nat.zero_le _⟩
      · exact .refl h ok hl
theorem step_done {k : Ck} {q : Int} {b : List Upd} {hb : Bool} {e i : Int} (h : ckB k = true) (hd : (stepH k q hb e i).done = true) : hb = true ∧ stepK k q b hb = ⟨k.num, k.seq, false, []⟩ ∧ ∃ ix, stepH k q hb e i = ⟨true, e, k.seq, ix, k.t⟩ := by
  unfold stepH at hd ⊢
  unfold stepK
  split at hd
  · cases hd
  · split at hd
    · cases hd
    · rename_i h0 h1
      rw [if_neg h0, if_neg h1, if_neg h0, if_neg h1, if_pos h]
      unfold hearH at hd ⊢
      rw [h, Bool.true_and] at hd ⊢
      cases hb with
      | false => cases hd
      | true =>
        refine ⟨rfl, by unfold hearK; rw [if_pos h]; rfl, _, rfl⟩
theorem step_same {k : Ck} {q : Int} {b : List Upd} {hb : Bool} {e i : Int} (h : ckB k = true) (ha : k.away = true) (hd : (stepH k q hb e i).done = false) : stepK k q b hb = k := by
  unfold stepH at hd
  unfold stepK
  split
  · rename_i h0
    have h301 : subN k b = 301 := by unfold subN; rw [if_pos h, if_pos ha]
    rw [if_neg (by rw [h301]; decide)]
  · split
    · rfl
    · rename_i h0 h1
      rw [if_neg h0, if_neg h1] at hd
      try rw [if_pos h]
      unfold hearH at hd
      rw [h, Bool.true_and] at hd
      cases hb with
      | true => cases hd
      | false => unfold hearK; rw [if_pos h]; rfl
theorem step_idle {k : Ck} {q : Int} {hb : Bool} {e i : Int} (hb0 : hb = false) : (stepH k q hb e i).done = false := by
  unfold stepH
  split
  · rfl
  · split
    · rfl
    · unfold hearH
      rw [hb0, Bool.and_false]
      rfl
theorem ask_idle {k : Ck} {tg : Int} (hc : ckB k = true) (ha : k.away = false) (ht : 1 ≤ tg ∧ tg ≤ 2) : askN k tg = 4 := by unfold askN; rw [hc, if_pos rfl, if_pos ht, ha]; rfl
theorem askM_ok {k : Ck} {tg : Int} (hc : ckB k = true) (ha : k.away = true) (ht : 1 ≤ tg ∧ tg ≤ 2) : askN k tg = 0 ∧ AskOk (askM k tg) ∧ (askM k tg).seq = k.seq ∧ (askM k tg).t = k.t ∧ 0 < k.seq ∧ batB k.t = true := by
  have h1 := ask_away hc ha ht
  have h2 := ckB_parts hc
  refine ⟨h1.1, ?_, by rw [h1.2], by rw [h1.2], (h2.2.1 ha).1, (h2.2.1 ha).2⟩
  rw [h1.2]
  exact ⟨rfl, by show 2 < 2 + k.num ∧ 2 + k.num ≤ 4; omega, ht⟩
end Go.Proofs.YtifejiclenpfoaaDoor

/- Layer 20 (client): the law ClientStays. -/
namespace Go.Proofs.YtifejiclenpfoaaDoor
open Go.RowKit
set_option linter.unusedVariables false
set_option linter.unusedSimpArgs false
set_option maxRecDepth 4000
set_option maxHeartbeats 16000000 in
set_option maxRecDepth 100000 in
theorem stays20_any (num : Int) (A2 : Option Addr) (m c2 : Nat) (l : List Opn) (w : World) (hL : Laid w) (hnum : (Lit.int .i64 num).wf = true) (hl : RS opK w A2 m c2 l) (hi : ∀ o ∈ l, OpIn w o) (hm : m ≤ 140737488355328) :
    Calls Tryd.prog 5 #[.int .i64 num, .slice A2 m c2] w fun e w' => e = .returned (.bool true) ∧ Below w.heap.size w w' := by
  have HLW := Lib.hid hL
  have HLS := Lib.hid hl
  have HIN := Lib.hid hi
  clear hL hl hi
  go_enter Tryd.func5, Tryd.ntmps5
  go_wp2_with fail
  refine (wakes20_any w HLW.out).mono ?_
  rintro e w1 ⟨rfl, hb1⟩
  have HB1 := Lib.hid hb1
  clear hb1
  go_wp2_with fail
  have hr0 : 0 ≤ (IntKind.u64.wrap num).tmod 2 ∧ (IntKind.u64.wrap num).tmod 2 ≤ 1 := by
    have h1 : 0 ≤ IntKind.u64.wrap num := by
      show 0 ≤ num % 18446744073709551616
      omega
    rw [Int.tmod_eq_emod_of_nonneg h1]
    omega
  obtain ⟨r0, hr⟩ : ∃ r, (IntKind.u64.wrap num).tmod 2 = r := ⟨_, rfl⟩
  rw [hr] at hr0 ⊢
  have hw1 : wrap64 r0 = r0 := IntWalk.wrap64_in _ (by omega)
  have hw2 : wrap64 (1 + r0) = 1 + r0 := IntWalk.wrap64_in _ (by omega)
  rw [hw1, hw2]
  clear hr
  obtain ⟨nn, hnn⟩ : ∃ x, 1 + r0 = x := ⟨_, rfl⟩
  have hin : 1 ≤ nn ∧ nn ≤ 2 := by omega
  rw [hnn]
  clear hnn hw1 hw2 hr0
  refine (cnew_any nn w1 (HLW.out.below HB1.out)).mono ?_
  rw [newC_in hin, newE_in hin]
  obtain ⟨k1, hk1⟩ : ∃ k, k = newK nn := ⟨_, rfl⟩
  rw [← hk1]
  have HO1 : Hid (k1.ok ∧ ckB k1 = true ∧ k1.t = []) := Lib.hid (hk1 ▸ ⟨⟨by show (Lit.int .i64 nn).wf = true; simp [Lit.wf, IntKind.min, IntKind.max, IntKind.bits, IntKind.signed]; omega, (by decide : (Lit.int .u32 (0 : Int)).wf = true), fun r hr => by cases hr⟩, ckB_new hin, rfl⟩)
  clear hin hk1
  rintro e w2 ⟨rfl, hb2⟩
  have HB2 := Lib.hid (below_step HB1.out hb2)
  clear hb2 HB1
  have hz2 := blk_new w2 (.cells (cliV ckZ none 0 0) 27)
  have HBA := Lib.hid (below_alloc (Below.refl w2.heap.size w2) (.cells (cliV ckZ none 0 0) 27))
  go_wp2_with (first | ((with_reducible show wpList _ _ _ (Oper.mk _ (Op.store _ _ _) _ _ _ _ :: _) _ _); refine wpList_store_blk hz2 27 0 (cliV k1 none 0 0) (Nat.le_refl _) (info_cli _ _ _ _) (cli_one _ _ _ _) _ _ rfl rfl rfl rfl ?_; intro w3 hg9 hs9 hb9; rw [splice_cli] at hb9; have H3 := Lib.hid (And.intro hg9 hb9); clear hg9 hs9 hb9))
  have hb23 := below_grown HBA.out H3.out.1 (Nat.le_refl _)
  have HB3 := Lib.hid (below_step HB2.out hb23)
  have HX3 := Lib.hid H3.out.2
  have HG5 : Hid (w.heap.size ≤ w2.heap.size) := Lib.hid HB2.out.size
  obtain ⟨g5, hg5⟩ : ∃ g, w2.heap.size = g := ⟨_, rfl⟩
  rw [hg5] at HX3 HG5 ⊢
  clear hz2 HBA H3 hb23 hg5 HB2
  go_loopw [31] (fun s31 wr => ∃ (j : Nat) (K1 : Ck) (A' : Option Addr) (n' c' : Nat), s31 = .int .i64 j ∧ Hid (j ≤ m ∧ wr.heap[g5]? = some (.cells (cliV K1 A' n' c') 27 (0, 0)) ∧ OS updK wr 0 A' n' c' K1.t ∧ K1.ok ∧ n' ≤ 10 ∧ ckB K1 = true ∧ Below w.heap.size w wr)) (fun x _ => m - (intOf x).toNat)
  case atStart => exact ⟨0, k1, none, 0, 0, rfl, Nat.zero_le _, HX3.out, by rw [HO1.out.2.2]; exact OS.nil _ _ _, HO1.out.1, Nat.zero_le _, HO1.out.2.1, HB3.out⟩
  case round =>
    obtain ⟨j, K1, A', n', c', rfl, HI⟩ := hrel
    obtain ⟨wk, rfl⟩ : ∃ wk, wk = wr := ⟨wr, rfl⟩
    have HBK := Lib.hid HI.out.2.2.2.2.2.2
    by_cases hlt : j < m
    · have hlt' : (j : Int) < m := by omega
      obtain ⟨b, o, rfl, hc⟩ := RS.at_ HLS.out (by omega)
      have hla := Shape.ld opK wk b _ _ (RS.fits_at HLS.out hlt) ((hc j hlt).below HBK.out)
      have hla : (Instr.loadAt 47 (.pointer (some ⟨b, o + j * 26, none⟩))).run Tryd.prog wk = .ok (.agg (opV (l.getD j opK.z))) wk := hla
      have HX := Lib.hid (HIN.out _ (getD_mem (z := opK.z) (by rw [HLS.out.len]; exact hlt)))
      obtain ⟨x, hx⟩ : ∃ x, l.getD j opK.z = x := ⟨_, rfl⟩
      rw [hx] at hla HX
      clear hc hx
      have hz9 := blk_new wk (.cells (opV opZ) 47)
      have HBA := Lib.hid (below_alloc (Below.refl wk.heap.size wk) (.cells (opV opZ) 47))
      by_cases h30 : j = 30
      · have h30' : ((j : Int) == 30) = true := by simp; omega
        clear h30
        go_wp2_with (first | ((with_reducible show wpList _ _ _ (Oper.mk _ (Op.load _ _) _ _ _ _ :: _) _ _); refine wpList_load_g hla _ rfl rfl (by go_simp) ?_) | ((with_reducible show wpList _ _ _ (Oper.mk _ (Op.store _ _ _) _ _ _ _ :: _) _ _); refine wpList_store_blk hz9 47 0 (opV x) (Nat.le_refl _) (info_op _) (op_one _) _ _ rfl rfl rfl rfl ?_; intro w4 hg9 hs9 hb9; rw [splice_op] at hb9; have H4 := Lib.hid (And.intro hg9 hb9); clear hg9 hs9 hb9))
        go_ret
        exact ⟨rfl, below_step HBK.out (below_grown HBA.out H4.out.1 (Nat.le_refl _))⟩
      · have h30' : ((j : Int) == 30) = false := by simp; omega
        clear h30
        go_upto_region 10 with (first | ((with_reducible show wpList _ _ _ (Oper.mk _ (Op.load _ _) _ _ _ _ :: _) _ _); refine wpList_load_g hla _ rfl rfl (by go_simp) ?_) | ((with_reducible show wpList _ _ _ (Oper.mk _ (Op.store _ _ _) _ _ _ _ :: _) _ _); refine wpList_store_blk hz9 47 0 (opV x) (Nat.le_refl _) (info_op _) (op_one _) _ _ rfl rfl rfl rfl ?_; intro w4 hg9 hs9 hb9; rw [splice_op] at hb9; have H4 := Lib.hid (And.intro hg9 hb9); clear hg9 hs9 hb9))
        try dsimp only [Act.put]
        have hb4 := below_grown HBA.out H4.out.1 (Nat.le_refl _)
        have HB4 := Lib.hid (below_step HBK.out hb4)
        have HO4 := Lib.hid (HI.out.2.2.1.below hb4)
        have HX4 := Lib.hid (blk_below HI.out.2.1 hb4)
        have HY4 := Lib.hid H4.out.2
        have HK1 := Lib.hid HI.out.2.2.2.1
        have HCK := Lib.hid HI.out.2.2.2.2.2.1
        have hn' := HI.out.2.2.2.2.1
        have hkl : K1.t.length ≤ 10 := by rw [HO4.out.len]; exact hn'
        obtain ⟨g8, hg8⟩ : ∃ g, wk.heap.size = g := ⟨_, rfl⟩
        rw [hg8] at HY4 ⊢
        clear hz9 HBA H4 hb4 hg8 hla HI HBK
        have hr0 : 0 ≤ (j : Int).tmod 2 ∧ (j : Int).tmod 2 ≤ 1 := by
          rw [Int.tmod_eq_emod_of_nonneg (by omega)]
          omega
        obtain ⟨r, hr⟩ : ∃ r, (j : Int).tmod 2 = r := ⟨_, rfl⟩
        rw [hr] at hr0
        have hw2 : wrap64 (1 + r) = 1 + r := IntWalk.wrap64_in _ (by omega)
        go_upto_region 11 with fail
        try dsimp only [Act.put]
        clear hr hw2
        obtain ⟨tg, htg⟩ : ∃ x, 1 + r = x := ⟨_, rfl⟩
        have HTG : Hid (1 ≤ tg ∧ tg ≤ 2) := Lib.hid (by omega)
        rw [htg]
        clear htg hr0
        go_wp2_with (first | ((with_reducible show wpList _ _ _ (Oper.mk _ (Op.load _ _) _ _ _ _ :: _) _ _); refine wpList_load_g (load_cli HX4.out) _ rfl rfl (by go_simp) ?_))
        refine (cask_any K1 A' n' c' tg w4 (HLW.out.below HB4.out) HO4.out.reads HK1.out (by omega)).mono ?_
        rintro e w5 ⟨A5, n5, c5, rfl, hO5, hb5⟩
        obtain ⟨m1, hm1⟩ : ∃ x, askM K1 tg = x := ⟨_, rfl⟩
        obtain ⟨e1, he1⟩ : ∃ x, askN K1 tg = x := ⟨_, rfl⟩
        have HM1 := Lib.hid (And.intro hm1 he1)
        rw [hm1] at hO5
        rw [hm1, he1]
        have HP5 := Lib.hid (hO5.lower (Nat.zero_le _))
        (first | replace HB4 := Lib.hid (RS.below HB4.out hb5) | replace HB4 := Lib.hid (blk_below HB4.out hb5) | replace HB4 := Lib.hid (below_step HB4.out hb5) | replace HB4 := Lib.hid (HB4.out.below hb5))
        (first | replace HX4 := Lib.hid (RS.below HX4.out hb5) | replace HX4 := Lib.hid (blk_below HX4.out hb5) | replace HX4 := Lib.hid (below_step HX4.out hb5) | replace HX4 := Lib.hid (HX4.out.below hb5))
        (first | replace HY4 := Lib.hid (RS.below HY4.out hb5) | replace HY4 := Lib.hid (blk_below HY4.out hb5) | replace HY4 := Lib.hid (below_step HY4.out hb5) | replace HY4 := Lib.hid (HY4.out.below hb5))
        replace HO4 := Lib.hid (OS.below HO4.out hb5)
        clear hO5 hb5 hm1 he1
        have hz9 := blk_new w5 (.cells (gmV gmZ none 0 0) 45)
        have HBA := Lib.hid (below_alloc (Below.refl w5.heap.size w5) (.cells (gmV gmZ none 0 0) 45))
        go_upto_region 12 with (first | ((with_reducible show wpList _ _ _ (Oper.mk _ (Op.store _ _ _) _ _ _ _ :: _) _ _); refine wpList_store_blk hz9 45 0 (gmV m1 A5 n5 c5) (Nat.le_refl _) (info_gm _ _ _ _) (gm_one _ _ _ _) _ _ rfl rfl rfl rfl ?_; intro w6 hg9 hs9 hb9; rw [splice_gm] at hb9; have H6 := Lib.hid (And.intro hg9 hb9); clear hg9 hs9 hb9))
        try dsimp only [Act.put]
        have hb56 := below_grown HBA.out H6.out.1 (Nat.le_refl _)
        have HG6 := Lib.hid H6.out.2
        (first | replace HB4 := Lib.hid (RS.below HB4.out hb56) | replace HB4 := Lib.hid (blk_below HB4.out hb56) | replace HB4 := Lib.hid (below_step HB4.out hb56) | replace HB4 := Lib.hid (HB4.out.below hb56))
        (first | replace HX4 := Lib.hid (RS.below HX4.out hb56) | replace HX4 := Lib.hid (blk_below HX4.out hb56) | replace HX4 := Lib.hid (below_step HX4.out hb56) | replace HX4 := Lib.hid (HX4.out.below hb56))
        (first | replace HY4 := Lib.hid (RS.below HY4.out hb56) | replace HY4 := Lib.hid (blk_below HY4.out hb56) | replace HY4 := Lib.hid (below_step HY4.out hb56) | replace HY4 := Lib.hid (HY4.out.below hb56))
        replace HO4 := Lib.hid (OS.below HO4.out hb56)
        replace HP5 := Lib.hid (OS.below HP5.out hb56)
        obtain ⟨g10, hg10⟩ : ∃ g, w5.heap.size = g := ⟨_, rfl⟩
        rw [hg10] at HG6 ⊢
        clear hz9 HBA H6 hb56 hg10
        go_wp2_with (first | ((with_reducible show wpList _ _ _ (Oper.mk _ (Op.load _ _) _ _ _ _ :: _) _ _); refine wpList_load_g (load_cli HX4.out) _ rfl rfl (by go_simp) ?_) | ((with_reducible show wpList _ _ _ (Oper.mk _ (Op.load _ _) _ _ _ _ :: _) _ _); refine wpList_load_g ((op_ld HY4.out).all) _ rfl rfl (by go_simp) ?_))
        refine (step20_any K1 A' n' c' x w6 (HLW.out.below HB4.out) HO4.out HK1.out hn' (HX.out.below HB4.out) HCK.out).mono ?_
        rintro e w7 ⟨A7, n7, c7, B7, m7, d7, rfl, hO7, hP7, hb7⟩
        have HB10 : Hid (Oku (x.t.take 10) ∧ (x.t.take 10).length ≤ 10) := Lib.hid ⟨fun u hu => HX.out.oku u (List.mem_of_mem_take hu), by simp; omega⟩
        have HST := Lib.hid (step_stay (q := opQ x) (hb := hearB K1 x.m.kd x.m.tgt x.m.seq x.m.err) HCK.out HK1.out hkl HB10.out.1 HB10.out.2)
        have HDN := Lib.hid (fun h => step_done (q := opQ x) (b := x.t.take 10) (hb := hearB K1 x.m.kd x.m.tgt x.m.seq x.m.err) (e := x.m.err) (i := x.m.idx) HCK.out h)
        have HSM := Lib.hid (fun ha hd => step_same (q := opQ x) (b := x.t.take 10) (hb := hearB K1 x.m.kd x.m.tgt x.m.seq x.m.err) (e := x.m.err) (i := x.m.idx) HCK.out ha hd)
        have HID := Lib.hid (fun h => step_idle (k := K1) (q := opQ x) (hb := hearB K1 x.m.kd x.m.tgt x.m.seq x.m.err) (e := x.m.err) (i := x.m.idx) h)
        have HAW := Lib.hid (fun h => hearB_away (k := K1) (a := x.m.kd) (b := x.m.tgt) (c := x.m.seq) (d := x.m.err) h)
        obtain ⟨hB, hhB⟩ : ∃ y, hearB K1 x.m.kd x.m.tgt x.m.seq x.m.err = y := ⟨_, rfl⟩
        rw [hhB] at HST HDN HSM HID HAW hO7 hP7 ⊢
        obtain ⟨KN, hKN⟩ : ∃ y, stepK K1 (opQ x) (x.t.take 10) hB = y := ⟨_, rfl⟩
        obtain ⟨HN, hHN⟩ : ∃ y, stepH K1 (opQ x) hB x.m.err x.m.idx = y := ⟨_, rfl⟩
        rw [hKN] at HST HDN HSM hO7
        rw [hHN] at HDN HSM HID hP7
        rw [hKN, hHN]
        have HO7 := Lib.hid hO7
        have HP7 := Lib.hid hP7
        (first | replace HB4 := Lib.hid (RS.below HB4.out hb7) | replace HB4 := Lib.hid (blk_below HB4.out hb7) | replace HB4 := Lib.hid (below_step HB4.out hb7) | replace HB4 := Lib.hid (HB4.out.below hb7))
        (first | replace HX4 := Lib.hid (RS.below HX4.out hb7) | replace HX4 := Lib.hid (blk_below HX4.out hb7) | replace HX4 := Lib.hid (below_step HX4.out hb7) | replace HX4 := Lib.hid (HX4.out.below hb7))
        (first | replace HG6 := Lib.hid (RS.below HG6.out hb7) | replace HG6 := Lib.hid (blk_below HG6.out hb7) | replace HG6 := Lib.hid (below_step HG6.out hb7) | replace HG6 := Lib.hid (HG6.out.below hb7))
        replace HO4 := Lib.hid (OS.below HO4.out hb7)
        replace HP5 := Lib.hid (OS.below HP5.out hb7)
        have HLT : Hid (g5 < w7.heap.size ∧ g10 < w7.heap.size) := Lib.hid ⟨blk_lt HX4.out, blk_lt HG6.out⟩
        clear hO7 hP7 hb7 hhB hKN hHN HY4 HB10
        obtain ⟨W8, hW8⟩ : ∃ W, w7.alloc (.cells (cliV ckZ none 0 0) 27) = W := ⟨_, rfl⟩
        obtain ⟨W9, hW9⟩ : ∃ W, W8.alloc (.cells (hdV hdZ none 0 0) 61) = W := ⟨_, rfl⟩
        have b8 : Below w7.heap.size w7 W8 := hW8 ▸ below_alloc (Below.refl _ _) _
        have b9 : Below W8.heap.size W8 W9 := hW9 ▸ below_alloc (Below.refl _ _) _
        have HS8 : Hid (W8.heap.size = w7.heap.size + 1) := Lib.hid (by rw [← hW8]; simp)
        have n8 : W9.heap[w7.heap.size]? = some (.cells (cliV ckZ none 0 0) 27 (0, 0)) := blk_below (hW8 ▸ blk_new _ _) b9
        have n9 : W9.heap[W8.heap.size]? = some (.cells (hdV hdZ none 0 0) 61 (0, 0)) := hW9 ▸ blk_new _ _
        have hw8 : w7.alloc (.cells #[.int .i64 0, .int .u32 0, .slice none 0 0, .bool false] 27) = W8 := hW8
        have hw9 : W8.alloc (.cells #[.bool false, .int .i64 0, .int .u32 0, .slice none 0 0, .int .u64 0] 61) = W9 := hW9
        have HB79 := Lib.hid (below_step b8 b9)
        clear hW8 hW9
        go_upto_region 13 with (first | ((with_reducible show wpList _ _ _ (Oper.mk _ (Op.store _ _ _) _ _ _ _ :: _) _ _); refine wpList_store_blk n8 27 0 (cliV KN A7 n7 c7) (Nat.le_refl _) (info_cli _ _ _ _) (cli_one _ _ _ _) _ _ rfl rfl rfl rfl ?_; intro w10 hg9 hs9 hb9; rw [splice_cli] at hb9; have H10 := Lib.hid (And.intro hg9 hb9); clear hg9 hs9 hb9) | ((with_reducible show wpList _ _ _ (Oper.mk _ (Op.store _ _ _) _ _ _ _ :: _) _ _); refine wpList_store_blk (blk_grown n9 H10.out.1 (fun e => by have s8 := HS8.out; injection e with e; omega)) 61 0 (hdV HN B7 m7 d7) (Nat.le_refl _) (info_hd _ _ _ _) (hd_one _ _ _ _) _ _ rfl rfl rfl rfl ?_; intro w11 hg9 hs9 hb9; rw [splice_hd] at hb9; have H11 := Lib.hid (And.intro hg9 hb9); clear hg9 hs9 hb9))
        try dsimp only [Act.put]
        have hb11 := below_grown (below_grown HB79.out H10.out.1 (Nat.le_refl _)) H11.out.1 (by have s8 := HS8.out; omega)
        have HN11 := Lib.hid (blk_grown H10.out.2 H11.out.1 (fun e => by have s8 := HS8.out; injection e with e; omega))
        have HH11 := Lib.hid H11.out.2
        (first | replace HB4 := Lib.hid (RS.below HB4.out hb11) | replace HB4 := Lib.hid (blk_below HB4.out hb11) | replace HB4 := Lib.hid (below_step HB4.out hb11) | replace HB4 := Lib.hid (HB4.out.below hb11))
        (first | replace HX4 := Lib.hid (RS.below HX4.out hb11) | replace HX4 := Lib.hid (blk_below HX4.out hb11) | replace HX4 := Lib.hid (below_step HX4.out hb11) | replace HX4 := Lib.hid (HX4.out.below hb11))
        (first | replace HG6 := Lib.hid (RS.below HG6.out hb11) | replace HG6 := Lib.hid (blk_below HG6.out hb11) | replace HG6 := Lib.hid (below_step HG6.out hb11) | replace HG6 := Lib.hid (HG6.out.below hb11))
        replace HO4 := Lib.hid (OS.below HO4.out hb11)
        replace HP5 := Lib.hid (OS.below HP5.out hb11)
        replace HO7 := Lib.hid (OS.below HO7.out hb11)
        replace HP7 := Lib.hid (OS.below HP7.out hb11)
        obtain ⟨g12, hg12⟩ : ∃ g, w7.heap.size = g := ⟨_, rfl⟩
        obtain ⟨g13, hg13⟩ : ∃ g, W8.heap.size = g := ⟨_, rfl⟩
        rw [hg12] at HN11 HLT ⊢
        rw [hg13] at HH11 ⊢
        have HL13 : Hid (g12 < g13) := Lib.hid (by have s8 := HS8.out; omega)
        clear b8 b9 HS8 n8 n9 hw8 hw9 HB79 H10 H11 hb11 hg12 hg13
        have hn7 : n7 ≤ 10 := by have h1 := HO7.out.len; have h2 := HST.out.len; omega
        go_wp2_with (first | ((with_reducible show wpList _ _ _ (Oper.mk _ (Op.load _ _) _ _ _ _ :: _) _ _); refine wpList_load_g (load_cli HN11.out) _ rfl rfl (by go_simp) ?_))
        refine (cask_any KN A7 n7 c7 tg w11 (HLW.out.below HB4.out) HO7.out.reads HST.out.ok (by omega)).mono ?_
        rintro e w12 ⟨A12, n12, c12, rfl, hO12, hb12⟩
        obtain ⟨m2, hm2⟩ : ∃ x, askM KN tg = x := ⟨_, rfl⟩
        obtain ⟨e2, he2⟩ : ∃ x, askN KN tg = x := ⟨_, rfl⟩
        have HM2 := Lib.hid (And.intro hm2 he2)
        rw [hm2] at hO12
        rw [hm2, he2]
        have HP12 := Lib.hid (hO12.lower (Nat.zero_le _))
        (first | replace HB4 := Lib.hid (RS.below HB4.out hb12) | replace HB4 := Lib.hid (blk_below HB4.out hb12) | replace HB4 := Lib.hid (below_step HB4.out hb12) | replace HB4 := Lib.hid (HB4.out.below hb12))
        (first | replace HX4 := Lib.hid (RS.below HX4.out hb12) | replace HX4 := Lib.hid (blk_below HX4.out hb12) | replace HX4 := Lib.hid (below_step HX4.out hb12) | replace HX4 := Lib.hid (HX4.out.below hb12))
        (first | replace HG6 := Lib.hid (RS.below HG6.out hb12) | replace HG6 := Lib.hid (blk_below HG6.out hb12) | replace HG6 := Lib.hid (below_step HG6.out hb12) | replace HG6 := Lib.hid (HG6.out.below hb12))
        (first | replace HN11 := Lib.hid (RS.below HN11.out hb12) | replace HN11 := Lib.hid (blk_below HN11.out hb12) | replace HN11 := Lib.hid (below_step HN11.out hb12) | replace HN11 := Lib.hid (HN11.out.below hb12))
        (first | replace HH11 := Lib.hid (RS.below HH11.out hb12) | replace HH11 := Lib.hid (blk_below HH11.out hb12) | replace HH11 := Lib.hid (below_step HH11.out hb12) | replace HH11 := Lib.hid (HH11.out.below hb12))
        replace HO4 := Lib.hid (OS.below HO4.out hb12)
        replace HP5 := Lib.hid (OS.below HP5.out hb12)
        replace HO7 := Lib.hid (OS.below HO7.out hb12)
        replace HP7 := Lib.hid (OS.below HP7.out hb12)
        clear hO12 hb12 hm2 he2
        have hz9 := blk_new w12 (.cells (gmV gmZ none 0 0) 45)
        have HBA := Lib.hid (below_alloc (Below.refl w12.heap.size w12) (.cells (gmV gmZ none 0 0) 45))
        go_upto_region 14 with (first | ((with_reducible show wpList _ _ _ (Oper.mk _ (Op.store _ _ _) _ _ _ _ :: _) _ _); refine wpList_store_blk hz9 45 0 (gmV m2 A12 n12 c12) (Nat.le_refl _) (info_gm _ _ _ _) (gm_one _ _ _ _) _ _ rfl rfl rfl rfl ?_; intro w13 hg9 hs9 hb9; rw [splice_gm] at hb9; have H13 := Lib.hid (And.intro hg9 hb9); clear hg9 hs9 hb9))
        try dsimp only [Act.put]
        have hb13 := below_grown HBA.out H13.out.1 (Nat.le_refl _)
        have HG13 := Lib.hid H13.out.2
        (first | replace HB4 := Lib.hid (RS.below HB4.out hb13) | replace HB4 := Lib.hid (blk_below HB4.out hb13) | replace HB4 := Lib.hid (below_step HB4.out hb13) | replace HB4 := Lib.hid (HB4.out.below hb13))
        (first | replace HX4 := Lib.hid (RS.below HX4.out hb13) | replace HX4 := Lib.hid (blk_below HX4.out hb13) | replace HX4 := Lib.hid (below_step HX4.out hb13) | replace HX4 := Lib.hid (HX4.out.below hb13))
        (first | replace HG6 := Lib.hid (RS.below HG6.out hb13) | replace HG6 := Lib.hid (blk_below HG6.out hb13) | replace HG6 := Lib.hid (below_step HG6.out hb13) | replace HG6 := Lib.hid (HG6.out.below hb13))
        (first | replace HN11 := Lib.hid (RS.below HN11.out hb13) | replace HN11 := Lib.hid (blk_below HN11.out hb13) | replace HN11 := Lib.hid (below_step HN11.out hb13) | replace HN11 := Lib.hid (HN11.out.below hb13))
        (first | replace HH11 := Lib.hid (RS.below HH11.out hb13) | replace HH11 := Lib.hid (blk_below HH11.out hb13) | replace HH11 := Lib.hid (below_step HH11.out hb13) | replace HH11 := Lib.hid (HH11.out.below hb13))
        replace HO4 := Lib.hid (OS.below HO4.out hb13)
        replace HP5 := Lib.hid (OS.below HP5.out hb13)
        replace HO7 := Lib.hid (OS.below HO7.out hb13)
        replace HP7 := Lib.hid (OS.below HP7.out hb13)
        replace HP12 := Lib.hid (OS.below HP12.out hb13)
        obtain ⟨g14, hg14⟩ : ∃ g, w12.heap.size = g := ⟨_, rfl⟩
        rw [hg14] at HG13 ⊢
        clear hz9 HBA H13 hb13 hg14
        have HCN := Lib.hid ((cli_at HN11.out).all _ (Below.refl _ _))
        go_wp2_with (first | ((with_reducible show wpList _ _ _ (Oper.mk _ (Op.load _ _) _ _ _ _ :: _) _ _); refine wpList_load_g (HCN.out.all) _ rfl rfl (by go_simp) ?_))
        refine (ccheck20_any KN A7 n7 c7 w13 (HLW.out.below HB4.out) HO7.out.reads HST.out.ok.t (by omega)).mono ?_
        rw [show ckE KN = 0 by unfold ckE; rw [HST.out.ck]; rfl]
        rintro e w14 ⟨rfl, hb14⟩
        (first | replace HB4 := Lib.hid (RS.below HB4.out hb14) | replace HB4 := Lib.hid (blk_below HB4.out hb14) | replace HB4 := Lib.hid (below_step HB4.out hb14) | replace HB4 := Lib.hid (HB4.out.below hb14))
        (first | replace HX4 := Lib.hid (RS.below HX4.out hb14) | replace HX4 := Lib.hid (blk_below HX4.out hb14) | replace HX4 := Lib.hid (below_step HX4.out hb14) | replace HX4 := Lib.hid (HX4.out.below hb14))
        (first | replace HG6 := Lib.hid (RS.below HG6.out hb14) | replace HG6 := Lib.hid (blk_below HG6.out hb14) | replace HG6 := Lib.hid (below_step HG6.out hb14) | replace HG6 := Lib.hid (HG6.out.below hb14))
        (first | replace HN11 := Lib.hid (RS.below HN11.out hb14) | replace HN11 := Lib.hid (blk_below HN11.out hb14) | replace HN11 := Lib.hid (below_step HN11.out hb14) | replace HN11 := Lib.hid (HN11.out.below hb14))
        (first | replace HH11 := Lib.hid (RS.below HH11.out hb14) | replace HH11 := Lib.hid (blk_below HH11.out hb14) | replace HH11 := Lib.hid (below_step HH11.out hb14) | replace HH11 := Lib.hid (HH11.out.below hb14))
        (first | replace HG13 := Lib.hid (RS.below HG13.out hb14) | replace HG13 := Lib.hid (blk_below HG13.out hb14) | replace HG13 := Lib.hid (below_step HG13.out hb14) | replace HG13 := Lib.hid (HG13.out.below hb14))
        replace HO4 := Lib.hid (OS.below HO4.out hb14)
        replace HP5 := Lib.hid (OS.below HP5.out hb14)
        replace HO7 := Lib.hid (OS.below HO7.out hb14)
        replace HP7 := Lib.hid (OS.below HP7.out hb14)
        replace HP12 := Lib.hid (OS.below HP12.out hb14)
        clear hb14 HCN
        have HCN := Lib.hid ((cli_at HN11.out).all _ (Below.refl _ _))
        have HCC := Lib.hid ((cli_at HX4.out).all _ (Below.refl _ _))
        have HHL := Lib.hid (hd_ld HH11.out)
        have hnum : (KN.num != K1.num) = false := by rw [HST.out.num]; simp
        have hseq : decide (KN.seq < K1.seq) = false := decide_eq_false (by have := HST.out.seq; omega)
        cases hka : K1.away with
        | false =>
          have HE1 : Hid (e1 = 4) := Lib.hid (by rw [← HM1.out.2]; exact ask_idle HCK.out hka HTG.out)
          have hd : HN.done = false := HID.out (by cases h : hB with
            | false => rfl
            | true => have := (HAW.out h).1; rw [hka] at this; cases this)
          have HDL : Hid ((Instr.loadAt 4 (.pointer (some ⟨g13, 0, none⟩))).run Tryd.prog w14 = .ok (.bool false) w14) := Lib.hid (by have h := HHL.out.done; rw [hd] at h; exact h)
          rw [HE1.out]
          clear hka hd
          go_wp2_with (first | ((with_reducible show wpList _ _ _ (Oper.mk _ (Op.load _ _) _ _ _ _ :: _) _ _); refine wpList_load_g (HCN.out.num) _ rfl rfl (by go_simp) ?_) | ((with_reducible show wpList _ _ _ (Oper.mk _ (Op.load _ _) _ _ _ _ :: _) _ _); refine wpList_load_g (HCC.out.num) _ rfl rfl (by go_simp) ?_) | ((with_reducible show wpList _ _ _ (Oper.mk _ (Op.load _ _) _ _ _ _ :: _) _ _); refine wpList_load_g (HCN.out.seq) _ rfl rfl (by go_simp) ?_) | ((with_reducible show wpList _ _ _ (Oper.mk _ (Op.load _ _) _ _ _ _ :: _) _ _); refine wpList_load_g (HCC.out.seq) _ rfl rfl (by go_simp) ?_) | ((with_reducible show wpList _ _ _ (Oper.mk _ (Op.load _ _) _ _ _ _ :: _) _ _); refine wpList_load_g (HDL.out) _ rfl rfl (by go_simp) ?_) | ((with_reducible show wpList _ _ _ (Oper.mk _ (Op.load _ _) _ _ _ _ :: _) _ _); refine wpList_load_g (HCN.out.all) _ rfl rfl (by go_simp) ?_) | ((with_reducible show wpList _ _ _ (Oper.mk _ (Op.store _ _ _) _ _ _ _ :: _) _ _); refine wpList_store_blk HX4.out 27 0 (cliV KN A7 n7 c7) (Nat.le_refl _) (info_cli _ _ _ _) (cli_one _ _ _ _) _ _ rfl rfl rfl rfl ?_; intro w15 hg9 hs9 hb9; rw [splice_cli] at hb9; have H15 := Lib.hid (And.intro hg9 hb9); clear hg9 hs9 hb9))
          go_roundw
          case measure => simp [intOf]; omega
          case rel => exact ⟨j + 1, KN, A7, n7, c7, by go_num, by omega, H15.out.2, HO7.out.grownT HX4.out (by decide) H15.out.1, HST.out.ok, hn7, HST.out.ck, below_grown HB4.out H15.out.1 HG5.out⟩
        | true =>
          have hak := askM_ok HCK.out hka HTG.out
          rw [HM1.out.1, HM1.out.2] at hak
          have HAK := Lib.hid hak
          rw [hak.1]
          cases hd : HN.done with
          | false =>
            have hkn : KN = K1 := HSM.out hka hd
            have he2 : e2 = 0 := by rw [← HM2.out.2, hkn, HM1.out.2]; exact hak.1
            have hm2 : m2 = m1 := by rw [← HM2.out.1, hkn, HM1.out.1]
            have HDL : Hid ((Instr.loadAt 4 (.pointer (some ⟨g13, 0, none⟩))).run Tryd.prog w14 = .ok (.bool false) w14) := Lib.hid (by have h := HHL.out.done; rw [hd] at h; exact h)
            have HDF := Lib.hid hd
            subst hm2
            rw [he2]
            have HR12 := Lib.hid HP12.out.reads
            have HR5 := Lib.hid HP5.out.reads
            have hn5 : n5 ≤ 10 := by have h1 := HP5.out.len; have h2 := hak.2.2.2.1; rw [h2] at h1; omega
            have hn12 : n12 ≤ 10 := by have h1 := HP12.out.len; have h2 := hak.2.2.2.1; rw [h2] at h1; omega
            have HMO : Hid (Oku m2.t ∧ (Lit.int .u32 m2.seq).wf = true ∧ 0 < m2.seq ∧ batB m2.t = true) := Lib.hid ⟨by rw [hak.2.2.2.1]; exact HK1.out.t, by rw [hak.2.2.1]; exact HK1.out.seq, by rw [hak.2.2.1]; exact hak.2.2.2.2.1, by rw [hak.2.2.2.1]; exact hak.2.2.2.2.2⟩
            clear hak hka hd hkn he2 hkl
            go_wp2_with (first | ((with_reducible show wpList _ _ _ (Oper.mk _ (Op.load _ _) _ _ _ _ :: _) _ _); refine wpList_load_g (HCN.out.num) _ rfl rfl (by go_simp) ?_) | ((with_reducible show wpList _ _ _ (Oper.mk _ (Op.load _ _) _ _ _ _ :: _) _ _); refine wpList_load_g (HCC.out.num) _ rfl rfl (by go_simp) ?_) | ((with_reducible show wpList _ _ _ (Oper.mk _ (Op.load _ _) _ _ _ _ :: _) _ _); refine wpList_load_g (HCN.out.seq) _ rfl rfl (by go_simp) ?_) | ((with_reducible show wpList _ _ _ (Oper.mk _ (Op.load _ _) _ _ _ _ :: _) _ _); refine wpList_load_g (HCC.out.seq) _ rfl rfl (by go_simp) ?_) | ((with_reducible show wpList _ _ _ (Oper.mk _ (Op.load _ _) _ _ _ _ :: _) _ _); refine wpList_load_g (load_gm HG6.out) _ rfl rfl (by go_simp) ?_))
            refine (fcheck_ask m2 A5 n5 c5 w14 (HLW.out.below HB4.out) HR5.out HMO.out.1 (by omega) HAK.out.2.1 HMO.out.2.1 HMO.out.2.2.1 HMO.out.2.2.2).mono ?_
            rintro e w15 ⟨rfl, hb15⟩
            (first | replace HB4 := Lib.hid (RS.below HB4.out hb15) | replace HB4 := Lib.hid (blk_below HB4.out hb15) | replace HB4 := Lib.hid (below_step HB4.out hb15) | replace HB4 := Lib.hid (HB4.out.below hb15))
            (first | replace HX4 := Lib.hid (RS.below HX4.out hb15) | replace HX4 := Lib.hid (blk_below HX4.out hb15) | replace HX4 := Lib.hid (below_step HX4.out hb15) | replace HX4 := Lib.hid (HX4.out.below hb15))
            (first | replace HG6 := Lib.hid (RS.below HG6.out hb15) | replace HG6 := Lib.hid (blk_below HG6.out hb15) | replace HG6 := Lib.hid (below_step HG6.out hb15) | replace HG6 := Lib.hid (HG6.out.below hb15))
            (first | replace HN11 := Lib.hid (RS.below HN11.out hb15) | replace HN11 := Lib.hid (blk_below HN11.out hb15) | replace HN11 := Lib.hid (below_step HN11.out hb15) | replace HN11 := Lib.hid (HN11.out.below hb15))
            (first | replace HH11 := Lib.hid (RS.below HH11.out hb15) | replace HH11 := Lib.hid (blk_below HH11.out hb15) | replace HH11 := Lib.hid (below_step HH11.out hb15) | replace HH11 := Lib.hid (HH11.out.below hb15))
            (first | replace HG13 := Lib.hid (RS.below HG13.out hb15) | replace HG13 := Lib.hid (blk_below HG13.out hb15) | replace HG13 := Lib.hid (below_step HG13.out hb15) | replace HG13 := Lib.hid (HG13.out.below hb15))
            (first | replace HR5 := Lib.hid (RS.below HR5.out hb15) | replace HR5 := Lib.hid (blk_below HR5.out hb15) | replace HR5 := Lib.hid (below_step HR5.out hb15) | replace HR5 := Lib.hid (HR5.out.below hb15))
            (first | replace HR12 := Lib.hid (RS.below HR12.out hb15) | replace HR12 := Lib.hid (blk_below HR12.out hb15) | replace HR12 := Lib.hid (below_step HR12.out hb15) | replace HR12 := Lib.hid (HR12.out.below hb15))
            replace HO7 := Lib.hid (OS.below HO7.out hb15)
            have HDL : Hid ((Instr.loadAt 4 (.pointer (some ⟨g13, 0, none⟩))).run Tryd.prog w15 = .ok (.bool false) w15) := Lib.hid (by have h := (hd_ld HH11.out).done; rw [HDF.out] at h; exact h)
            clear hb15 HCN HCC HHL
            go_wp2_with (first | ((with_reducible show wpList _ _ _ (Oper.mk _ (Op.load _ _) _ _ _ _ :: _) _ _); refine wpList_load_g (HDL.out) _ rfl rfl (by go_simp) ?_) | ((with_reducible show wpList _ _ _ (Oper.mk _ (Op.load _ _) _ _ _ _ :: _) _ _); refine wpList_load_g (load_gm HG6.out) _ rfl rfl (by go_simp) ?_) | ((with_reducible show wpList _ _ _ (Oper.mk _ (Op.load _ _) _ _ _ _ :: _) _ _); refine wpList_load_g (load_gm HG13.out) _ rfl rfl (by go_simp) ?_))
            refine (fsame_any m2 A5 n5 c5 A12 n12 c12 w15 HR5.out HR12.out HMO.out.1 (by omega) (by omega)).mono ?_
            rintro e w16 ⟨rfl, hb16⟩
            (first | replace HB4 := Lib.hid (RS.below HB4.out hb16) | replace HB4 := Lib.hid (blk_below HB4.out hb16) | replace HB4 := Lib.hid (below_step HB4.out hb16) | replace HB4 := Lib.hid (HB4.out.below hb16))
            (first | replace HX4 := Lib.hid (RS.below HX4.out hb16) | replace HX4 := Lib.hid (blk_below HX4.out hb16) | replace HX4 := Lib.hid (below_step HX4.out hb16) | replace HX4 := Lib.hid (HX4.out.below hb16))
            (first | replace HN11 := Lib.hid (RS.below HN11.out hb16) | replace HN11 := Lib.hid (blk_below HN11.out hb16) | replace HN11 := Lib.hid (below_step HN11.out hb16) | replace HN11 := Lib.hid (HN11.out.below hb16))
            (first | replace HH11 := Lib.hid (RS.below HH11.out hb16) | replace HH11 := Lib.hid (blk_below HH11.out hb16) | replace HH11 := Lib.hid (below_step HH11.out hb16) | replace HH11 := Lib.hid (HH11.out.below hb16))
            replace HO7 := Lib.hid (OS.below HO7.out hb16)
            have HDL : Hid ((Instr.loadAt 4 (.pointer (some ⟨g13, 0, none⟩))).run Tryd.prog w16 = .ok (.bool false) w16) := Lib.hid (by have h := (hd_ld HH11.out).done; rw [HDF.out] at h; exact h)
            clear hb16
            go_wp2_with (first | ((with_reducible show wpList _ _ _ (Oper.mk _ (Op.load _ _) _ _ _ _ :: _) _ _); refine wpList_load_g (HDL.out) _ rfl rfl (by go_simp) ?_) | ((with_reducible show wpList _ _ _ (Oper.mk _ (Op.load _ _) _ _ _ _ :: _) _ _); refine wpList_load_g (load_cli HN11.out) _ rfl rfl (by go_simp) ?_) | ((with_reducible show wpList _ _ _ (Oper.mk _ (Op.store _ _ _) _ _ _ _ :: _) _ _); refine wpList_store_blk HX4.out 27 0 (cliV KN A7 n7 c7) (Nat.le_refl _) (info_cli _ _ _ _) (cli_one _ _ _ _) _ _ rfl rfl rfl rfl ?_; intro w17 hg9 hs9 hb9; rw [splice_cli] at hb9; have H17 := Lib.hid (And.intro hg9 hb9); clear hg9 hs9 hb9))
            go_roundw
            case measure => simp [intOf]; omega
            case rel => exact ⟨j + 1, KN, A7, n7, c7, by go_num, by omega, H17.out.2, HO7.out.grownT HX4.out (by decide) H17.out.1, HST.out.ok, hn7, HST.out.ck, below_grown HB4.out H17.out.1 HG5.out⟩
          | true =>
            obtain ⟨hb1, hkn, ix, hhn⟩ := HDN.out hd
            have HHN := Lib.hid hhn
            have HKN := Lib.hid hkn
            have HER : Hid ((x.m.err == 270) = false) := Lib.hid (by simpa using (HAW.out hb1).2)
            have he2 : e2 = 4 := by rw [← HM2.out.2]; exact ask_idle HST.out.ck (by rw [hkn]) HTG.out
            rw [he2]
            have HR5 := Lib.hid HP5.out.reads
            have hn5 : n5 ≤ 10 := by have h1 := HP5.out.len; have h2 := hak.2.2.2.1; rw [h2] at h1; omega
            have HMO : Hid (Oku m1.t ∧ (Lit.int .u32 m1.seq).wf = true ∧ 0 < m1.seq ∧ batB m1.t = true) := Lib.hid ⟨by rw [hak.2.2.2.1]; exact HK1.out.t, by rw [hak.2.2.1]; exact HK1.out.seq, by rw [hak.2.2.1]; exact hak.2.2.2.2.1, by rw [hak.2.2.2.1]; exact hak.2.2.2.2.2⟩
            have hnt : HN.t = m1.t := by rw [hhn, hak.2.2.2.1]
            have HNT := Lib.hid hnt
            have HSQ : Hid (HN.seq = m1.seq ∧ HN.seq = KN.seq) := Lib.hid ⟨by rw [hhn, hak.2.2.1], by rw [hhn, hkn]⟩
            have hm7 : m7 ≤ 10 := by have h1 := HP7.out.len; have h2 := hak.2.2.2.1; rw [hnt, h2] at h1; omega
            clear hak hka hd hkn he2 hkl hb1 hhn hnt
            go_wp2_with (first | ((with_reducible show wpList _ _ _ (Oper.mk _ (Op.load _ _) _ _ _ _ :: _) _ _); refine wpList_load_g (HCN.out.num) _ rfl rfl (by go_simp) ?_) | ((with_reducible show wpList _ _ _ (Oper.mk _ (Op.load _ _) _ _ _ _ :: _) _ _); refine wpList_load_g (HCC.out.num) _ rfl rfl (by go_simp) ?_) | ((with_reducible show wpList _ _ _ (Oper.mk _ (Op.load _ _) _ _ _ _ :: _) _ _); refine wpList_load_g (HCN.out.seq) _ rfl rfl (by go_simp) ?_) | ((with_reducible show wpList _ _ _ (Oper.mk _ (Op.load _ _) _ _ _ _ :: _) _ _); refine wpList_load_g (HCC.out.seq) _ rfl rfl (by go_simp) ?_) | ((with_reducible show wpList _ _ _ (Oper.mk _ (Op.load _ _) _ _ _ _ :: _) _ _); refine wpList_load_g (load_gm HG6.out) _ rfl rfl (by go_simp) ?_))
            refine (fcheck_ask m1 A5 n5 c5 w14 (HLW.out.below HB4.out) HR5.out HMO.out.1 (by omega) HAK.out.2.1 HMO.out.2.1 HMO.out.2.2.1 HMO.out.2.2.2).mono ?_
            rintro e w15 ⟨rfl, hb15⟩
            (first | replace HB4 := Lib.hid (RS.below HB4.out hb15) | replace HB4 := Lib.hid (blk_below HB4.out hb15) | replace HB4 := Lib.hid (below_step HB4.out hb15) | replace HB4 := Lib.hid (HB4.out.below hb15))
            (first | replace HX4 := Lib.hid (RS.below HX4.out hb15) | replace HX4 := Lib.hid (blk_below HX4.out hb15) | replace HX4 := Lib.hid (below_step HX4.out hb15) | replace HX4 := Lib.hid (HX4.out.below hb15))
            (first | replace HG6 := Lib.hid (RS.below HG6.out hb15) | replace HG6 := Lib.hid (blk_below HG6.out hb15) | replace HG6 := Lib.hid (below_step HG6.out hb15) | replace HG6 := Lib.hid (HG6.out.below hb15))
            (first | replace HN11 := Lib.hid (RS.below HN11.out hb15) | replace HN11 := Lib.hid (blk_below HN11.out hb15) | replace HN11 := Lib.hid (below_step HN11.out hb15) | replace HN11 := Lib.hid (HN11.out.below hb15))
            (first | replace HH11 := Lib.hid (RS.below HH11.out hb15) | replace HH11 := Lib.hid (blk_below HH11.out hb15) | replace HH11 := Lib.hid (below_step HH11.out hb15) | replace HH11 := Lib.hid (HH11.out.below hb15))
            (first | replace HR5 := Lib.hid (RS.below HR5.out hb15) | replace HR5 := Lib.hid (blk_below HR5.out hb15) | replace HR5 := Lib.hid (below_step HR5.out hb15) | replace HR5 := Lib.hid (HR5.out.below hb15))
            replace HO7 := Lib.hid (OS.below HO7.out hb15)
            replace HP7 := Lib.hid (OS.below HP7.out hb15)
            clear hb15 HCN HCC HHL
            obtain ⟨sq, hsq⟩ : ∃ y, m1.seq = y := ⟨_, rfl⟩
            have HSQ1 : Hid ((Instr.loadAt 22 (.pointer (some ⟨g10, 20, none⟩))).run Tryd.prog w15 = .ok (.int .u32 sq) w15) := Lib.hid (by rw [← hsq]; exact (gm_ld HG6.out).seq)
            have HSQ2 : Hid ((Instr.loadAt 22 (.pointer (some ⟨g13, 2, none⟩))).run Tryd.prog w15 = .ok (.int .u32 sq) w15) := Lib.hid (by rw [← hsq, ← HSQ.out.1]; exact (hd_ld HH11.out).seq)
            have HSQ3 : Hid ((Instr.loadAt 22 (.pointer (some ⟨g12, 1, none⟩))).run Tryd.prog w15 = .ok (.int .u32 sq) w15) := Lib.hid (by rw [← hsq, ← HSQ.out.1, HSQ.out.2]; exact ((cli_at HN11.out).all _ (Below.refl _ _)).seq)
            have HDL : Hid ((Instr.loadAt 4 (.pointer (some ⟨g13, 0, none⟩))).run Tryd.prog w15 = .ok (.bool true) w15) := Lib.hid (by have h := (hd_ld HH11.out).done; rw [HHN.out] at h; exact h)
            have HHL := Lib.hid (hd_ld HH11.out)
            clear hsq
            go_wp2_with (first | ((with_reducible show wpList _ _ _ (Oper.mk _ (Op.load _ _) _ _ _ _ :: _) _ _); refine wpList_load_g (HDL.out) _ rfl rfl (by go_simp) ?_) | ((with_reducible show wpList _ _ _ (Oper.mk _ (Op.load _ _) _ _ _ _ :: _) _ _); refine wpList_load_g (HSQ1.out) _ rfl rfl (by go_simp) ?_) | ((with_reducible show wpList _ _ _ (Oper.mk _ (Op.load _ _) _ _ _ _ :: _) _ _); refine wpList_load_g (HSQ2.out) _ rfl rfl (by go_simp) ?_) | ((with_reducible show wpList _ _ _ (Oper.mk _ (Op.load _ _) _ _ _ _ :: _) _ _); refine wpList_load_g (HSQ3.out) _ rfl rfl (by go_simp) ?_) | ((with_reducible show wpList _ _ _ (Oper.mk _ (Op.load _ _) _ _ _ _ :: _) _ _); refine wpList_load_g (HHL.out.bat) _ rfl rfl (by go_simp) ?_) | ((with_reducible show wpList _ _ _ (Oper.mk _ (Op.load _ _) _ _ _ _ :: _) _ _); refine wpList_load_g ((gm_ld HG6.out).bat) _ rfl rfl (by go_simp) ?_))
            refine (rsameb_any B7 m7 d7 HN.t A5 n5 c5 m1.t w15 HP7.out.reads HR5.out (by rw [HNT.out]; exact HMO.out.1) HMO.out.1 (by omega) (by omega)).mono ?_
            rw [(ShapeEq.eqL_iff updE _ _).2 HNT.out]
            rintro e w16 ⟨rfl, hb16⟩
            (first | replace HB4 := Lib.hid (RS.below HB4.out hb16) | replace HB4 := Lib.hid (blk_below HB4.out hb16) | replace HB4 := Lib.hid (below_step HB4.out hb16) | replace HB4 := Lib.hid (HB4.out.below hb16))
            (first | replace HX4 := Lib.hid (RS.below HX4.out hb16) | replace HX4 := Lib.hid (blk_below HX4.out hb16) | replace HX4 := Lib.hid (below_step HX4.out hb16) | replace HX4 := Lib.hid (HX4.out.below hb16))
            (first | replace HN11 := Lib.hid (RS.below HN11.out hb16) | replace HN11 := Lib.hid (blk_below HN11.out hb16) | replace HN11 := Lib.hid (below_step HN11.out hb16) | replace HN11 := Lib.hid (HN11.out.below hb16))
            (first | replace HH11 := Lib.hid (RS.below HH11.out hb16) | replace HH11 := Lib.hid (blk_below HH11.out hb16) | replace HH11 := Lib.hid (below_step HH11.out hb16) | replace HH11 := Lib.hid (HH11.out.below hb16))
            replace HO7 := Lib.hid (OS.below HO7.out hb16)
            clear hb16 HHL HDL HSQ1 HSQ2 HSQ3
            have HEL : Hid ((Instr.loadAt 43 (.pointer (some ⟨g13, 1, none⟩))).run Tryd.prog w16 = .ok (.int .i64 x.m.err) w16) := Lib.hid (by have h := (hd_ld HH11.out).err; rw [HHN.out] at h; exact h)
            have her := HER.out
            go_wp2_with (first | ((with_reducible show wpList _ _ _ (Oper.mk _ (Op.load _ _) _ _ _ _ :: _) _ _); refine wpList_load_g (HEL.out) _ rfl rfl (by go_simp) ?_) | ((with_reducible show wpList _ _ _ (Oper.mk _ (Op.load _ _) _ _ _ _ :: _) _ _); refine wpList_load_g (load_cli HN11.out) _ rfl rfl (by go_simp) ?_) | ((with_reducible show wpList _ _ _ (Oper.mk _ (Op.store _ _ _) _ _ _ _ :: _) _ _); refine wpList_store_blk HX4.out 27 0 (cliV KN A7 n7 c7) (Nat.le_refl _) (info_cli _ _ _ _) (cli_one _ _ _ _) _ _ rfl rfl rfl rfl ?_; intro w17 hg9 hs9 hb9; rw [splice_cli] at hb9; have H17 := Lib.hid (And.intro hg9 hb9); clear hg9 hs9 hb9))
            go_roundw
            case measure => simp [intOf]; omega
            case rel => exact ⟨j + 1, KN, A7, n7, c7, by go_num, by omega, H17.out.2, HO7.out.grownT HX4.out (by decide) H17.out.1, HST.out.ok, hn7, HST.out.ck, below_grown HB4.out H17.out.1 HG5.out⟩
    · have hlt' : decide (j < m) = false := decide_eq_false hlt
      clear hlt
      go_wp2_with fail
      go_ret
      exact ⟨rfl, HBK.out⟩
end Go.Proofs.YtifejiclenpfoaaDoor

/- The walk of ClientStays, as the row asks it. -/
namespace Go.Proofs.YtifejiclenpfoaaDoor
open Go.RowKit
set_option linter.unusedVariables false
set_option linter.unusedSimpArgs false
set_option maxRecDepth 4000
theorem clientStays_walk (num : Int) (A2 : Option Addr) (m c2 : Nat) (l : List Opn) (w : World) (hL : Laid w) (hnum : (Lit.int .i64 num).wf = true) (hl : RS opK w A2 m c2 l) (hi : ∀ o ∈ l, OpIn w o) (h1 : m * 272 ≤ 140737488351232) : Calls Tryd.prog 5 #[.int .i64 num, .slice A2 m c2] w fun e w' => e = .returned (.bool true) ∧ Below w.heap.size w w' :=
  stays20_any num A2 m c2 l w hL hnum hl hi (by omega)
end Go.Proofs.YtifejiclenpfoaaDoor
