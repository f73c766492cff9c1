/- Layer 27 (cache): New, Look. -/
import Derived.IntWalk
import Derived.Test.YtihfaknflfmohaaDoorCacheStaysB
import Derived.Test.YtihfaknflfmohaaDoorCacheStaysC
import Derived.Test.YtihfaknflfmohaaDoorCacheStaysD
namespace Go.Proofs.YtihfaknflfmohaaDoor
open Go.RowKit
set_option linter.unusedVariables false
set_option linter.unusedSimpArgs false
set_option maxRecDepth 4000
def cacZ : Cac := ⟨0, 0, none, 0, 0, 0, 0⟩
theorem cac_one (x : Cac) : x.vv.all (·.oneCell') = true := by simp [Cac.vv, cacV, Value.oneCell']
theorem splice_cac (x y : Cac) : splice x.vv 0 y.vv.toList = y.vv := splice_all _ _ rfl
theorem run_build_cac_nil (w : World) : (Instr.build 25 #[]).run Tryd.prog w = .ok (.agg cacZ.vv) w := run_build w _ _ _ (by kernel_rfl)
theorem load_cac {w : World} {g : Nat} {x : Cac} (h : w.heap[g]? = some (.cells x.vv 25 (0, 0))) : (Instr.loadAt 25 (.pointer (some ⟨g, 0, none⟩))).run Tryd.prog w = .ok (.agg x.vv) w := ((cac_at h).all _ (Below.refl _ _)).cac
theorem results_cc2 {P : Program} {w : World} {fn : Func} {p q u x : Tmp} {ty ty2 : TypeId} {ad ad2 : Addr} {v v2 : Value} {tmps : Array Value} (h : fn.results = #[.cell p ty, .cell q ty2, .tmp u, .tmp x]) (hp : tmps.getD p undef = .pointer (some ad)) (hl : (Instr.loadAt ty (.pointer (some ad))).run P w = .ok v w) (hq : tmps.getD q undef = .pointer (some ad2)) (hl2 : (Instr.loadAt ty2 (.pointer (some ad2))).run P w = .ok v2 w) :
    (results fn tmps).run P w = .ok (.tuple #[v, v2, tmps.getD u undef, tmps.getD x undef]) w := by
  have hp' : tmps[p]?.getD undef = .pointer (some ad) := by simpa using hp
  have hq' : tmps[q]?.getD undef = .pointer (some ad2) := by simpa using hq
  simp [results, h, hp', hq', asAddr, loadVar_of hl, loadVar_of hl2]
def hitN (es : List Ent) (v : Int) (l : List Int) : Int := idxE (fun e => sA e.v e.l v l) es
def told (es : List Ent) (t : List Row) (v : Int) (l : List Int) : Ent := if 0 ≤ hitN es v l then entAt es (hitN es v l).toNat else ⟨v, l, longR t v l, longB t v l⟩
def lookL (room : Int) (es : List Ent) (t : List Row) (v : Int) (l : List Int) : List Ent := if 0 ≤ hitN es v l then told es t v l :: (es.take (hitN es v l).toNat ++ es.drop ((hitN es v l).toNat + 1)) else (told es t v l :: es).take room.toNat
structure Cac.ok (x : Cac) : Prop where
  room : (Lit.int .i64 x.room).wf = true
  ver : (Lit.int .u64 x.ver).wf = true
  hits : (Lit.int .u64 x.hits).wf = true
  misses : (Lit.int .u64 x.misses).wf = true
theorem wfu {x : Int} (h : (Lit.int .u64 x).wf = true) : 0 ≤ x ∧ x ≤ 18446744073709551615 := by
  simp [Lit.wf, IntKind.min, IntKind.max, IntKind.bits, IntKind.signed] at h
  omega
theorem hit_cases (es : List Ent) (v : Int) (l : List Int) : hitN es v l = -1 ∨ ∃ i, i < es.length ∧ hitN es v l = ((i : Nat) : Int) := by
  unfold hitN idxE
  cases h : es.findIdx? (fun e => sA e.v e.l v l) with
  | none => exact .inl rfl
  | some i =>
    rw [List.findIdx?_eq_some_iff_getElem] at h
    exact .inr ⟨i, h.1, rfl⟩
def lookN (x : Cac) (es : List Ent) (t : List Row) (v : Int) (l : List Int) : Int := if cacB x es then (if tabB t then errA v l else 190) else 370
def oneMore (h : Int) : Int := min (h + 1) 4611686018427387904
/-- What a lookup leaves. -/
def LookIs (x : Cac) (es : List Ent) (t : List Row) (v : Int) (l : List Int) (y : Cac) (fs : List Ent) (ro : Row) (fo : Bool) : Prop :=
  if lookN x es t v l = 0 then y.room = x.room ∧ y.ver = x.ver ∧ fs = lookL x.room es t v l ∧ y.hits = (if 0 ≤ hitN es v l then oneMore x.hits else x.hits) ∧ y.misses = (if 0 ≤ hitN es v l then x.misses else oneMore x.misses) ∧ ro = (told es t v l).r ∧ fo = (told es t v l).f
  else y = cacZ ∧ fs = [] ∧ ro = rowZ ∧ fo = false
theorem built_ent (v : Int) (l : List Int) (r : Row) (f : Bool) (hl : l.length = 16) (hr : r.p.l.length = 16) : Tryd.prog.built 43 [(0, .agg (adrV v l)), (1, .agg (rowV r)), (2, .bool f)] = some (entV ⟨v, l, r, f⟩) := by
  obtain ⟨a, b, c, d, e, f2, g, h1, i, j, k, m, n, o, q, r2, hh⟩ := len16 hl
  obtain ⟨⟨v3, l3, x3⟩, h3⟩ := r
  obtain ⟨a', b', c', d', e', f2', g', h1', i', j', k', m', n', o', q', r2', hh'⟩ := len16 hr
  simp only at hh'
  subst hh
  subst hh'
  kernel_rfl
theorem exec_build_ent {r : Operand → Value} {o : Oper} {x y z : Operand} {v : Int} {l : List Int} {ro : Row} {f : Bool} (ho : o.op = .build 43 #[(0, x), (1, y), (2, z)]) (hx : r x = .agg (adrV v l)) (hy : r y = .agg (rowV ro)) (hz : r z = .bool f) (hl : l.length = 16) (hr : ro.p.l.length = 16) (w : World) :
    (execOp r o).run Tryd.prog w = .ok (.value (.agg (entV ⟨v, l, ro, f⟩))) w :=
  exec_build _ _ ho #[(0, .agg (adrV v l)), (1, .agg (rowV ro)), (2, .bool f)] (by simp [hx, hy, hz]) (run_build w _ _ _ (built_ent v l ro f hl hr))
theorem take_min {α : Type} (l : List α) (k r : Nat) (h : k = min l.length r) : l.take k = l.take r := by
  subst h
  by_cases hr : r ≤ l.length
  · rw [Nat.min_eq_right hr]
  · rw [Nat.min_eq_left (by omega), List.take_length, List.take_of_length_le (by omega)]
theorem askE_one (x : Cac) (es : List Ent) (y : Tb) : askE x es [y] = (if cacB x es then (if tabB y.t then 0 else 190) else 370) := by simp [askE]
theorem lookIs_err {x : Cac} {es : List Ent} {t : List Row} {v : Int} {l : List Int} (h : lookN x es t v l ≠ 0) : LookIs x es t v l cacZ [] rowZ false := by
  unfold LookIs
  rw [if_neg h]
  exact ⟨rfl, rfl, rfl, rfl⟩
set_option maxRecDepth 100000 in
set_option maxHeartbeats 8000000 in
theorem clook_any (x : Cac) (es : List Ent) (A : Option Addr) (n c : Nat) (t : List Row) (v : Int) (l : List Int) (w : World) (hL : Laid w) (he : RE w x.A x.n x.c es) (oe : Oke es) (hxn : x.n ≤ 100000) (ht : RT w A n c t) (hn : n ≤ 100000) (hl : B16 l) (hv : (Lit.int .i64 v).wf = true) (hx : x.ok) :
    Calls Tryd.prog 18 #[.agg x.vv, .agg (tabV A n c), .agg (adrV v l)] w fun r w' => ∃ y fs ro fo, r = .returned (.tuple #[.agg (Cac.vv y), .agg (rowV ro), .bool fo, .int .i64 (lookN x es t v l)]) ∧ RE w' y.A y.n y.c fs ∧ (∀ ad, y.A = some ad → w.heap.size ≤ ad.block) ∧ LookIs x es t v l y fs ro fo ∧ Below w.heap.size w w' := by
  have hblk1 := blk_new w (.cells (x.vv) 25)
  have hbel1 : Below w.heap.size w (w.alloc (.cells (x.vv) 25)) := below_alloc (Below.refl _ _) _
  have hblk2 := blk_new (w.alloc (.cells (x.vv) 25)) (.cells (tabV A n c) 28)
  have hbel2 : Below w.heap.size w ((w.alloc (.cells (x.vv) 25)).alloc (.cells (tabV A n c) 28)) := below_alloc (hbel1) _
  rw [show (w.alloc (.cells (x.vv) 25)).heap.size = w.heap.size + 1 by simp] at hblk2
  replace hblk1 := blk_below hblk1 (below_alloc (Below.refl _ _) (.cells (tabV A n c) 28))
  have hblk3 := blk_new ((w.alloc (.cells (x.vv) 25)).alloc (.cells (tabV A n c) 28)) (.cells (adrV v l) 31)
  have hbel3 : Below w.heap.size w (((w.alloc (.cells (x.vv) 25)).alloc (.cells (tabV A n c) 28)).alloc (.cells (adrV v l) 31)) := below_alloc (hbel2) _
  rw [show ((w.alloc (.cells (x.vv) 25)).alloc (.cells (tabV A n c) 28)).heap.size = w.heap.size + 2 by simp] at hblk3
  replace hblk1 := blk_below hblk1 (below_alloc (Below.refl _ _) (.cells (adrV v l) 31))
  replace hblk2 := blk_below hblk2 (below_alloc (Below.refl _ _) (.cells (adrV v l) 31))
  have HP1 := Lib.hid (cac_at hblk1)
  have HBK1 := Lib.hid hblk1
  have HP2 := Lib.hid (tab_at hblk2)
  have HBK2 := Lib.hid hblk2
  have HP3 := Lib.hid (adr_at hl hblk3)
  have HBK3 := Lib.hid hblk3
  have HBE := Lib.hid hbel3
  have HL := Lib.hid (hL.below HBE.out)
  obtain ⟨cs1, hcs1⟩ : ∃ cs, x.vv = cs := ⟨_, rfl⟩
  obtain ⟨cs2, hcs2⟩ : ∃ cs, tabV A n c = cs := ⟨_, rfl⟩
  obtain ⟨cs3, hcs3⟩ : ∃ cs, adrV v l = cs := ⟨_, rfl⟩
  simp only [hcs1, hcs2, hcs3] at HBE HL HP1 HP2 HP3 HBK1 HBK2 HBK3 ⊢
  have HC1 := Lib.hid hcs1
  have HC2 := Lib.hid hcs2
  have HC3 := Lib.hid hcs3
  clear hL hcs1 hblk1 hbel1 hcs2 hblk2 hbel2 hcs3 hblk3 hbel3
  have HE := Lib.hid (he.below HBE.out)
  have HT := Lib.hid (ht.below HBE.out)
  have hbr := run_build_row_nil
  have hbc := run_build_cac_nil
  clear he ht
  obtain ⟨W0, hW0⟩ : ∃ W0, W0 = (((w.alloc (.cells cs1 25)).alloc (.cells cs2 28)).alloc (.cells cs3 31)) := ⟨_, rfl⟩
  obtain ⟨W, hW⟩ : ∃ W, W = ((W0.alloc (.cells cacZ.vv 25)).alloc (.cells (rowV rowZ) 38)).alloc (.cells (tbK.enc ⟨A, n, c, t⟩).toArray tbK.t) := ⟨_, rfl⟩
  have hs0 : W0.heap.size = w.heap.size + 3 := by rw [hW0]; simp
  have HBW : Hid (Below W0.heap.size W0 W) := Lib.hid (by rw [hW]; exact below_alloc (below_alloc (below_alloc (Below.refl _ _) _) _) _)
  have HG6 : Hid (W.heap[w.heap.size + 3]? = some (.cells cacZ.vv 25 (0, 0))) := Lib.hid (by
    rw [← hs0, hW]
    exact blk_below (blk_new W0 _) (below_alloc (below_alloc (Below.refl _ _) _) _))
  have HG7 : Hid (W.heap[w.heap.size + 4]? = some (.cells (rowV rowZ) 38 (0, 0))) := Lib.hid (by
    have := blk_below (blk_new (W0.alloc (.cells cacZ.vv 25)) (.cells (rowV rowZ) 38)) (below_alloc (Below.refl _ _) (.cells (tbK.enc ⟨A, n, c, t⟩).toArray tbK.t))
    rw [← hW] at this
    rw [show w.heap.size + 4 = (W0.alloc (.cells cacZ.vv 25)).heap.size by simp [hs0]]
    exact this)
  have HLT : Hid (RS tbK W (some ⟨w.heap.size + 5, 0, none⟩) 1 1 [⟨A, n, c, t⟩]) := Lib.hid (by
    have := (OS.one tbK ((W0.alloc (.cells cacZ.vv 25)).alloc (.cells (rowV rowZ) 38)) 0 ⟨A, n, c, t⟩ (Nat.zero_le _) trivial).reads
    rw [← hW] at this
    rw [show w.heap.size + 5 = ((W0.alloc (.cells cacZ.vv 25)).alloc (.cells (rowV rowZ) 38)).heap.size by simp [hs0]]
    exact this)
  clear hs0
  subst hW
  subst hW0
  go_enter Tryd.func18, Tryd.ntmps18
  go_wp2_with (first | ((with_reducible show wpList _ _ _ (Oper.mk _ (Op.load _ _) _ _ _ _ :: _) _ _); refine wpList_load_g ((HP1.out.all _ (below_alloc (below_alloc (Below.refl _ _) _) _)).cac) _ rfl rfl (by go_simp) ?_) | ((with_reducible show wpList _ _ _ (Oper.mk _ (Op.load _ _) _ _ _ _ :: _) _ _); refine wpList_load_g ((HP2.out.all _ (below_alloc (below_alloc (Below.refl _ _) _) _)).1) _ rfl rfl (by go_simp) ?_) | ((with_reducible show wpList _ _ _ (Oper.mk _ (Op.buildSlice _ _ _) _ _ _ _ :: _) _ _); refine wpList_exw rfl (exec_lit1 tbK (x := .tmp 18) rfl ⟨A, n, c, t⟩ rfl trivial (by show 1 ≤ _; omega) _) ?_))
  have hcall := casked_any x es _ 1 1 [⟨A, n, c, t⟩] _ (HL.out.below HBW.out) (HE.out.below HBW.out) oe hxn HLT.out (by omega) (fun y hy => by
    rw [List.mem_singleton] at hy
    subst hy
    exact ⟨HT.out.below HBW.out, hn⟩)
  refine hcall.mono ?_
  clear hcall
  rintro e w1 ⟨rfl, hb1⟩
  rw [askE_one]
  have HB1 := Lib.hid (below_step HBW.out hb1)
  have HR6 := Lib.hid (blk_below HG6.out hb1)
  have HR7 := Lib.hid (blk_below HG7.out hb1)
  clear hb1 HG6 HG7 HLT HBW
  cases hC : cacB x es with
  | false =>
    have HN := Lib.hid (show lookN x es t v l = 370 by unfold lookN; rw [hC]; rfl)
    clear hC
    simp only [Bool.false_eq_true, if_false]
    go_wp2_with (first | ((with_reducible show wpList _ _ _ (Oper.mk _ (Op.build _ _) _ _ _ _ :: _) _ _); refine wpList_exw rfl (exec_build 25 #[] rfl #[] rfl (hbc _)) ?_) | ((with_reducible show wpList _ _ _ (Oper.mk _ (Op.build _ _) _ _ _ _ :: _) _ _); refine wpList_exw rfl (exec_build 38 #[] rfl #[] rfl (hbr _)) ?_) | ((with_reducible show wpList _ _ _ (Oper.mk _ (Op.store _ _ _) _ _ _ _ :: _) _ _); refine wpList_store_blk HR6.out 25 0 cacZ.vv (Nat.le_refl _) (info_cac _) (cac_one _) _ _ rfl rfl rfl rfl ?_; intro w8 hg9 hs9 hb9; rw [splice_cac] at hb9; have H8 := Lib.hid (And.intro hg9 hb9); clear hg9 hs9 hb9) | ((with_reducible show wpList _ _ _ (Oper.mk _ (Op.store _ _ _) _ _ _ _ :: _) _ _); refine wpList_store_blk (blk_grown HR7.out H8.out.1 (by simp)) 38 0 (rowV rowZ) (store_row_fit rowZ_fits (rowV_size rowZ_fits)) (info_row rowZ_fits) (rowV_one _) _ _ rfl rfl rfl rfl ?_; intro w9 hg9 hs9 hb9; rw [splice_row rowZ_fits (rowV_size rowZ_fits)] at hb9; have H9 := Lib.hid (And.intro hg9 hb9); clear hg9 hs9 hb9))
    refine bodyPost_ret (results_cc2 rfl rfl (load_cac (blk_grown H8.out.2 H9.out.1 (by simp))) rfl (Shape.ld rowK w9 _ 0 rowZ rowZ_fits (cells_blk H9.out.2))) rfl ?_
    refine ⟨cacZ, [], rowZ, false, by rw [HN.out]; rfl, RS.nil _ _ _ _, (fun ad e => by cases e), lookIs_err (by rw [HN.out]; decide), below_grown (below_grown (below_step HBE.out HB1.out) H8.out.1 (by omega)) H9.out.1 (by omega)⟩
  | true =>
    have HCB := Lib.hid hC
    clear hC
    simp only [if_true]
    cases hR : tabB t with
    | false =>
      have HN := Lib.hid (show lookN x es t v l = 190 by unfold lookN; rw [HCB.out, hR]; rfl)
      clear hR
      simp only [Bool.false_eq_true, if_false]
      go_wp2_with (first | ((with_reducible show wpList _ _ _ (Oper.mk _ (Op.build _ _) _ _ _ _ :: _) _ _); refine wpList_exw rfl (exec_build 25 #[] rfl #[] rfl (hbc _)) ?_) | ((with_reducible show wpList _ _ _ (Oper.mk _ (Op.build _ _) _ _ _ _ :: _) _ _); refine wpList_exw rfl (exec_build 38 #[] rfl #[] rfl (hbr _)) ?_) | ((with_reducible show wpList _ _ _ (Oper.mk _ (Op.store _ _ _) _ _ _ _ :: _) _ _); refine wpList_store_blk HR6.out 25 0 cacZ.vv (Nat.le_refl _) (info_cac _) (cac_one _) _ _ rfl rfl rfl rfl ?_; intro w8 hg9 hs9 hb9; rw [splice_cac] at hb9; have H8 := Lib.hid (And.intro hg9 hb9); clear hg9 hs9 hb9) | ((with_reducible show wpList _ _ _ (Oper.mk _ (Op.store _ _ _) _ _ _ _ :: _) _ _); refine wpList_store_blk (blk_grown HR7.out H8.out.1 (by simp)) 38 0 (rowV rowZ) (store_row_fit rowZ_fits (rowV_size rowZ_fits)) (info_row rowZ_fits) (rowV_one _) _ _ rfl rfl rfl rfl ?_; intro w9 hg9 hs9 hb9; rw [splice_row rowZ_fits (rowV_size rowZ_fits)] at hb9; have H9 := Lib.hid (And.intro hg9 hb9); clear hg9 hs9 hb9))
      refine bodyPost_ret (results_cc2 rfl rfl (load_cac (blk_grown H8.out.2 H9.out.1 (by simp))) rfl (Shape.ld rowK w9 _ 0 rowZ rowZ_fits (cells_blk H9.out.2))) rfl ?_
      refine ⟨cacZ, [], rowZ, false, by rw [HN.out]; rfl, RS.nil _ _ _ _, (fun ad e => by cases e), lookIs_err (by rw [HN.out]; decide), below_grown (below_grown (below_step HBE.out HB1.out) H8.out.1 (by omega)) H9.out.1 (by omega)⟩
    | true =>
      have HR := Lib.hid hR
      clear hR
      simp only [if_true]
      have hl3 := (HP3.out.all w1 HB1.out).1
      go_wp2_with (first | ((with_reducible show wpList _ _ _ (Oper.mk _ (Op.load _ _) _ _ _ _ :: _) _ _); refine wpList_load_g hl3 _ rfl rfl (by go_simp) ?_))
      clear hl3
      refine (checkAddr_any v l w1 (HL.out.below HB1.out) hl).mono ?_
      rintro e w2 ⟨rfl, hb2⟩
      have HB2 := Lib.hid (below_step HB1.out hb2)
      have HS6 := Lib.hid (blk_below HR6.out hb2)
      have HS7 := Lib.hid (blk_below HR7.out hb2)
      clear hb2 HR6 HR7 HB1
      have HLN : Hid (lookN x es t v l = errA v l) := Lib.hid (by unfold lookN; rw [HCB.out, HR.out]; rfl)
      cases hA : rightA v l with
      | false =>
        have HN := Lib.hid (show lookN x es t v l = 150 by rw [HLN.out, errA_false hA])
        rw [errA_false hA]
        clear hA
        go_wp2_with (first | ((with_reducible show wpList _ _ _ (Oper.mk _ (Op.build _ _) _ _ _ _ :: _) _ _); refine wpList_exw rfl (exec_build 25 #[] rfl #[] rfl (hbc _)) ?_) | ((with_reducible show wpList _ _ _ (Oper.mk _ (Op.build _ _) _ _ _ _ :: _) _ _); refine wpList_exw rfl (exec_build 38 #[] rfl #[] rfl (hbr _)) ?_) | ((with_reducible show wpList _ _ _ (Oper.mk _ (Op.store _ _ _) _ _ _ _ :: _) _ _); refine wpList_store_blk HS6.out 25 0 cacZ.vv (Nat.le_refl _) (info_cac _) (cac_one _) _ _ rfl rfl rfl rfl ?_; intro w8 hg9 hs9 hb9; rw [splice_cac] at hb9; have H8 := Lib.hid (And.intro hg9 hb9); clear hg9 hs9 hb9) | ((with_reducible show wpList _ _ _ (Oper.mk _ (Op.store _ _ _) _ _ _ _ :: _) _ _); refine wpList_store_blk (blk_grown HS7.out H8.out.1 (by simp)) 38 0 (rowV rowZ) (store_row_fit rowZ_fits (rowV_size rowZ_fits)) (info_row rowZ_fits) (rowV_one _) _ _ rfl rfl rfl rfl ?_; intro w9 hg9 hs9 hb9; rw [splice_row rowZ_fits (rowV_size rowZ_fits)] at hb9; have H9 := Lib.hid (And.intro hg9 hb9); clear hg9 hs9 hb9))
        refine bodyPost_ret (results_cc2 rfl rfl (load_cac (blk_grown H8.out.2 H9.out.1 (by simp))) rfl (Shape.ld rowK w9 _ 0 rowZ rowZ_fits (cells_blk H9.out.2))) rfl ?_
        refine ⟨cacZ, [], rowZ, false, by rw [HN.out]; rfl, RS.nil _ _ _ _, (fun ad e => by cases e), lookIs_err (by rw [HN.out]; decide), below_grown (below_grown (below_step HBE.out HB2.out) H8.out.1 (by omega)) H9.out.1 (by omega)⟩
      | true =>
        have HN := Lib.hid (show lookN x es t v l = 0 by rw [HLN.out, errA_true hA])
        rw [errA_true hA]
        clear hA HLN
        have hl1 := (HP1.out.all w2 HB2.out).cac
        have hl3 := (HP3.out.all w2 HB2.out).1
        go_wp2_with (first | ((with_reducible show wpList _ _ _ (Oper.mk _ (Op.load _ _) _ _ _ _ :: _) _ _); refine wpList_load_g hl1 _ rfl rfl (by go_simp) ?_) | ((with_reducible show wpList _ _ _ (Oper.mk _ (Op.load _ _) _ _ _ _ :: _) _ _); refine wpList_load_g hl3 _ rfl rfl (by go_simp) ?_))
        clear hl1 hl3
        refine (cplace_any x es v l w2 (HE.out.below HB2.out) oe hxn hl hv).mono ?_
        rintro e w3 ⟨rfl, hb3⟩
        have HB3 := Lib.hid (below_step HB2.out hb3)
        have HT6 := Lib.hid (blk_below HS6.out hb3)
        have HT7 := Lib.hid (blk_below HS7.out hb3)
        clear hb3 HS6 HS7 HB2
        have HK3 : Hid (w3.heap[w.heap.size]? = some (.cells x.vv 25 (0, 0))) := Lib.hid (blk_below (by rw [HC1.out]; exact HBK1.out) HB3.out)
        have hl3 := (HP1.out.all w3 HB3.out).ents
        have hw0 := wfu hx.hits
        have hw1 := wfu hx.misses
        have HEL := Lib.hid HE.out.len
        rcases hit_cases es v l with hm | ⟨i, hi, hm⟩
        · rw [show idxE (fun e => sA e.v e.l v l) es = -1 from hm]
          have HM := Lib.hid hm
          clear hm
          have hlt := (HP2.out.all w3 HB3.out).1
          have hla := (HP3.out.all w3 HB3.out).1
          go_wp2_with (first | ((with_reducible show wpList _ _ _ (Oper.mk _ (Op.load _ _) _ _ _ _ :: _) _ _); refine wpList_load_g hlt _ rfl rfl (by go_simp) ?_) | ((with_reducible show wpList _ _ _ (Oper.mk _ (Op.load _ _) _ _ _ _ :: _) _ _); refine wpList_load_g hla _ rfl rfl (by go_simp) ?_))
          clear hlt hla hl3
          refine (tlongest_any A n c t v l w3 (HL.out.below HB3.out) (HT.out.below HB3.out) hl hn).mono ?_
          rintro e w4 ⟨rfl, hb4⟩
          have hle : longE t v l = 0 := by
            have h1 := HN.out
            unfold lookN at h1
            rw [HCB.out, HR.out] at h1
            unfold longE
            rw [HR.out]
            simpa using h1
          rw [show longRE t v l = longR t v l by unfold longRE; rw [if_pos hle], show longBE t v l = longB t v l by unfold longBE; rw [if_pos hle], hle]
          have HS3 := Lib.hid (blk_lt HT7.out)
          have HB34 := Lib.hid hb4
          have HB4 := Lib.hid (below_step HB3.out hb4)
          have HRF := Lib.hid (longR_fits (RT.fits HT.out) v l)
          clear hb4 hle
          obtain ⟨ro, hro⟩ : ∃ ro, longR t v l = ro := ⟨_, rfl⟩
          obtain ⟨fo, hfo⟩ : ∃ fo, longB t v l = fo := ⟨_, rfl⟩
          rw [hro, hfo]
          rw [hro] at HRF
          have HRO := Lib.hid hro
          have HFO := Lib.hid hfo
          clear hro hfo
          have HB4f := Lib.hid (fun (W : World) (h : (w4.alloc (.cells (rowV rowZ) 38)).grownBy W (some w4.heap.size)) => below_step HB4.out (below_grown (below_alloc (Below.refl w4.heap.size w4) (.cells (rowV rowZ) 38)) h (Nat.le_refl _)))
          go_wp2_with (first | ((with_reducible show wpList _ _ _ (Oper.mk _ (Op.store _ _ _) _ _ _ _ :: _) _ _); refine wpList_store_blk (blk_new w4 _) 38 0 (rowV ro) (store_row_fit HRF.out rfl) (info_row HRF.out) (rowV_one _) _ _ rfl rfl rfl rfl ?_; intro w5 hg9 hs9 hb9; rw [splice_row HRF.out rfl] at hb9; have H5 := Lib.hid (And.intro hg9 hb9); clear hg9 hs9 hb9) | ((with_reducible show wpList _ _ _ (Oper.mk _ (Op.load _ _) _ _ _ _ :: _) _ _); refine wpList_load_g ((HP1.out.all w5 (HB4f.out w5 H5.out.1)).ents) _ rfl rfl (by go_simp) ?_) | ((with_reducible show wpList _ _ _ (Oper.mk _ (Op.load _ _) _ _ _ _ :: _) _ _); refine wpList_load_g ((HP3.out.all w5 (HB4f.out w5 H5.out.1)).1) _ rfl rfl (by go_simp) ?_) | ((with_reducible show wpList _ _ _ (Oper.mk _ (Op.load _ _) _ _ _ _ :: _) _ _); refine wpList_load_g (((row_at HRF.out H5.out.2).all _ (Below.refl _ _)).row) _ rfl rfl (by go_simp) ?_) | ((with_reducible show wpList _ _ _ (Oper.mk _ (Op.build _ _) _ _ _ _ :: _) _ _); refine wpList_exw rfl (exec_build_ent (v := v) (l := l) (ro := ro) (f := fo) rfl rfl rfl rfl hl.len HRF.out.len _) ?_))
          have HB5 := Lib.hid (HB4f.out w5 H5.out.1)
          have HB35 := Lib.hid (below_step HB34.out (below_grown (below_alloc (Below.refl w4.heap.size w4) (.cells (rowV rowZ) 38)) H5.out.1 (Nat.le_refl _)))
          clear HB4f
          have HEF : Hid ((⟨v, l, ro, fo⟩ : Ent).fits) := Lib.hid ⟨hl, HRF.out⟩
          refine (cfront_miss x.A x.n x.c es ⟨v, l, ro, fo⟩ w5 (HE.out.below HB5.out) HEF.out hxn).mono ?_
          rintro e w6 ⟨A', c', rfl, ho6, hb6⟩
          have HB36 := Lib.hid (below_step HB35.out hb6)
          have HB6 := Lib.hid (below_step HB3.out HB36.out)
          have HK6 := Lib.hid (blk_below HK3.out HB36.out)
          have HX6 := Lib.hid (blk_below H5.out.2 hb6)
          have HU6 := Lib.hid (blk_below HT6.out HB36.out)
          have HU7 := Lib.hid (blk_below HT7.out HB36.out)
          have HO6 := Lib.hid ho6
          have HS34 := Lib.hid HB34.out.size
          have HS35 := Lib.hid HB35.out.size
          have HXN := Lib.hid hxn
          obtain ⟨k, hk⟩ : ∃ k : Nat, k = min (x.n + 1) x.room.toNat := ⟨_, rfl⟩
          have hroom : 1 ≤ x.room ∧ (x.n : Int) ≤ x.room ∧ x.misses ≤ 4611686018427387904 := by
            have := HCB.out
            unfold cacB headB at this
            simp at this
            omega
          have hmin : min ((x.n : Int) + 1) x.room = (k : Int) := by omega
          have hkc : k ≤ c' := by have := HO6.out.cap; omega
          have hcut : ∀ W : World, (Instr.slice 23 (.slice A' (x.n + 1) c') none (some (.int .i64 (k : Int))) none).run Tryd.prog W = .ok (.slice A' k c') W := fun W => cutH entK A' (x.n + 1) c' _ k rfl hkc W
          have hwr : IntKind.u64.wrap (x.misses + 1) = x.misses + 1 := by
            simp only [IntKind.wrap, IntKind.bits, IntKind.signed]
            simp
            omega
          have HKK := Lib.hid hk
          clear hb6 ho6 HK3 HT6 HT7 H5 hk hkc hroom
          go_wp2_with (first | ((with_reducible show wpList _ _ _ (Oper.mk _ (Op.store _ _ _) _ _ _ _ :: _) _ _); refine wpList_store_cell HK6.out 23 2 (.slice A' (x.n + 1) c') (by show 2 < 5; omega) (by kernel_rfl) rfl rfl _ _ rfl rfl rfl rfl ?_; intro w7 hg9 hs9 hb9; have H7 := Lib.hid (And.intro hg9 (show (World.heap w7)[(w.heap.size)]? = some (.cells (Cac.vv ⟨x.room, x.ver, A', x.n + 1, c', x.hits, x.misses⟩) 25 (0, 0)) from hb9)); clear hg9 hs9 hb9) | ((with_reducible show wpList _ _ _ (Oper.mk _ (Op.store _ _ _) _ _ _ _ :: _) _ _); refine wpList_store_cell H7.out.2 23 2 (.slice A' k c') (by show 2 < 5; omega) (by kernel_rfl) rfl rfl _ _ rfl rfl rfl rfl ?_; intro w8 hg9 hs9 hb9; have H8 := Lib.hid (And.intro hg9 (show (World.heap w8)[(w.heap.size)]? = some (.cells (Cac.vv ⟨x.room, x.ver, A', k, c', x.hits, x.misses⟩) 25 (0, 0)) from hb9)); clear hg9 hs9 hb9) | ((with_reducible show wpList _ _ _ (Oper.mk _ (Op.store _ _ _) _ _ _ _ :: _) _ _); refine wpList_store_cell H8.out.2 22 4 (.int .u64 (oneMore x.misses)) (by show 4 < 5; omega) (by kernel_rfl) rfl rfl _ _ rfl rfl rfl rfl ?_; intro w9 hg9 hs9 hb9; have H9 := Lib.hid (And.intro hg9 (show (World.heap w9)[(w.heap.size)]? = some (.cells (Cac.vv ⟨x.room, x.ver, A', k, c', x.hits, oneMore x.misses⟩) 25 (0, 0)) from hb9)); clear hg9 hs9 hb9) | ((with_reducible show wpList _ _ _ (Oper.mk _ (Op.load _ _) _ _ _ _ :: _) _ _); refine wpList_load_g (((cac_at H7.out.2).all _ (Below.refl _ _)).ents) _ rfl rfl (by go_simp) ?_) | ((with_reducible show wpList _ _ _ (Oper.mk _ (Op.load _ _) _ _ _ _ :: _) _ _); refine wpList_load_g (((cac_at H7.out.2).all _ (Below.refl _ _)).room) _ rfl rfl (by go_simp) ?_) | ((with_reducible show wpList _ _ _ (Oper.mk _ (Op.load _ _) _ _ _ _ :: _) _ _); refine wpList_load_g (((cac_at H8.out.2).all _ (Below.refl _ _)).misses) _ rfl rfl (by go_simp) ?_))
          have hxa := blk_grown (blk_grown (blk_grown HX6.out H7.out.1 (fun e => by injection e with e; have := HS3.out; have := HS34.out; omega)) H8.out.1 (fun e => by injection e with e; have := HS3.out; have := HS34.out; omega)) H9.out.1 (fun e => by injection e with e; have := HS3.out; have := HS34.out; omega)
          have h6a := blk_grown (blk_grown (blk_grown HU6.out H7.out.1 (fun e => by injection e with e; omega)) H8.out.1 (fun e => by injection e with e; omega)) H9.out.1 (fun e => by injection e with e; omega)
          have h7a := blk_grown (blk_grown (blk_grown HU7.out H7.out.1 (fun e => by injection e with e; omega)) H8.out.1 (fun e => by injection e with e; omega)) H9.out.1 (fun e => by injection e with e; omega)
          have HXA2 := Lib.hid (blk_below hxa (below_drew1 w9))
          have HV6 := Lib.hid (blk_below h6a (below_drew1 w9))
          have HV7 := Lib.hid (blk_below h7a (below_drew1 w9))
          have HK7 := Lib.hid (blk_below H9.out.2 (below_drew1 w9))
          clear hxa h6a h7a hwr hcut hmin
          refine wp_region_mix ((fun w0 => w0.heap[w.heap.size]? = some (.cells (Cac.vv ⟨x.room, x.ver, A', k, c', x.hits, oneMore x.misses⟩) 25 (0, 0)) ∧ w0.heap[w4.heap.size]? = some (.cells (rowV ro) 38 (0, 0)))) [(0, 0), (1, 0), (2, 0), (3, 2), (4, 2), (5, 0), (6, 0)] (by kernel_rfl) (by kernel_rfl) (⟨HK7.out, HXA2.out⟩) ?_
          simp only [List.map_cons, List.map_nil]
          refine wpO_loadW (t := 25) (ad := ⟨w.heap.size, 0, none⟩) rfl rfl ?hw rfl rfl ((fun w0 hS => load_cac hS.1)) ?_
          case hw => go_simp
          refine wpO_loadW (t := 38) (ad := ⟨w4.heap.size, 0, none⟩) rfl rfl ?hw rfl rfl ((fun w0 hS => ((row_at HRF.out hS.2).all _ (Below.refl _ _)).row)) ?_
          case hw => go_simp
          iterate 1 (refine wpO_step0 rfl rfl (fun K hK => ?_); go_simp; refine hK _ _ ?_; clear hK K)
          refine wpO_step2 rfl rfl (⟨HK7.out, HXA2.out⟩) (fun K hK => ?_)
          rw [if_pos (show Region.wanted _ _ = true from rfl)]
          refine oper_store_blk HV6.out 25 0 (Cac.vv ⟨x.room, x.ver, A', k, c', x.hits, oneMore x.misses⟩) (Nat.le_refl _) (info_cac _) (cac_one _) _ _ rfl rfl rfl ?_
          intro w10 hg8 hs8 hb8
          rw [splice_cac] at hb8
          have H10 := Lib.hid (And.intro hg8 hb8)
          clear hg8 hs8 hb8
          have HK8 := Lib.hid (blk_grown HK7.out H10.out.1 (fun e => by injection e with e; omega))
          have HX8 := Lib.hid (blk_grown HXA2.out H10.out.1 (fun e => by injection e with e; have := HS3.out; have := HS34.out; omega))
          have HW7 := Lib.hid (blk_grown HV7.out H10.out.1 (fun e => by injection e with e; omega))
          refine hK _ _ ⟨⟨HK8.out, HX8.out⟩, ?_⟩
          clear hK K
          refine wpO_step2 rfl rfl (⟨HK8.out, HX8.out⟩) (fun K hK => ?_)
          rw [if_pos (show Region.wanted _ _ = true from rfl)]
          refine oper_store_blk HW7.out 38 0 (rowV ro) (store_row_fit HRF.out (rowV_size rowZ_fits)) (info_row HRF.out) (rowV_one _) _ _ rfl rfl rfl ?_
          intro w11 hg9 hs9 hb9
          rw [splice_row HRF.out (rowV_size rowZ_fits)] at hb9
          have H11 := Lib.hid (And.intro hg9 hb9)
          clear hg9 hs9 hb9
          refine hK _ _ ⟨⟨blk_grown HK8.out H11.out.1 (fun e => by injection e with e; omega), blk_grown HX8.out H11.out.1 (fun e => by injection e with e; have := HS3.out; have := HS34.out; omega)⟩, ?_⟩
          clear hK K
          iterate 2 (refine wpO_step0 rfl rfl (fun K hK => ?_); go_simp; refine hK _ _ ?_; clear hK K)
          refine wpO_nil ?_
          go_wp2
          have HZ6 := blk_grown H10.out.2 H11.out.1 (fun e => by injection e with e; omega)
          refine bodyPost_ret (results_cc2 rfl rfl (load_cac HZ6) rfl (Shape.ld rowK w11 _ 0 _ HRF.out (cells_blk H11.out.2))) rfl ?_
          refine ⟨⟨x.room, x.ver, A', k, c', x.hits, oneMore x.misses⟩, (⟨v, l, ro, fo⟩ :: es).take k, ro, fo, by rw [HN.out]; rfl, ?_, ?_, ?_, ?_⟩
          · have hob := HO6.out.base_
            have hall := HKK.out
            have h6 := (HO6.out.reads.take k (by omega)).grown H7.out.1 (fun ad e h => by injection h with h; have := hob ad e; have := HS3.out; have := HS35.out; omega)
            have h7 := h6.grown H8.out.1 (fun ad e h => by injection h with h; have := hob ad e; have := HS3.out; have := HS35.out; omega)
            have h8 := h7.grown H9.out.1 (fun ad e h => by injection h with h; have := hob ad e; have := HS3.out; have := HS35.out; omega)
            have h9 := (h8.below (below_drew1 w9)).grown H10.out.1 (fun ad e h => by injection h with h; have := hob ad e; have := HS3.out; have := HS35.out; omega)
            exact h9.grown H11.out.1 (fun ad e h => by injection h with h; have := hob ad e; have := HS3.out; have := HS35.out; omega)
          · intro ad e; have := HO6.out.base_ ad e; have := HS3.out; have := HS35.out; omega
          · unfold LookIs
            rw [if_pos HN.out]
            have h0 : ¬ (0 : Int) ≤ hitN es v l := by rw [HM.out]; omega
            have htold : told es t v l = ⟨v, l, ro, fo⟩ := by unfold told; rw [if_neg h0, HRO.out, HFO.out]
            refine ⟨rfl, rfl, ?_, ?_, ?_, by rw [htold], by rw [htold]⟩
            · unfold lookL
              rw [if_neg h0, htold]
              exact take_min _ _ _ (by rw [List.length_cons, HEL.out]; exact HKK.out)
            · rw [if_neg h0]
            · rw [if_neg h0]
          · exact below_grown (below_grown (below_step (below_grown (below_grown (below_grown (below_step HBE.out HB6.out) H7.out.1 (by omega)) H8.out.1 (by omega)) H9.out.1 (by omega)) (below_drew1 w9)) H10.out.1 (by omega)) H11.out.1 (by omega)
        · rw [show idxE (fun e => sA e.v e.l v l) es = (i : Int) from hm]
          have HM := Lib.hid hm
          have HIL := Lib.hid hi
          have hin : i < x.n := by rw [← HEL.out]; exact hi
          have hin' : (i : Int) < x.n := by omega
          have hi0 : decide ((0 : Int) ≤ i) = true := decide_eq_true (by omega)
          obtain ⟨b, o, hxA, hc⟩ := RS.at_ HE.out (by omega)
          have HF := Lib.hid (RS.fits_at HE.out hin)
          have hent := (entLd_of HF.out ((hc i hin).below HB3.out)).ent
          have HXA := Lib.hid hxA
          rw [hxA] at hl3
          clear hm hi hc hxA
          have HB4f := Lib.hid (fun (W : World) (h : (w3.alloc (.cells (entV entZ) 43)).grownBy W (some w3.heap.size)) => below_step HB3.out (below_grown (below_alloc (Below.refl w3.heap.size w3) (.cells (entV entZ) 43)) h (Nat.le_refl _)))
          go_wp2_with (first | ((with_reducible show wpList _ _ _ (Oper.mk _ (Op.load _ _) _ _ _ _ :: _) _ _); refine wpList_load_g hl3 _ rfl rfl (by go_simp) ?_) | ((with_reducible show wpList _ _ _ (Oper.mk _ (Op.load _ _) _ _ _ _ :: _) _ _); refine wpList_load_g hent _ rfl rfl (by go_simp) ?_) | ((with_reducible show wpList _ _ _ (Oper.mk _ (Op.store _ _ _) _ _ _ _ :: _) _ _); refine wpList_store_blk (blk_new w3 _) 43 0 (entV (entAt es i)) (store_ent_fit HF.out rfl) (info_ent HF.out) (entV_one _) _ _ rfl rfl rfl rfl ?_; intro w4 hg9 hs9 hb9; rw [splice_ent HF.out rfl] at hb9; have H4 := Lib.hid (And.intro hg9 hb9); clear hg9 hs9 hb9) | ((with_reducible show wpList _ _ _ (Oper.mk _ (Op.load _ _) _ _ _ _ :: _) _ _); refine wpList_load_g (((ent_at HF.out H4.out.2).all _ (Below.refl _ _)).ent) _ rfl rfl (by go_simp) ?_) | ((with_reducible show wpList _ _ _ (Oper.mk _ (Op.load _ _) _ _ _ _ :: _) _ _); refine wpList_load_g ((HP1.out.all w4 (HB4f.out w4 H4.out.1)).ents) _ rfl rfl (by go_simp) ?_))
          have HB4 := Lib.hid (HB4f.out w4 H4.out.1)
          have HB34 := Lib.hid (below_grown (below_alloc (Below.refl w3.heap.size w3) (.cells (entV entZ) 43)) H4.out.1 (Nat.le_refl _))
          clear HB4f
          refine (cfront_hit x.A x.n x.c i es (entAt es i) w4 (HE.out.below HB4.out) HF.out hin hxn).mono ?_
          rintro e w5 ⟨A', c', rfl, ho5, hb5⟩
          have HB35 := Lib.hid (below_step HB34.out hb5)
          have HB5 := Lib.hid (below_step HB3.out HB35.out)
          have HK5 := Lib.hid (blk_below HK3.out HB35.out)
          have HX5 := Lib.hid (blk_below H4.out.2 hb5)
          have HU6 := Lib.hid (blk_below HT6.out HB35.out)
          have HU7 := Lib.hid (blk_below HT7.out HB35.out)
          have HO5 := Lib.hid ho5
          have HS4 := Lib.hid HB34.out.size
          have HS3 := Lib.hid (blk_lt HT7.out)
          clear hb5 ho5 HK3 HT6 HT7 H4 hl3 hent
          have hwr : IntKind.u64.wrap (x.hits + 1) = x.hits + 1 := by
            have h62 : x.hits ≤ 4611686018427387904 := by
              have := HCB.out
              unfold cacB headB at this
              simp at this
              omega
            simp only [IntKind.wrap, IntKind.bits, IntKind.signed]
            simp
            omega
          go_wp2_with (first | ((with_reducible show wpList _ _ _ (Oper.mk _ (Op.store _ _ _) _ _ _ _ :: _) _ _); refine wpList_store_cell HK5.out 23 2 (.slice A' x.n c') (by show 2 < 5; omega) (by kernel_rfl) rfl rfl _ _ rfl rfl rfl rfl ?_; intro w6 hg9 hs9 hb9; have H6 := Lib.hid (And.intro hg9 (show (World.heap w6)[(w.heap.size)]? = some (.cells (Cac.vv ⟨x.room, x.ver, A', x.n, c', x.hits, x.misses⟩) 25 (0, 0)) from hb9)); clear hg9 hs9 hb9) | ((with_reducible show wpList _ _ _ (Oper.mk _ (Op.store _ _ _) _ _ _ _ :: _) _ _); refine wpList_store_cell H6.out.2 22 3 (.int .u64 (oneMore x.hits)) (by show 3 < 5; omega) (by kernel_rfl) rfl rfl _ _ rfl rfl rfl rfl ?_; intro w7 hg9 hs9 hb9; have H7 := Lib.hid (And.intro hg9 (show (World.heap w7)[(w.heap.size)]? = some (.cells (Cac.vv ⟨x.room, x.ver, A', x.n, c', oneMore x.hits, x.misses⟩) 25 (0, 0)) from hb9)); clear hg9 hs9 hb9) | ((with_reducible show wpList _ _ _ (Oper.mk _ (Op.load _ _) _ _ _ _ :: _) _ _); refine wpList_load_g (((cac_at H6.out.2).all _ (Below.refl _ _)).hits) _ rfl rfl (by go_simp) ?_))
          have hne : w.heap.size ≠ w3.heap.size := by have := HS3.out; omega
          have hne2 : w.heap.size + 4 < w3.heap.size ∨ True := Or.inr trivial
          have hxa := blk_grown (blk_grown HX5.out H6.out.1 (fun e => by injection e with e; omega)) H7.out.1 (fun e => by injection e with e; omega)
          have h6a := blk_grown (blk_grown HU6.out H6.out.1 (fun e => by injection e with e; omega)) H7.out.1 (fun e => by injection e with e; omega)
          have h7a := blk_grown (blk_grown HU7.out H6.out.1 (fun e => by injection e with e; omega)) H7.out.1 (fun e => by injection e with e; omega)
          have HXA2 := Lib.hid (blk_below hxa (below_drew1 w7))
          have HV6 := Lib.hid (blk_below h6a (below_drew1 w7))
          have HV7 := Lib.hid (blk_below h7a (below_drew1 w7))
          have HK7 := Lib.hid (blk_below H7.out.2 (below_drew1 w7))
          clear hxa h6a h7a hwr
          refine wp_region_mix ((fun w0 => w0.heap[w.heap.size]? = some (.cells (Cac.vv ⟨x.room, x.ver, A', x.n, c', oneMore x.hits, x.misses⟩) 25 (0, 0)) ∧ w0.heap[w3.heap.size]? = some (.cells (entV (entAt es i)) 43 (0, 0)))) [(0, 0), (1, 0), (2, 0), (3, 0), (4, 0), (5, 2), (6, 2), (7, 0), (8, 0)] (by kernel_rfl) (by kernel_rfl) (⟨HK7.out, HXA2.out⟩) ?_
          simp only [List.map_cons, List.map_nil]
          refine wpO_loadW (t := 25) (ad := ⟨w.heap.size, 0, none⟩) rfl rfl ?hw rfl rfl ((fun w0 hS => load_cac hS.1)) ?_
          case hw => go_simp
          iterate 1 (refine wpO_step0 rfl rfl (fun K hK => ?_); go_simp; refine hK _ _ ?_; clear hK K)
          refine wpO_loadW (t := 38) (ad := ⟨w3.heap.size, 17, none⟩) rfl rfl ?hw rfl rfl ((fun w0 hS => ((ent_at HF.out hS.2).all _ (Below.refl _ _)).row.row)) ?_
          case hw => go_simp
          iterate 1 (refine wpO_step0 rfl rfl (fun K hK => ?_); go_simp; refine hK _ _ ?_; clear hK K)
          refine wpO_loadW (t := 4) (ad := ⟨w3.heap.size, 36, none⟩) rfl rfl ?hw rfl rfl ((fun w0 hS => (ent_at HF.out hS.2).found _ (Below.refl _ _))) ?_
          case hw => go_simp
          refine wpO_step2 rfl rfl (⟨HK7.out, HXA2.out⟩) (fun K hK => ?_)
          rw [if_pos (show Region.wanted _ _ = true from rfl)]
          refine oper_store_blk HV6.out 25 0 (Cac.vv ⟨x.room, x.ver, A', x.n, c', oneMore x.hits, x.misses⟩) (Nat.le_refl _) (info_cac _) (cac_one _) _ _ rfl rfl rfl ?_
          intro w8 hg8 hs8 hb8
          rw [splice_cac] at hb8
          have H8 := Lib.hid (And.intro hg8 hb8)
          clear hg8 hs8 hb8
          have hk8 := blk_grown HK7.out H8.out.1 (fun e => by injection e with e; omega)
          have hx8 := blk_grown HXA2.out H8.out.1 (fun e => by injection e with e; have := HS3.out; omega)
          have HK8 := Lib.hid hk8
          have HX8 := Lib.hid hx8
          have HW7 := Lib.hid (blk_grown HV7.out H8.out.1 (fun e => by injection e with e; omega))
          clear hk8 hx8
          refine hK _ _ ⟨⟨HK8.out, HX8.out⟩, ?_⟩
          clear hK K
          refine wpO_step2 rfl rfl (⟨HK8.out, HX8.out⟩) (fun K hK => ?_)
          rw [if_pos (show Region.wanted _ _ = true from rfl)]
          refine oper_store_blk HW7.out 38 0 (rowV (entAt es i).r) (store_row_fit HF.out.r (rowV_size rowZ_fits)) (info_row HF.out.r) (rowV_one _) _ _ rfl rfl rfl ?_
          intro w9 hg9 hs9 hb9
          rw [splice_row HF.out.r (rowV_size rowZ_fits)] at hb9
          have H9 := Lib.hid (And.intro hg9 hb9)
          clear hg9 hs9 hb9
          refine hK _ _ ⟨⟨blk_grown HK8.out H9.out.1 (fun e => by injection e with e; omega), blk_grown HX8.out H9.out.1 (fun e => by injection e with e; have := HS3.out; omega)⟩, ?_⟩
          clear hK K
          iterate 2 (refine wpO_step0 rfl rfl (fun K hK => ?_); go_simp; refine hK _ _ ?_; clear hK K)
          refine wpO_nil ?_
          go_wp2
          have HZ6 := blk_grown H8.out.2 H9.out.1 (fun e => by injection e with e; omega)
          refine bodyPost_ret (results_cc2 rfl rfl (load_cac HZ6) rfl (Shape.ld rowK w9 _ 0 _ HF.out.r (cells_blk H9.out.2))) rfl ?_
          refine ⟨⟨x.room, x.ver, A', x.n, c', oneMore x.hits, x.misses⟩, entAt es i :: (es.take i ++ es.drop (i + 1)), (entAt es i).r, (entAt es i).f, by rw [HN.out]; rfl, ?_, ?_, ?_, ?_⟩
          · have hob := HO5.out.base_
            have h6 := HO5.out.reads.grown H6.out.1 (fun ad e h => by injection h with h; have := hob ad e; have := HS4.out; have := HS3.out; omega)
            have h7 := h6.grown H7.out.1 (fun ad e h => by injection h with h; have := hob ad e; have := HS4.out; have := HS3.out; omega)
            have h8 := (h7.below (below_drew1 w7)).grown H8.out.1 (fun ad e h => by injection h with h; have := hob ad e; have := HS4.out; have := HS3.out; omega)
            exact h8.grown H9.out.1 (fun ad e h => by injection h with h; have := hob ad e; have := HS4.out; have := HS3.out; omega)
          · intro ad e; have := HO5.out.base_ ad e; have := HS4.out; have := HS3.out; omega
          · unfold LookIs
            rw [if_pos HN.out]
            have h0 : (0 : Int) ≤ hitN es v l := by rw [HM.out]; omega
            have ht : (hitN es v l).toNat = i := by rw [HM.out]; simp
            have htold : told es t v l = entAt es i := by unfold told; rw [if_pos h0, ht]
            refine ⟨rfl, rfl, ?_, ?_, ?_, by rw [htold], by rw [htold]⟩
            · unfold lookL
              rw [if_pos h0, ht, htold]
            · rw [if_pos h0]
            · rw [if_pos h0]
          · exact below_grown (below_grown (below_step (below_grown (below_grown (below_step HBE.out HB5.out) H6.out.1 (by omega)) H7.out.1 (by omega)) (below_drew1 w7)) H8.out.1 (by omega)) H9.out.1 (by omega)
end Go.Proofs.YtihfaknflfmohaaDoor

/- Arguments that are caches, opened. -/
namespace Go.Proofs.YtihfaknflfmohaaDoor
open Go.ChangeShapes Go.WideShapes Go.ChangeAt Go.RowKit
set_option linter.unusedVariables false
set_option linter.unusedSimpArgs false
set_option maxRecDepth 4000
section
variable {H : Type} {enc : TypeId × Value → H} {W : World} {base : Nat} {spare : Nat → Bool} {held : Bool}
theorem open_ent_cells {fuel : Nat} {cs : List Value} {x : DataW H × List MemPlace} (h : DataW.trod enc Tryd.prog W base spare held fuel 43 cs = some x) : ∃ e : Ent, cs = entC e ∧ e.ok := by
  obtain ⟨xs, m, -, -, hlen, hxl, hg⟩ := DataW.trod_struct Tryd.underlying43 h
  have c1 : Tryd.prog.cellsOf 31 = 17 := by kernel_rfl
  have c2 : Tryd.prog.cellsOf 38 = 19 := by kernel_rfl
  have c4 : Tryd.prog.cellsOf 4 = 1 := by kernel_rfl
  have c3 : Tryd.prog.cellsOf 43 = 37 := by kernel_rfl
  have h0 : DataW.trod enc Tryd.prog W base spare held m 31 ((cs.drop 0).take (Tryd.prog.cellsOf 31)) = xs[0]? := hg 0 _ rfl
  have h1 : DataW.trod enc Tryd.prog W base spare held m 38 ((cs.drop 17).take (Tryd.prog.cellsOf 38)) = xs[1]? := hg 1 _ rfl
  have h2 : DataW.trod enc Tryd.prog W base spare held m 4 ((cs.drop 36).take (Tryd.prog.cellsOf 4)) = xs[2]? := hg 2 _ rfl
  rw [c3] at hlen
  rw [c1, List.drop_zero] at h0
  rw [c2] at h1
  rw [c4] at h2
  have hx3 : xs.length = 3 := hxl
  match xs, hx3 with
  | [x0, x1, x2], _ =>
    obtain ⟨v, l, hvl, hb, hw⟩ := open_adr_cells (show DataW.trod enc Tryd.prog W base spare held m 31 (cs.take 17) = some x0 from h0)
    obtain ⟨r, hr, hro⟩ := open_row_cells (show DataW.trod enc Tryd.prog W base spare held m 38 ((cs.drop 17).take 19) = some x1 from h1)
    obtain ⟨f, hf, -⟩ := DataW.trod_bool Tryd.underlying4 (show DataW.trod enc Tryd.prog W base spare held m 4 ((cs.drop 36).take 1) = some x2 from h2)
    rw [List.take_of_length_le (by rw [List.length_drop]; omega)] at hf
    refine ⟨⟨v, l, r, f⟩, ?_, hb, hw, hro⟩
    have e1 : cs = cs.take 17 ++ ((cs.drop 17).take 19 ++ cs.drop 36) := by
      have h3 : cs.drop 17 = (cs.drop 17).take 19 ++ cs.drop 36 := by
        conv => lhs; rw [← List.take_append_drop 19 (cs.drop 17)]
        rw [List.drop_drop]
      rw [← h3, List.take_append_drop]
    rw [e1, hvl, hr, hf]
    simp [entC]
theorem open_cac_cells {fuel : Nat} {cs : List Value} {y : DataW H × List MemPlace} (h : DataW.trod enc Tryd.prog W base spare held fuel 25 cs = some y) (hl : Light Tryd.prog 25 y.1) : ∃ (x : Cac) (es : List Ent), cs = x.vv.toList ∧ RE W x.A x.n x.c es ∧ Oke es ∧ x.ok ∧ x.n * 72 ≤ 140737488351232 := by
  obtain ⟨xs, m, -, hx, hlen, hxl, hg⟩ := DataW.trod_struct Tryd.underlying25 h
  have c0 : Tryd.prog.cellsOf 3 = 1 := by kernel_rfl
  have c1 : Tryd.prog.cellsOf 22 = 1 := by kernel_rfl
  have c2 : Tryd.prog.cellsOf 23 = 1 := by kernel_rfl
  have c3 : Tryd.prog.cellsOf 25 = 5 := by kernel_rfl
  have h0 : DataW.trod enc Tryd.prog W base spare held m 3 ((cs.drop 0).take (Tryd.prog.cellsOf 3)) = xs[0]? := hg 0 _ rfl
  have h1 : DataW.trod enc Tryd.prog W base spare held m 22 ((cs.drop 1).take (Tryd.prog.cellsOf 22)) = xs[1]? := hg 1 _ rfl
  have h2 : DataW.trod enc Tryd.prog W base spare held m 23 ((cs.drop 2).take (Tryd.prog.cellsOf 23)) = xs[2]? := hg 2 _ rfl
  have h3 : DataW.trod enc Tryd.prog W base spare held m 22 ((cs.drop 3).take (Tryd.prog.cellsOf 22)) = xs[3]? := hg 3 _ rfl
  have h4 : DataW.trod enc Tryd.prog W base spare held m 22 ((cs.drop 4).take (Tryd.prog.cellsOf 22)) = xs[4]? := hg 4 _ rfl
  rw [c3] at hlen
  rw [c0] at h0
  rw [c1] at h1 h3 h4
  rw [c2] at h2
  have hx5 : xs.length = 5 := hxl
  subst hx
  match cs, hlen, xs, hx5 with
  | [d0, d1, d2, d3, d4], _, [x0, x1, x2, x3, x4], _ =>
    obtain ⟨room, hv0, -, hw0⟩ := DataW.trod_int Tryd.underlying3 (show DataW.trod enc Tryd.prog W base spare held m 3 [d0] = some x0 from h0)
    obtain ⟨ver, hv1, -, hw1⟩ := DataW.trod_int Tryd.underlying22 (show DataW.trod enc Tryd.prog W base spare held m 22 [d1] = some x1 from h1)
    obtain ⟨hits, hv3, -, hw3⟩ := DataW.trod_int Tryd.underlying22 (show DataW.trod enc Tryd.prog W base spare held m 22 [d3] = some x3 from h3)
    obtain ⟨misses, hv4, -, hw4⟩ := DataW.trod_int Tryd.underlying22 (show DataW.trod enc Tryd.prog W base spare held m 22 [d4] = some x4 from h4)
    have hl2 : Light Tryd.prog 23 x2.1 := light_field Tryd.underlying25 hl (i := 2) (f := _) rfl rfl
    obtain ⟨A, n, c, t, e1, e2, e3, e4⟩ := open_shp entK Ent.ok (by show Tryd.prog.cellsOf 43 = 37; kernel_rfl) (by show 0 < Tryd.prog.bytesOf 43; exact of_decide_eq_true (by kernel_rfl)) (fun fuel cs y hy _ => by
      obtain ⟨r, e, hr⟩ := open_ent_cells hy
      exact ⟨r, e, hr.fits, hr⟩) (show DataW.trod enc Tryd.prog W base spare held m 23 [d2] = some x2 from h2) hl2
    have hb : Tryd.prog.bytesOf entK.t = 72 := by show Tryd.prog.bytesOf 43 = 72; kernel_rfl
    rw [hb] at e4
    refine ⟨⟨room, ver, A, n, c, hits, misses⟩, t, ?_, e2, e3, ⟨hw0, hw1, hw3, hw4⟩, e4⟩
    injection hv0 with hv0
    injection hv1 with hv1
    injection e1 with e1
    injection hv3 with hv3
    injection hv4 with hv4
    subst hv0 hv1 e1 hv3 hv4
    rfl
end
theorem open_cac {H : Type} {enc : TypeId × Value → H} {W : World} {base b0 : Nat} {spare : Nat → Bool} {held : Bool} {v : Value} {d : DataW H} {p : List MemPlace} (hv : Value.okWide Tryd.prog W .any b0 25 v)
    (h : DataW.Trod enc Tryd.prog W base spare held 25 v d p) (hl : Light Tryd.prog 25 d) : ∃ (x : Cac) (es : List Ent), v = .agg x.vv ∧ RE W x.A x.n x.c es ∧ Oke es ∧ x.ok ∧ x.n * 72 ≤ 140737488351232 := by
  obtain ⟨cs, rfl, -⟩ := okWide_struct Tryd.underlying25 hv
  obtain ⟨fuel, hf⟩ := h
  obtain ⟨x, es, hc, h1, h2, h3, h4⟩ := open_cac_cells hf hl
  refine ⟨x, es, ?_, h1, h2, h3, h4⟩
  have : cs = x.vv := by
    apply Array.toList_inj.1
    exact hc
  rw [this]
end Go.Proofs.YtihfaknflfmohaaDoor

/- Layer 27 (cache): New; the document's Tells and more. -/
namespace Go.Proofs.YtihfaknflfmohaaDoor
open Go.RowKit
set_option linter.unusedVariables false
set_option linter.unusedSimpArgs false
set_option maxRecDepth 4000
def newE (room ver : Int) : Int := if room < 1 ∨ 16 < room ∨ 4611686018427387904 < ver then 2 else 0
def newC (room ver : Int) : Cac := if newE room ver = 0 then ⟨room, ver, none, 0, 0, 0, 0⟩ else cacZ
theorem run_build_cac2 (w : World) (room ver : Int) : (Instr.build 25 #[(0, .int .i64 room), (1, .int .u64 ver)]).run Tryd.prog w = .ok (.agg (Cac.vv ⟨room, ver, none, 0, 0, 0, 0⟩)) w := run_build w _ _ _ (by kernel_rfl)
theorem cnew_any (room ver : Int) (w : World) : Calls Tryd.prog 21 #[.int .i64 room, .int .u64 ver] w fun r w' => r = .returned (.tuple #[.agg (newC room ver).vv, .int .i64 (newE room ver)]) ∧ Below w.heap.size w w' := by
  have hbc := run_build_cac_nil
  have hbc2 := run_build_cac2
  go_enter Tryd.func21, Tryd.ntmps21
  by_cases h1 : room < 1
  · have h1b : decide (room < 1) = true := decide_eq_true h1
    have HN := Lib.hid (show newE room ver = 2 by unfold newE; rw [if_pos (by omega)])
    go_wp2_with (first | ((with_reducible show wpList _ _ _ (Oper.mk _ (Op.build _ _) _ _ _ _ :: _) _ _); refine wpList_exw rfl (exec_build 25 #[] rfl #[] rfl (hbc _)) ?_) | ((with_reducible show wpList _ _ _ (Oper.mk _ (Op.store _ _ _) _ _ _ _ :: _) _ _); refine wpList_store_blk (blk_new w (.cells cacZ.vv 25)) 25 0 cacZ.vv (Nat.le_refl _) (info_cac _) (cac_one _) _ _ rfl rfl rfl rfl ?_; intro w2 hg9 hs9 hb9; rw [splice_cac] at hb9; have H2 := Lib.hid (And.intro hg9 hb9); clear hg9 hs9 hb9))
    refine bodyPost_ret (results_c2 rfl rfl (load_cac H2.out.2)) rfl ?_
    rw [HN.out, show newC room ver = cacZ by unfold newC; rw [if_neg (by rw [HN.out]; decide)]]
    exact ⟨rfl, below_grown (below_alloc (Below.refl _ _) _) H2.out.1 (Nat.le_refl _)⟩
  · have h1b : decide (room < 1) = false := decide_eq_false h1
    by_cases h2 : 16 < room
    · have h2b : decide (16 < room) = true := decide_eq_true h2
      have HN := Lib.hid (show newE room ver = 2 by unfold newE; rw [if_pos (by omega)])
      go_wp2_with (first | ((with_reducible show wpList _ _ _ (Oper.mk _ (Op.build _ _) _ _ _ _ :: _) _ _); refine wpList_exw rfl (exec_build 25 #[] rfl #[] rfl (hbc _)) ?_) | ((with_reducible show wpList _ _ _ (Oper.mk _ (Op.store _ _ _) _ _ _ _ :: _) _ _); refine wpList_store_blk (blk_new w (.cells cacZ.vv 25)) 25 0 cacZ.vv (Nat.le_refl _) (info_cac _) (cac_one _) _ _ rfl rfl rfl rfl ?_; intro w2 hg9 hs9 hb9; rw [splice_cac] at hb9; have H2 := Lib.hid (And.intro hg9 hb9); clear hg9 hs9 hb9))
      refine bodyPost_ret (results_c2 rfl rfl (load_cac H2.out.2)) rfl ?_
      rw [HN.out, show newC room ver = cacZ by unfold newC; rw [if_neg (by rw [HN.out]; decide)]]
      exact ⟨rfl, below_grown (below_alloc (Below.refl _ _) _) H2.out.1 (Nat.le_refl _)⟩
    · have h2b : decide (16 < room) = false := decide_eq_false h2
      by_cases h3 : 4611686018427387904 < ver
      · have h3b : decide (4611686018427387904 < ver) = true := decide_eq_true h3
        have HN := Lib.hid (show newE room ver = 2 by unfold newE; rw [if_pos (by omega)])
        go_wp2_with (first | ((with_reducible show wpList _ _ _ (Oper.mk _ (Op.build _ _) _ _ _ _ :: _) _ _); refine wpList_exw rfl (exec_build 25 #[] rfl #[] rfl (hbc _)) ?_) | ((with_reducible show wpList _ _ _ (Oper.mk _ (Op.store _ _ _) _ _ _ _ :: _) _ _); refine wpList_store_blk (blk_new w (.cells cacZ.vv 25)) 25 0 cacZ.vv (Nat.le_refl _) (info_cac _) (cac_one _) _ _ rfl rfl rfl rfl ?_; intro w2 hg9 hs9 hb9; rw [splice_cac] at hb9; have H2 := Lib.hid (And.intro hg9 hb9); clear hg9 hs9 hb9))
        refine bodyPost_ret (results_c2 rfl rfl (load_cac H2.out.2)) rfl ?_
        rw [HN.out, show newC room ver = cacZ by unfold newC; rw [if_neg (by rw [HN.out]; decide)]]
        exact ⟨rfl, below_grown (below_alloc (Below.refl _ _) _) H2.out.1 (Nat.le_refl _)⟩
      · have h3b : decide (4611686018427387904 < ver) = false := decide_eq_false h3
        have HN := Lib.hid (show newE room ver = 0 by unfold newE; rw [if_neg (by omega)])
        go_wp2_with (first | ((with_reducible show wpList _ _ _ (Oper.mk _ (Op.build _ _) _ _ _ _ :: _) _ _); refine wpList_exw rfl (exec_build2 (t := 25) (i0 := 0) (i1 := 1) (x0 := .tmp 17) (x1 := .tmp 18) (v0 := (.int .i64 room)) (v1 := (.int .u64 ver)) (v := (.agg (Cac.vv ⟨room, ver, none, 0, 0, 0, 0⟩))) rfl rfl rfl (hbc2 _ _ _)) ?_) | ((with_reducible show wpList _ _ _ (Oper.mk _ (Op.store _ _ _) _ _ _ _ :: _) _ _); refine wpList_store_blk (blk_new w (.cells cacZ.vv 25)) 25 0 (Cac.mk room ver none 0 0 0 0).vv (Nat.le_refl _) (info_cac _) (cac_one _) _ _ rfl rfl rfl rfl ?_; intro w2 hg9 hs9 hb9; rw [splice_cac] at hb9; have H2 := Lib.hid (And.intro hg9 hb9); clear hg9 hs9 hb9))
        refine bodyPost_ret (results_c2 rfl rfl (load_cac H2.out.2)) rfl ?_
        rw [HN.out, show newC room ver = ⟨room, ver, none, 0, 0, 0, 0⟩ by unfold newC; rw [if_pos HN.out]]
        exact ⟨rfl, below_grown (below_alloc (Below.refl _ _) _) H2.out.1 (Nat.le_refl _)⟩
theorem oneMore_eq {h : Int} (hm : h ≤ 4611686018427387904) : (if h = 4611686018427387904 then h else h + 1) = oneMore h := by
  unfold oneMore
  split <;> omega
theorem refmore_any (h : Int) (w : World) (h0 : 0 ≤ h) (hm : h ≤ 4611686018427387904) : Calls Tryd.prog 60 #[.int .u64 h] w fun r w' => r = .returned (.int .u64 (oneMore h)) ∧ w' = w := by
  go_enter Tryd.func60, Tryd.ntmps60
  by_cases he : h = 4611686018427387904
  · subst he
    go_wp2
    go_ret
    exact ⟨rfl, rfl⟩
  · have heb : (h == 4611686018427387904) = false := by simpa using he
    have hwr : IntKind.u64.wrap (h + 1) = h + 1 := by
      simp only [IntKind.wrap, IntKind.bits, IntKind.signed]
      simp
      omega
    have HO := Lib.hid (show oneMore h = h + 1 by unfold oneMore; omega)
    go_wp2
    go_ret
    rw [HO.out]
    exact ⟨rfl, rfl⟩
theorem longR_none {t : List Row} {v : Int} {l : List Int} (h : longB t v l = false) : longR t v l = rowZ := by
  unfold longB at h
  unfold longR
  cases hx : longest t v l with
  | none => rfl
  | some x => rw [hx] at h; cases h
theorem built_ent1 (v : Int) (l : List Int) (hl : l.length = 16) : Tryd.prog.built 43 [(0, .agg (adrV v l))] = some (entV ⟨v, l, rowZ, false⟩) := by
  obtain ⟨a, b, c, d, e, f2, g, h1, i, j, k, m, n, o, q, r2, hh⟩ := len16 hl
  subst hh
  kernel_rfl
theorem exec_build_ent1 {r : Operand → Value} {o : Oper} {x : Operand} {v : Int} {l : List Int} (ho : o.op = .build 43 #[(0, x)]) (hx : r x = .agg (adrV v l)) (hl : l.length = 16) (w : World) :
    (execOp r o).run Tryd.prog w = .ok (.value (.agg (entV ⟨v, l, rowZ, false⟩))) w :=
  exec_build _ _ ho #[(0, .agg (adrV v l))] (by simp [hx]) (run_build w _ _ _ (built_ent1 v l hl))
theorem run_build_ent_nil (w : World) : (Instr.build 43 #[]).run Tryd.prog w = .ok (.agg (entV entZ)) w := run_build w _ _ _ (by kernel_rfl)
def tells (t : List Row) (v : Int) (l : List Int) : Ent := ⟨v, l, longR t v l, longB t v l⟩
set_option maxHeartbeats 2000000 in
theorem reftells_any (A : Option Addr) (n c : Nat) (t : List Row) (v : Int) (l : List Int) (w : World) (ht : RT w A n c t) (ot : Oks t) (hup : rising t = true) (hl : B16 l) (hn : n ≤ 100000) :
    Calls Tryd.prog 35 #[.agg (tabV A n c), .agg (adrV v l)] w fun r w' => r = .returned (.agg (entV (tells t v l))) ∧ Below w.heap.size w w' := by
  have hblk1 := blk_new w (.cells (tabV A n c) 28)
  have hbel1 : Below w.heap.size w (w.alloc (.cells (tabV A n c) 28)) := below_alloc (Below.refl _ _) _
  have hblk2 := blk_new (w.alloc (.cells (tabV A n c) 28)) (.cells (adrV v l) 31)
  have hbel2 : Below w.heap.size w ((w.alloc (.cells (tabV A n c) 28)).alloc (.cells (adrV v l) 31)) := below_alloc (hbel1) _
  rw [show (w.alloc (.cells (tabV A n c) 28)).heap.size = w.heap.size + 1 by simp] at hblk2
  replace hblk1 := blk_below hblk1 (below_alloc (Below.refl _ _) (.cells (adrV v l) 31))
  have HP1 := Lib.hid (tab_at hblk1)
  have HBK1 := Lib.hid hblk1
  have HP2 := Lib.hid (adr_at hl hblk2)
  have HBK2 := Lib.hid hblk2
  have HBE := Lib.hid hbel2
  obtain ⟨cs1, hcs1⟩ : ∃ cs, tabV A n c = cs := ⟨_, rfl⟩
  obtain ⟨cs2, hcs2⟩ : ∃ cs, adrV v l = cs := ⟨_, rfl⟩
  simp only [hcs1, hcs2] at HBE HP1 HP2 HBK1 HBK2 ⊢
  have HC1 := Lib.hid hcs1
  have HC2 := Lib.hid hcs2
  clear hcs1 hblk1 hbel1 hcs2 hblk2 hbel2
  have HT := Lib.hid (ht.below HBE.out)
  have HRF := Lib.hid (longR_fits (RT.fits HT.out) v l)
  have HZ : Hid ((((w.alloc (.cells cs1 28)).alloc (.cells cs2 31)).alloc (.cells (entV entZ) 43)).heap[w.heap.size + 2]? = some (.cells (entV entZ) 43 (0, 0))) := Lib.hid (by
    have := blk_new ((w.alloc (.cells cs1 28)).alloc (.cells cs2 31)) (.cells (entV entZ) 43)
    rw [show ((w.alloc (.cells cs1 28)).alloc (.cells cs2 31)).heap.size = w.heap.size + 2 by simp] at this
    exact this)
  clear ht
  go_enter Tryd.func35, Tryd.ntmps35
  go_wp2_with (first | ((with_reducible show wpList _ _ _ (Oper.mk _ (Op.load _ _) _ _ _ _ :: _) _ _); refine wpList_load_g ((HP1.out.all _ (below_alloc (Below.refl _ _) _)).1) _ rfl rfl (by go_simp) ?_) | ((with_reducible show wpList _ _ _ (Oper.mk _ (Op.load _ _) _ _ _ _ :: _) _ _); refine wpList_load_g ((HP2.out.all _ (below_alloc (Below.refl _ _) _)).1) _ rfl rfl (by go_simp) ?_))
  have hcall := reflongest_any A n c t v l (((w.alloc (.cells cs1 28)).alloc (.cells cs2 31)).alloc (.cells (entV entZ) 43)) (HT.out.below (below_alloc (Below.refl _ _) _)) ot hup hl hn
  refine hcall.mono ?_
  clear hcall
  rintro e w1 ⟨rfl, hb1⟩
  have HB1 := Lib.hid (below_step (below_alloc (Below.refl _ _) _) hb1)
  have HZ1 := Lib.hid (blk_below HZ.out hb1)
  clear hb1 HZ
  cases hlb : longB t v l with
  | false =>
    have HTE := Lib.hid (show tells t v l = ⟨v, l, rowZ, false⟩ by unfold tells; rw [hlb, longR_none hlb])
    have HEF := Lib.hid (show (Ent.mk v l rowZ false).fits from ⟨hl, zero16_B⟩)
    clear hlb
    go_wp2_with (first | ((with_reducible show wpList _ _ _ (Oper.mk _ (Op.store _ _ _) _ _ _ _ :: _) _ _); refine wpList_store_blk (blk_new w1 _) 38 0 (rowV (longR t v l)) (store_row_fit HRF.out rfl) (info_row HRF.out) (rowV_one _) _ _ rfl rfl rfl rfl ?_; intro w2 hg9 hs9 hb9; rw [splice_row HRF.out rfl] at hb9; have H2 := Lib.hid (And.intro hg9 hb9); clear hg9 hs9 hb9) | ((with_reducible show wpList _ _ _ (Oper.mk _ (Op.load _ _) _ _ _ _ :: _) _ _); refine wpList_load_g ((HP2.out.all w2 (below_grown (below_step HB1.out (below_alloc (Below.refl w1.heap.size w1) (.cells (rowV rowZ) 38))) H2.out.1 HB1.out.size)).1) _ rfl rfl (by go_simp) ?_) | ((with_reducible show wpList _ _ _ (Oper.mk _ (Op.build _ _) _ _ _ _ :: _) _ _); refine wpList_exw rfl (exec_build_ent1 (v := v) (l := l) rfl rfl hl.len _) ?_) | ((with_reducible show wpList _ _ _ (Oper.mk _ (Op.store _ _ _) _ _ _ _ :: _) _ _); refine wpList_store_blk (blk_grown (blk_below HZ1.out (below_alloc (Below.refl _ _) (.cells (rowV rowZ) 38))) H2.out.1 (fun e => by injection e with e; have := blk_lt HZ1.out; omega)) 43 0 (entV (Ent.mk v l rowZ false)) (store_ent_fit HEF.out (entV_size entZ_fits)) (info_ent HEF.out) (entV_one _) _ _ rfl rfl rfl rfl ?_; intro w3 hg9 hs9 hb9; rw [splice_ent HEF.out (entV_size entZ_fits)] at hb9; have H3 := Lib.hid (And.intro hg9 hb9); clear hg9 hs9 hb9))
    have hld := (Shape.ld entK w3 _ 0 _ (show (Ent.mk v l rowZ false).fits from ⟨hl, zero16_B⟩) (cells_blk H3.out.2))
    refine bodyPost_ret (results_c1 rfl rfl hld) rfl ?_
    rw [HTE.out]
    exact ⟨rfl, below_grown (below_grown (below_step (below_step HBE.out HB1.out) (below_alloc (Below.refl w1.heap.size w1) (.cells (rowV rowZ) 38))) H2.out.1 (by have := blk_lt HZ1.out; omega)) H3.out.1 (by omega)⟩
  | true =>
    have HTE := Lib.hid (show tells t v l = ⟨v, l, longR t v l, true⟩ by unfold tells; rw [hlb])
    clear hlb
    obtain ⟨ro, hro⟩ : ∃ ro, longR t v l = ro := ⟨_, rfl⟩
    rw [hro] at HRF HTE ⊢
    go_wp2_with (first | ((with_reducible show wpList _ _ _ (Oper.mk _ (Op.store _ _ _) _ _ _ _ :: _) _ _); refine wpList_store_blk (blk_new w1 _) 38 0 (rowV ro) (store_row_fit HRF.out rfl) (info_row HRF.out) (rowV_one _) _ _ rfl rfl rfl rfl ?_; intro w2 hg9 hs9 hb9; rw [splice_row HRF.out rfl] at hb9; have H2 := Lib.hid (And.intro hg9 hb9); clear hg9 hs9 hb9) | ((with_reducible show wpList _ _ _ (Oper.mk _ (Op.load _ _) _ _ _ _ :: _) _ _); refine wpList_load_g ((HP2.out.all w2 (below_grown (below_step HB1.out (below_alloc (Below.refl w1.heap.size w1) (.cells (rowV rowZ) 38))) H2.out.1 HB1.out.size)).1) _ rfl rfl (by go_simp) ?_) | ((with_reducible show wpList _ _ _ (Oper.mk _ (Op.load _ _) _ _ _ _ :: _) _ _); refine wpList_load_g (((row_at HRF.out H2.out.2).all _ (Below.refl _ _)).row) _ rfl rfl (by go_simp) ?_) | ((with_reducible show wpList _ _ _ (Oper.mk _ (Op.build _ _) _ _ _ _ :: _) _ _); refine wpList_exw rfl (exec_build_ent (v := v) (l := l) (ro := ro) (f := true) rfl rfl rfl rfl hl.len HRF.out.len _) ?_) | ((with_reducible show wpList _ _ _ (Oper.mk _ (Op.store _ _ _) _ _ _ _ :: _) _ _); refine wpList_store_blk (blk_grown (blk_below HZ1.out (below_alloc (Below.refl _ _) (.cells (rowV rowZ) 38))) H2.out.1 (fun e => by injection e with e; have := blk_lt HZ1.out; omega)) 43 0 (entV (Ent.mk v l ro true)) (store_ent_fit ⟨hl, HRF.out⟩ (entV_size entZ_fits)) (info_ent ⟨hl, HRF.out⟩) (entV_one _) _ _ rfl rfl rfl rfl ?_; intro w3 hg9 hs9 hb9; rw [splice_ent ⟨hl, HRF.out⟩ (entV_size entZ_fits)] at hb9; have H3 := Lib.hid (And.intro hg9 hb9); clear hg9 hs9 hb9))
    have hld := (Shape.ld entK w3 _ 0 _ (show (Ent.mk v l ro true).fits from ⟨hl, HRF.out⟩) (cells_blk H3.out.2))
    refine bodyPost_ret (results_c1 rfl rfl hld) rfl ?_
    rw [HTE.out]
    exact ⟨rfl, below_grown (below_grown (below_step (below_step HBE.out HB1.out) (below_alloc (Below.refl w1.heap.size w1) (.cells (rowV rowZ) 38))) H2.out.1 (by have := blk_lt HZ1.out; omega)) H3.out.1 (by omega)⟩
end Go.Proofs.YtihfaknflfmohaaDoor

/- Layer 27 (cache): the document's Look. -/
namespace Go.Proofs.YtihfaknflfmohaaDoor
open Go.RowKit
set_option linter.unusedVariables false
set_option linter.unusedSimpArgs false
set_option maxRecDepth 4000
theorem hit_spec {es : List Ent} {v : Int} {l : List Int} {i : Nat} (h : hitN es v l = (i : Int)) : i < es.length ∧ sA (entAt es i).v (entAt es i).l v l = true ∧ ∀ k, k < i → sA (entAt es k).v (entAt es k).l v l = false := by
  unfold hitN idxE at h
  cases hf : es.findIdx? (fun e => sA e.v e.l v l) with
  | none =>
    rw [hf] at h
    have h : (-1 : Int) = i := h
    omega
  | some j =>
    rw [hf] at h
    have hj : j = i := by
      have h : (j : Int) = i := h
      omega
    subst hj
    rw [List.findIdx?_eq_some_iff_getElem] at hf
    obtain ⟨h1, h2, h3⟩ := hf
    have hg : ∀ k (hk : k < es.length), es[k] = entAt es k := fun k hk => by
      have := entAt_get hk
      rw [List.getElem?_eq_getElem hk] at this
      exact Option.some.inj this
    refine ⟨h1, by rw [← hg j h1]; exact h2, fun k hk => ?_⟩
    have := h3 k hk
    rw [hg k (by omega)] at this
    simpa using this
theorem miss_spec {es : List Ent} {v : Int} {l : List Int} (h : hitN es v l = -1) : ∀ k, k < es.length → sA (entAt es k).v (entAt es k).l v l = false := by
  intro k hk
  unfold hitN idxE at h
  cases hf : es.findIdx? (fun e => sA e.v e.l v l) with
  | some j =>
    rw [hf] at h
    have h : (j : Int) = -1 := h
    omega
  | none =>
    rw [List.findIdx?_eq_none_iff] at hf
    exact hf _ (List.mem_of_getElem? (entAt_get hk))
theorem hit_iff {es : List Ent} {v : Int} {l : List Int} (hE : entsB es = true) {k : Nat} (hk : k < es.length) : sA (entAt es k).v (entAt es k).l v l = true ↔ hitN es v l = (k : Int) := by
  constructor
  · intro h
    rcases hit_cases es v l with hm | ⟨i, hi, hm⟩
    · rw [miss_spec hm k hk] at h; cases h
    · obtain ⟨_, h2, h3⟩ := hit_spec hm
      have hik : ¬ k < i := fun hh => by rw [h3 k hh] at h; cases h
      have hki : ¬ i < k := fun hh => by
        have h4 := ((of_decide_eq_true hE) k hk).2 i hh
        unfold sameA at h4
        obtain ⟨a, b⟩ := sA_true.1 h
        obtain ⟨c, d⟩ := sA_true.1 h2
        rw [sA_true.2 ⟨c.trans a.symm, d.trans b.symm⟩] at h4
        cases h4
      rw [hm]
      have : i = k := by omega
      rw [this]
  · intro h
    exact (hit_spec h).2.1
def others (es : List Ent) (v : Int) (l : List Int) : List Ent := es.filter fun e => !sA e.v e.l v l
theorem others_succ {es : List Ent} {v : Int} {l : List Int} {i : Nat} (hi : i < es.length) : others (es.take (i + 1)) v l = others (es.take i) v l ++ (if sA (entAt es i).v (entAt es i).l v l = true then [] else [entAt es i]) := by
  have e : es.take (i + 1) = es.take i ++ [entAt es i] := Shape.take_succ (S := entK) hi
  rw [e]
  unfold others
  rw [List.filter_append]
  congr 1
  cases h : sA (entAt es i).v (entAt es i).l v l <;> simp [h]
theorem others_append (a b : List Ent) (v : Int) (l : List Int) : others (a ++ b) v l = others a v l ++ others b v l := by
  unfold others
  rw [List.filter_append]
theorem others_all {es : List Ent} {v : Int} {l : List Int} (h : ∀ e ∈ es, sA e.v e.l v l = false) : others es v l = es := by
  unfold others
  rw [List.filter_eq_self]
  intro e he
  rw [h e he]
  rfl
theorem mem_entAt {es : List Ent} {e : Ent} (h : e ∈ es) : ∃ k, k < es.length ∧ entAt es k = e := by
  obtain ⟨k, hk, he⟩ := List.getElem_of_mem h
  refine ⟨k, hk, ?_⟩
  have := entAt_get hk
  rw [List.getElem?_eq_getElem hk, he] at this
  exact (Option.some.inj this).symm
theorem entAt_take {es : List Ent} {j k : Nat} (hk : k < j) (hj : j ≤ es.length) : entAt (es.take j) k = entAt es k := by
  have h1 := entAt_get (es := es.take j) (i := k) (by rw [List.length_take]; omega)
  rw [List.getElem?_take, if_pos hk, entAt_get (by omega)] at h1
  exact (Option.some.inj h1).symm
theorem entAt_drop {es : List Ent} {j k : Nat} (hk : j + k < es.length) : entAt (es.drop j) k = entAt es (j + k) := by
  have h1 := entAt_get (es := es.drop j) (i := k) (by rw [List.length_drop]; omega)
  rw [List.getElem?_drop, entAt_get hk] at h1
  exact (Option.some.inj h1).symm
theorem others_hit {es : List Ent} {v : Int} {l : List Int} (hE : entsB es = true) {j : Nat} (h : hitN es v l = (j : Int)) : others es v l = es.take j ++ es.drop (j + 1) := by
  obtain ⟨hj, h1, h2⟩ := hit_spec h
  have e : es = es.take j ++ ([entAt es j] ++ es.drop (j + 1)) := Shape.split_at (S := entK) hj
  have hx : others es v l = others (es.take j) v l ++ (others [entAt es j] v l ++ others (es.drop (j + 1)) v l) := by
    rw [← others_append, ← others_append, ← e]
  rw [hx, others_all (es := es.take j), others_all (es := es.drop (j + 1))]
  · have : others [entAt es j] v l = [] := by unfold others; simp [h1]
    rw [this, List.nil_append]
  · intro x hx
    obtain ⟨k, hk, hxe⟩ := mem_entAt hx
    rw [List.length_drop] at hk
    rw [entAt_drop (by omega)] at hxe
    rw [← hxe]
    cases hs : sA (entAt es (j + 1 + k)).v (entAt es (j + 1 + k)).l v l with
    | false => rfl
    | true =>
      have := (hit_iff hE (by omega)).1 hs
      omega
  · intro x hx
    obtain ⟨k, hk, hxe⟩ := mem_entAt hx
    rw [List.length_take] at hk
    rw [entAt_take (by omega) (by omega)] at hxe
    rw [← hxe]
    exact h2 k (by omega)
theorem others_len (es : List Ent) (v : Int) (l : List Int) : (others es v l).length ≤ es.length := List.length_filter_le _ _
theorem look_ref {room : Int} {es : List Ent} {t : List Row} {v : Int} {l : List Int} (hE : entsB es = true) (hr : (es.length : Int) ≤ room) : (told es t v l :: others es v l).take room.toNat = lookL room es t v l := by
  unfold lookL
  rcases hit_cases es v l with hm | ⟨j, hj, hm⟩
  · rw [if_neg (by rw [hm]; omega), others_all]
    intro x hx
    obtain ⟨k, hk, hxe⟩ := mem_entAt hx
    rw [← hxe]
    exact miss_spec hm k hk
  · rw [if_pos (by rw [hm]; omega), others_hit hE hm, show (hitN es v l).toNat = j by rw [hm]; simp]
    apply List.take_of_length_le
    rw [List.length_cons, List.length_append, List.length_take, List.length_drop]
    omega
def toldAt (es : List Ent) (t : List Row) (v : Int) (l : List Int) (i : Nat) : Ent := if 0 ≤ hitN es v l ∧ hitN es v l < i then entAt es (hitN es v l).toNat else tells t v l
theorem toldAt_zero (es : List Ent) (t : List Row) (v : Int) (l : List Int) : toldAt es t v l 0 = tells t v l := by unfold toldAt; rw [if_neg (by omega)]
theorem toldAt_end {es : List Ent} {t : List Row} {v : Int} {l : List Int} : toldAt es t v l es.length = told es t v l := by
  unfold toldAt told
  rcases hit_cases es v l with hm | ⟨j, hj, hm⟩
  · rw [if_neg (by rw [hm]; omega), if_neg (by rw [hm]; omega)]
    rfl
  · rw [if_pos (by rw [hm]; omega), if_pos (by rw [hm]; omega)]
theorem toldAt_hit {es : List Ent} {t : List Row} {v : Int} {l : List Int} {i : Nat} (hE : entsB es = true) (hi : i < es.length) (h : sA (entAt es i).v (entAt es i).l v l = true) : toldAt es t v l (i + 1) = entAt es i ∧ decide (0 ≤ hitN es v l ∧ hitN es v l < ((i + 1 : Nat) : Int)) = true := by
  have hm := (hit_iff hE hi).1 h
  refine ⟨?_, decide_eq_true (by omega)⟩
  unfold toldAt
  rw [if_pos (by omega), show (hitN es v l).toNat = i by omega]
theorem toldAt_miss {es : List Ent} {t : List Row} {v : Int} {l : List Int} {i : Nat} (hE : entsB es = true) (hi : i < es.length) (h : sA (entAt es i).v (entAt es i).l v l = false) : toldAt es t v l (i + 1) = toldAt es t v l i ∧ decide (0 ≤ hitN es v l ∧ hitN es v l < ((i + 1 : Nat) : Int)) = decide (0 ≤ hitN es v l ∧ hitN es v l < (i : Int)) := by
  have hm : ¬ hitN es v l = (i : Int) := fun hm => by rw [(hit_iff hE hi).2 hm] at h; cases h
  have hiff : (0 ≤ hitN es v l ∧ hitN es v l < ((i + 1 : Nat) : Int)) ↔ (0 ≤ hitN es v l ∧ hitN es v l < (i : Int)) := by omega
  refine ⟨?_, by rw [decide_eq_decide]; exact hiff⟩
  unfold toldAt
  by_cases hc : 0 ≤ hitN es v l ∧ hitN es v l < (i : Int)
  · rw [if_pos (hiff.2 hc), if_pos hc]
  · rw [if_neg (fun hh => hc (hiff.1 hh)), if_neg hc]
theorem toldAt_fits {es : List Ent} {t : List Row} {v : Int} {l : List Int} (hf : entK.all es) (ht : (tells t v l).fits) (i : Nat) : (toldAt es t v l i).fits := by
  unfold toldAt
  split
  · rename_i hc
    rcases hit_cases es v l with hm | ⟨j, hj, hm⟩
    · omega
    · rw [show (hitN es v l).toNat = j by omega]
      exact hf _ (List.mem_of_getElem? (entAt_get hj))
  · exact ht
theorem out_more {xe e : Ent} {os : List Ent} {k : Nat} (h : ((xe :: os).take k).length < k) : (xe :: (os ++ [e])).take k = (xe :: os).take k ++ [e] := by
  rw [List.length_take] at h
  have h1 : (xe :: os).length < k := by omega
  rw [List.take_of_length_le (show (xe :: os).length ≤ k by omega), List.take_of_length_le (show (xe :: (os ++ [e])).length ≤ k by simp only [List.length_cons, List.length_append, List.length_nil] at h1 ⊢; omega)]
  rfl
theorem out_full {xe e : Ent} {os : List Ent} {k : Nat} (h : ¬ ((xe :: os).take k).length < k) : (xe :: (os ++ [e])).take k = (xe :: os).take k := by
  rw [List.length_take] at h
  have h1 : k ≤ (xe :: os).length := by omega
  rw [← List.cons_append, List.take_append_of_le_length h1]
theorem results_cc1 {P : Program} {w : World} {fn : Func} {p q u : Tmp} {ty ty2 : TypeId} {ad ad2 : Addr} {v v2 : Value} {tmps : Array Value} (h : fn.results = #[.cell p ty, .cell q ty2, .tmp u]) (hp : tmps.getD p undef = .pointer (some ad)) (hl : (Instr.loadAt ty (.pointer (some ad))).run P w = .ok v w) (hq : tmps.getD q undef = .pointer (some ad2)) (hl2 : (Instr.loadAt ty2 (.pointer (some ad2))).run P w = .ok v2 w) :
    (results fn tmps).run P w = .ok (.tuple #[v, v2, tmps.getD u undef]) w := by
  have hp' : tmps[p]?.getD undef = .pointer (some ad) := by simpa using hp
  have hq' : tmps[q]?.getD undef = .pointer (some ad2) := by simpa using hq
  simp [results, h, hp', hq', asAddr, loadVar_of hl, loadVar_of hl2]
theorem blk_ownC {w w1 : World} {g : Nat} {o : Obj} {A : Option Addr} {n c : Nat} (h : w.heap[g]? = some o) (hg : w.grownBy w1 ((Value.slice A n c).ownBlock)) (ha : ∀ ad, A = some ad → ad.block ≠ g) : w1.heap[g]? = some o :=
  blk_grown h hg (fun e => by
    obtain ⟨ad, e1, e2⟩ := own_of e.symm
    exact ha ad e1 e2)
set_option maxRecDepth 100000 in
set_option maxHeartbeats 8000000 in
theorem reflook_any (x : Cac) (es : List Ent) (A : Option Addr) (n c : Nat) (t : List Row) (v : Int) (l : List Int) (w : World) (he : RE w x.A x.n x.c es) (oe : Oke es) (hxn : x.n ≤ 100000) (ht : RT w A n c t) (ot : Oks t) (hn : n ≤ 100000) (hl : B16 l) (hv : (Lit.int .i64 v).wf = true) (hx : x.ok) :
    Calls Tryd.prog 19 #[.agg x.vv, .agg (tabV A n c), .agg (adrV v l)] w fun r w' => ∃ y fs xe, r = .returned (.tuple #[.agg (Cac.vv y), .agg (entV xe), .int .i64 (lookN x es t v l)]) ∧ RE w' y.A y.n y.c fs ∧ (∀ ad, y.A = some ad → w.heap.size ≤ ad.block) ∧ LookIs x es t v l y fs xe.r xe.f ∧ xe.fits ∧ Below w.heap.size w w' := by
  have hblk1 := blk_new w (.cells (x.vv) 25)
  have hbel1 : Below w.heap.size w (w.alloc (.cells (x.vv) 25)) := below_alloc (Below.refl _ _) _
  have hblk2 := blk_new (w.alloc (.cells (x.vv) 25)) (.cells (tabV A n c) 28)
  have hbel2 : Below w.heap.size w ((w.alloc (.cells (x.vv) 25)).alloc (.cells (tabV A n c) 28)) := below_alloc (hbel1) _
  rw [show (w.alloc (.cells (x.vv) 25)).heap.size = w.heap.size + 1 by simp] at hblk2
  replace hblk1 := blk_below hblk1 (below_alloc (Below.refl _ _) (.cells (tabV A n c) 28))
  have hblk3 := blk_new ((w.alloc (.cells (x.vv) 25)).alloc (.cells (tabV A n c) 28)) (.cells (adrV v l) 31)
  have hbel3 : Below w.heap.size w (((w.alloc (.cells (x.vv) 25)).alloc (.cells (tabV A n c) 28)).alloc (.cells (adrV v l) 31)) := below_alloc (hbel2) _
  rw [show ((w.alloc (.cells (x.vv) 25)).alloc (.cells (tabV A n c) 28)).heap.size = w.heap.size + 2 by simp] at hblk3
  replace hblk1 := blk_below hblk1 (below_alloc (Below.refl _ _) (.cells (adrV v l) 31))
  replace hblk2 := blk_below hblk2 (below_alloc (Below.refl _ _) (.cells (adrV v l) 31))
  have HP1 := Lib.hid (cac_at hblk1)
  have HBK1 := Lib.hid hblk1
  have HP2 := Lib.hid (tab_at hblk2)
  have HBK2 := Lib.hid hblk2
  have HP3 := Lib.hid (adr_at hl hblk3)
  have HBK3 := Lib.hid hblk3
  have HBE := Lib.hid hbel3
  obtain ⟨cs1, hcs1⟩ : ∃ cs, x.vv = cs := ⟨_, rfl⟩
  obtain ⟨cs2, hcs2⟩ : ∃ cs, tabV A n c = cs := ⟨_, rfl⟩
  obtain ⟨cs3, hcs3⟩ : ∃ cs, adrV v l = cs := ⟨_, rfl⟩
  simp only [hcs1, hcs2, hcs3] at HBE HP1 HP2 HP3 HBK1 HBK2 HBK3 ⊢
  have HC1 := Lib.hid hcs1
  have HC2 := Lib.hid hcs2
  have HC3 := Lib.hid hcs3
  clear hcs1 hblk1 hbel1 hcs2 hblk2 hbel2 hcs3 hblk3 hbel3
  have HE := Lib.hid (he.below HBE.out)
  have HT := Lib.hid (ht.below HBE.out)
  have OE := Lib.hid oe
  have hbe := run_build_ent_nil
  have hbc := run_build_cac_nil
  clear he ht oe
  obtain ⟨W0, hW0⟩ : ∃ W0, W0 = (((w.alloc (.cells cs1 25)).alloc (.cells cs2 28)).alloc (.cells cs3 31)) := ⟨_, rfl⟩
  obtain ⟨W, hW⟩ : ∃ W, W = ((W0.alloc (.cells cacZ.vv 25)).alloc (.cells (entV entZ) 43)) := ⟨_, rfl⟩
  have hs0 : W0.heap.size = w.heap.size + 3 := by rw [hW0]; simp
  have HBW : Hid (Below W0.heap.size W0 W) := Lib.hid (by rw [hW]; exact below_alloc (below_alloc (Below.refl _ _) _) _)
  have HG6 : Hid (W.heap[w.heap.size + 3]? = some (.cells cacZ.vv 25 (0, 0))) := Lib.hid (by
    rw [← hs0, hW]
    exact blk_below (blk_new W0 _) (below_alloc (Below.refl _ _) _))
  have HG7 : Hid (W.heap[w.heap.size + 4]? = some (.cells (entV entZ) 43 (0, 0))) := Lib.hid (by
    have := blk_new (W0.alloc (.cells cacZ.vv 25)) (.cells (entV entZ) 43)
    rw [← hW] at this
    rw [show w.heap.size + 4 = (W0.alloc (.cells cacZ.vv 25)).heap.size by simp [hs0]]
    exact this)
  clear hs0
  subst hW
  subst hW0
  go_enter Tryd.func19, Tryd.ntmps19
  go_wp2_with (first | ((with_reducible show wpList _ _ _ (Oper.mk _ (Op.load _ _) _ _ _ _ :: _) _ _); refine wpList_load_g ((HP1.out.all _ (below_alloc (below_alloc (Below.refl _ _) _) _)).cac) _ rfl rfl (by go_simp) ?_))
  have hcall := refcright_any x es _ (HE.out.below HBW.out) OE.out hxn
  refine hcall.mono ?_
  clear hcall
  rintro e w1 ⟨rfl, hb1⟩
  have HB1 := Lib.hid (below_step HBW.out hb1)
  have HR6 := Lib.hid (blk_below HG6.out hb1)
  have HR7 := Lib.hid (blk_below HG7.out hb1)
  clear hb1 HG6 HG7 HBW
  cases hC : cacB x es with
  | false =>
    have HN := Lib.hid (show lookN x es t v l = 370 by unfold lookN; rw [hC]; rfl)
    clear hC
    go_wp2_with (first | ((with_reducible show wpList _ _ _ (Oper.mk _ (Op.build _ _) _ _ _ _ :: _) _ _); refine wpList_exw rfl (exec_build 25 #[] rfl #[] rfl (hbc _)) ?_) | ((with_reducible show wpList _ _ _ (Oper.mk _ (Op.build _ _) _ _ _ _ :: _) _ _); refine wpList_exw rfl (exec_build 43 #[] rfl #[] rfl (hbe _)) ?_) | ((with_reducible show wpList _ _ _ (Oper.mk _ (Op.store _ _ _) _ _ _ _ :: _) _ _); refine wpList_store_blk HR6.out 25 0 cacZ.vv (Nat.le_refl _) (info_cac _) (cac_one _) _ _ rfl rfl rfl rfl ?_; intro w8 hg9 hs9 hb9; rw [splice_cac] at hb9; have H8 := Lib.hid (And.intro hg9 hb9); clear hg9 hs9 hb9) | ((with_reducible show wpList _ _ _ (Oper.mk _ (Op.store _ _ _) _ _ _ _ :: _) _ _); refine wpList_store_blk (blk_grown HR7.out H8.out.1 (by simp)) 43 0 (entV entZ) (store_ent_fit entZ_fits (entV_size entZ_fits)) (info_ent entZ_fits) (entV_one _) _ _ rfl rfl rfl rfl ?_; intro w9 hg9 hs9 hb9; rw [splice_ent entZ_fits (entV_size entZ_fits)] at hb9; have H9 := Lib.hid (And.intro hg9 hb9); clear hg9 hs9 hb9))
    refine bodyPost_ret (results_cc1 rfl rfl (load_cac (blk_grown H8.out.2 H9.out.1 (by simp))) rfl (Shape.ld entK w9 _ 0 entZ entZ_fits (cells_blk H9.out.2))) rfl ?_
    refine ⟨cacZ, [], entZ, by rw [HN.out]; rfl, RS.nil _ _ _ _, (fun ad e => by cases e), lookIs_err (by rw [HN.out]; decide), entZ_fits, below_grown (below_grown (below_step HBE.out HB1.out) H8.out.1 (by omega)) H9.out.1 (by omega)⟩
  | true =>
    have HCB := Lib.hid hC
    clear hC
    go_wp2_with (first | ((with_reducible show wpList _ _ _ (Oper.mk _ (Op.load _ _) _ _ _ _ :: _) _ _); refine wpList_load_g ((HP2.out.all w1 HB1.out).1) _ rfl rfl (by go_simp) ?_))
    refine (refRight_any A n c t w1 (HT.out.below HB1.out) ot hn).mono ?_
    rintro e w2 ⟨rfl, hb2⟩
    have HB2 := Lib.hid (below_step HB1.out hb2)
    have HS6 := Lib.hid (blk_below HR6.out hb2)
    have HS7 := Lib.hid (blk_below HR7.out hb2)
    clear hb2 HR6 HR7 HB1
    cases hR : tabB t with
    | false =>
      have HN := Lib.hid (show lookN x es t v l = 190 by unfold lookN; rw [HCB.out, hR]; rfl)
      clear hR
      go_wp2_with (first | ((with_reducible show wpList _ _ _ (Oper.mk _ (Op.build _ _) _ _ _ _ :: _) _ _); refine wpList_exw rfl (exec_build 25 #[] rfl #[] rfl (hbc _)) ?_) | ((with_reducible show wpList _ _ _ (Oper.mk _ (Op.build _ _) _ _ _ _ :: _) _ _); refine wpList_exw rfl (exec_build 43 #[] rfl #[] rfl (hbe _)) ?_) | ((with_reducible show wpList _ _ _ (Oper.mk _ (Op.store _ _ _) _ _ _ _ :: _) _ _); refine wpList_store_blk HS6.out 25 0 cacZ.vv (Nat.le_refl _) (info_cac _) (cac_one _) _ _ rfl rfl rfl rfl ?_; intro w8 hg9 hs9 hb9; rw [splice_cac] at hb9; have H8 := Lib.hid (And.intro hg9 hb9); clear hg9 hs9 hb9) | ((with_reducible show wpList _ _ _ (Oper.mk _ (Op.store _ _ _) _ _ _ _ :: _) _ _); refine wpList_store_blk (blk_grown HS7.out H8.out.1 (by simp)) 43 0 (entV entZ) (store_ent_fit entZ_fits (entV_size entZ_fits)) (info_ent entZ_fits) (entV_one _) _ _ rfl rfl rfl rfl ?_; intro w9 hg9 hs9 hb9; rw [splice_ent entZ_fits (entV_size entZ_fits)] at hb9; have H9 := Lib.hid (And.intro hg9 hb9); clear hg9 hs9 hb9))
      refine bodyPost_ret (results_cc1 rfl rfl (load_cac (blk_grown H8.out.2 H9.out.1 (by simp))) rfl (Shape.ld entK w9 _ 0 entZ entZ_fits (cells_blk H9.out.2))) rfl ?_
      refine ⟨cacZ, [], entZ, by rw [HN.out]; rfl, RS.nil _ _ _ _, (fun ad e => by cases e), lookIs_err (by rw [HN.out]; decide), entZ_fits, below_grown (below_grown (below_step HBE.out HB2.out) H8.out.1 (by omega)) H9.out.1 (by omega)⟩
    | true =>
      have HR := Lib.hid hR
      clear hR
      go_wp2_with (first | ((with_reducible show wpList _ _ _ (Oper.mk _ (Op.load _ _) _ _ _ _ :: _) _ _); refine wpList_load_g ((HP3.out.all w2 HB2.out).1) _ rfl rfl (by go_simp) ?_))
      refine (rightAddr_any v l w2 hl).mono ?_
      rintro e w3 ⟨rfl, hb3⟩
      have HB3 := Lib.hid (below_step HB2.out hb3)
      have HT6 := Lib.hid (blk_below HS6.out hb3)
      have HT7 := Lib.hid (blk_below HS7.out hb3)
      clear hb3 HS6 HS7 HB2
      have HLN : Hid (lookN x es t v l = errA v l) := Lib.hid (by unfold lookN; rw [HCB.out, HR.out]; rfl)
      cases hA : rightA v l with
      | false =>
        have HN := Lib.hid (show lookN x es t v l = 150 by rw [HLN.out, errA_false hA])
        clear hA
        go_wp2_with (first | ((with_reducible show wpList _ _ _ (Oper.mk _ (Op.build _ _) _ _ _ _ :: _) _ _); refine wpList_exw rfl (exec_build 25 #[] rfl #[] rfl (hbc _)) ?_) | ((with_reducible show wpList _ _ _ (Oper.mk _ (Op.build _ _) _ _ _ _ :: _) _ _); refine wpList_exw rfl (exec_build 43 #[] rfl #[] rfl (hbe _)) ?_) | ((with_reducible show wpList _ _ _ (Oper.mk _ (Op.store _ _ _) _ _ _ _ :: _) _ _); refine wpList_store_blk HT6.out 25 0 cacZ.vv (Nat.le_refl _) (info_cac _) (cac_one _) _ _ rfl rfl rfl rfl ?_; intro w8 hg9 hs9 hb9; rw [splice_cac] at hb9; have H8 := Lib.hid (And.intro hg9 hb9); clear hg9 hs9 hb9) | ((with_reducible show wpList _ _ _ (Oper.mk _ (Op.store _ _ _) _ _ _ _ :: _) _ _); refine wpList_store_blk (blk_grown HT7.out H8.out.1 (by simp)) 43 0 (entV entZ) (store_ent_fit entZ_fits (entV_size entZ_fits)) (info_ent entZ_fits) (entV_one _) _ _ rfl rfl rfl rfl ?_; intro w9 hg9 hs9 hb9; rw [splice_ent entZ_fits (entV_size entZ_fits)] at hb9; have H9 := Lib.hid (And.intro hg9 hb9); clear hg9 hs9 hb9))
        refine bodyPost_ret (results_cc1 rfl rfl (load_cac (blk_grown H8.out.2 H9.out.1 (by simp))) rfl (Shape.ld entK w9 _ 0 entZ entZ_fits (cells_blk H9.out.2))) rfl ?_
        refine ⟨cacZ, [], entZ, by rw [HN.out]; rfl, RS.nil _ _ _ _, (fun ad e => by cases e), lookIs_err (by rw [HN.out]; decide), entZ_fits, below_grown (below_grown (below_step HBE.out HB3.out) H8.out.1 (by omega)) H9.out.1 (by omega)⟩
      | true =>
        have HN := Lib.hid (show lookN x es t v l = 0 by rw [HLN.out, errA_true hA])
        have HEB : Hid (entsB es = true ∧ (es.length : Int) ≤ x.room ∧ 1 ≤ x.room ∧ x.hits ≤ 4611686018427387904 ∧ x.misses ≤ 4611686018427387904) := Lib.hid (by
          have h1 := HCB.out
          have h2 := HE.out.len
          unfold cacB at h1
          rw [Bool.and_eq_true] at h1
          refine ⟨h1.2, ?_⟩
          have h3 := h1.1
          unfold headB at h3
          simp at h3
          omega)
        have HUP := Lib.hid (tabB_to HR.out).2.2
        clear hA HLN
        go_wp2_with (first | ((with_reducible show wpList _ _ _ (Oper.mk _ (Op.load _ _) _ _ _ _ :: _) _ _); refine wpList_load_g ((HP2.out.all w3 HB3.out).1) _ rfl rfl (by go_simp) ?_) | ((with_reducible show wpList _ _ _ (Oper.mk _ (Op.load _ _) _ _ _ _ :: _) _ _); refine wpList_load_g ((HP3.out.all w3 HB3.out).1) _ rfl rfl (by go_simp) ?_))
        refine (reftells_any A n c t v l w3 (HT.out.below HB3.out) ot HUP.out hl hn).mono ?_
        rintro e w4 ⟨rfl, hb4⟩
        have HB4 := Lib.hid (below_step HB3.out hb4)
        have HU6 := Lib.hid (blk_below HT6.out hb4)
        have HU7 := Lib.hid (blk_below HT7.out hb4)
        have HTF : Hid ((tells t v l).fits) := Lib.hid ⟨hl, longR_fits (RT.fits HT.out) v l⟩
        clear hb4 HT6 HT7 HB3
        have HB4f := Lib.hid (below_alloc (Below.refl w4.heap.size w4) (.cells (entV entZ) 43))
        go_wp2_with (first | ((with_reducible show wpList _ _ _ (Oper.mk _ (Op.store _ _ _) _ _ _ _ :: _) _ _); refine wpList_store_blk (blk_new w4 _) 43 0 (entV (tells t v l)) (store_ent_fit HTF.out rfl) (info_ent HTF.out) (entV_one _) _ _ rfl rfl rfl rfl ?_; intro w5 hg9 hs9 hb9; rw [splice_ent HTF.out rfl] at hb9; have H5 := Lib.hid (And.intro hg9 hb9); clear hg9 hs9 hb9))
        clear hbe hbc HB4f
        have hb5 : Below w4.heap.size w4 w5 := below_grown (below_alloc (Below.refl w4.heap.size w4) (.cells (entV entZ) 43)) H5.out.1 (Nat.le_refl _)
        have HB45 := Lib.hid hb5
        have HL := Lib.hid HE.out.len
        have HXF := Lib.hid (toldAt_fits (i := 0) (RS.fits HE.out) HTF.out)
        have HTFS := Lib.hid (fun i => toldAt_fits (RS.fits HE.out) HTF.out i)
        clear hb5
        go_loopw [10, 11] (fun s10 s11 wr => ∃ (i : Nat) (fl : Bool), s11 = .int .i64 i ∧ s10 = .bool fl ∧ Hid (i ≤ x.n ∧ fl = decide (0 ≤ hitN es v l ∧ hitN es v l < (i : Int)) ∧ wr.heap[w4.heap.size]? = some (.cells (entV (toldAt es t v l i)) 43 (0, 0)) ∧ Below w4.heap.size w4 wr)) (fun _ y _ => x.n - (intOf y).toNat)
        case atStart => exact ⟨0, false, rfl, rfl, Nat.zero_le _, (decide_eq_false (by omega)).symm, by rw [toldAt_zero]; exact H5.out.2, HB45.out⟩
        case round =>
          obtain ⟨i, fl, rfl, rfl, HI⟩ := hrel
          have HBI := Lib.hid (below_step HB4.out HI.out.2.2.2)
          have hl3 := (HP1.out.all wr HBI.out).ents
          by_cases hlt : i < x.n
          · have hlt' : (i : Int) < x.n := by omega
            obtain ⟨b, o, hxA, hc⟩ := RS.at_ HE.out (by omega)
            have HXA := Lib.hid hxA
            have HC := Lib.hid (hc i hlt)
            have HF := Lib.hid (RS.fits_at HE.out hlt)
            have HIL := Lib.hid (show i < es.length by rw [HL.out]; exact hlt)
            have hent := (entLd_of HF.out (HC.out.below HBI.out)).ent
            rw [hxA] at hl3
            clear hc hxA
            go_wp2_with ((with_reducible show wpList _ _ _ (Oper.mk _ (Op.load _ _) _ _ _ _ :: _) _ _); refine wpList_load_g hl3 _ rfl rfl (by go_simp) ?_)
            refine wp_region_mix (fun w0 => Below (wr).heap.size (wr) w0) [(0, 0), (1, 0), (2, 0), (3, 0), (4, 0), (5, 0), (6, 0), (7, 0)] (by kernel_rfl) (by kernel_rfl) (below_drew1 _) ?_
            simp only [List.map_cons, List.map_nil]
            iterate 1 (refine wpO_step0 rfl rfl (fun K hK => ?_); go_simp; refine hK _ _ ?_; clear hK K)
            refine wpO_loadW (t := 23) (ad := ⟨w.heap.size, 2, none⟩) rfl rfl ?hw rfl rfl ((fun w0 hS => by have := (HP1.out.all w0 (below_step HBI.out hS)).ents; rwa [HXA.out] at this)) ?_
            case hw => go_simp
            iterate 3 (refine wpO_step0 rfl rfl (fun K hK => ?_); go_simp; refine hK _ _ ?_; clear hK K)
            refine wpO_loadW (t := 31) (ad := ⟨b, (o+i*37), none⟩) rfl rfl ?hw rfl rfl ((fun w0 hS => (entLd_of HF.out (HC.out.below (below_step HBI.out hS))).adr)) ?_
            case hw => go_simp
            refine wpO_loadW (t := 31) (ad := ⟨(w.heap.size+1+1), 0, none⟩) rfl rfl ?hw rfl rfl ((fun w0 hS => (HP3.out.all w0 (below_step HBI.out hS)).1)) ?_
            case hw => go_simp
            refine wpO_step0 rfl rfl (fun K hK => ?_)
            rw [if_pos (show Region.wanted _ _ = true from rfl)]
            refine ⟨_, fun w0 => sA_exec rfl (entAt es i).v (entAt es i).l v l rfl rfl HF.out.l hl (OE.out.at_ HIL.out).v hv w0, hK _ _ ?_⟩
            clear hK K
            refine wpO_nil ?_
            have hl4 : (Instr.loadAt 23 (.pointer (some ⟨w.heap.size, 2, none⟩))).run Tryd.prog wr.drew = .ok (.slice (some ⟨b, o, none⟩) x.n x.c) wr.drew := by have := (HP1.out.all wr.drew (below_step HBI.out (below_drew1 wr))).ents; rwa [HXA.out] at this
            have hent := (entLd_of HF.out (HC.out.below (below_step HBI.out (below_drew1 wr)))).ent
            have HGD := Lib.hid (blk_below HI.out.2.2.1 (below_drew1 wr))
            cases hs : sA (entAt es i).v (entAt es i).l v l with
            | true =>
              have HQ := Lib.hid (toldAt_hit (t := t) HEB.out.1 HIL.out hs)
              clear hs hl3
              go_wp2_with (first | ((with_reducible show wpList _ _ _ (Oper.mk _ (Op.load _ _) _ _ _ _ :: _) _ _); refine wpList_load_g hl4 _ rfl rfl (by go_simp) ?_) | ((with_reducible show wpList _ _ _ (Oper.mk _ (Op.load _ _) _ _ _ _ :: _) _ _); refine wpList_load_g hent _ rfl rfl (by go_simp) ?_) | ((with_reducible show wpList _ _ _ (Oper.mk _ (Op.store _ _ _) _ _ _ _ :: _) _ _); refine wpList_store_blk HGD.out 43 0 (entV (entAt es i)) (store_ent_fit HF.out (entV_size (HTFS.out i))) (info_ent HF.out) (entV_one _) _ _ rfl rfl rfl rfl ?_; intro w6 hg9 hs9 hb9; rw [splice_ent HF.out (entV_size (HTFS.out i))] at hb9; have H6 := Lib.hid (And.intro hg9 hb9); clear hg9 hs9 hb9))
              go_roundw
              case measure => simp [intOf]; omega
              case rel => exact ⟨i + 1, true, by go_num, rfl, by omega, HQ.out.2.symm, by rw [HQ.out.1]; exact H6.out.2, below_grown (below_step HI.out.2.2.2 (below_drew1 wr)) H6.out.1 (Nat.le_refl _)⟩
            | false =>
              have HQ := Lib.hid (toldAt_miss (t := t) HEB.out.1 HIL.out hs)
              clear hs hl3
              go_wp2_with fail
              go_roundw
              case measure => simp [intOf]; omega
              case rel => exact ⟨i + 1, fl, by go_num, rfl, by omega, by rw [HQ.out.2]; exact HI.out.2.1, by rw [HQ.out.1]; exact HGD.out, below_step HI.out.2.2.2 (below_drew1 wr)⟩
          · have hlt' : decide (i < x.n) = false := decide_eq_false hlt
            have hin : i = es.length := by have := HI.out.1; rw [HL.out]; omega
            have HIN := Lib.hid hin
            have HX : Hid (wr.heap[w4.heap.size]? = some (.cells (entV (told es t v l)) 43 (0, 0))) := Lib.hid (by
              have := HI.out.2.2.1
              rwa [hin, toldAt_end] at this)
            have HTLF : Hid ((told es t v l).fits) := Lib.hid (by rw [← toldAt_end]; exact HTFS.out _)
            clear hlt hin
            go_wp2_with (first | ((with_reducible show wpList _ _ _ (Oper.mk _ (Op.load _ _) _ _ _ _ :: _) _ _); refine wpList_load_g hl3 _ rfl rfl (by go_simp) ?_) | ((with_reducible show wpList _ _ _ (Oper.mk _ (Op.load _ _) _ _ _ _ :: _) _ _); refine wpList_load_g (((ent_at HTLF.out HX.out).all _ (Below.refl _ _)).ent) _ rfl rfl (by go_simp) ?_) | ((with_reducible show wpList _ _ _ (Oper.mk _ (Op.buildSlice _ _ _) _ _ _ _ :: _) _ _); refine wpList_exw rfl (exec_lit1 entK (x := .tmp 52) rfl (told es t v l) rfl HTLF.out (by show 37 ≤ _; omega) _) ?_))
            have HFL : Hid (fl = decide (0 ≤ hitN es v l)) := Lib.hid (by
              rw [HI.out.2.1, decide_eq_decide]
              have h1 := HIN.out
              rcases hit_cases es v l with hm | ⟨j, hj, hm⟩ <;> omega)
            have HOW : Hid (OS entK (wr.alloc (.cells (entK.enc (told es t v l)).toArray entK.t)) (w4.heap.size + 1) (some ⟨wr.heap.size, 0, none⟩) 1 1 [told es t v l]) := Lib.hid (OS.one entK wr (w4.heap.size + 1) (told es t v l) (by have := blk_lt HX.out; omega) HTLF.out)
            have HB4W := Lib.hid (below_alloc HI.out.2.2.2 (.cells (entK.enc (told es t v l)).toArray entK.t))
            have HXW := Lib.hid (blk_below HX.out (below_alloc (Below.refl _ _) (.cells (entK.enc (told es t v l)).toArray entK.t)))
            obtain ⟨W5, hW5⟩ : ∃ W5, wr.alloc (.cells (entK.enc (told es t v l)).toArray entK.t) = W5 := ⟨_, rfl⟩
            rw [hW5] at HOW HB4W HXW
            have HRM : Hid ((told es t v l :: others (es.take 0) v l).take x.room.toNat = [told es t v l]) := Lib.hid (by
              have := HEB.out.2.2.1
              show (told es t v l :: []).take _ = _
              rw [List.take_of_length_le (by simp; omega)])
            clear hl3 HX HI HBI
            go_loopw [12, 13] (fun s12 s13 wr => ∃ (i no co : Nat) (Ao : Option Addr), s13 = .int .i64 i ∧ s12 = .slice Ao no co ∧ Hid (i ≤ x.n ∧ OS entK wr (w4.heap.size + 1) Ao no co ((told es t v l :: others (es.take i) v l).take x.room.toNat) ∧ wr.heap[w4.heap.size]? = some (.cells (entV (told es t v l)) 43 (0, 0)) ∧ Below w4.heap.size w4 wr)) (fun _ y _ => x.n - (intOf y).toNat)
            case atStart =>
              rw [hW5]
              exact ⟨0, 1, 1, _, rfl, rfl, Nat.zero_le _, by rw [HRM.out]; exact HOW.out, HXW.out, HB4W.out⟩
            case round =>
              obtain ⟨i, no, co, Ao, rfl, rfl, HI⟩ := hrel
              have HBI := Lib.hid (below_step HB4.out HI.out.2.2.2)
              have hl3 := (HP1.out.all wr HBI.out).ents
              by_cases hlt : i < x.n
              · have hlt' : (i : Int) < x.n := by omega
                obtain ⟨b, o, hxA, hc⟩ := RS.at_ HE.out (by omega)
                have HXA := Lib.hid hxA
                have HC := Lib.hid (hc i hlt)
                have HF := Lib.hid (RS.fits_at HE.out hlt)
                have HIL := Lib.hid (show i < es.length by rw [HL.out]; exact hlt)
                rw [hxA] at hl3
                clear hc hxA
                go_wp2_with ((with_reducible show wpList _ _ _ (Oper.mk _ (Op.load _ _) _ _ _ _ :: _) _ _); refine wpList_load_g hl3 _ rfl rfl (by go_simp) ?_)
                refine wp_region_mix (fun w0 => Below (wr).heap.size (wr) w0) [(0, 0), (1, 0), (2, 0), (3, 0), (4, 0), (5, 0), (6, 0), (7, 0), (8, 0), (9, 0), (10, 0), (11, 0), (12, 0), (13, 0), (14, 0)] (by kernel_rfl) (by kernel_rfl) (below_drew1 _) ?_
                simp only [List.map_cons, List.map_nil]
                iterate 1 (refine wpO_step0 rfl rfl (fun K hK => ?_); go_simp; refine hK _ _ ?_; clear hK K)
                refine wpO_loadW (t := 23) (ad := ⟨w.heap.size, 2, none⟩) rfl rfl ?hw rfl rfl ((fun w0 hS => by have := (HP1.out.all w0 (below_step HBI.out hS)).ents; rwa [HXA.out] at this)) ?_
                case hw => go_simp
                iterate 3 (refine wpO_step0 rfl rfl (fun K hK => ?_); go_simp; refine hK _ _ ?_; clear hK K)
                refine wpO_loadW (t := 31) (ad := ⟨b, (o+i*37), none⟩) rfl rfl ?hw rfl rfl ((fun w0 hS => (entLd_of HF.out (HC.out.below (below_step HBI.out hS))).adr)) ?_
                case hw => go_simp
                refine wpO_loadW (t := 31) (ad := ⟨(w.heap.size+1+1), 0, none⟩) rfl rfl ?hw rfl rfl ((fun w0 hS => (HP3.out.all w0 (below_step HBI.out hS)).1)) ?_
                case hw => go_simp
                refine wpO_step0 rfl rfl (fun K hK => ?_)
                rw [if_pos (show Region.wanted _ _ = true from rfl)]
                refine ⟨_, fun w0 => sA_nexec rfl (entAt es i).v (entAt es i).l v l rfl rfl HF.out.l hl (OE.out.at_ HIL.out).v hv w0, hK _ _ ?_⟩
                clear hK K
                have hl4 : (Instr.loadAt 23 (.pointer (some ⟨w.heap.size, 2, none⟩))).run Tryd.prog wr.drew = .ok (.slice (some ⟨b, o, none⟩) x.n x.c) wr.drew := by have := (HP1.out.all wr.drew (below_step HBI.out (below_drew1 wr))).ents; rwa [HXA.out] at this
                have hent := (entLd_of HF.out (HC.out.below (below_step HBI.out (below_drew1 wr)))).ent
                have HLO := Lib.hid HI.out.2.1.len
                have HNR := Lib.hid HEB.out.2.1
                cases hs : sA (entAt es i).v (entAt es i).l v l with
                | true =>
                  have HQ : Hid (others (es.take (i + 1)) v l = others (es.take i) v l) := Lib.hid (by rw [others_succ HIL.out, if_pos hs, List.append_nil])
                  clear hs hl3
                  iterate 1 (refine wpO_step0 rfl rfl (fun K hK => ?_); go_simp; refine hK _ _ ?_; clear hK K)
                  repeat first | (refine wpO_step0 rfl rfl (fun K hK => ?_); go_simp; refine hK _ _ ?_; clear hK K) | (refine wpO_step2 rfl rfl ((below_drew1 _)) (fun K hK => ?_); go_simp; refine hK _ _ ⟨(below_drew1 _), ?_⟩; clear hK K)
                  refine wpO_nil ?_
                  go_wp2_with fail
                  go_roundw
                  case measure => simp [intOf]; omega
                  case rel => exact ⟨i + 1, no, co, Ao, by go_num, rfl, by omega, by rw [HQ.out]; exact HI.out.2.1.below (below_drew1 wr), blk_below HI.out.2.2.1 (below_drew1 wr), below_step HI.out.2.2.2 (below_drew1 wr)⟩
                | false =>
                  have HQ : Hid (others (es.take (i + 1)) v l = others (es.take i) v l ++ [entAt es i]) := Lib.hid (by rw [others_succ HIL.out, if_neg (by rw [hs]; decide)])
                  clear hs hl3
                  by_cases hno : (no : Int) < x.room
                  · have hnob : decide ((no : Int) < x.room) = true := decide_eq_true hno
                    have HM : Hid ((told es t v l :: others (es.take (i + 1)) v l).take x.room.toNat = (told es t v l :: others (es.take i) v l).take x.room.toNat ++ [entAt es i]) := Lib.hid (by rw [HQ.out]; exact out_more (by rw [HLO.out]; omega))
                    iterate 4 (refine wpO_step0 rfl rfl (fun K hK => ?_); go_simp; refine hK _ _ ?_; clear hK K)
                    refine wpO_loadW (t := 3) (ad := ⟨w.heap.size, 0, none⟩) rfl rfl ?hw rfl rfl ((fun w0 hS => (HP1.out.all w0 (below_step HBI.out hS)).room)) ?_
                    case hw => go_simp
                    iterate 2 (refine wpO_step0 rfl rfl (fun K hK => ?_); go_simp; refine hK _ _ ?_; clear hK K)
                    refine wpO_nil ?_
                    have HOD := Lib.hid (HI.out.2.1.below (below_drew1 wr))
                    have HGD := Lib.hid (blk_below HI.out.2.2.1 (below_drew1 wr))
                    have hn8 : no ≤ 100000 := by
                      have h1 := HLO.out
                      rw [List.length_take, List.length_cons] at h1
                      have h2 := others_len (es.take i) v l
                      rw [List.length_take] at h2
                      have h3 := HL.out
                      omega
                    go_wp2_with (first | ((with_reducible show wpList _ _ _ (Oper.mk _ (Op.load _ _) _ _ _ _ :: _) _ _); refine wpList_load_g hl4 _ rfl rfl (by go_simp) ?_) | ((with_reducible show wpList _ _ _ (Oper.mk _ (Op.load _ _) _ _ _ _ :: _) _ _); refine wpList_load_g hent _ rfl rfl (by go_simp) ?_) | ((with_reducible show wpList _ _ _ (Oper.mk _ (Op.buildSlice _ _ _) _ _ _ _ :: _) _ _); refine wpList_exw rfl (exec_lit1 entK (x := .tmp 81) rfl (entAt es i) rfl HF.out (by show 37 ≤ _; omega) _) ?_) | (at_builtin; refine wpList_append_shp entK rfl (.tmp 76) (.tmp 82) rfl rfl rfl (OS.below HOD.out (below_alloc (Below.refl _ _) _)) (OS.one entK wr.drew 0 (entAt es i) (Nat.zero_le _) HF.out).reads (by have := blk_lt HGD.out; simp only [World.alloc, Array.size_push]; omega) (by omega) ?_; intro A9 c9 w9 h1 h2 h3; have H9 := Lib.hid (And.intro h1 (And.intro h2 h3)); clear h1 h2 h3))
                    go_roundw
                    case measure => simp [intOf]; omega
                    case rel =>
                      have hbase := HOD.out.base_
                      refine ⟨i + 1, no + 1, c9, A9, by go_num, rfl, by omega, by rw [HM.out]; exact H9.out.1, blk_ownC (blk_below HGD.out (below_alloc (Below.refl _ _) _)) H9.out.2.1 (fun ad e => by have := hbase ad e; omega), below_own (below_alloc (below_step HI.out.2.2.2 (below_drew1 wr)) _) H9.out.2.1 (fun ad e => by have := hbase ad e; omega)⟩
                  · have hnob : decide ((no : Int) < x.room) = false := decide_eq_false hno
                    have HM : Hid ((told es t v l :: others (es.take (i + 1)) v l).take x.room.toNat = (told es t v l :: others (es.take i) v l).take x.room.toNat) := Lib.hid (by rw [HQ.out]; exact out_full (by rw [HLO.out]; omega))
                    iterate 4 (refine wpO_step0 rfl rfl (fun K hK => ?_); go_simp; refine hK _ _ ?_; clear hK K)
                    refine wpO_loadW (t := 3) (ad := ⟨w.heap.size, 0, none⟩) rfl rfl ?hw rfl rfl ((fun w0 hS => (HP1.out.all w0 (below_step HBI.out hS)).room)) ?_
                    case hw => go_simp
                    iterate 2 (refine wpO_step0 rfl rfl (fun K hK => ?_); go_simp; refine hK _ _ ?_; clear hK K)
                    refine wpO_nil ?_
                    go_wp2_with fail
                    go_roundw
                    case measure => simp [intOf]; omega
                    case rel => exact ⟨i + 1, no, co, Ao, by go_num, rfl, by omega, by rw [HM.out]; exact HI.out.2.1.below (below_drew1 wr), blk_below HI.out.2.2.1 (below_drew1 wr), below_step HI.out.2.2.2 (below_drew1 wr)⟩
              · have hlt' : decide (i < x.n) = false := decide_eq_false hlt
                have hin : i = es.length := by have := HI.out.1; rw [HL.out]; omega
                have HOUT : Hid (OS entK wr (w4.heap.size + 1) Ao no co (lookL x.room es t v l)) := Lib.hid (by
                  have := HI.out.2.1
                  rwa [hin, List.take_length, look_ref HEB.out.1 HEB.out.2.1] at this)
                have HKr : Hid (wr.heap[w.heap.size]? = some (.cells x.vv 25 (0, 0))) := Lib.hid (blk_below (by rw [HC1.out]; exact HBK1.out) HBI.out)
                have HR6 := Lib.hid (blk_below HU6.out HI.out.2.2.2)
                have HR7 := Lib.hid (blk_below HU7.out HI.out.2.2.2)
                have HXr := Lib.hid HI.out.2.2.1
                have HS4 := Lib.hid (blk_lt HU7.out)
                clear hin hlt
                cases fl with
                | true =>
                  go_wp2_with (first | ((with_reducible show wpList _ _ _ (Oper.mk _ (Op.load _ _) _ _ _ _ :: _) _ _); refine wpList_load_g hl3 _ rfl rfl (by go_simp) ?_) | ((with_reducible show wpList _ _ _ (Oper.mk _ (Op.store _ _ _) _ _ _ _ :: _) _ _); refine wpList_store_cell HKr.out 23 2 (.slice Ao no co) (by show 2 < 5; omega) (by kernel_rfl) rfl rfl _ _ rfl rfl rfl rfl ?_; intro w6 hg9 hs9 hb9; have H6 := Lib.hid (And.intro hg9 (show (World.heap w6)[(w.heap.size)]? = some (.cells (Cac.vv ⟨x.room, x.ver, Ao, no, co, x.hits, x.misses⟩) 25 (0, 0)) from hb9)); clear hg9 hs9 hb9) | ((with_reducible show wpList _ _ _ (Oper.mk _ (Op.load _ _) _ _ _ _ :: _) _ _); refine wpList_load_g (((cac_at H6.out.2).all _ (Below.refl _ _)).hits) _ rfl rfl (by go_simp) ?_))
                  refine (refmore_any x.hits w6 (wfu hx.hits).1 HEB.out.2.2.2.1).mono ?_
                  rintro e w7 ⟨rfl, rfl⟩
                  go_wp2_with (first | ((with_reducible show wpList _ _ _ (Oper.mk _ (Op.store _ _ _) _ _ _ _ :: _) _ _); refine wpList_store_cell H6.out.2 22 3 (.int .u64 (oneMore x.hits)) (by show 3 < 5; omega) (by kernel_rfl) rfl rfl _ _ rfl rfl rfl rfl ?_; intro w8 hg9 hs9 hb9; have H8 := Lib.hid (And.intro hg9 (show (World.heap w8)[(w.heap.size)]? = some (.cells (Cac.vv ⟨x.room, x.ver, Ao, no, co, oneMore x.hits, x.misses⟩) 25 (0, 0)) from hb9)); clear hg9 hs9 hb9))
                  have hne : w.heap.size ≠ w4.heap.size := by have := HS4.out; omega
                  have HXA2 := Lib.hid (blk_below (blk_grown (blk_grown HXr.out H6.out.1 (fun e => by injection e with e; omega)) H8.out.1 (fun e => by injection e with e; omega)) (below_drew1 w8))
                  have HV6 := Lib.hid (blk_below (blk_grown (blk_grown HR6.out H6.out.1 (fun e => by injection e with e; omega)) H8.out.1 (fun e => by injection e with e; omega)) (below_drew1 w8))
                  have HV7 := Lib.hid (blk_below (blk_grown (blk_grown HR7.out H6.out.1 (fun e => by injection e with e; omega)) H8.out.1 (fun e => by injection e with e; omega)) (below_drew1 w8))
                  have HK7 := Lib.hid (blk_below H8.out.2 (below_drew1 w8))
                  refine wp_region_mix ((fun w0 => w0.heap[w.heap.size]? = some (.cells (Cac.vv ⟨x.room, x.ver, Ao, no, co, oneMore x.hits, x.misses⟩) 25 (0, 0)) ∧ w0.heap[w4.heap.size]? = some (.cells (entV (told es t v l)) 43 (0, 0)))) [(0, 0), (1, 0), (2, 2), (3, 2), (4, 0)] (by kernel_rfl) (by kernel_rfl) (⟨HK7.out, HXA2.out⟩) ?_
                  simp only [List.map_cons, List.map_nil]
                  refine wpO_loadW (t := 25) (ad := ⟨w.heap.size, 0, none⟩) rfl rfl ?hw rfl rfl ((fun w0 hS => load_cac hS.1)) ?_
                  case hw => go_simp
                  refine wpO_loadW (t := 43) (ad := ⟨w4.heap.size, 0, none⟩) rfl rfl ?hw rfl rfl ((fun w0 hS => ((ent_at HTLF.out hS.2).all _ (Below.refl _ _)).ent)) ?_
                  case hw => go_simp
                  refine wpO_step2 rfl rfl (⟨HK7.out, HXA2.out⟩) (fun K hK => ?_)
                  rw [if_pos (show Region.wanted _ _ = true from rfl)]
                  refine oper_store_blk HV6.out 25 0 (Cac.vv ⟨x.room, x.ver, Ao, no, co, oneMore x.hits, x.misses⟩) (Nat.le_refl _) (info_cac _) (cac_one _) _ _ rfl rfl rfl ?_
                  intro w10 hg8 hs8 hb8
                  rw [splice_cac] at hb8
                  have H10 := Lib.hid (And.intro hg8 hb8)
                  clear hg8 hs8 hb8
                  have HK8 := Lib.hid (blk_grown HK7.out H10.out.1 (fun e => by injection e with e; omega))
                  have HX8 := Lib.hid (blk_grown HXA2.out H10.out.1 (fun e => by injection e with e; have := HS4.out; omega))
                  have HW7 := Lib.hid (blk_grown HV7.out H10.out.1 (fun e => by injection e with e; omega))
                  refine hK _ _ ⟨⟨HK8.out, HX8.out⟩, ?_⟩
                  clear hK K
                  refine wpO_step2 rfl rfl (⟨HK8.out, HX8.out⟩) (fun K hK => ?_)
                  rw [if_pos (show Region.wanted _ _ = true from rfl)]
                  refine oper_store_blk HW7.out 43 0 (entV (told es t v l)) (store_ent_fit HTLF.out (entV_size entZ_fits)) (info_ent HTLF.out) (entV_one _) _ _ rfl rfl rfl ?_
                  intro w11 hg9 hs9 hb9
                  rw [splice_ent HTLF.out (entV_size entZ_fits)] at hb9
                  have H11 := Lib.hid (And.intro hg9 hb9)
                  clear hg9 hs9 hb9
                  refine hK _ _ ⟨⟨blk_grown HK8.out H11.out.1 (fun e => by injection e with e; omega), blk_grown HX8.out H11.out.1 (fun e => by injection e with e; have := HS4.out; omega)⟩, ?_⟩
                  clear hK K
                  iterate 1 (refine wpO_step0 rfl rfl (fun K hK => ?_); go_simp; refine hK _ _ ?_; clear hK K)
                  refine wpO_nil ?_
                  go_wp2
                  have HZ6 := blk_grown H10.out.2 H11.out.1 (fun e => by injection e with e; omega)
                  refine bodyPost_ret (results_cc1 rfl rfl (load_cac HZ6) rfl (Shape.ld entK w11 _ 0 _ HTLF.out (cells_blk H11.out.2))) rfl ?_
                  refine ⟨⟨x.room, x.ver, Ao, no, co, oneMore x.hits, x.misses⟩, lookL x.room es t v l, told es t v l, by rw [HN.out]; rfl, ?_, ?_, ?_, HTLF.out, ?_⟩
                  · have hob := HOUT.out.base_
                    have h6 := HOUT.out.reads.grown H6.out.1 (fun ad e h => by injection h with h; have := hob ad e; have := HS4.out; omega)
                    have h7 := h6.grown H8.out.1 (fun ad e h => by injection h with h; have := hob ad e; have := HS4.out; omega)
                    have h9 := (h7.below (below_drew1 w8)).grown H10.out.1 (fun ad e h => by injection h with h; have := hob ad e; have := HS4.out; omega)
                    exact h9.grown H11.out.1 (fun ad e h => by injection h with h; have := hob ad e; have := HS4.out; omega)
                  · intro ad e; have := HOUT.out.base_ ad e; have := HS4.out; omega
                  · unfold LookIs
                    rw [if_pos HN.out]
                    have hh : decide (0 ≤ hitN es v l) = true := HFL.out.symm
                    simp only [decide_eq_true_eq, decide_eq_false_iff_not] at hh
                    exact ⟨rfl, rfl, rfl, by rw [if_pos hh], by rw [if_pos hh], rfl, rfl⟩
                  · exact below_grown (below_grown (below_step (below_grown (below_grown (below_step HBE.out HBI.out) H6.out.1 (by omega)) H8.out.1 (by omega)) (below_drew1 w8)) H10.out.1 (by omega)) H11.out.1 (by omega)
                | false =>
                  go_wp2_with (first | ((with_reducible show wpList _ _ _ (Oper.mk _ (Op.load _ _) _ _ _ _ :: _) _ _); refine wpList_load_g hl3 _ rfl rfl (by go_simp) ?_) | ((with_reducible show wpList _ _ _ (Oper.mk _ (Op.store _ _ _) _ _ _ _ :: _) _ _); refine wpList_store_cell HKr.out 23 2 (.slice Ao no co) (by show 2 < 5; omega) (by kernel_rfl) rfl rfl _ _ rfl rfl rfl rfl ?_; intro w6 hg9 hs9 hb9; have H6 := Lib.hid (And.intro hg9 (show (World.heap w6)[(w.heap.size)]? = some (.cells (Cac.vv ⟨x.room, x.ver, Ao, no, co, x.hits, x.misses⟩) 25 (0, 0)) from hb9)); clear hg9 hs9 hb9) | ((with_reducible show wpList _ _ _ (Oper.mk _ (Op.load _ _) _ _ _ _ :: _) _ _); refine wpList_load_g (((cac_at H6.out.2).all _ (Below.refl _ _)).misses) _ rfl rfl (by go_simp) ?_))
                  refine (refmore_any x.misses w6 (wfu hx.misses).1 HEB.out.2.2.2.2).mono ?_
                  rintro e w7 ⟨rfl, rfl⟩
                  go_wp2_with (first | ((with_reducible show wpList _ _ _ (Oper.mk _ (Op.store _ _ _) _ _ _ _ :: _) _ _); refine wpList_store_cell H6.out.2 22 4 (.int .u64 (oneMore x.misses)) (by show 4 < 5; omega) (by kernel_rfl) rfl rfl _ _ rfl rfl rfl rfl ?_; intro w8 hg9 hs9 hb9; have H8 := Lib.hid (And.intro hg9 (show (World.heap w8)[(w.heap.size)]? = some (.cells (Cac.vv ⟨x.room, x.ver, Ao, no, co, x.hits, oneMore x.misses⟩) 25 (0, 0)) from hb9)); clear hg9 hs9 hb9))
                  have hne : w.heap.size ≠ w4.heap.size := by have := HS4.out; omega
                  have HXA2 := Lib.hid (blk_below (blk_grown (blk_grown HXr.out H6.out.1 (fun e => by injection e with e; omega)) H8.out.1 (fun e => by injection e with e; omega)) (below_drew1 w8))
                  have HV6 := Lib.hid (blk_below (blk_grown (blk_grown HR6.out H6.out.1 (fun e => by injection e with e; omega)) H8.out.1 (fun e => by injection e with e; omega)) (below_drew1 w8))
                  have HV7 := Lib.hid (blk_below (blk_grown (blk_grown HR7.out H6.out.1 (fun e => by injection e with e; omega)) H8.out.1 (fun e => by injection e with e; omega)) (below_drew1 w8))
                  have HK7 := Lib.hid (blk_below H8.out.2 (below_drew1 w8))
                  refine wp_region_mix ((fun w0 => w0.heap[w.heap.size]? = some (.cells (Cac.vv ⟨x.room, x.ver, Ao, no, co, x.hits, oneMore x.misses⟩) 25 (0, 0)) ∧ w0.heap[w4.heap.size]? = some (.cells (entV (told es t v l)) 43 (0, 0)))) [(0, 0), (1, 0), (2, 2), (3, 2), (4, 0)] (by kernel_rfl) (by kernel_rfl) (⟨HK7.out, HXA2.out⟩) ?_
                  simp only [List.map_cons, List.map_nil]
                  refine wpO_loadW (t := 25) (ad := ⟨w.heap.size, 0, none⟩) rfl rfl ?hw rfl rfl ((fun w0 hS => load_cac hS.1)) ?_
                  case hw => go_simp
                  refine wpO_loadW (t := 43) (ad := ⟨w4.heap.size, 0, none⟩) rfl rfl ?hw rfl rfl ((fun w0 hS => ((ent_at HTLF.out hS.2).all _ (Below.refl _ _)).ent)) ?_
                  case hw => go_simp
                  refine wpO_step2 rfl rfl (⟨HK7.out, HXA2.out⟩) (fun K hK => ?_)
                  rw [if_pos (show Region.wanted _ _ = true from rfl)]
                  refine oper_store_blk HV6.out 25 0 (Cac.vv ⟨x.room, x.ver, Ao, no, co, x.hits, oneMore x.misses⟩) (Nat.le_refl _) (info_cac _) (cac_one _) _ _ rfl rfl rfl ?_
                  intro w10 hg8 hs8 hb8
                  rw [splice_cac] at hb8
                  have H10 := Lib.hid (And.intro hg8 hb8)
                  clear hg8 hs8 hb8
                  have HK8 := Lib.hid (blk_grown HK7.out H10.out.1 (fun e => by injection e with e; omega))
                  have HX8 := Lib.hid (blk_grown HXA2.out H10.out.1 (fun e => by injection e with e; have := HS4.out; omega))
                  have HW7 := Lib.hid (blk_grown HV7.out H10.out.1 (fun e => by injection e with e; omega))
                  refine hK _ _ ⟨⟨HK8.out, HX8.out⟩, ?_⟩
                  clear hK K
                  refine wpO_step2 rfl rfl (⟨HK8.out, HX8.out⟩) (fun K hK => ?_)
                  rw [if_pos (show Region.wanted _ _ = true from rfl)]
                  refine oper_store_blk HW7.out 43 0 (entV (told es t v l)) (store_ent_fit HTLF.out (entV_size entZ_fits)) (info_ent HTLF.out) (entV_one _) _ _ rfl rfl rfl ?_
                  intro w11 hg9 hs9 hb9
                  rw [splice_ent HTLF.out (entV_size entZ_fits)] at hb9
                  have H11 := Lib.hid (And.intro hg9 hb9)
                  clear hg9 hs9 hb9
                  refine hK _ _ ⟨⟨blk_grown HK8.out H11.out.1 (fun e => by injection e with e; omega), blk_grown HX8.out H11.out.1 (fun e => by injection e with e; have := HS4.out; omega)⟩, ?_⟩
                  clear hK K
                  iterate 1 (refine wpO_step0 rfl rfl (fun K hK => ?_); go_simp; refine hK _ _ ?_; clear hK K)
                  refine wpO_nil ?_
                  go_wp2
                  have HZ6 := blk_grown H10.out.2 H11.out.1 (fun e => by injection e with e; omega)
                  refine bodyPost_ret (results_cc1 rfl rfl (load_cac HZ6) rfl (Shape.ld entK w11 _ 0 _ HTLF.out (cells_blk H11.out.2))) rfl ?_
                  refine ⟨⟨x.room, x.ver, Ao, no, co, x.hits, oneMore x.misses⟩, lookL x.room es t v l, told es t v l, by rw [HN.out]; rfl, ?_, ?_, ?_, HTLF.out, ?_⟩
                  · have hob := HOUT.out.base_
                    have h6 := HOUT.out.reads.grown H6.out.1 (fun ad e h => by injection h with h; have := hob ad e; have := HS4.out; omega)
                    have h7 := h6.grown H8.out.1 (fun ad e h => by injection h with h; have := hob ad e; have := HS4.out; omega)
                    have h9 := (h7.below (below_drew1 w8)).grown H10.out.1 (fun ad e h => by injection h with h; have := hob ad e; have := HS4.out; omega)
                    exact h9.grown H11.out.1 (fun ad e h => by injection h with h; have := hob ad e; have := HS4.out; omega)
                  · intro ad e; have := HOUT.out.base_ ad e; have := HS4.out; omega
                  · unfold LookIs
                    rw [if_pos HN.out]
                    have hh : decide (0 ≤ hitN es v l) = false := HFL.out.symm
                    simp only [decide_eq_true_eq, decide_eq_false_iff_not] at hh
                    exact ⟨rfl, rfl, rfl, by rw [if_neg hh], by rw [if_neg hh], rfl, rfl⟩
                  · exact below_grown (below_grown (below_step (below_grown (below_grown (below_step HBE.out HBI.out) H6.out.1 (by omega)) H8.out.1 (by omega)) (below_drew1 w8)) H10.out.1 (by omega)) H11.out.1 (by omega)
end Go.Proofs.YtihfaknflfmohaaDoor

/- Layer 9 (table): the document's Put. -/
namespace Go.Proofs.YtihfaknflfmohaaDoor
open Go.RowKit
set_option linter.unusedVariables false
set_option linter.unusedSimpArgs false
set_option maxRecDepth 4000
def putF (p : Pfx) (h : Int) (s : Bool × List Row) (r : Row) : Bool × List Row := if eqP r.p p then s else if !s.1 && decide (p.cmp r.p < 0) then (true, s.2 ++ [⟨p, h⟩] ++ [r]) else (s.1, s.2 ++ [r])
theorem putF_end (p : Pfx) (h : Int) : ∀ (t : List Row) (put : Bool) (out : List Row), (t.foldl (putF p h) (put, out)).2 ++ (if (t.foldl (putF p h) (put, out)).1 then [] else [⟨p, h⟩]) = out ++ putR p h put t
  | [], put, out => by cases put <;> simp [putR]
  | r :: t, put, out => by
    rw [List.foldl_cons]
    unfold putF
    simp only
    rw [putR]
    by_cases h1 : eqP r.p p = true
    · rw [if_pos h1, if_pos h1]
      exact putF_end p h t put out
    · rw [if_neg h1, if_neg h1]
      by_cases h2 : (!put && decide (p.cmp r.p < 0)) = true
      · rw [if_pos h2, if_pos h2]
        have := putF_end p h t true (out ++ [⟨p, h⟩] ++ [r])
        unfold putF at this
        rw [this]
        simp
      · rw [if_neg h2, if_neg h2]
        have := putF_end p h t put (out ++ [r])
        unfold putF at this
        rw [this]
        simp
theorem putF_succ (p : Pfx) (h : Int) {t : List Row} {i : Nat} (hi : i < t.length) (s0 : Bool × List Row) : (t.take (i + 1)).foldl (putF p h) s0 = putF p h ((t.take i).foldl (putF p h) s0) (rowAt t i) := by
  rw [show t.take (i + 1) = t.take i ++ [rowAt t i] from Shape.take_succ (S := rowK) hi, List.foldl_append]
  rfl
/-- Behind an append to a slice in a box, stored back. -/
theorem below_push {W w1 w2 : World} {g : Nat} {A : Option Addr} {n c : Nat} {o : Obj} (hg : g < W.heap.size) (h2 : (W.alloc o).grownBy w1 ((Value.slice A n c).ownBlock)) (hA : ∀ ad, A = some ad → g < ad.block) (h3 : w1.grownBy w2 (some g)) : Below g W w2 := by
  refine ⟨h3.os.trans h2.os, h3.tape.trans h2.tape, h3.output.trans h2.output, ?_, fun i hi => ?_⟩
  · have h4 := h2.size
    have h5 := h3.size
    simp at h4
    omega
  · have h4 := h2.size
    simp at h4
    rw [h3.block i (by omega) (fun e => by injection e with e; omega), h2.block i (by simp; omega) (fun e => by
      obtain ⟨ad, e1, e2⟩ := own_of e.symm
      have := hA ad e1
      omega)]
    exact Below.heap_alloc W o i (by omega)
theorem grow_push {w1 w2 : World} {g B m c' : Nat} {A' : Option Addr} {l : List Row} (hO : OT w1 B A' m c' l) (hB : g < B) (h3 : w1.grownBy w2 (some g)) : OT w2 B A' m c' l :=
  hO.grown h3 (fun ad e h => by have := hO.base_ ad e; injection h with h; omega)
theorem below_two {w w1 w2 : World} {g : Nat} (h : Below g w w1) (k : Below g w1 w2) : Below g w w2 := h.trans k
theorem blk_lowB {w w1 : World} {g k : Nat} {o : Obj} (h : w.heap[k]? = some o) (hb : Below g w w1) (hk : k < g) : w1.heap[k]? = some o := (hb.block k hk).trans h
end Go.Proofs.YtihfaknflfmohaaDoor

/- Layer 9 (table): the document's Put, walked. -/
namespace Go.Proofs.YtihfaknflfmohaaDoor
open Go.RowKit
set_option linter.unusedVariables false
set_option linter.unusedSimpArgs false
set_option maxRecDepth 4000
set_option maxHeartbeats 8000000 in
theorem refput_any (A : Option Addr) (n c : Nat) (t : List Row) (p : Pfx) (h : Int) (w : World) (ht : RT w A n c t) (ot : Oks t) (hpo : p.ok) (hn : n ≤ 100000) : Calls Tryd.prog 84 #[.agg (tabV A n c), .agg (pfxV p.v p.l p.b), .int .i64 h] w fun e w' => ∃ A' n' c', e = .returned (.agg (tabV A' n' c')) ∧ OT w' w.heap.size A' n' c' (putR p h (h == 0) t) ∧ Below w.heap.size w w' := by
  have hp := hpo.l
  have hblk1 := blk_new w (.cells (tabV A n c) 28)
  have hbel1 : Below w.heap.size w (w.alloc (.cells (tabV A n c) 28)) := below_alloc (Below.refl _ _) _
  have hblk2 := blk_new (w.alloc (.cells (tabV A n c) 28)) (.cells (pfxV p.v p.l p.b) 36)
  have hbel2 : Below w.heap.size w ((w.alloc (.cells (tabV A n c) 28)).alloc (.cells (pfxV p.v p.l p.b) 36)) := below_alloc (hbel1) _
  rw [show (w.alloc (.cells (tabV A n c) 28)).heap.size = w.heap.size + 1 by simp] at hblk2
  replace hblk1 := blk_below hblk1 (below_alloc (Below.refl _ _) (.cells (pfxV p.v p.l p.b) 36))
  have HP1 := Lib.hid (tab_at hblk1)
  have HBK1 := Lib.hid hblk1
  have HP2 := Lib.hid (pfx_at hp hblk2)
  have HBK2 := Lib.hid hblk2
  have HBE := Lib.hid hbel2
  obtain ⟨cs1, hcs1⟩ : ∃ cs, tabV A n c = cs := ⟨_, rfl⟩
  obtain ⟨cs2, hcs2⟩ : ∃ cs, pfxV p.v p.l p.b = cs := ⟨_, rfl⟩
  simp only [hcs1, hcs2] at HBE HP1 HP2 HBK1 HBK2 ⊢
  have HC1 := Lib.hid hcs1
  have HC2 := Lib.hid hcs2
  clear hcs1 hblk1 hbel1 hcs2 hblk2 hbel2
  have HT := Lib.hid (ht.below HBE.out)
  have OKS := Lib.hid ot
  have hsz2 : ((w.alloc (.cells cs1 28)).alloc (.cells cs2 36)).heap.size = w.heap.size + 2 := by simp
  obtain ⟨W1, hW1⟩ : ∃ W1, (((w.alloc (.cells cs1 28)).alloc (.cells cs2 36)).alloc (.cells #[.slice none 0 0] 28)) = W1 := ⟨_, rfl⟩
  have hs1 : W1.heap.size = w.heap.size + 3 := by rw [← hW1]; simp
  have hz : W1.heap[w.heap.size + 2]? = some (.cells (tabV none 0 0) 28 (0, 0)) := by
    rw [← hW1, ← hsz2]
    exact blk_new _ _
  have HB1 : Hid (Below ((w.alloc (.cells cs1 28)).alloc (.cells cs2 36)).heap.size ((w.alloc (.cells cs1 28)).alloc (.cells cs2 36)) W1) := Lib.hid (hW1 ▸ below_alloc (Below.refl _ _) _)
  have HZ := Lib.hid hz
  have HS1 := Lib.hid hs1
  have HG0 := Lib.hid (blk_new W1 (.cells (tabV none 0 0) 28))
  have hbr := fun w => run_build_row w p h hp.len
  rw [HC2.out] at hbr
  clear ht ot hsz2 hz
  go_enter Tryd.func84, Tryd.ntmps84
  go_upto_block 2 with fail
  rw [← HS1.out]
  clear hs1 hW1
  go_loopw [8, 9] (fun y x wr => ∃ (i : Nat) (put : Bool) (A1 : Option Addr) (n1 c1 : Nat) (out : List Row), x = .int .i64 i ∧ y = .bool put ∧ Hid (i ≤ n ∧ n1 ≤ 2 * i ∧ (t.take i).foldl (putF p h) (h == 0, []) = (put, out) ∧ wr.heap[W1.heap.size]? = some (.cells (tabV A1 n1 c1) 28 (0, 0)) ∧ OT wr (W1.heap.size + 1) A1 n1 c1 out ∧ Below W1.heap.size W1 wr)) (fun _ x _ => n - (intOf x).toNat)
  case atStart => exact ⟨0, h == 0, none, 0, 0, [], rfl, rfl, Nat.zero_le _, by omega, rfl, HG0.out, OS.nil _ _ _, below_alloc (Below.refl _ _) _⟩
  case round =>
    obtain ⟨i, put, A1, n1, c1, out, rfl, rfl, HH⟩ := hrel
    have hn1 := HH.out.2.1
    have HBR := Lib.hid (below_step HB1.out HH.out.2.2.2.2.2)
    have hl1 := (HP1.out.all wr HBR.out).2
    have hgl := blk_lt HH.out.2.2.2.1
    by_cases hlt : i < n
    · have hlt' : (i : Int) < n := by omega
      obtain ⟨b, o, rfl, hc⟩ := RT.at_ HT.out (by omega)
      have HC3 := Lib.hid (hc i hlt)
      have HF := Lib.hid (RT.fits_at HT.out hlt)
      have HO := Lib.hid (OKS.out.at_ (i := i) (by rw [HT.out.len]; exact hlt)).p
      have hrow := (rowLd_of HF.out (HC3.out.below HBR.out)).row
      have HST := Lib.hid (putF_succ p h (t := t) (i := i) (by rw [HT.out.len]; exact hlt) (h == 0, []))
      clear hc
      go_upto_if 28 with (first | ((with_reducible show wpList _ _ _ (Oper.mk _ (Op.load _ _) _ _ _ _ :: _) _ _); refine wpList_load_g hl1 _ rfl rfl (by go_simp) ?_) | ((with_reducible show wpList _ _ _ (Oper.mk _ (Op.load _ _) _ _ _ _ :: _) _ _); refine wpList_load_g hrow _ rfl rfl (by go_simp) ?_) | ((with_reducible show wpList _ _ _ (Oper.mk _ (Op.store _ _ _) _ _ _ _ :: _) _ _); refine wpList_store_blk (blk_new wr _) 38 0 (rowV (rowAt t i)) (store_row_fit HF.out rfl) (info_row HF.out) (rowV_one _) _ _ rfl rfl rfl rfl ?_; intro w3 hg9 hs9 hb9; rw [splice_row HF.out rfl] at hb9; have H3 := Lib.hid (And.intro hg9 hb9); clear hg9 hs9 hb9) | ((with_reducible show wpList _ _ _ (Oper.mk _ (Op.load _ _) _ _ _ _ :: _) _ _); refine wpList_load_g (((row_at HF.out H3.out.2).all _ (Below.refl _ _)).pfx) _ rfl rfl (by go_simp) ?_) | (((with_reducible show wpList _ _ _ (Oper.mk _ (Op.load _ _) _ _ _ _ :: _) _ _); refine wpList_load_g ((HP2.out.all w3 (below_grown (below_step HBR.out (below_alloc (Below.refl _ _) _)) H3.out.1 (HBR.out.size))).2.2.2.2) _ rfl rfl (by go_simp) ?_); rw [HC2.out]) | ((with_reducible show wpList _ _ _ (Oper.mk _ (Op.binOp _ _ _ _ _) _ _ _ _ :: _) _ _); refine wpList_exw rfl (pfx_eql_exec rfl (rowAt t i).p p rfl (congrArg Value.agg HC2.out).symm HO.out hpo _) ?_))
      have HB3 := Lib.hid (below_grown (below_alloc (Below.refl wr.heap.size wr) (.cells (rowV rowZ) 38)) H3.out.1 (Nat.le_refl _))
      have HG3 := Lib.hid (blk_below HH.out.2.2.2.1 HB3.out)
      have HO3 := Lib.hid (HH.out.2.2.2.2.1.below HB3.out)
      have HR3 := Lib.hid (row_at HF.out H3.out.2)
      have HF3 := Lib.hid (below_two HH.out.2.2.2.2.2 (show Below W1.heap.size wr w3 from ⟨HB3.out.os, HB3.out.tape, HB3.out.output, HB3.out.size, fun q hq => HB3.out.block q (by omega)⟩))
      have HFL := Lib.hid HH.out.2.2.1
      have HN := Lib.hid HH.out.1
      have HA1L := Lib.hid (HH.out.2.2.2.2.1.lt)
      have HWR := Lib.hid (blk_lt HH.out.2.2.2.1)
      clear HH
      cases hq : (rowAt t i).p.eqB p with
      | true =>
        have HQ := Lib.hid (show eqP (rowAt t i).p p = true from hq)
        clear hq
        go_wp2_with fail
        go_roundw
        case measure => simp [intOf]; omega
        case rel => exact ⟨i + 1, put, A1, n1, c1, out, by go_num, rfl, by omega, by omega, by rw [HST.out, HFL.out]; unfold putF; rw [if_pos HQ.out], HG3.out, HO3.out, HF3.out⟩
      | false =>
        have HQ := Lib.hid (show ¬ eqP (rowAt t i).p p = true by rw [show eqP (rowAt t i).p p = false from hq]; simp)
        clear hq
        cases put with
        | true =>
          go_wp2_with (first | ((with_reducible show wpList _ _ _ (Oper.mk _ (Op.load _ _) _ _ _ _ :: _) _ _); refine wpList_load_g (((tab_at HG3.out).all _ (Below.refl _ _)).2) _ rfl rfl (by go_simp) ?_) | ((with_reducible show wpList _ _ _ (Oper.mk _ (Op.load _ _) _ _ _ _ :: _) _ _); refine wpList_load_g ((HR3.out.all _ (Below.refl _ _)).row) _ rfl rfl (by go_simp) ?_) | ((with_reducible show wpList _ _ _ (Oper.mk _ (Op.buildSlice _ _ _) _ _ _ _ :: _) _ _); refine wpList_exw rfl (exec_lit1 rowK (x := .tmp 48) rfl (rowAt t i) rfl HF.out (by show 19 ≤ _; omega) _) ?_) | (at_builtin; refine wpList_append_shp rowK rfl (.tmp 47) (.tmp 49) rfl rfl rfl (OS.below HO3.out (below_alloc (Below.refl _ _) _)) (OS.one rowK w3 0 (rowAt t i) (Nat.zero_le _) HF.out).reads (by have := blk_lt HG3.out; simp; omega) (by omega) ?_; intro A4 c4 wa4 h1 h2 h3; have HA4 := Lib.hid (And.intro h1 (And.intro h2 h3)); clear h1 h2 h3) | ((with_reducible show wpList _ _ _ (Oper.mk _ (Op.store _ _ _) _ _ _ _ :: _) _ _); refine wpList_store_cell (blk_own (blk_below HG3.out (below_alloc (Below.refl _ _) _)) HA4.out.2.1 (fun ad e => OS.base_ HO3.out ad e)) 26 0 (.slice A4 (n1 + 1) c4) (Nat.le_refl _) (by kernel_rfl) rfl rfl _ _ rfl rfl rfl rfl ?_; intro w4 hg9 hs9 hb9; have HS4 := Lib.hid (And.intro hg9 (show (World.heap w4)[W1.heap.size]? = some (.cells (tabV A4 (n1 + 1) c4) 28 (0, 0)) from hb9)); clear hg9 hs9 hb9))
          have HO4 := Lib.hid (grow_push HA4.out.1 (Nat.lt_succ_self _) HS4.out.1)
          have HG4 := Lib.hid HS4.out.2
          have HB4 := Lib.hid (below_push (blk_lt HG3.out) HA4.out.2.1 (fun ad e => OS.base_ HO3.out ad e) HS4.out.1)
          clear HA4 HS4
          go_roundw
          case measure => simp [intOf]; omega
          case rel => exact ⟨i + 1, true, A4, n1 + 1, c4, out ++ [rowAt t i], by go_num, rfl, by omega, by omega, by rw [HST.out, HFL.out]; unfold putF; rw [if_neg HQ.out, if_neg (by simp)], HG4.out, HO4.out, below_two HF3.out HB4.out⟩
        | false =>
          have hlp := (HP2.out.all w3 (below_step HBR.out HB3.out)).2.2.2.2
          rw [HC2.out] at hlp
          go_wp2_with (first | ((with_reducible show wpList _ _ _ (Oper.mk _ (Op.load _ _) _ _ _ _ :: _) _ _); refine wpList_load_g (hlp) _ rfl rfl (by go_simp) ?_) | ((with_reducible show wpList _ _ _ (Oper.mk _ (Op.load _ _) _ _ _ _ :: _) _ _); refine wpList_load_g ((HR3.out.all _ (Below.refl _ _)).pfx) _ rfl rfl (by go_simp) ?_))
          have hcm := refcompare_any p (rowAt t i).p w3 hp HF.out
          rw [HC2.out] at hcm
          refine hcm.mono ?_
          clear hcm
          rintro e w5 ⟨rfl, hbb5⟩
          have HG5 := Lib.hid (blk_below HG3.out hbb5)
          have HO5 := Lib.hid (HO3.out.below hbb5)
          have HR3B := Lib.hid (blk_below H3.out.2 hbb5)
          have HR5 := Lib.hid (row_at HF.out HR3B.out)
          have HA6L := Lib.hid (fun ad e => HA1L.out ad e)
          have HP5 := Lib.hid (below_step (below_step HBR.out HB3.out) hbb5)
          have HF5 := Lib.hid (below_two HF3.out (show Below W1.heap.size w3 w5 from ⟨hbb5.os, hbb5.tape, hbb5.output, hbb5.size, fun q hq => hbb5.block q (by have := blk_lt HG3.out; omega)⟩))
          clear hbb5 hlp
          by_cases hlc : p.cmp (rowAt t i).p < 0
          · have hlc' : decide (p.cmp (rowAt t i).p < 0) = true := decide_eq_true hlc
            have HLC := Lib.hid hlc'
            have hlp := (HP2.out.all w5 HP5.out).2.2.2.2
            rw [HC2.out] at hlp
            clear hlc
            go_upto_region 10 with (first | ((with_reducible show wpList _ _ _ (Oper.mk _ (Op.load _ _) _ _ _ _ :: _) _ _); refine wpList_load_g (((tab_at HG5.out).all _ (Below.refl _ _)).2) _ rfl rfl (by go_simp) ?_) | ((with_reducible show wpList _ _ _ (Oper.mk _ (Op.load _ _) _ _ _ _ :: _) _ _); refine wpList_load_g (hlp) _ rfl rfl (by go_simp) ?_) | ((with_reducible show wpList _ _ _ (Oper.mk _ (Op.build _ _) _ _ _ _ :: _) _ _); refine wpList_exw rfl (exec_build2 (t := 38) (i0 := 0) (i1 := 1) (x0 := .tmp 40) (x1 := .tmp 41) (v0 := (.agg cs2)) (v1 := (.int .i64 h)) (v := (.agg (rowV ⟨p, h⟩))) rfl rfl rfl (hbr _)) ?_) | ((with_reducible show wpList _ _ _ (Oper.mk _ (Op.buildSlice _ _ _) _ _ _ _ :: _) _ _); refine wpList_exw rfl (exec_lit1 rowK (x := .tmp 42) rfl ⟨p, h⟩ rfl hp (by show 19 ≤ _; omega) _) ?_) | (at_builtin; refine wpList_append_shp rowK rfl (.tmp 39) (.tmp 43) rfl rfl rfl (OS.below HO5.out (below_alloc (Below.refl _ _) _)) (OS.one rowK w5 0 ⟨p, h⟩ (Nat.zero_le _) hp).reads (by have := blk_lt HG5.out; simp; omega) (by omega) ?_; intro A6 c6 wa6 h1 h2 h3; have HA6 := Lib.hid (And.intro h1 (And.intro h2 h3)); clear h1 h2 h3) | ((with_reducible show wpList _ _ _ (Oper.mk _ (Op.store _ _ _) _ _ _ _ :: _) _ _); refine wpList_store_cell (blk_own (blk_below HG5.out (below_alloc (Below.refl _ _) _)) HA6.out.2.1 (fun ad e => OS.base_ HO5.out ad e)) 26 0 (.slice A6 (n1 + 1) c6) (Nat.le_refl _) (by kernel_rfl) rfl rfl _ _ rfl rfl rfl rfl ?_; intro w6 hg9 hs9 hb9; have HS6 := Lib.hid (And.intro hg9 (show (World.heap w6)[W1.heap.size]? = some (.cells (tabV A6 (n1 + 1) c6) 28 (0, 0)) from hb9)); clear hg9 hs9 hb9))
            have HO6 := Lib.hid (grow_push HA6.out.1 (Nat.lt_succ_self _) HS6.out.1)
            have HG6 := Lib.hid HS6.out.2
            have HB6 := Lib.hid (below_push (blk_lt HG5.out) HA6.out.2.1 (fun ad e => OS.base_ HO5.out ad e) HS6.out.1)
            have hgl3 := blk_lt HR3B.out
            have HR6 := Lib.hid (row_at HF.out (blk_grown (blk_grown (blk_below HR3B.out (below_alloc (Below.refl _ _) _)) HA6.out.2.1 (fun e => by
              obtain ⟨ad, e1, e2⟩ := own_of e.symm
              have := HA6L.out ad e1
              omega)) HS6.out.1 (fun e => by injection e with e; have := HWR.out; omega)))
            clear HA6 HS6
            go_wp2_with (first | ((with_reducible show wpList _ _ _ (Oper.mk _ (Op.load _ _) _ _ _ _ :: _) _ _); refine wpList_load_g (((tab_at HG6.out).all _ (Below.refl _ _)).2) _ rfl rfl (by go_simp) ?_) | ((with_reducible show wpList _ _ _ (Oper.mk _ (Op.load _ _) _ _ _ _ :: _) _ _); refine wpList_load_g ((HR6.out.all _ (Below.refl _ _)).row) _ rfl rfl (by go_simp) ?_) | ((with_reducible show wpList _ _ _ (Oper.mk _ (Op.buildSlice _ _ _) _ _ _ _ :: _) _ _); refine wpList_exw rfl (exec_lit1 rowK (x := .tmp 48) rfl (rowAt t i) rfl HF.out (by show 19 ≤ _; omega) _) ?_) | (at_builtin; refine wpList_append_shp rowK rfl (.tmp 47) (.tmp 49) rfl rfl rfl (OS.below HO6.out (below_alloc (Below.refl _ _) _)) (OS.one rowK w6 0 (rowAt t i) (Nat.zero_le _) HF.out).reads (by have := blk_lt HG6.out; simp; omega) (by omega) ?_; intro A4 c4 wa4 h1 h2 h3; have HA4 := Lib.hid (And.intro h1 (And.intro h2 h3)); clear h1 h2 h3) | ((with_reducible show wpList _ _ _ (Oper.mk _ (Op.store _ _ _) _ _ _ _ :: _) _ _); refine wpList_store_cell (blk_own (blk_below HG6.out (below_alloc (Below.refl _ _) _)) HA4.out.2.1 (fun ad e => OS.base_ HO6.out ad e)) 26 0 (.slice A4 ((n1 + 1) + 1) c4) (Nat.le_refl _) (by kernel_rfl) rfl rfl _ _ rfl rfl rfl rfl ?_; intro w4 hg9 hs9 hb9; have HS4 := Lib.hid (And.intro hg9 (show (World.heap w4)[W1.heap.size]? = some (.cells (tabV A4 ((n1 + 1) + 1) c4) 28 (0, 0)) from hb9)); clear hg9 hs9 hb9))
            have HO4 := Lib.hid (grow_push HA4.out.1 (Nat.lt_succ_self _) HS4.out.1)
            have HG4 := Lib.hid HS4.out.2
            have HB4 := Lib.hid (below_push (blk_lt HG6.out) HA4.out.2.1 (fun ad e => OS.base_ HO6.out ad e) HS4.out.1)
            clear HA4 HS4
            go_roundw
            case measure => simp [intOf]; omega
            case rel => exact ⟨i + 1, true, A4, n1 + 1 + 1, c4, out ++ [⟨p, h⟩] ++ [rowAt t i], by go_num, rfl, by omega, by omega, by rw [HST.out, HFL.out]; unfold putF; rw [if_neg HQ.out, if_pos (by simp [HLC.out])], HG4.out, HO4.out, below_two HF5.out (below_two HB6.out HB4.out)⟩
          · have hlc' : decide (p.cmp (rowAt t i).p < 0) = false := decide_eq_false hlc
            have HLC := Lib.hid hlc'
            clear hlc
            go_wp2_with (first | ((with_reducible show wpList _ _ _ (Oper.mk _ (Op.load _ _) _ _ _ _ :: _) _ _); refine wpList_load_g (((tab_at HG5.out).all _ (Below.refl _ _)).2) _ rfl rfl (by go_simp) ?_) | ((with_reducible show wpList _ _ _ (Oper.mk _ (Op.load _ _) _ _ _ _ :: _) _ _); refine wpList_load_g ((HR5.out.all _ (Below.refl _ _)).row) _ rfl rfl (by go_simp) ?_) | ((with_reducible show wpList _ _ _ (Oper.mk _ (Op.buildSlice _ _ _) _ _ _ _ :: _) _ _); refine wpList_exw rfl (exec_lit1 rowK (x := .tmp 48) rfl (rowAt t i) rfl HF.out (by show 19 ≤ _; omega) _) ?_) | (at_builtin; refine wpList_append_shp rowK rfl (.tmp 47) (.tmp 49) rfl rfl rfl (OS.below HO5.out (below_alloc (Below.refl _ _) _)) (OS.one rowK w5 0 (rowAt t i) (Nat.zero_le _) HF.out).reads (by have := blk_lt HG5.out; simp; omega) (by omega) ?_; intro A4 c4 wa4 h1 h2 h3; have HA4 := Lib.hid (And.intro h1 (And.intro h2 h3)); clear h1 h2 h3) | ((with_reducible show wpList _ _ _ (Oper.mk _ (Op.store _ _ _) _ _ _ _ :: _) _ _); refine wpList_store_cell (blk_own (blk_below HG5.out (below_alloc (Below.refl _ _) _)) HA4.out.2.1 (fun ad e => OS.base_ HO5.out ad e)) 26 0 (.slice A4 (n1 + 1) c4) (Nat.le_refl _) (by kernel_rfl) rfl rfl _ _ rfl rfl rfl rfl ?_; intro w4 hg9 hs9 hb9; have HS4 := Lib.hid (And.intro hg9 (show (World.heap w4)[W1.heap.size]? = some (.cells (tabV A4 (n1 + 1) c4) 28 (0, 0)) from hb9)); clear hg9 hs9 hb9))
            have HO4 := Lib.hid (grow_push HA4.out.1 (Nat.lt_succ_self _) HS4.out.1)
            have HG4 := Lib.hid HS4.out.2
            have HB4 := Lib.hid (below_push (blk_lt HG5.out) HA4.out.2.1 (fun ad e => OS.base_ HO5.out ad e) HS4.out.1)
            clear HA4 HS4
            go_roundw
            case measure => simp [intOf]; omega
            case rel => exact ⟨i + 1, false, A4, n1 + 1, c4, out ++ [rowAt t i], by go_num, rfl, by omega, by omega, by rw [HST.out, HFL.out]; unfold putF; rw [if_neg HQ.out, if_neg (by simp [HLC.out])], HG4.out, HO4.out, below_two HF5.out HB4.out⟩
    · have hlt' : decide (i < n) = false := decide_eq_false hlt
      have htk : t.take i = t := List.take_of_length_le (by rw [HT.out.len]; omega)
      have hfl := HH.out.2.2.1
      rw [htk] at hfl
      have HEND := Lib.hid (show putR p h (h == 0) t = out ++ (if put then [] else [⟨p, h⟩]) by
        have := putF_end p h t (h == 0) []
        rw [hfl] at this
        simpa using this.symm)
      have HZ3 := Lib.hid (blk_below HZ.out HH.out.2.2.2.2.2)
      have HG3 := Lib.hid HH.out.2.2.2.1
      have HO3 := Lib.hid HH.out.2.2.2.2.1
      have HF3 := Lib.hid HH.out.2.2.2.2.2
      have HS3 := Lib.hid (show w.heap.size ≤ W1.heap.size + 1 by rw [HS1.out]; omega)
      have HS4 := Lib.hid (show w.heap.size + 2 < W1.heap.size by rw [HS1.out]; omega)
      have hi2 : i ≤ n := HH.out.1
      clear hlt htk hfl HH
      cases put with
      | true =>
        have hlo := load_tab HG3.out
        go_wp2_with (first | ((with_reducible show wpList _ _ _ (Oper.mk _ (Op.load _ _) _ _ _ _ :: _) _ _); refine wpList_load_g hl1 _ rfl rfl (by go_simp) ?_) | ((with_reducible show wpList _ _ _ (Oper.mk _ (Op.load _ _) _ _ _ _ :: _) _ _); refine wpList_load_g hlo _ rfl rfl (by go_simp) ?_) | ((with_reducible show wpList _ _ _ (Oper.mk _ (Op.store _ _ _) _ _ _ _ :: _) _ _); refine wpList_store_blk HZ3.out 28 0 (tabV A1 n1 c1) (Nat.le_refl _) (info_tab _ _ _) (tab_one _ _ _) _ _ rfl rfl rfl rfl ?_; intro w5 hg9 hs9 hb9; rw [splice_tab] at hb9; have H5 := Lib.hid (And.intro hg9 hb9); clear hg9 hs9 hb9))
        have hld := load_tab H5.out.2
        refine bodyPost_ret (results_c1 rfl rfl hld) rfl ?_
        rw [HEND.out]
        refine ⟨_, _, _, rfl, ?_, below_grown (below_step HBE.out HBR.out) H5.out.1 (by omega)⟩
        have h1 := (HO3.out.grown H5.out.1 (fun ad e h => by have := HO3.out.base_ ad e; injection h with h; have := HS4.out; omega)).lower HS3.out
        simpa using h1
      | false =>
        have hlp := (HP2.out.all wr HBR.out).2.2.2.2
        rw [HC2.out] at hlp
        go_upto_region 14 with (first | ((with_reducible show wpList _ _ _ (Oper.mk _ (Op.load _ _) _ _ _ _ :: _) _ _); refine wpList_load_g hl1 _ rfl rfl (by go_simp) ?_) | ((with_reducible show wpList _ _ _ (Oper.mk _ (Op.load _ _) _ _ _ _ :: _) _ _); refine wpList_load_g (((tab_at HG3.out).all _ (Below.refl _ _)).2) _ rfl rfl (by go_simp) ?_) | ((with_reducible show wpList _ _ _ (Oper.mk _ (Op.load _ _) _ _ _ _ :: _) _ _); refine wpList_load_g (hlp) _ rfl rfl (by go_simp) ?_) | ((with_reducible show wpList _ _ _ (Oper.mk _ (Op.build _ _) _ _ _ _ :: _) _ _); refine wpList_exw rfl (exec_build2 (t := 38) (i0 := 0) (i1 := 1) (x0 := .tmp 56) (x1 := .tmp 57) (v0 := (.agg cs2)) (v1 := (.int .i64 h)) (v := (.agg (rowV ⟨p, h⟩))) rfl rfl rfl (hbr _)) ?_) | ((with_reducible show wpList _ _ _ (Oper.mk _ (Op.buildSlice _ _ _) _ _ _ _ :: _) _ _); refine wpList_exw rfl (exec_lit1 rowK (x := .tmp 58) rfl ⟨p, h⟩ rfl hp (by show 19 ≤ _; omega) _) ?_) | (at_builtin; refine wpList_append_shp rowK rfl (.tmp 55) (.tmp 59) rfl rfl rfl (OS.below HO3.out (below_alloc (Below.refl _ _) _)) (OS.one rowK wr 0 ⟨p, h⟩ (Nat.zero_le _) hp).reads (by have := blk_lt HG3.out; simp; omega) (by omega) ?_; intro A6 c6 wa6 h1 h2 h3; have HA6 := Lib.hid (And.intro h1 (And.intro h2 h3)); clear h1 h2 h3) | ((with_reducible show wpList _ _ _ (Oper.mk _ (Op.store _ _ _) _ _ _ _ :: _) _ _); refine wpList_store_cell (blk_own (blk_below HG3.out (below_alloc (Below.refl _ _) _)) HA6.out.2.1 (fun ad e => OS.base_ HO3.out ad e)) 26 0 (.slice A6 (n1 + 1) c6) (Nat.le_refl _) (by kernel_rfl) rfl rfl _ _ rfl rfl rfl rfl ?_; intro w6 hg9 hs9 hb9; have HS6 := Lib.hid (And.intro hg9 (show (World.heap w6)[W1.heap.size]? = some (.cells (tabV A6 (n1 + 1) c6) 28 (0, 0)) from hb9)); clear hg9 hs9 hb9))
        have HO6 := Lib.hid (grow_push HA6.out.1 (Nat.lt_succ_self _) HS6.out.1)
        have HG6 := Lib.hid HS6.out.2
        have HB6 := Lib.hid (below_push (blk_lt HG3.out) HA6.out.2.1 (fun ad e => OS.base_ HO3.out ad e) HS6.out.1)
        have HZ6 := Lib.hid (blk_lowB HZ3.out HB6.out HS4.out)
        have hlo := load_tab HG6.out
        clear HA6 HS6
        go_wp2_with (first | ((with_reducible show wpList _ _ _ (Oper.mk _ (Op.load _ _) _ _ _ _ :: _) _ _); refine wpList_load_g hlo _ rfl rfl (by go_simp) ?_) | ((with_reducible show wpList _ _ _ (Oper.mk _ (Op.store _ _ _) _ _ _ _ :: _) _ _); refine wpList_store_blk HZ6.out 28 0 (tabV A6 (n1 + 1) c6) (Nat.le_refl _) (info_tab _ _ _) (tab_one _ _ _) _ _ rfl rfl rfl rfl ?_; intro w5 hg9 hs9 hb9; rw [splice_tab] at hb9; have H5 := Lib.hid (And.intro hg9 hb9); clear hg9 hs9 hb9))
        have hld := load_tab H5.out.2
        refine bodyPost_ret (results_c1 rfl rfl hld) rfl ?_
        rw [HEND.out]
        have hb6 : Below ((w.alloc (.cells cs1 28)).alloc (.cells cs2 36)).heap.size wr w6 := ⟨HB6.out.os, HB6.out.tape, HB6.out.output, HB6.out.size, fun q hq => HB6.out.block q (by have := HS4.out; simp at hq; omega)⟩
        refine ⟨_, _, _, rfl, (HO6.out.grown H5.out.1 (fun ad e h => by have := HO6.out.base_ ad e; injection h with h; have := HS4.out; omega)).lower HS3.out, below_grown (below_step HBE.out (HBR.out.trans hb6)) H5.out.1 (by omega)⟩
end Go.Proofs.YtihfaknflfmohaaDoor

/- Layer 9 (table): the document's Set and Drop. -/
namespace Go.Proofs.YtihfaknflfmohaaDoor
open Go.RowKit
set_option linter.unusedVariables false
set_option linter.unusedSimpArgs false
set_option maxRecDepth 4000
theorem getT_zero {t : List Row} {p : Pfx} (ht : tabB t = true) : getT t p = 0 ↔ thereB t p = false := by
  constructor
  · intro h
    rw [Bool.eq_false_iff]
    intro hth
    have hlt := lowN_lt hth
    have h1 : getT t p = (rowAt t (lowN t p)).h := by unfold getT; rw [hth]; rfl
    have h2 := ((okB_iff _).1 ((tabB_to ht).2.1 _ (row_mem hlt))).2
    omega
  · exact getT_no
set_option maxHeartbeats 4000000 in
theorem refset_any (A : Option Addr) (n c : Nat) (t : List Row) (p : Pfx) (h : Int) (w : World) (ht : RT w A n c t) (ot : Oks t) (hpo : p.ok) (hn : n ≤ 100000) : Calls Tryd.prog 40 #[.agg (tabV A n c), .agg (pfxV p.v p.l p.b), .int .i64 h] w fun e w' => ∃ A' n' c', e = .returned (.tuple #[.agg (tabV A' n' c'), .int .i64 (setE t p h)]) ∧ OT w' w.heap.size A' n' c' (setL t p h) ∧ Below w.heap.size w w' := by
  have hp := hpo.l
  have hblk1 := blk_new w (.cells (tabV A n c) 28)
  have hbel1 : Below w.heap.size w (w.alloc (.cells (tabV A n c) 28)) := below_alloc (Below.refl _ _) _
  have hblk2 := blk_new (w.alloc (.cells (tabV A n c) 28)) (.cells (pfxV p.v p.l p.b) 36)
  have hbel2 : Below w.heap.size w ((w.alloc (.cells (tabV A n c) 28)).alloc (.cells (pfxV p.v p.l p.b) 36)) := below_alloc (hbel1) _
  rw [show (w.alloc (.cells (tabV A n c) 28)).heap.size = w.heap.size + 1 by simp] at hblk2
  replace hblk1 := blk_below hblk1 (below_alloc (Below.refl _ _) (.cells (pfxV p.v p.l p.b) 36))
  have HP1 := Lib.hid (tab_at hblk1)
  have HBK1 := Lib.hid hblk1
  have HP2 := Lib.hid (pfx_at hp hblk2)
  have HBK2 := Lib.hid hblk2
  have HBE := Lib.hid hbel2
  obtain ⟨cs1, hcs1⟩ : ∃ cs, tabV A n c = cs := ⟨_, rfl⟩
  obtain ⟨cs2, hcs2⟩ : ∃ cs, pfxV p.v p.l p.b = cs := ⟨_, rfl⟩
  simp only [hcs1, hcs2] at HBE HP1 HP2 HBK1 HBK2 ⊢
  have HC1 := Lib.hid hcs1
  have HC2 := Lib.hid hcs2
  clear hcs1 hblk1 hbel1 hcs2 hblk2 hbel2
  have HT := Lib.hid (ht.below HBE.out)
  have OKS := Lib.hid ot
  have hsz2 : ((w.alloc (.cells cs1 28)).alloc (.cells cs2 36)).heap.size = w.heap.size + 2 := by simp
  have hz := blk_new ((w.alloc (.cells cs1 28)).alloc (.cells cs2 36)) (.cells (tabV none 0 0) 28)
  rw [hsz2] at hz
  have HZ := Lib.hid hz
  have hl1 := (HP1.out.all _ (below_alloc (Below.refl _ _) (.cells (tabV none 0 0) 28))).1
  rw [HC1.out] at hl1
  have hbn := run_build_tab_nil
  clear ht ot hz hsz2
  go_enter Tryd.func40, Tryd.ntmps40
  go_wp2_with (first | ((with_reducible show wpList _ _ _ (Oper.mk _ (Op.load _ _) _ _ _ _ :: _) _ _); refine wpList_load_g hl1 _ rfl rfl (by go_simp) ?_))
  have hch := refRight_any A n c t _ (HT.out.below (below_alloc (Below.refl _ _) (.cells (tabV none 0 0) 28))) OKS.out (by omega)
  rw [HC1.out] at hch
  refine hch.mono ?_
  clear hch
  rintro e w1 ⟨rfl, hbb1⟩
  have HZ1 := Lib.hid (blk_below HZ.out hbb1)
  have HB1 := Lib.hid (below_step (below_alloc (Below.refl _ _) (.cells (tabV none 0 0) 28)) hbb1)
  clear hbb1 hl1 HZ
  cases hR : tabB t with
  | false =>
    have HE := Lib.hid (show setE t p h = 190 ∧ setL t p h = [] by unfold setL setE; rw [hR]; exact ⟨rfl, rfl⟩)
    clear hR
    go_wp2_with (first | ((with_reducible show wpList _ _ _ (Oper.mk _ (Op.store _ _ _) _ _ _ _ :: _) _ _); refine wpList_store_blk HZ1.out 28 0 (tabV none 0 0) (Nat.le_refl _) (info_tab _ _ _) (tab_one _ _ _) _ _ rfl rfl rfl rfl ?_; intro w2 hg9 hs9 hb9; rw [splice_tab] at hb9; have H2 := Lib.hid (And.intro hg9 hb9); clear hg9 hs9 hb9))
    have hld := load_tab H2.out.2
    refine bodyPost_ret (results_c2 rfl rfl hld) rfl ?_
    rw [HE.out.1, HE.out.2]
    exact ⟨_, _, _, rfl, OS.nil _ _ _, below_grown (below_step HBE.out HB1.out) H2.out.1 (by omega)⟩
  | true =>
    have HR := Lib.hid hR
    clear hR
    have hl2 := (HP2.out.all w1 HB1.out).2.2.2.2
    rw [HC2.out] at hl2
    go_wp2_with (first | ((with_reducible show wpList _ _ _ (Oper.mk _ (Op.load _ _) _ _ _ _ :: _) _ _); refine wpList_load_g hl2 _ rfl rfl (by go_simp) ?_))
    have hch := right_any p.v p.l p.b w1 hp (wf_le hpo.b)
    rw [HC2.out] at hch
    refine hch.mono ?_
    clear hch
    rintro e w2 ⟨rfl, hbb2⟩
    have HZ2 := Lib.hid (blk_below HZ1.out hbb2)
    have HB2 := Lib.hid (below_step HB1.out hbb2)
    have H2E : Hid (¬ (p.right = true ∧ 1 ≤ h ∧ h ≤ 255) → setE t p h = 2 ∧ setL t p h = []) := Lib.hid (fun hno => by
      have h3 : setE t p h = 2 := by unfold setE; rw [HR.out, if_pos rfl, if_neg hno]
      unfold setL
      rw [h3]
      exact ⟨rfl, rfl⟩)
    clear hbb2 hl2 HZ1 HB1
    cases hpr : rightP p.v p.l p.b with
    | false =>
      have HE := Lib.hid (H2E.out (fun hh => by rw [show p.right = false from hpr] at hh; cases hh.1))
      clear hpr
      go_wp2_with (first | ((with_reducible show wpList _ _ _ (Oper.mk _ (Op.store _ _ _) _ _ _ _ :: _) _ _); refine wpList_store_blk HZ2.out 28 0 (tabV none 0 0) (Nat.le_refl _) (info_tab _ _ _) (tab_one _ _ _) _ _ rfl rfl rfl rfl ?_; intro w3 hg9 hs9 hb9; rw [splice_tab] at hb9; have H3 := Lib.hid (And.intro hg9 hb9); clear hg9 hs9 hb9))
      have hld := load_tab H3.out.2
      refine bodyPost_ret (results_c2 rfl rfl hld) rfl ?_
      rw [HE.out.1, HE.out.2]
      exact ⟨_, _, _, rfl, OS.nil _ _ _, below_grown (below_step HBE.out HB2.out) H3.out.1 (by omega)⟩
    | true =>
      have HPR := Lib.hid (show p.right = true from hpr)
      clear hpr
      by_cases h1 : h < 1
      · have HE := Lib.hid (H2E.out (fun hh => by omega))
        have h1' : decide (h < 1) = true := decide_eq_true h1
        clear h1
        go_wp2_with (first | ((with_reducible show wpList _ _ _ (Oper.mk _ (Op.store _ _ _) _ _ _ _ :: _) _ _); refine wpList_store_blk HZ2.out 28 0 (tabV none 0 0) (Nat.le_refl _) (info_tab _ _ _) (tab_one _ _ _) _ _ rfl rfl rfl rfl ?_; intro w3 hg9 hs9 hb9; rw [splice_tab] at hb9; have H3 := Lib.hid (And.intro hg9 hb9); clear hg9 hs9 hb9))
        have hld := load_tab H3.out.2
        refine bodyPost_ret (results_c2 rfl rfl hld) rfl ?_
        rw [HE.out.1, HE.out.2]
        exact ⟨_, _, _, rfl, OS.nil _ _ _, below_grown (below_step HBE.out HB2.out) H3.out.1 (by omega)⟩
      · have h1' : decide (h < 1) = false := decide_eq_false h1
        have H1 := Lib.hid h1
        clear h1
        by_cases h2 : 255 < h
        · have HE := Lib.hid (H2E.out (fun hh => by omega))
          have h2' : decide (255 < h) = true := decide_eq_true h2
          clear h2
          go_wp2_with (first | ((with_reducible show wpList _ _ _ (Oper.mk _ (Op.store _ _ _) _ _ _ _ :: _) _ _); refine wpList_store_blk HZ2.out 28 0 (tabV none 0 0) (Nat.le_refl _) (info_tab _ _ _) (tab_one _ _ _) _ _ rfl rfl rfl rfl ?_; intro w3 hg9 hs9 hb9; rw [splice_tab] at hb9; have H3 := Lib.hid (And.intro hg9 hb9); clear hg9 hs9 hb9))
          have hld := load_tab H3.out.2
          refine bodyPost_ret (results_c2 rfl rfl hld) rfl ?_
          rw [HE.out.1, HE.out.2]
          exact ⟨_, _, _, rfl, OS.nil _ _ _, below_grown (below_step HBE.out HB2.out) H3.out.1 (by omega)⟩
        · have h2' : decide (255 < h) = false := decide_eq_false h2
          have HH := Lib.hid (show 1 ≤ h ∧ h ≤ 255 by have := H1.out; omega)
          clear h2
          have hl1 := (HP1.out.all w2 HB2.out).1
          have hl2 := (HP2.out.all w2 HB2.out).2.2.2.2
          rw [HC1.out] at hl1
          rw [HC2.out] at hl2
          go_wp2_with (first | ((with_reducible show wpList _ _ _ (Oper.mk _ (Op.load _ _) _ _ _ _ :: _) _ _); refine wpList_load_g hl1 _ rfl rfl (by go_simp) ?_) | ((with_reducible show wpList _ _ _ (Oper.mk _ (Op.load _ _) _ _ _ _ :: _) _ _); refine wpList_load_g hl2 _ rfl rfl (by go_simp) ?_))
          have hpl := refget_any A n c t p w2 (HT.out.below HB2.out) OKS.out hpo hn
          rw [HC1.out, HC2.out] at hpl
          refine hpl.mono ?_
          clear hpl
          rintro e w3 ⟨rfl, hbb3⟩
          have HZ3 := Lib.hid (blk_below HZ2.out hbb3)
          have HB3 := Lib.hid (below_step HB2.out hbb3)
          have hgt : getR t p = getT t p := getR_get hp HT.out.fits (tabB_to HR.out).2.2
          rw [hgt]
          have HGZ := Lib.hid (getT_zero (p := p) HR.out)
          have hst : setE t p h = if thereB t p = false ∧ n = 40 then 6 else 0 := by
            unfold setE
            rw [HR.out, if_pos rfl, if_pos ⟨HPR.out, HH.out⟩, HT.out.len]
          have HST := Lib.hid hst
          clear hbb3 hl1 hl2 HZ2 HB2 hst hgt
          have hl3 := (HP1.out.all w3 HB3.out).2
          by_cases hfull : thereB t p = false ∧ n = 40
          · have HE := Lib.hid (show setE t p h = 6 ∧ setL t p h = [] by
              have h3 : setE t p h = 6 := by rw [HST.out, if_pos hfull]
              unfold setL
              rw [h3]
              exact ⟨rfl, rfl⟩)
            have hg0 : getT t p = 0 := HGZ.out.2 hfull.1
            have hn40 : ((n : Int) == 40) = true := by simp; omega
            rw [hg0]
            clear hg0 hfull
            go_wp2_with (first | ((with_reducible show wpList _ _ _ (Oper.mk _ (Op.load _ _) _ _ _ _ :: _) _ _); refine wpList_load_g hl3 _ rfl rfl (by go_simp) ?_) | ((with_reducible show wpList _ _ _ (Oper.mk _ (Op.store _ _ _) _ _ _ _ :: _) _ _); refine wpList_store_blk HZ3.out 28 0 (tabV none 0 0) (Nat.le_refl _) (info_tab _ _ _) (tab_one _ _ _) _ _ rfl rfl rfl rfl ?_; intro w4 hg9 hs9 hb9; rw [splice_tab] at hb9; have H4 := Lib.hid (And.intro hg9 hb9); clear hg9 hs9 hb9))
            have hld := load_tab H4.out.2
            refine bodyPost_ret (results_c2 rfl rfl hld) rfl ?_
            rw [HE.out.1, HE.out.2]
            exact ⟨_, _, _, rfl, OS.nil _ _ _, below_grown (below_step HBE.out HB3.out) H4.out.1 (by omega)⟩
          · have hhz : (h == 0) = false := by have := H1.out; simp; omega
            have HE := Lib.hid (show setE t p h = 0 ∧ setL t p h = putR p h (h == 0) t by
              have h3 : setE t p h = 0 := by rw [HST.out, if_neg hfull]
              unfold setL
              rw [h3, if_pos rfl, hhz, putR_set hp HT.out.fits (tabB_to HR.out).2.2]
              exact ⟨rfl, rfl⟩)
            have hl1 := (HP1.out.all w3 HB3.out).1
            have hl2 := (HP2.out.all w3 HB3.out).2.2.2.2
            rw [HC1.out] at hl1
            rw [HC2.out] at hl2
            have HPL := Lib.hid (refput_any A n c t p h w3 (HT.out.below HB3.out) OKS.out hpo hn)
            obtain ⟨G, hG⟩ : ∃ G, getT t p = G := ⟨_, rfl⟩
            rw [hG] at HGZ ⊢
            have HG := Lib.hid hG
            have hcase : (G == 0) = false ∨ (G == 0) = true ∧ ((n : Int) == 40) = false := by
              by_cases hg : G = 0
              · right
                refine ⟨by simpa using hg, ?_⟩
                have := HGZ.out.1 hg
                simp
                intro hn4
                exact hfull ⟨this, by omega⟩
              · left
                simpa using hg
            clear hG hfull hhz
            rcases hcase with hc0 | ⟨hc0, hc1⟩
            all_goals
              go_wp2_with (first | ((with_reducible show wpList _ _ _ (Oper.mk _ (Op.load _ _) _ _ _ _ :: _) _ _); refine wpList_load_g hl3 _ rfl rfl (by go_simp) ?_) | ((with_reducible show wpList _ _ _ (Oper.mk _ (Op.load _ _) _ _ _ _ :: _) _ _); refine wpList_load_g hl1 _ rfl rfl (by go_simp) ?_) | ((with_reducible show wpList _ _ _ (Oper.mk _ (Op.load _ _) _ _ _ _ :: _) _ _); refine wpList_load_g hl2 _ rfl rfl (by go_simp) ?_))
              have hpl := HPL.out
              rw [HC1.out, HC2.out] at hpl
              refine hpl.mono ?_
              clear hpl
              rintro e w4 ⟨A4, n4, c4, rfl, hO4, hb4⟩
              have HZ4 := Lib.hid (blk_below HZ3.out hb4)
              have HO4 := Lib.hid hO4
              have HB4 := Lib.hid (below_step HB3.out hb4)
              have HLT := Lib.hid (blk_lt HZ3.out)
              clear hb4 hO4
              go_wp2_with (first | ((with_reducible show wpList _ _ _ (Oper.mk _ (Op.store _ _ _) _ _ _ _ :: _) _ _); refine wpList_store_blk HZ4.out 28 0 (tabV A4 n4 c4) (Nat.le_refl _) (info_tab _ _ _) (tab_one _ _ _) _ _ rfl rfl rfl rfl ?_; intro w5 hg9 hs9 hb9; rw [splice_tab] at hb9; have H5 := Lib.hid (And.intro hg9 hb9); clear hg9 hs9 hb9))
              have hld := load_tab H5.out.2
              refine bodyPost_ret (results_c2 rfl rfl hld) rfl ?_
              rw [HE.out.1, HE.out.2]
              refine ⟨_, _, _, rfl, (HO4.out.grown H5.out.1 (fun ad e hh => by have := HO4.out.base_ ad e; injection hh with hh; have := HLT.out; omega)).lower (by have := HLT.out; omega), below_grown (below_step HBE.out HB4.out) H5.out.1 (by omega)⟩
theorem refdrop_any (A : Option Addr) (n c : Nat) (t : List Row) (p : Pfx) (w : World) (ht : RT w A n c t) (ot : Oks t) (hpo : p.ok) (hn : n ≤ 100000) : Calls Tryd.prog 42 #[.agg (tabV A n c), .agg (pfxV p.v p.l p.b)] w fun e w' => ∃ A' n' c', e = .returned (.tuple #[.agg (tabV A' n' c'), .int .i64 (dropE t p)]) ∧ OT w' w.heap.size A' n' c' (dropL t p) ∧ Below w.heap.size w w' := by
  have hp := hpo.l
  have hblk1 := blk_new w (.cells (tabV A n c) 28)
  have hbel1 : Below w.heap.size w (w.alloc (.cells (tabV A n c) 28)) := below_alloc (Below.refl _ _) _
  have hblk2 := blk_new (w.alloc (.cells (tabV A n c) 28)) (.cells (pfxV p.v p.l p.b) 36)
  have hbel2 : Below w.heap.size w ((w.alloc (.cells (tabV A n c) 28)).alloc (.cells (pfxV p.v p.l p.b) 36)) := below_alloc (hbel1) _
  rw [show (w.alloc (.cells (tabV A n c) 28)).heap.size = w.heap.size + 1 by simp] at hblk2
  replace hblk1 := blk_below hblk1 (below_alloc (Below.refl _ _) (.cells (pfxV p.v p.l p.b) 36))
  have HP1 := Lib.hid (tab_at hblk1)
  have HBK1 := Lib.hid hblk1
  have HP2 := Lib.hid (pfx_at hp hblk2)
  have HBK2 := Lib.hid hblk2
  have HBE := Lib.hid hbel2
  obtain ⟨cs1, hcs1⟩ : ∃ cs, tabV A n c = cs := ⟨_, rfl⟩
  obtain ⟨cs2, hcs2⟩ : ∃ cs, pfxV p.v p.l p.b = cs := ⟨_, rfl⟩
  simp only [hcs1, hcs2] at HBE HP1 HP2 HBK1 HBK2 ⊢
  have HC1 := Lib.hid hcs1
  have HC2 := Lib.hid hcs2
  clear hcs1 hblk1 hbel1 hcs2 hblk2 hbel2
  have HT := Lib.hid (ht.below HBE.out)
  have OKS := Lib.hid ot
  have hsz2 : ((w.alloc (.cells cs1 28)).alloc (.cells cs2 36)).heap.size = w.heap.size + 2 := by simp
  have hz := blk_new ((w.alloc (.cells cs1 28)).alloc (.cells cs2 36)) (.cells (tabV none 0 0) 28)
  rw [hsz2] at hz
  have HZ := Lib.hid hz
  have hl1 := (HP1.out.all _ (below_alloc (Below.refl _ _) (.cells (tabV none 0 0) 28))).1
  rw [HC1.out] at hl1
  have hbn := run_build_tab_nil
  clear ht ot hz hsz2
  go_enter Tryd.func42, Tryd.ntmps42
  go_wp2_with (first | ((with_reducible show wpList _ _ _ (Oper.mk _ (Op.load _ _) _ _ _ _ :: _) _ _); refine wpList_load_g hl1 _ rfl rfl (by go_simp) ?_))
  have hch := refRight_any A n c t _ (HT.out.below (below_alloc (Below.refl _ _) (.cells (tabV none 0 0) 28))) OKS.out (by omega)
  rw [HC1.out] at hch
  refine hch.mono ?_
  clear hch
  rintro e w1 ⟨rfl, hbb1⟩
  have HZ1 := Lib.hid (blk_below HZ.out hbb1)
  have HB1 := Lib.hid (below_step (below_alloc (Below.refl _ _) (.cells (tabV none 0 0) 28)) hbb1)
  clear hbb1 hl1 HZ
  cases hR : tabB t with
  | false =>
    have HE := Lib.hid (show dropE t p = 190 ∧ dropL t p = [] by unfold dropL dropE; rw [hR]; exact ⟨rfl, rfl⟩)
    clear hR
    go_wp2_with (first | ((with_reducible show wpList _ _ _ (Oper.mk _ (Op.store _ _ _) _ _ _ _ :: _) _ _); refine wpList_store_blk HZ1.out 28 0 (tabV none 0 0) (Nat.le_refl _) (info_tab _ _ _) (tab_one _ _ _) _ _ rfl rfl rfl rfl ?_; intro w2 hg9 hs9 hb9; rw [splice_tab] at hb9; have H2 := Lib.hid (And.intro hg9 hb9); clear hg9 hs9 hb9))
    have hld := load_tab H2.out.2
    refine bodyPost_ret (results_c2 rfl rfl hld) rfl ?_
    rw [HE.out.1, HE.out.2]
    exact ⟨_, _, _, rfl, OS.nil _ _ _, below_grown (below_step HBE.out HB1.out) H2.out.1 (by omega)⟩
  | true =>
    have HR := Lib.hid hR
    clear hR
    have hl1 := (HP1.out.all w1 HB1.out).1
    have hl2 := (HP2.out.all w1 HB1.out).2.2.2.2
    rw [HC1.out] at hl1
    rw [HC2.out] at hl2
    go_wp2_with (first | ((with_reducible show wpList _ _ _ (Oper.mk _ (Op.load _ _) _ _ _ _ :: _) _ _); refine wpList_load_g hl1 _ rfl rfl (by go_simp) ?_) | ((with_reducible show wpList _ _ _ (Oper.mk _ (Op.load _ _) _ _ _ _ :: _) _ _); refine wpList_load_g hl2 _ rfl rfl (by go_simp) ?_))
    have hpl := refget_any A n c t p w1 (HT.out.below HB1.out) OKS.out hpo hn
    rw [HC1.out, HC2.out] at hpl
    refine hpl.mono ?_
    clear hpl
    rintro e w3 ⟨rfl, hbb3⟩
    have HZ3 := Lib.hid (blk_below HZ1.out hbb3)
    have HB3 := Lib.hid (below_step HB1.out hbb3)
    have hgt : getR t p = getT t p := getR_get hp HT.out.fits (tabB_to HR.out).2.2
    rw [hgt]
    have HGZ := Lib.hid (getT_zero (p := p) HR.out)
    clear hbb3 hl1 hl2 HZ1 HB1 hgt
    cases hth : thereB t p with
    | false =>
      have HE := Lib.hid (show dropE t p = 4 ∧ dropL t p = [] by unfold dropL dropE; rw [HR.out, hth]; exact ⟨rfl, rfl⟩)
      rw [HGZ.out.2 hth]
      clear hth
      go_wp2_with (first | ((with_reducible show wpList _ _ _ (Oper.mk _ (Op.store _ _ _) _ _ _ _ :: _) _ _); refine wpList_store_blk HZ3.out 28 0 (tabV none 0 0) (Nat.le_refl _) (info_tab _ _ _) (tab_one _ _ _) _ _ rfl rfl rfl rfl ?_; intro w4 hg9 hs9 hb9; rw [splice_tab] at hb9; have H4 := Lib.hid (And.intro hg9 hb9); clear hg9 hs9 hb9))
      have hld := load_tab H4.out.2
      refine bodyPost_ret (results_c2 rfl rfl hld) rfl ?_
      rw [HE.out.1, HE.out.2]
      exact ⟨_, _, _, rfl, OS.nil _ _ _, below_grown (below_step HBE.out HB3.out) H4.out.1 (by omega)⟩
    | true =>
      have HE := Lib.hid (show dropE t p = 0 ∧ dropL t p = putR p 0 true t by
        have h3 : dropE t p = 0 := by unfold dropE; rw [HR.out, hth]; rfl
        unfold dropL
        rw [h3, if_pos rfl, dropR hp HT.out.fits (tabB_to HR.out).2.2 hth]
        exact ⟨rfl, rfl⟩)
      have hg0 : (getT t p == 0) = false := by
        have : ¬ getT t p = 0 := fun hh => by rw [HGZ.out.1 hh] at hth; cases hth
        simpa using this
      have hl1 := (HP1.out.all w3 HB3.out).1
      have hl2 := (HP2.out.all w3 HB3.out).2.2.2.2
      rw [HC1.out] at hl1
      rw [HC2.out] at hl2
      clear hth
      go_wp2_with (first | ((with_reducible show wpList _ _ _ (Oper.mk _ (Op.load _ _) _ _ _ _ :: _) _ _); refine wpList_load_g hl1 _ rfl rfl (by go_simp) ?_) | ((with_reducible show wpList _ _ _ (Oper.mk _ (Op.load _ _) _ _ _ _ :: _) _ _); refine wpList_load_g hl2 _ rfl rfl (by go_simp) ?_))
      have hpl := refput_any A n c t p 0 w3 (HT.out.below HB3.out) OKS.out hpo hn
      rw [HC1.out, HC2.out] at hpl
      refine hpl.mono ?_
      clear hpl
      rintro e w4 ⟨A4, n4, c4, rfl, hO4, hb4⟩
      have HZ4 := Lib.hid (blk_below HZ3.out hb4)
      have HO4 := Lib.hid hO4
      have HB4 := Lib.hid (below_step HB3.out hb4)
      have HLT := Lib.hid (blk_lt HZ3.out)
      clear hb4 hO4
      go_wp2_with (first | ((with_reducible show wpList _ _ _ (Oper.mk _ (Op.store _ _ _) _ _ _ _ :: _) _ _); refine wpList_store_blk HZ4.out 28 0 (tabV A4 n4 c4) (Nat.le_refl _) (info_tab _ _ _) (tab_one _ _ _) _ _ rfl rfl rfl rfl ?_; intro w5 hg9 hs9 hb9; rw [splice_tab] at hb9; have H5 := Lib.hid (And.intro hg9 hb9); clear hg9 hs9 hb9))
      have hld := load_tab H5.out.2
      refine bodyPost_ret (results_c2 rfl rfl hld) rfl ?_
      rw [HE.out.1, HE.out.2]
      refine ⟨_, _, _, rfl, (HO4.out.grown H5.out.1 (fun ad e hh => by have := HO4.out.base_ ad e; injection hh with hh; have := HLT.out; omega)).lower (by have := HLT.out; omega), below_grown (below_step HBE.out HB4.out) H5.out.1 (by omega)⟩
end Go.Proofs.YtihfaknflfmohaaDoor

/- Layer 5 (prefix): Bit; the document's Bit. -/
namespace Go.Proofs.YtihfaknflfmohaaDoor
open Go.RowKit
set_option linter.unusedVariables false
set_option linter.unusedSimpArgs false
set_option maxRecDepth 4000

end Go.Proofs.YtihfaknflfmohaaDoor

/- Layer 5 (prefix): Nibble; the document's Nibble. -/
namespace Go.Proofs.YtihfaknflfmohaaDoor
open Go.RowKit
set_option linter.unusedVariables false
set_option linter.unusedSimpArgs false
set_option maxRecDepth 4000

theorem bits_and15 (x : Int) (h0 : 0 ≤ x) (h1 : x < 256) : bits .and .u8 x 15 = x % 16 := bits_mask .u8 8 (by decide) wraps_u8 4 (by decide) x h0 h1
end Go.Proofs.YtihfaknflfmohaaDoor

/- Layer 5 (prefix): EncodeAddr, Encode; the document's bytes. -/
namespace Go.Proofs.YtihfaknflfmohaaDoor
open Go.RowKit
set_option linter.unusedVariables false
set_option linter.unusedSimpArgs false
set_option maxRecDepth 4000

def encA (v : Int) (l : List Int) : List Int := v % 256 :: l.take (widthA v / 8)
def encAE (v : Int) (l : List Int) : List Int := if rightA v l then encA v l else []
def encPE (p : Pfx) : List Int := if p.right then encP p else []
theorem encAE_no {v : Int} {l : List Int} (h : rightA v l = false) : encAE v l = [] := by unfold encAE; rw [h]; rfl
theorem encAE_yes {v : Int} {l : List Int} (h : rightA v l = true) : encAE v l = encA v l := by unfold encAE; rw [h]; rfl
theorem encPE_no {p : Pfx} (h : p.right = false) : encPE p = [] := by unfold encPE; rw [h]; rfl
theorem encPE_yes {p : Pfx} (h : p.right = true) : encPE p = encP p := by unfold encPE; rw [h]; rfl
theorem encA_bytes {v : Int} {l : List Int} (hl : B16 l) : Bytes (encA v l) := fun x hx => by
  rcases List.mem_cons.1 hx with rfl | h
  · omega
  · exact hl.rng x (List.mem_of_mem_take h)
theorem encP_bytes {p : Pfx} (hl : B16 p.l) : Bytes (encP p) := fun x hx => by
  rcases List.mem_cons.1 hx with rfl | h
  · omega
  · rcases List.mem_cons.1 h with rfl | h
    · omega
    · exact hl.rng x (List.mem_of_mem_take h)
theorem full_any (b : Int) (w : World) (h0 : 0 ≤ b) (h1 : b ≤ 128) : Calls Tryd.prog 119 #[.int .i64 b] w fun e w' => e = .returned (.int .i64 ((b + 7) / 8)) ∧ w = w' := by
  go_enter Tryd.func119, Tryd.ntmps119
  go_wp2
  go_ret
  exact ⟨rfl, rfl⟩
theorem rb_adr {w : World} {g : Nat} {t : TypeId} {v : Int} {l : List Int} (hl : B16 l) (h : w.heap[g]? = some (.cells (adrV v l) t (0, 0))) : RB w (some ⟨g, 1, none⟩) 16 16 l :=
  ⟨⟨by simp [nums, hl.len], Nat.le_refl _, by omega, fun _ => ⟨_, rfl, fun j u hj => by
    have hlt := (List.getElem?_eq_some_iff.1 hj).1
    simp only [nums, List.length_map, hl.len] at hlt
    rw [nums_get _ _ _ (by rw [hl.len]; exact hlt)] at hj
    rw [add_spot _ rfl, ← hj]
    exact adr_b h j (by rw [hl.len]; exact hlt)⟩⟩, hl.rng⟩
theorem OB.two (W : World) (x y : Int) (hx : 0 ≤ x ∧ x < 256) (hy : 0 ≤ y ∧ y < 256) (base : Nat) (hb : base ≤ W.heap.size) : OB (W.alloc (.cells #[.int .u8 x, .int .u8 y] 5)) base (some ⟨W.heap.size, 0, none⟩) 2 2 [x, y] :=
  OB.new W base [x, y] hb (by simp) (fun z hz => by simp at hz; omega)
theorem OB.one (W : World) (x : Int) (hx : 0 ≤ x ∧ x < 256) (base : Nat) (hb : base ≤ W.heap.size) : OB (W.alloc (.cells #[.int .u8 x] 5)) base (some ⟨W.heap.size, 0, none⟩) 1 1 [x] :=
  OB.new W base [x] hb (by simp) (fun z hz => by simp at hz; omega)

set_option maxHeartbeats 2000000 in
theorem encode_any (p : Pfx) (w : World) (hL : Laid w) (hp : B16 p.l) : Calls Tryd.prog 95 #[.agg (pfxV p.v p.l p.b)] w fun e w' => ∃ A n c, e = .returned (.tuple #[.slice A n c, .int .i64 (errP p.v p.l p.b)]) ∧ OB w' w.heap.size A n c (encPE p) ∧ Below w.heap.size w w' := by
  have hblk1 := blk_new w (.cells (pfxV p.v p.l p.b) 36)
  have hbel1 : Below w.heap.size w (w.alloc (.cells (pfxV p.v p.l p.b) 36)) := below_alloc (Below.refl _ _) _
  have HP1 := Lib.hid (pfx_at hp hblk1)
  have HBK1 := Lib.hid hblk1
  have HBE := Lib.hid hbel1
  have HL := Lib.hid (hL.below HBE.out)
  obtain ⟨cs1, hcs1⟩ : ∃ cs, pfxV p.v p.l p.b = cs := ⟨_, rfl⟩
  simp only [hcs1] at HBE HL HP1 HBK1 ⊢
  have HC1 := Lib.hid hcs1
  clear hL hcs1 hblk1 hbel1
  have hla := (HP1.out.all _ (Below.refl _ _)).2.2.2.2
  go_enter Tryd.func95, Tryd.ntmps95
  go_wp2_with ((with_reducible show wpList _ _ _ (Oper.mk _ (Op.load _ _) _ _ _ _ :: _) _ _); refine wpList_load_g hla _ rfl rfl (by go_simp) ?_)
  refine (check_any p.v p.l p.b _ HL.out hp).mono ?_
  rintro e w1 ⟨rfl, hbb1⟩
  have HB1 := Lib.hid hbb1
  clear hbb1 hla
  cases hR : rightP p.v p.l p.b with
  | false =>
    have HE := Lib.hid (encPE_no (p := p) hR)
    have HE2 := Lib.hid (errP_false hR)
    rw [HE2.out]
    clear hR
    go_wp2
    go_ret2
    rw [HE.out, HE2.out]
    exact ⟨_, _, _, rfl, OB.nil _ _, below_step HBE.out HB1.out⟩
  | true =>
    have HY := Lib.hid (encPE_yes (p := p) hR)
    have HE2 := Lib.hid (errP_true hR)
    rw [HE2.out]
    have hb0 := (p.right_iff.1 hR).2.1
    have hb1 : p.b ≤ 128 := by have := (p.right_iff.1 hR).2.2.1; have := widthA_le p.v; omega
    clear hR
    go_wp2_with fail
    have hfq := fun w0 => full_any p.b w0 hb0 hb1
    have hkb := blk_below HBK1.out HB1.out
    rw [← HC1.out] at hkb
    have HRB := Lib.hid (rb_pfx hp hkb)
    obtain ⟨k, hk⟩ : ∃ k, fullB p.b = k := ⟨_, rfl⟩
    have hkk : (p.b + 7) / 8 = (k : Int) := by rw [← hk]; unfold fullB; omega
    have HE : Hid (encP p = p.v % 256 :: p.b % 256 :: p.l.take k) := by unfold encP; rw [hk]; exact rfl
    have hk16 : (k : Int) ≤ 16 := by omega
    have hk0 : 0 ≤ (k : Int) := by omega
    have hv8 : IntKind.u8.wrap p.v = p.v % 256 := by simp [IntKind.wrap, IntKind.bits, IntKind.signed]
    have hv9 : IntKind.u8.wrap p.b = p.b % 256 := by simp [IntKind.wrap, IntKind.bits, IntKind.signed]
    rw [hkk] at hfq
    clear hkb hk hkk hb0 hb1
    refine wp_region_mix (fun w0 => Below (w1).heap.size (w1) w0) [(0, 0), (1, 0), (2, 0), (3, 0), (4, 0), (5, 0), (6, 0), (8, 0), (9, 0), (10, 0), (11, 0), (12, 0), (13, 0), (7, 2), (14, 2), (15, 0), (16, 0)] (by kernel_rfl) (by kernel_rfl) (below_drew1 _) ?_
    simp only [List.map_cons, List.map_nil]
    iterate 2 (refine wpO_step0 rfl rfl (fun K hK => ?_); go_simp; refine hK _ _ ?_; clear hK K)
    refine wpO_loadW (t := 3) (ad := ⟨w.heap.size, 0, none⟩) rfl rfl ?hw rfl rfl ((fun w0 hS => (HP1.out.all w0 (below_step HB1.out hS)).2.2.1)) ?_
    case hw => go_simp
    iterate 2 (refine wpO_step0 rfl rfl (fun K hK => ?_); go_simp; refine hK _ _ ?_; clear hK K)
    refine wpO_loadW (t := 3) (ad := ⟨w.heap.size, 17, none⟩) rfl rfl ?hw rfl rfl ((fun w0 hS => (HP1.out.all w0 (below_step HB1.out hS)).2.1)) ?_
    case hw => go_simp
    iterate 4 (refine wpO_step0 rfl rfl (fun K hK => ?_); go_simp; refine hK _ _ ?_; clear hK K)
    refine wpO_loadW (t := 3) (ad := ⟨w.heap.size, 17, none⟩) rfl rfl ?hw rfl rfl ((fun w0 hS => (HP1.out.all w0 (below_step HB1.out hS)).2.1)) ?_
    case hw => go_simp
    refine wpO_quiet rfl rfl ?hw Tryd.func119 (by kernel_rfl) (by kernel_rfl) rfl rfl (fun w0 hS => hfq w0) ?_
    case hw => go_simp
    iterate 1 (refine wpO_step0 rfl rfl (fun K hK => ?_); go_simp; refine hK _ _ ?_; clear hK K)
    refine wpO_step2 rfl rfl (below_drew1 _) (fun K hK => ?_)
    go_simp
    have hsz := HB1.out.size
    simp at hsz
    have HO := Lib.hid ((OB.two w1 (p.v % 256) (p.b % 256) (by omega) (by omega) w.heap.size (by omega)).below (below_drew1 _))
    refine hK _ _ ⟨(below_alloc (Below.refl _ _) _).drew, ?_⟩
    clear hK K
    have HR := Lib.hid ((HRB.out.take k (by omega)).below (below_step (below_alloc (Below.refl _ _) (.cells #[.int .u8 (p.v % 256), .int .u8 (p.b % 256)] 5)) (below_drew1 _)))
    refine wpO_step2 rfl rfl ((below_alloc (Below.refl _ _) _).drew) (fun K hK => ?_)
    rw [if_pos (show Region.wanted _ _ = true from rfl)]
    refine oper_append_bytes (.tmp 17) (.tmp 23) rfl rfl rfl HO.out HR.out (by simp; omega) (by omega) ?_
    intro A3 c3 w3 h1 h2 h3
    have hb3 : Below w1.heap.size w1 w3 := (below_step (below_alloc (Below.refl _ _) (.cells #[.int .u8 (p.v % 256), .int .u8 (p.b % 256)] 5)) (below_drew1 _)).grown h2 (by simp) (own_row (fun ad e => by injection e with e; rw [← e]; exact Nat.le_refl _))
    have H3 := Lib.hid (And.intro h1 hb3)
    clear h1 h2 h3 hb3
    refine hK _ _ ⟨H3.out.2, ?_⟩
    clear hK K
    iterate 2 (refine wpO_step0 rfl rfl (fun K hK => ?_); go_simp; refine hK _ _ ?_; clear hK K)
    refine wpO_nil ?_
    go_wp2
    go_ret2
    rw [HY.out, HE.out, HE2.out]
    exact ⟨_, _, _, rfl, H3.out.1, below_step HBE.out (below_step HB1.out H3.out.2)⟩

set_option maxHeartbeats 2000000 in
theorem refbytes_any (p : Pfx) (w : World) (hp : B16 p.l) (hb0 : 0 ≤ p.b) (hb1 : p.b ≤ 128) : Calls Tryd.prog 97 #[.agg (pfxV p.v p.l p.b)] w fun e w' => ∃ A n c, e = .returned (.slice A n c) ∧ OB w' w.heap.size A n c (encP p) ∧ Below w.heap.size w w' := by
  have hblk1 := blk_new w (.cells (pfxV p.v p.l p.b) 36)
  have hbel1 : Below w.heap.size w (w.alloc (.cells (pfxV p.v p.l p.b) 36)) := below_alloc (Below.refl _ _) _
  have HP1 := Lib.hid (pfx_at hp hblk1)
  have HBK1 := Lib.hid hblk1
  have HBE := Lib.hid hbel1
  obtain ⟨cs1, hcs1⟩ : ∃ cs, pfxV p.v p.l p.b = cs := ⟨_, rfl⟩
  simp only [hcs1] at HBE HP1 HBK1 ⊢
  have HC1 := Lib.hid hcs1
  clear hcs1 hblk1 hbel1
  have hlv := (HP1.out.all _ (Below.refl _ _)).2.2.1
  have hlw := (HP1.out.all _ (Below.refl _ _)).2.1
  have hob := OB.two (w.alloc (.cells cs1 36)) (p.v % 256) (p.b % 256) (by omega) (by omega) (w.heap.size + 1) (by simp)
  have hv8 : IntKind.u8.wrap p.v = p.v % 256 := by simp [IntKind.wrap, IntKind.bits, IntKind.signed]
  have hv9 : IntKind.u8.wrap p.b = p.b % 256 := by simp [IntKind.wrap, IntKind.bits, IntKind.signed]
  rw [show (w.alloc (.cells cs1 36)).heap.size = w.heap.size + 1 by simp] at hob
  have HOB := Lib.hid hob
  clear hob
  go_enter Tryd.func97, Tryd.ntmps97
  go_wp2_with (first | ((with_reducible show wpList _ _ _ (Oper.mk _ (Op.load _ _) _ _ _ _ :: _) _ _); refine wpList_load_g hlv _ rfl rfl (by go_simp) ?_) | ((with_reducible show wpList _ _ _ (Oper.mk _ (Op.load _ _) _ _ _ _ :: _) _ _); refine wpList_load_g hlw _ rfl rfl (by go_simp) ?_))
  clear hv8 hlv hlw hv9
  obtain ⟨nb, hnb⟩ : ∃ nb, fullB p.b = nb := ⟨_, rfl⟩
  have hbb : (p.b + 7) / 8 = (nb : Int) := by rw [← hnb]; unfold fullB; omega
  have hn16 : nb ≤ 16 := by omega
  have HE : Hid (encP p = p.v % 256 :: p.b % 256 :: p.l.take nb) := by unfold encP; rw [hnb]; exact rfl
  have HBB := Lib.hid hbb
  clear hbb hnb
  go_loopw [3, 4] (fun x i wr => ∃ (k : Nat) (A : Option Addr) (c : Nat), i = .int .i64 k ∧ x = .slice A (2 + k) c ∧ Hid (k ≤ nb ∧ OB wr (w.heap.size + 1) A (2 + k) c (p.v % 256 :: p.b % 256 :: p.l.take k) ∧ Below (w.alloc (.cells cs1 36)).heap.size (w.alloc (.cells cs1 36)) wr)) (fun _ i _ => 16 - (intOf i).toNat)
  case atStart => exact ⟨0, _, 2, rfl, rfl, Nat.zero_le _, HOB.out, below_alloc (Below.refl _ _) _⟩
  case round =>
    obtain ⟨k, A, c, rfl, rfl, HH⟩ := hrel
    clear HOB
    have hk := HH.out.1
    have hlv := (HP1.out.all wr HH.out.2.2).2.1
    have hsz := HH.out.2.2.size
    simp at hsz
    by_cases hlt : k < nb
    · have hlt' : (k : Int) < (p.b + 7) / 8 := by rw [HBB.out]; omega
      have hk16 : k < 16 := by omega
      have hkb := blk_below HBK1.out HH.out.2.2
      rw [← HC1.out] at hkb
      have hc := pfx_byte hp hkb k hk16
      have hr := hp.rd (k : Int)
      clear hkb
      go_wp2_with (first | ((with_reducible show wpList _ _ _ (Oper.mk _ (Op.load _ _) _ _ _ _ :: _) _ _); refine wpList_load_g hlv _ rfl rfl (by go_simp) ?_) | (at_builtin; refine wpList_append_bytes rfl (.tmp 21) (.tmp 27) rfl rfl rfl (HH.out.2.1.below (below_alloc (Below.refl _ _) _)) (RB.one _ _ hr.1 hr.2) (by simp; omega) (by omega) ?_; intro A3 c3 w3 h1 h2 h3; have H3 := Lib.hid (And.intro h1 ((HH.out.2.2.alloc HH.out.2.2.size _).grown h2 (by simp; omega) (own_row (fun ad e => by have := HH.out.2.1.base_ ad e; simpa using this)))); clear h1 h2 h3))
      go_roundw
      case measure => simp [intOf]; omega
      case rel =>
        refine ⟨k + 1, A3, c3, by go_num, rfl, by omega, ?_, H3.out.2⟩
        have e := H3.out.1
        rw [List.cons_append, List.cons_append, ← take_rd p.l k (by rw [hp.len]; exact hk16)] at e
        exact e
    · obtain rfl : k = nb := by omega
      have hm1 : decide ((k : Int) < (p.b + 7) / 8) = false := decide_eq_false (by rw [HBB.out]; omega)
      clear hlt hk
      go_wp2_with ((with_reducible show wpList _ _ _ (Oper.mk _ (Op.load _ _) _ _ _ _ :: _) _ _); refine wpList_load_g hlv _ rfl rfl (by go_simp) ?_)
      go_ret
      rw [HE.out]
      exact ⟨_, _, _, rfl, HH.out.2.1.lower (by omega), below_step HBE.out HH.out.2.2⟩
end Go.Proofs.YtihfaknflfmohaaDoor
