/- Layer 5: the walk of PrefixOrders. -/
import Derived.Test.YtcloepjeckbmoaaDoorPfxLaw2
import Derived.Outline
namespace Go.Proofs.YtcloepjeckbmoaaDoor
open Go.RowKit
set_option linter.unusedVariables false
set_option linter.unusedSimpArgs false

/-- What the walk of PrefixOrders knows: the answers, and how they go together. -/
structure OrdFacts (p q r : Pfx) (pp pq qp qr pr : Bool) (cpq cqp cqr cpr : Int) (hp hq : Bool) : Prop where
  epp : p.holds p = pp
  epq : p.holds q = pq
  eqp : q.holds p = qp
  eqr : q.holds r = qr
  epr : p.holds r = pr
  dpq : p.cmp q = cpq
  dqp : q.cmp p = cqp
  dqr : q.cmp r = cqr
  dpr : p.cmp r = cpr
  ehp : p.has r.v r.l = hp
  ehq : q.has r.v r.l = hq
  refl : pp = true
  anti : pq = true → qp = true → p = q
  trans : pq = true → qr = true → pr = true
  hc : pq = true → cpq ≤ 0
  c0 : cpq = 0 ↔ p = q
  cn : cpq = - cqp
  ct : cpq < 0 → cqr < 0 → cpr < 0
  tot : hp = true → hq = true → pq = true ∨ qp = true
  rng : -1 ≤ cqp ∧ cqp ≤ 1
theorem cmpI_range : ∀ xs ys : List Int, -1 ≤ cmpI xs ys ∧ cmpI xs ys ≤ 1
  | [], [] => by simp [cmpI]
  | [], _ :: _ => by simp [cmpI]
  | _ :: _, [] => by simp [cmpI]
  | a :: u, b :: v => by
    have ih := cmpI_range u v
    simp only [cmpI]
    split
    · omega
    · split
      · omega
      · exact ih
theorem ord_facts (p q r : Pfx) (hp : B16 p.l) (hq : B16 q.l) (hr : B16 r.l) (rp : p.right = true) : OrdFacts p q r (p.holds p) (p.holds q) (q.holds p) (q.holds r) (p.holds r) (p.cmp q) (q.cmp p) (q.cmp r) (p.cmp r) (p.has r.v r.l) (q.has r.v r.l) where
  epp := rfl
  epq := rfl
  eqp := rfl
  eqr := rfl
  epr := rfl
  dpq := rfl
  dqp := rfl
  dqr := rfl
  dpr := rfl
  ehp := rfl
  ehq := rfl
  refl := p.holds_refl hp rp
  anti := p.holds_anti q hp hq
  trans := p.holds_trans q r hp hq hr
  hc := p.holds_cmp q hp hq
  c0 := p.cmp_zero q hp hq
  cn := p.cmp_neg q
  ct := p.cmp_trans q r
  tot := p.has_total q r.v r.l hp hq hr
  rng := cmpI_range _ _
theorem wpList_exec_g {P : Program} {ops : Array Oper} {rest : List Oper} {o : Oper} {a : Act} {Q : Exit → Act → World → Prop} {W w' : World} {v : Value} (hrun : (execOp a.eval o).run P W = .ok (.value v) w') (hw : Region.wanted o (yielded ops a.tmps) = true) (h : wpList P ops Q rest (a.put o.dst v) w') : wpList P ops Q (o :: rest) a W := by
  refine wpList_step (fun K hK => ?_)
  rw [if_pos hw]
  unfold Oper.wp
  rw [hrun]
  exact hK _ _ h
theorem holds_wrong2 {p q : Pfx} (h : q.right = false) : p.holds q = false := by unfold Pfx.holds; rw [h]; rfl
theorem holds_wrong1 {p q : Pfx} (h : p.right = false) : p.holds q = false := by
  unfold Pfx.holds Pfx.has
  rw [h]
  cases q.right <;> cases decide (p.b ≤ q.b) <;> rfl
theorem wrongP {p : Pfx} (h : p.right = false) : errP p.v p.l p.b = 151 := errP_false h
theorem rightP' {p : Pfx} (h : p.right = true) : errP p.v p.l p.b = 0 := errP_true h
set_option maxRecDepth 100000 in
set_option maxHeartbeats 8000000 in
theorem prefixOrders_any (p q r : Pfx) (w : World) (hL : Laid w) (hpo : p.ok) (hqo : q.ok) (hro : r.ok) :
    Calls Tryd.prog 9 #[.agg (pfxV p.v p.l p.b), .agg (pfxV q.v q.l q.b), .agg (pfxV r.v r.l r.b)] w fun e w' => e = .returned (.bool true) ∧ Below w.heap.size w w' := by
  have hp := hpo.l
  have hq := hqo.l
  have hr := hro.l
  have hblk1 := blk_new w (.cells (pfxV p.v p.l p.b) 26)
  have hbel1 : Below w.heap.size w (w.alloc (.cells (pfxV p.v p.l p.b) 26)) := below_alloc (Below.refl _ _) _
  have hblk2 := blk_new (w.alloc (.cells (pfxV p.v p.l p.b) 26)) (.cells (pfxV q.v q.l q.b) 26)
  have hbel2 : Below w.heap.size w ((w.alloc (.cells (pfxV p.v p.l p.b) 26)).alloc (.cells (pfxV q.v q.l q.b) 26)) := below_alloc (hbel1) _
  rw [show (w.alloc (.cells (pfxV p.v p.l p.b) 26)).heap.size = w.heap.size + 1 by simp] at hblk2
  replace hblk1 := blk_below hblk1 (below_alloc (Below.refl _ _) (.cells (pfxV q.v q.l q.b) 26))
  have hblk3 := blk_new ((w.alloc (.cells (pfxV p.v p.l p.b) 26)).alloc (.cells (pfxV q.v q.l q.b) 26)) (.cells (pfxV r.v r.l r.b) 26)
  have hbel3 : Below w.heap.size w (((w.alloc (.cells (pfxV p.v p.l p.b) 26)).alloc (.cells (pfxV q.v q.l q.b) 26)).alloc (.cells (pfxV r.v r.l r.b) 26)) := below_alloc (hbel2) _
  rw [show ((w.alloc (.cells (pfxV p.v p.l p.b) 26)).alloc (.cells (pfxV q.v q.l q.b) 26)).heap.size = w.heap.size + 2 by simp] at hblk3
  replace hblk1 := blk_below hblk1 (below_alloc (Below.refl _ _) (.cells (pfxV r.v r.l r.b) 26))
  replace hblk2 := blk_below hblk2 (below_alloc (Below.refl _ _) (.cells (pfxV r.v r.l r.b) 26))
  have HP1 := Lib.hid (pfx_at hp hblk1)
  have HBK1 := Lib.hid hblk1
  have HP2 := Lib.hid (pfx_at hq hblk2)
  have HBK2 := Lib.hid hblk2
  have HP3 := Lib.hid (pfx_at hr hblk3)
  have HBK3 := Lib.hid hblk3
  have HBE := Lib.hid hbel3
  have HL := Lib.hid (hL.below HBE.out)
  obtain ⟨cs1, hcs1⟩ : ∃ cs, pfxV p.v p.l p.b = cs := ⟨_, rfl⟩
  obtain ⟨cs2, hcs2⟩ : ∃ cs, pfxV q.v q.l q.b = cs := ⟨_, rfl⟩
  obtain ⟨cs3, hcs3⟩ : ∃ cs, pfxV r.v r.l r.b = cs := ⟨_, rfl⟩
  simp only [hcs1, hcs2, hcs3] at HBE HL HP1 HP2 HP3 HBK1 HBK2 HBK3 ⊢
  have HC1 := Lib.hid hcs1
  have HC2 := Lib.hid hcs2
  have HC3 := Lib.hid hcs3
  clear hL hcs1 hblk1 hbel1 hcs2 hblk2 hbel2 hcs3 hblk3 hbel3
  go_enter Tryd.func9, Tryd.ntmps9
  go_wp2_with fail
  refine (wakes05_any _ HL.out).mono ?_
  rintro e w1 ⟨rfl, hbb1⟩
  have HB1 := Lib.hid hbb1
  have hlp := (HP1.out.all w1 hbb1).2.2.2.2
  clear hbb1
  go_wp2_with (refine wpList_load_g hlp _ rfl rfl (by go_simp) ?_)
  refine (check_any p.v p.l p.b w1 (HL.out.below HB1.out) hp).mono ?_
  rintro e w2 ⟨rfl, hb2⟩
  have HB2 := Lib.hid (below_step HB1.out hb2)
  clear hb2 hlp
  by_cases rp : p.right = true
  · rw [rightP' rp]
    have hlq := (HP2.out.all w2 HB2.out).2.2.2.2
    go_wp2_with (refine wpList_load_g hlq _ rfl rfl (by go_simp) ?_)
    refine (check_any q.v q.l q.b w2 (HL.out.below HB2.out) hq).mono ?_
    rintro e w3 ⟨rfl, hb3⟩
    have HB3 := Lib.hid (below_step HB2.out hb3)
    clear hb3 hlq
    by_cases rq : q.right = true
    · rw [rightP' rq]
      have hlr := (HP3.out.all w3 HB3.out).2.2.2.2
      go_wp2_with (refine wpList_load_g hlr _ rfl rfl (by go_simp) ?_)
      refine (check_any r.v r.l r.b w3 (HL.out.below HB3.out) hr).mono ?_
      rintro e w4 ⟨rfl, hb4⟩
      have HB4 := Lib.hid (below_step HB3.out hb4)
      clear hb4 hlr
      by_cases rr : r.right = true
      · rw [rightP' rr]
        obtain ⟨pp, pq, qp, qr, pr, cpq, cqp, cqr, cpr, hap, haq, hF⟩ : ∃ pp pq qp qr pr cpq cqp cqr cpr hap haq, OrdFacts p q r pp pq qp qr pr cpq cqp cqr cpr hap haq := ⟨_, _, _, _, _, _, _, _, _, _, _, ord_facts p q r hp hq hr rp⟩
        have HF := Lib.hid hF
        clear hF rp rq rr
        go_upto_region 5 with fail
        go_cut [32] (fun s wx => s = .bool false ∧ Hid (Below (((w.alloc (.cells cs1 26)).alloc (.cells cs2 26)).alloc (.cells cs3 26)).heap.size (((w.alloc (.cells cs1 26)).alloc (.cells cs2 26)).alloc (.cells cs3 26)) wx))
        case first =>
          have hlp := (HP1.out.all w4 HB4.out).2.2.2.2
          have hlq := (HP1.out.all w4 HB4.out).2.2.2.2
          go_wp2_with (first | (refine wpList_load_g hlp _ rfl rfl (by go_simp) ?_) | (refine wpList_load_g hlq _ rfl rfl (by go_simp) ?_))
          refine (holds_any p p w4 (HL.out.below HB4.out) hp hp).mono ?_
          rintro e w5 ⟨rfl, hb7⟩
          have HB5 := Lib.hid (below_step HB4.out hb7)
          clear hb7 hlp hlq
          rw [HF.out.epp, HF.out.refl]
          have hlp := (HP1.out.all w5 HB5.out).2.2.2.2
          have hlq := (HP2.out.all w5 HB5.out).2.2.2.2
          go_wp2_with (first | (refine wpList_load_g hlp _ rfl rfl (by go_simp) ?_) | (refine wpList_load_g hlq _ rfl rfl (by go_simp) ?_))
          refine (holds_any p q w5 (HL.out.below HB5.out) hp hq).mono ?_
          rintro e w6 ⟨rfl, hb7⟩
          have HB6 := Lib.hid (below_step HB5.out hb7)
          clear hb7 hlp hlq
          rw [HF.out.epq]
          cases hpq : pq with
          | false =>
            go_wp2_with fail
            go_meet
            exact ⟨rfl, HB6.out⟩
          | true =>
            subst hpq
            have hlp := (HP2.out.all w6 HB6.out).2.2.2.2
            have hlq := (HP1.out.all w6 HB6.out).2.2.2.2
            go_wp2_with (first | (refine wpList_load_g hlp _ rfl rfl (by go_simp) ?_) | (refine wpList_load_g hlq _ rfl rfl (by go_simp) ?_))
            refine (holds_any q p w6 (HL.out.below HB6.out) hq hp).mono ?_
            rintro e w7 ⟨rfl, hb7⟩
            have HB7 := Lib.hid (below_step HB6.out hb7)
            clear hb7 hlp hlq
            rw [HF.out.eqp]
            cases hqp : qp with
            | false =>
              go_wp2_with fail
              go_meet
              exact ⟨rfl, HB7.out⟩
            | true =>
              subst hqp
              have hl1 := (HP1.out.all w7 HB7.out).2.2.2.2
              have hl2 := (HP2.out.all w7 HB7.out).2.2.2.2
              have hpq2 : (!p.eqB q) = false := by rw [(p.eqB_iff q).2 (HF.out.anti rfl rfl)]; rfl
              go_wp2_with (first | (refine wpList_load_g hl1 _ rfl rfl (by go_simp) ?_) | (refine wpList_load_g hl2 _ rfl rfl (by go_simp) ?_) | (refine wpList_exec_g (pfx_neq_exec rfl p q rfl rfl hpo hqo _) (by go_simp) ?_))
              go_meet
              exact ⟨rfl, HB7.out⟩
        case rest =>
          obtain ⟨rfl, HB5⟩ := hcut
          obtain ⟨w5, hw5⟩ : ∃ w5, wc = w5 := ⟨_, rfl⟩
          subst hw5
          go_upto_region 7 with fail
          go_cut [52] (fun s wx => s = .bool false ∧ Hid (Below (((w.alloc (.cells cs1 26)).alloc (.cells cs2 26)).alloc (.cells cs3 26)).heap.size (((w.alloc (.cells cs1 26)).alloc (.cells cs2 26)).alloc (.cells cs3 26)) wx))
          case first =>
            have hlp := (HP1.out.all wc HB5.out).2.2.2.2
            have hlq := (HP2.out.all wc HB5.out).2.2.2.2
            go_wp2_with (first | (refine wpList_load_g hlp _ rfl rfl (by go_simp) ?_) | (refine wpList_load_g hlq _ rfl rfl (by go_simp) ?_))
            refine (holds_any p q wc (HL.out.below HB5.out) hp hq).mono ?_
            rintro e w6 ⟨rfl, hb7⟩
            have HB6 := Lib.hid (below_step HB5.out hb7)
            clear hb7 hlp hlq
            rw [HF.out.epq]
            cases hpq : pq with
            | false =>
              go_wp2_with fail
              go_meet
              exact ⟨rfl, HB6.out⟩
            | true =>
              subst hpq
              have hlp := (HP2.out.all w6 HB6.out).2.2.2.2
              have hlq := (HP3.out.all w6 HB6.out).2.2.2.2
              go_wp2_with (first | (refine wpList_load_g hlp _ rfl rfl (by go_simp) ?_) | (refine wpList_load_g hlq _ rfl rfl (by go_simp) ?_))
              refine (holds_any q r w6 (HL.out.below HB6.out) hq hr).mono ?_
              rintro e w7 ⟨rfl, hb7⟩
              have HB7 := Lib.hid (below_step HB6.out hb7)
              clear hb7 hlp hlq
              rw [HF.out.eqr]
              cases hqr : qr with
              | false =>
                go_wp2_with fail
                go_meet
                exact ⟨rfl, HB7.out⟩
              | true =>
                subst hqr
                have hlp := (HP1.out.all w7 HB7.out).2.2.2.2
                have hlq := (HP3.out.all w7 HB7.out).2.2.2.2
                go_wp2_with (first | (refine wpList_load_g hlp _ rfl rfl (by go_simp) ?_) | (refine wpList_load_g hlq _ rfl rfl (by go_simp) ?_))
                refine (holds_any p r w7 (HL.out.below HB7.out) hp hr).mono ?_
                rintro e w8 ⟨rfl, hb7⟩
                have HB8 := Lib.hid (below_step HB7.out hb7)
                clear hb7 hlp hlq
                rw [HF.out.epr, HF.out.trans rfl rfl]
                go_wp2_with fail
                go_meet
                exact ⟨rfl, HB8.out⟩
          case rest =>
            obtain ⟨rfl, HB6⟩ := hcut
            go_upto_region 9 with fail
            go_cut [67] (fun s wx => s = .bool false ∧ Hid (Below (((w.alloc (.cells cs1 26)).alloc (.cells cs2 26)).alloc (.cells cs3 26)).heap.size (((w.alloc (.cells cs1 26)).alloc (.cells cs2 26)).alloc (.cells cs3 26)) wx))
            case first =>
              have hlp := (HP1.out.all wc HB6.out).2.2.2.2
              have hlq := (HP2.out.all wc HB6.out).2.2.2.2
              go_wp2_with (first | (refine wpList_load_g hlp _ rfl rfl (by go_simp) ?_) | (refine wpList_load_g hlq _ rfl rfl (by go_simp) ?_))
              refine (holds_any p q wc (HL.out.below HB6.out) hp hq).mono ?_
              rintro e w6 ⟨rfl, hb7⟩
              have HB7 := Lib.hid (below_step HB6.out hb7)
              clear hb7 hlp hlq
              rw [HF.out.epq]
              cases hpq : pq with
              | false =>
                go_wp2_with fail
                go_meet
                exact ⟨rfl, HB7.out⟩
              | true =>
                subst hpq
                have hle : decide (0 < cpq) = false := decide_eq_false (by have := HF.out.hc rfl; omega)
                have hlp := (HP1.out.all w6 HB7.out).2.2.2.2
                have hlq := (HP2.out.all w6 HB7.out).2.2.2.2
                go_wp2_with (first | (refine wpList_load_g hlp _ rfl rfl (by go_simp) ?_) | (refine wpList_load_g hlq _ rfl rfl (by go_simp) ?_))
                refine (compare_any p q w6 hp hq).mono ?_
                rintro e w7 ⟨rfl, hb7⟩
                have HB8 := Lib.hid (below_step HB7.out hb7)
                clear hb7 hlp hlq
                rw [HF.out.dpq]
                go_wp2_with fail
                go_meet
                exact ⟨rfl, HB8.out⟩
            case rest =>
              obtain ⟨rfl, HB7⟩ := hcut
              go_upto_region 11 with fail
              go_cut [77] (fun s wx => s = .bool false ∧ Hid (Below (((w.alloc (.cells cs1 26)).alloc (.cells cs2 26)).alloc (.cells cs3 26)).heap.size (((w.alloc (.cells cs1 26)).alloc (.cells cs2 26)).alloc (.cells cs3 26)) wx))
              case first =>
                obtain ⟨ee, hee⟩ : ∃ ee, p.eqB q = ee := ⟨_, rfl⟩
                have hce : (cpq == 0) = ee := by
                  rw [← hee, Bool.eq_iff_iff, Pfx.eqB_iff, ← HF.out.c0]
                  simp
                have HEE := Lib.hid hee
                have hcn := HF.out.cn
                have hrg := HF.out.rng
                have hng : IntKind.i64.wrap (-cqp) = -cqp := IntWalk.i64_in _ (by omega)
                have hcb : (cpq != -cqp) = false := by rw [hcn]; simp
                clear hee hcn hrg
                refine wp_region_mix ((fun w0 => Below (((w.alloc (.cells cs1 26)).alloc (.cells cs2 26)).alloc (.cells cs3 26)).heap.size (((w.alloc (.cells cs1 26)).alloc (.cells cs2 26)).alloc (.cells cs3 26)) w0)) [(0, 0), (1, 0), (4, 0), (5, 0), (6, 0), (2, 2), (3, 0), (7, 0), (8, 0), (9, 0), (10, 0), (12, 0), (13, 0), (11, 2), (14, 2), (15, 0), (16, 0), (17, 0), (18, 0)] (by kernel_rfl) (by kernel_rfl) ((below_step HB7.out (below_drew1 _))) ?_
                simp only [List.map_cons, List.map_nil]
                refine wpO_loadW (t := 26) (ad := ⟨w.heap.size, 0, none⟩) rfl rfl ?hw rfl rfl ((fun w0 hS => (HP1.out.all w0 hS).2.2.2.2)) ?_
                case hw => go_simp
                refine wpO_loadW (t := 26) (ad := ⟨(w.heap.size+1), 0, none⟩) rfl rfl ?hw rfl rfl ((fun w0 hS => (HP2.out.all w0 hS).2.2.2.2)) ?_
                case hw => go_simp
                refine wpO_loadW (t := 26) (ad := ⟨w.heap.size, 0, none⟩) rfl rfl ?hw rfl rfl ((fun w0 hS => (HP1.out.all w0 hS).2.2.2.2)) ?_
                case hw => go_simp
                refine wpO_loadW (t := 26) (ad := ⟨(w.heap.size+1), 0, none⟩) rfl rfl ?hw rfl rfl ((fun w0 hS => (HP2.out.all w0 hS).2.2.2.2)) ?_
                case hw => go_simp
                refine wpO_step0 rfl rfl (fun K hK => ?_)
                rw [if_pos (show Region.wanted _ _ = true from rfl)]
                refine ⟨_, fun w0 => pfx_eql_exec rfl p q rfl rfl hpo hqo w0, hK _ _ ?_⟩
                clear hK K
                rw [HEE.out]
                refine wpO_step2 rfl rfl (below_step HB7.out (below_drew1 _)) (fun K hK => ?_)
                go_simp
                refine (compare_any p q _ hp hq).mono ?_
                rintro e w7 ⟨rfl, hb7⟩
                have HB8 := Lib.hid (below_step (below_step HB7.out (below_drew1 _)) hb7)
                clear hb7
                rw [HF.out.dpq]
                refine hK _ _ ⟨HB8.out, ?_⟩
                clear hK K
                iterate 3 (refine wpO_step0 rfl rfl (fun K hK => ?_); go_simp; refine hK _ _ ?_; clear hK K)
                refine wpO_loadW (t := 26) (ad := ⟨w.heap.size, 0, none⟩) rfl rfl ?hw rfl rfl ((fun w0 hS => (HP1.out.all w0 hS).2.2.2.2)) ?_
                case hw => go_simp
                refine wpO_loadW (t := 26) (ad := ⟨(w.heap.size+1), 0, none⟩) rfl rfl ?hw rfl rfl ((fun w0 hS => (HP2.out.all w0 hS).2.2.2.2)) ?_
                case hw => go_simp
                refine wpO_loadW (t := 26) (ad := ⟨(w.heap.size+1), 0, none⟩) rfl rfl ?hw rfl rfl ((fun w0 hS => (HP2.out.all w0 hS).2.2.2.2)) ?_
                case hw => go_simp
                refine wpO_loadW (t := 26) (ad := ⟨w.heap.size, 0, none⟩) rfl rfl ?hw rfl rfl ((fun w0 hS => (HP1.out.all w0 hS).2.2.2.2)) ?_
                case hw => go_simp
                refine wpO_step2 rfl rfl (HB8.out) (fun K hK => ?_)
                go_simp
                refine (compare_any p q _ hp hq).mono ?_
                rintro e w8 ⟨rfl, hb7⟩
                have HB9 := Lib.hid (below_step (HB8.out) hb7)
                clear hb7
                rw [HF.out.dpq]
                refine hK _ _ ⟨HB9.out, ?_⟩
                clear hK K
                refine wpO_step2 rfl rfl (HB9.out) (fun K hK => ?_)
                go_simp
                refine (compare_any q p _ hq hp).mono ?_
                rintro e w9 ⟨rfl, hb7⟩
                have HB10 := Lib.hid (below_step (HB9.out) hb7)
                clear hb7
                rw [HF.out.dqp]
                refine hK _ _ ⟨HB10.out, ?_⟩
                clear hK K
                iterate 4 (refine wpO_step0 rfl rfl (fun K hK => ?_); go_simp; refine hK _ _ ?_; clear hK K)
                refine wpO_nil ?_
                go_wp2_with fail
                go_meet
                exact ⟨rfl, HB10.out⟩
              case rest =>
                obtain ⟨rfl, HB8⟩ := hcut
                go_upto_region 13 with fail
                go_cut [96] (fun s wx => s = .bool false ∧ Hid (Below (((w.alloc (.cells cs1 26)).alloc (.cells cs2 26)).alloc (.cells cs3 26)).heap.size (((w.alloc (.cells cs1 26)).alloc (.cells cs2 26)).alloc (.cells cs3 26)) wx))
                case first =>
                  have hlp := (HP1.out.all wc HB8.out).2.2.2.2
                  have hlq := (HP2.out.all wc HB8.out).2.2.2.2
                  go_wp2_with (first | (refine wpList_load_g hlp _ rfl rfl (by go_simp) ?_) | (refine wpList_load_g hlq _ rfl rfl (by go_simp) ?_))
                  refine (compare_any p q wc hp hq).mono ?_
                  rintro e w6 ⟨rfl, hb7⟩
                  have HB9 := Lib.hid (below_step HB8.out hb7)
                  clear hb7 hlp hlq
                  rw [HF.out.dpq]
                  by_cases h1 : cpq < 0
                  · have hlp := (HP2.out.all w6 HB9.out).2.2.2.2
                    have hlq := (HP3.out.all w6 HB9.out).2.2.2.2
                    go_wp2_with (first | (refine wpList_load_g hlp _ rfl rfl (by go_simp) ?_) | (refine wpList_load_g hlq _ rfl rfl (by go_simp) ?_))
                    refine (compare_any q r w6 hq hr).mono ?_
                    rintro e w7 ⟨rfl, hb7⟩
                    have HB10 := Lib.hid (below_step HB9.out hb7)
                    clear hb7 hlp hlq
                    rw [HF.out.dqr]
                    by_cases h2 : cqr < 0
                    · have h3 : decide (0 ≤ cpr) = false := decide_eq_false (by have := HF.out.ct h1 h2; omega)
                      have hlp := (HP1.out.all w7 HB10.out).2.2.2.2
                      have hlq := (HP3.out.all w7 HB10.out).2.2.2.2
                      go_wp2_with (first | (refine wpList_load_g hlp _ rfl rfl (by go_simp) ?_) | (refine wpList_load_g hlq _ rfl rfl (by go_simp) ?_))
                      refine (compare_any p r w7 hp hr).mono ?_
                      rintro e w8 ⟨rfl, hb7⟩
                      have HB11 := Lib.hid (below_step HB10.out hb7)
                      clear hb7 hlp hlq
                      rw [HF.out.dpr]
                      go_wp2_with fail
                      go_meet
                      exact ⟨rfl, HB11.out⟩
                    · have h2' : decide (cqr < 0) = false := decide_eq_false h2
                      go_wp2_with fail
                      go_meet
                      exact ⟨rfl, HB10.out⟩
                  · have h1' : decide (cpq < 0) = false := decide_eq_false h1
                    go_wp2_with fail
                    go_meet
                    exact ⟨rfl, HB9.out⟩
                case rest =>
                  obtain ⟨rfl, HB9⟩ := hcut
                  have hlp := (HP1.out.all wc HB9.out).2.2.2.2
                  have hla := (HP3.out.all wc HB9.out).1
                  go_wp2_with (first | (refine wpList_load_g hlp _ rfl rfl (by go_simp) ?_) | (refine wpList_load_g hla _ rfl rfl (by go_simp) ?_))
                  refine (has_any p r.v r.l wc (HL.out.below HB9.out) hp hr).mono ?_
                  rw [HF.out.ehp]
                  rintro e w6 ⟨rfl, hb7⟩
                  have HB10 := Lib.hid (below_step HB9.out hb7)
                  clear hb7 hlp hla
                  cases hha : hap with
                  | false =>
                    go_wp2
                    go_ret
                    exact ⟨rfl, below_step HBE.out HB10.out⟩
                  | true =>
                    subst hha
                    have hlp := (HP2.out.all w6 HB10.out).2.2.2.2
                    have hla := (HP3.out.all w6 HB10.out).1
                    go_wp2_with (first | (refine wpList_load_g hlp _ rfl rfl (by go_simp) ?_) | (refine wpList_load_g hla _ rfl rfl (by go_simp) ?_))
                    refine (has_any q r.v r.l w6 (HL.out.below HB10.out) hq hr).mono ?_
                    rw [HF.out.ehq]
                    rintro e w7 ⟨rfl, hb7⟩
                    have HB11 := Lib.hid (below_step HB10.out hb7)
                    clear hb7 hlp hla
                    cases hhq : haq with
                    | false =>
                      go_wp2
                      go_ret
                      exact ⟨rfl, below_step HBE.out HB11.out⟩
                    | true =>
                      subst hhq
                      have hlp := (HP1.out.all w7 HB11.out).2.2.2.2
                      have hlq := (HP2.out.all w7 HB11.out).2.2.2.2
                      go_wp2_with (first | (refine wpList_load_g hlp _ rfl rfl (by go_simp) ?_) | (refine wpList_load_g hlq _ rfl rfl (by go_simp) ?_))
                      refine (holds_any p q w7 (HL.out.below HB11.out) hp hq).mono ?_
                      rintro e w8 ⟨rfl, hb7⟩
                      have HB12 := Lib.hid (below_step HB11.out hb7)
                      clear hb7 hlp hlq
                      rw [HF.out.epq]
                      cases hpq : pq with
                      | true =>
                        go_wp2
                        go_ret
                        exact ⟨rfl, below_step HBE.out HB12.out⟩
                      | false =>
                        subst hpq
                        have hlp := (HP2.out.all w8 HB12.out).2.2.2.2
                        have hlq := (HP1.out.all w8 HB12.out).2.2.2.2
                        go_wp2_with (first | (refine wpList_load_g hlp _ rfl rfl (by go_simp) ?_) | (refine wpList_load_g hlq _ rfl rfl (by go_simp) ?_))
                        refine (holds_any q p w8 (HL.out.below HB12.out) hq hp).mono ?_
                        rintro e w9 ⟨rfl, hb7⟩
                        have HB13 := Lib.hid (below_step HB12.out hb7)
                        clear hb7 hlp hlq
                        rw [HF.out.eqp, (HF.out.tot rfl rfl).resolve_left (by simp)]
                        go_wp2
                        go_ret
                        exact ⟨rfl, below_step HBE.out HB13.out⟩
      · have rr' : r.right = false := by simpa using rr
        have HQR := Lib.hid (holds_wrong2 (p := q) rr')
        rw [wrongP rr']
        clear rr rr' rp rq
        have hlp := (HP1.out.all w4 HB4.out).2.2.2.2
        have hlq := (HP2.out.all w4 HB4.out).2.2.2.2
        go_wp2_with (first | (refine wpList_load_g hlp _ rfl rfl (by go_simp) ?_) | (refine wpList_load_g hlq _ rfl rfl (by go_simp) ?_))
        refine (holds_any p q w4 (HL.out.below HB4.out) hp hq).mono ?_
        rintro e w5 ⟨rfl, hb7⟩
        have HB5 := Lib.hid (below_step HB4.out hb7)
        clear hb7 hlp hlq
        cases hpq : p.holds q with
        | false =>
          clear hpq
          go_wp2
          go_ret
          exact ⟨rfl, below_step HBE.out HB5.out⟩
        | true =>
          clear hpq
          have hlp := (HP2.out.all w5 HB5.out).2.2.2.2
          have hlq := (HP3.out.all w5 HB5.out).2.2.2.2
          go_wp2_with (first | (refine wpList_load_g hlp _ rfl rfl (by go_simp) ?_) | (refine wpList_load_g hlq _ rfl rfl (by go_simp) ?_))
          refine (holds_any q r w5 (HL.out.below HB5.out) hq hr).mono ?_
          rintro e w6 ⟨rfl, hb7⟩
          have HB6 := Lib.hid (below_step HB5.out hb7)
          clear hb7 hlp hlq
          rw [HQR.out]
          go_wp2
          go_ret
          exact ⟨rfl, below_step HBE.out HB6.out⟩
    · have rq' : q.right = false := by simpa using rq
      have HPQ := Lib.hid (holds_wrong2 (p := p) rq')
      rw [wrongP rq']
      clear rq rq' rp
      have hlp := (HP1.out.all w3 HB3.out).2.2.2.2
      have hlq := (HP2.out.all w3 HB3.out).2.2.2.2
      go_wp2_with (first | (refine wpList_load_g hlp _ rfl rfl (by go_simp) ?_) | (refine wpList_load_g hlq _ rfl rfl (by go_simp) ?_))
      refine (holds_any p q w3 (HL.out.below HB3.out) hp hq).mono ?_
      rintro e w5 ⟨rfl, hb7⟩
      have HB5 := Lib.hid (below_step HB3.out hb7)
      clear hb7 hlp hlq
      rw [HPQ.out]
      go_wp2
      go_ret
      exact ⟨rfl, below_step HBE.out HB5.out⟩
  · have rp' : p.right = false := by simpa using rp
    have HPQ := Lib.hid (holds_wrong1 (q := q) rp')
    rw [wrongP rp']
    clear rp rp'
    go_upto_region 4 with fail
    have hlp := (HP1.out.all w2 HB2.out).2.2.2.2
    have hlq := (HP2.out.all w2 HB2.out).2.2.2.2
    go_wp2_with (first | (refine wpList_load_g hlp _ rfl rfl (by go_simp) ?_) | (refine wpList_load_g hlq _ rfl rfl (by go_simp) ?_))
    refine (holds_any p q w2 (HL.out.below HB2.out) hp hq).mono ?_
    rintro e w5 ⟨rfl, hb7⟩
    have HB5 := Lib.hid (below_step HB2.out hb7)
    clear hb7 hlp hlq
    rw [HPQ.out]
    go_wp2
    go_ret
    exact ⟨rfl, below_step HBE.out HB5.out⟩
end Go.Proofs.YtcloepjeckbmoaaDoor
