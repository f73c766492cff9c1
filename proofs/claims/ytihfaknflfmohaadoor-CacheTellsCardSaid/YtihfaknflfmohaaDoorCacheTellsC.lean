/- Layer 27 (cache): Check. -/
import Derived.IntWalk
import Derived.Maps.Own
import Derived.Test.YtihfaknflfmohaaDoorCacheTellsA
import Derived.Test.YtihfaknflfmohaaDoorCacheTellsB
namespace Go.Proofs.YtihfaknflfmohaaDoor
open Go.RowKit
set_option linter.unusedVariables false
set_option linter.unusedSimpArgs false
set_option maxRecDepth 4000
def cacE (x : Cac) (es : List Ent) : Int := if cacB x es then 0 else 370
theorem cacE_true {x : Cac} {es : List Ent} (h : cacB x es = true) : cacE x es = 0 := by unfold cacE; rw [h]; rfl
theorem cacE_false {x : Cac} {es : List Ent} (h : cacB x es = false) : cacE x es = 370 := by unfold cacE; rw [h]; rfl
theorem metB_true {es : List Ent} {j : Nat} {e : Ent} (h : metB es j e.v e.l = true) : ∃ k, k < j ∧ sameA (entAt es k) e = true := by
  unfold metB at h
  rw [List.any_eq_true] at h
  obtain ⟨k, hk, h2⟩ := h
  exact ⟨k, List.mem_range.1 hk, h2⟩
theorem metB_false {es : List Ent} {j : Nat} {e : Ent} (h : metB es j e.v e.l = false) : ∀ k, k < j → sameA (entAt es k) e = false := by
  intro k hk
  unfold metB at h
  rw [List.any_eq_false] at h
  have := h k (List.mem_range.2 hk)
  cases hs : sameA (entAt es k) e with
  | false => rfl
  | true => exact absurd hs this
theorem Met.below {w w1 : World} {b j : Nat} {es : List Ent} (h : Met w b es j) (hb : Below w.heap.size w w1) : Met w1 b es j := by
  obtain ⟨D, h1, h2⟩ := h
  exact ⟨D, h1.kept (grown_of_below hb none) (by simp), h2⟩
theorem exec_lookup {r : Operand → Value} {o : Oper} {x k : Operand} {w : World} {b : Nat} {kv v : Value} (ho : o.op = .lookup MapT x k false) (hx : r x = .map (some b)) (hk : r k = kv) (h : (Instr.lookup MapT (.map (some b)) kv false).run Tryd.prog w = .ok v w) : (execOp r o).run Tryd.prog w = .ok (.value v) w := by
  unfold execOp
  simp only [ho, hx, hk, Sem.run_bind, h, Result.andThen_ok, Sem.run_pure]
theorem wpList_met {ops : Array Oper} {rest : List Oper} {op : Oper} {a : Act} {Q : Exit → Act → World → Prop} {w : World} {b j : Nat} {es : List Ent} (hm : Met w b es j) (hj : j < maxLen) (he : (entAt es j).ok) (x k v : Operand)
    (ho : op.op = .mapUpdate MapT x k v) (hx : a.eval x = .map (some b)) (hk : a.eval k = .agg (adrV (entAt es j).v (entAt es j).l)) (hv : a.eval v = .bool true) (hw : Region.wanted op (yielded ops a.tmps) = true)
    (h : ∀ w', w.grownBy w' (some b) → Met w' b es (j + 1) → wpList Tryd.prog ops Q rest (a.put op.dst undef) w') : wpList Tryd.prog ops Q (op :: rest) a w := by
  obtain ⟨w', hr, h2, h3⟩ := met_upd hm hj he
  refine wpList_step (fun K hK => ?_)
  rw [if_pos hw]
  unfold Oper.wp execOp
  simp only [ho, hx, hk, hv, Sem.run_bind, hr, Result.andThen_ok, Sem.run_pure]
  exact hK _ _ (h w' h3 h2)
set_option maxRecDepth 100000 in
set_option maxHeartbeats 4000000 in
theorem ccheck_any (x : Cac) (es : List Ent) (w : World) (hL : Laid w) (he : RE w x.A x.n x.c es) (oe : Oke es) (hn : x.n ≤ 100000) : Calls Tryd.prog 32 #[.agg x.vv] w fun r w' => r = .returned (.int .i64 (cacE x es)) ∧ Below w.heap.size w w' := by
  have hblk1 := blk_new w (.cells (x.vv) 25)
  have hbel1 : Below w.heap.size w (w.alloc (.cells (x.vv) 25)) := below_alloc (Below.refl _ _) _
  have HP1 := Lib.hid (cac_at hblk1)
  have HBK1 := Lib.hid hblk1
  have HBE := Lib.hid hbel1
  have HL := Lib.hid (hL.below HBE.out)
  obtain ⟨cs1, hcs1⟩ : ∃ cs, x.vv = cs := ⟨_, rfl⟩
  simp only [hcs1] at HBE HL HP1 HBK1 ⊢
  have HC1 := Lib.hid hcs1
  clear hL hcs1 hblk1 hbel1
  have HE := Lib.hid (he.below HBE.out)
  have OE := Lib.hid oe
  have hl := HP1.out.all _ (Below.refl _ _)
  have hl1 := hl.room
  have hl2 := hl.ver
  have hl3 := hl.ents
  have hl4 := hl.hits
  have hl5 := hl.misses
  have hmm := @run_makeMap Tryd.prog
  clear he oe hl
  obtain ⟨room, ver, A, n, c, hits, misses⟩ := x
  simp only at *
  go_enter Tryd.func32, Tryd.ntmps32
  by_cases h1 : (room : Int) < 1
  · have h1b : decide ((room : Int) < 1) = true := decide_eq_true h1
    have HF := Lib.hid (cacE_false (show cacB ⟨room, ver, A, n, c, hits, misses⟩ es = false by unfold cacB headB; simp [h1]))
    go_wp2_with (first | ((with_reducible show wpList _ _ _ (Oper.mk _ (Op.load _ _) _ _ _ _ :: _) _ _); refine wpList_load_g hl1 _ rfl rfl (by go_simp) ?_) | ((with_reducible show wpList _ _ _ (Oper.mk _ (Op.load _ _) _ _ _ _ :: _) _ _); refine wpList_load_g hl2 _ rfl rfl (by go_simp) ?_) | ((with_reducible show wpList _ _ _ (Oper.mk _ (Op.load _ _) _ _ _ _ :: _) _ _); refine wpList_load_g hl3 _ rfl rfl (by go_simp) ?_) | ((with_reducible show wpList _ _ _ (Oper.mk _ (Op.load _ _) _ _ _ _ :: _) _ _); refine wpList_load_g hl4 _ rfl rfl (by go_simp) ?_) | ((with_reducible show wpList _ _ _ (Oper.mk _ (Op.load _ _) _ _ _ _ :: _) _ _); refine wpList_load_g hl5 _ rfl rfl (by go_simp) ?_))
    go_ret
    rw [HF.out]
    exact ⟨rfl, HBE.out⟩
  · have h1b : decide ((room : Int) < 1) = false := decide_eq_false h1
    by_cases h2 : (16 : Int) < room
    · have h2b : decide ((16 : Int) < room) = true := decide_eq_true h2
      have HF := Lib.hid (cacE_false (show cacB ⟨room, ver, A, n, c, hits, misses⟩ es = false by unfold cacB headB; simp [h2]))
      go_wp2_with (first | ((with_reducible show wpList _ _ _ (Oper.mk _ (Op.load _ _) _ _ _ _ :: _) _ _); refine wpList_load_g hl1 _ rfl rfl (by go_simp) ?_) | ((with_reducible show wpList _ _ _ (Oper.mk _ (Op.load _ _) _ _ _ _ :: _) _ _); refine wpList_load_g hl2 _ rfl rfl (by go_simp) ?_) | ((with_reducible show wpList _ _ _ (Oper.mk _ (Op.load _ _) _ _ _ _ :: _) _ _); refine wpList_load_g hl3 _ rfl rfl (by go_simp) ?_) | ((with_reducible show wpList _ _ _ (Oper.mk _ (Op.load _ _) _ _ _ _ :: _) _ _); refine wpList_load_g hl4 _ rfl rfl (by go_simp) ?_) | ((with_reducible show wpList _ _ _ (Oper.mk _ (Op.load _ _) _ _ _ _ :: _) _ _); refine wpList_load_g hl5 _ rfl rfl (by go_simp) ?_))
      go_ret
      rw [HF.out]
      exact ⟨rfl, HBE.out⟩
    · have h2b : decide ((16 : Int) < room) = false := decide_eq_false h2
      by_cases h3 : (4611686018427387904 : Int) < ver
      · have h3b : decide ((4611686018427387904 : Int) < ver) = true := decide_eq_true h3
        have HF := Lib.hid (cacE_false (show cacB ⟨room, ver, A, n, c, hits, misses⟩ es = false by unfold cacB headB; simp [h3]))
        go_wp2_with (first | ((with_reducible show wpList _ _ _ (Oper.mk _ (Op.load _ _) _ _ _ _ :: _) _ _); refine wpList_load_g hl1 _ rfl rfl (by go_simp) ?_) | ((with_reducible show wpList _ _ _ (Oper.mk _ (Op.load _ _) _ _ _ _ :: _) _ _); refine wpList_load_g hl2 _ rfl rfl (by go_simp) ?_) | ((with_reducible show wpList _ _ _ (Oper.mk _ (Op.load _ _) _ _ _ _ :: _) _ _); refine wpList_load_g hl3 _ rfl rfl (by go_simp) ?_) | ((with_reducible show wpList _ _ _ (Oper.mk _ (Op.load _ _) _ _ _ _ :: _) _ _); refine wpList_load_g hl4 _ rfl rfl (by go_simp) ?_) | ((with_reducible show wpList _ _ _ (Oper.mk _ (Op.load _ _) _ _ _ _ :: _) _ _); refine wpList_load_g hl5 _ rfl rfl (by go_simp) ?_))
        go_ret
        rw [HF.out]
        exact ⟨rfl, HBE.out⟩
      · have h3b : decide ((4611686018427387904 : Int) < ver) = false := decide_eq_false h3
        by_cases h4 : room < (n : Int)
        · have h4b : decide (room < (n : Int)) = true := decide_eq_true h4
          have HF := Lib.hid (cacE_false (show cacB ⟨room, ver, A, n, c, hits, misses⟩ es = false by unfold cacB headB; simp [h4]))
          go_wp2_with (first | ((with_reducible show wpList _ _ _ (Oper.mk _ (Op.load _ _) _ _ _ _ :: _) _ _); refine wpList_load_g hl1 _ rfl rfl (by go_simp) ?_) | ((with_reducible show wpList _ _ _ (Oper.mk _ (Op.load _ _) _ _ _ _ :: _) _ _); refine wpList_load_g hl2 _ rfl rfl (by go_simp) ?_) | ((with_reducible show wpList _ _ _ (Oper.mk _ (Op.load _ _) _ _ _ _ :: _) _ _); refine wpList_load_g hl3 _ rfl rfl (by go_simp) ?_) | ((with_reducible show wpList _ _ _ (Oper.mk _ (Op.load _ _) _ _ _ _ :: _) _ _); refine wpList_load_g hl4 _ rfl rfl (by go_simp) ?_) | ((with_reducible show wpList _ _ _ (Oper.mk _ (Op.load _ _) _ _ _ _ :: _) _ _); refine wpList_load_g hl5 _ rfl rfl (by go_simp) ?_))
          go_ret
          rw [HF.out]
          exact ⟨rfl, HBE.out⟩
        · have h4b : decide (room < (n : Int)) = false := decide_eq_false h4
          by_cases h5 : (4611686018427387904 : Int) < hits
          · have h5b : decide ((4611686018427387904 : Int) < hits) = true := decide_eq_true h5
            have HF := Lib.hid (cacE_false (show cacB ⟨room, ver, A, n, c, hits, misses⟩ es = false by unfold cacB headB; simp [h5]))
            go_wp2_with (first | ((with_reducible show wpList _ _ _ (Oper.mk _ (Op.load _ _) _ _ _ _ :: _) _ _); refine wpList_load_g hl1 _ rfl rfl (by go_simp) ?_) | ((with_reducible show wpList _ _ _ (Oper.mk _ (Op.load _ _) _ _ _ _ :: _) _ _); refine wpList_load_g hl2 _ rfl rfl (by go_simp) ?_) | ((with_reducible show wpList _ _ _ (Oper.mk _ (Op.load _ _) _ _ _ _ :: _) _ _); refine wpList_load_g hl3 _ rfl rfl (by go_simp) ?_) | ((with_reducible show wpList _ _ _ (Oper.mk _ (Op.load _ _) _ _ _ _ :: _) _ _); refine wpList_load_g hl4 _ rfl rfl (by go_simp) ?_) | ((with_reducible show wpList _ _ _ (Oper.mk _ (Op.load _ _) _ _ _ _ :: _) _ _); refine wpList_load_g hl5 _ rfl rfl (by go_simp) ?_))
            go_ret
            rw [HF.out]
            exact ⟨rfl, HBE.out⟩
          · have h5b : decide ((4611686018427387904 : Int) < hits) = false := decide_eq_false h5
            by_cases h6 : (4611686018427387904 : Int) < misses
            · have h6b : decide ((4611686018427387904 : Int) < misses) = true := decide_eq_true h6
              have HF := Lib.hid (cacE_false (show cacB ⟨room, ver, A, n, c, hits, misses⟩ es = false by unfold cacB headB; simp [h6]))
              go_wp2_with (first | ((with_reducible show wpList _ _ _ (Oper.mk _ (Op.load _ _) _ _ _ _ :: _) _ _); refine wpList_load_g hl1 _ rfl rfl (by go_simp) ?_) | ((with_reducible show wpList _ _ _ (Oper.mk _ (Op.load _ _) _ _ _ _ :: _) _ _); refine wpList_load_g hl2 _ rfl rfl (by go_simp) ?_) | ((with_reducible show wpList _ _ _ (Oper.mk _ (Op.load _ _) _ _ _ _ :: _) _ _); refine wpList_load_g hl3 _ rfl rfl (by go_simp) ?_) | ((with_reducible show wpList _ _ _ (Oper.mk _ (Op.load _ _) _ _ _ _ :: _) _ _); refine wpList_load_g hl4 _ rfl rfl (by go_simp) ?_) | ((with_reducible show wpList _ _ _ (Oper.mk _ (Op.load _ _) _ _ _ _ :: _) _ _); refine wpList_load_g hl5 _ rfl rfl (by go_simp) ?_))
              go_ret
              rw [HF.out]
              exact ⟨rfl, HBE.out⟩
            · have h6b : decide ((4611686018427387904 : Int) < misses) = false := decide_eq_false h6
              have HH : Hid (headB ⟨room, ver, A, n, c, hits, misses⟩ = true) := Lib.hid (by unfold headB; simp only [h1b, h2b, h3b, h4b, h5b, h6b]; rfl)
              have hl7 := (HP1.out.all _ (below_alloc (Below.refl (w.alloc (.cells cs1 25)).heap.size (w.alloc (.cells cs1 25))) (.map #[] 0))).ents
              go_wp2_with (first | ((with_reducible show wpList _ _ _ (Oper.mk _ (Op.load _ _) _ _ _ _ :: _) _ _); refine wpList_load_g hl1 _ rfl rfl (by go_simp) ?_) | ((with_reducible show wpList _ _ _ (Oper.mk _ (Op.load _ _) _ _ _ _ :: _) _ _); refine wpList_load_g hl2 _ rfl rfl (by go_simp) ?_) | ((with_reducible show wpList _ _ _ (Oper.mk _ (Op.load _ _) _ _ _ _ :: _) _ _); refine wpList_load_g hl3 _ rfl rfl (by go_simp) ?_) | ((with_reducible show wpList _ _ _ (Oper.mk _ (Op.load _ _) _ _ _ _ :: _) _ _); refine wpList_load_g hl4 _ rfl rfl (by go_simp) ?_) | ((with_reducible show wpList _ _ _ (Oper.mk _ (Op.load _ _) _ _ _ _ :: _) _ _); refine wpList_load_g hl5 _ rfl rfl (by go_simp) ?_) | ((with_reducible show wpList _ _ _ (Oper.mk _ (Op.load _ _) _ _ _ _ :: _) _ _); refine wpList_load_g hl7 _ rfl rfl (by go_simp) ?_))
              clear hl1 hl2 hl3 hl4 hl5 hl7 h1b h2b h3b h4b h5b h6b h1 h2 h3 h4 h5 h6 hmm
              go_loopw [41] (fun y wr => ∃ i : Nat, y = .int .i64 i ∧ Hid (i ≤ n ∧ (∀ j, j < i → entB (entAt es j) = true ∧ ∀ k, k < j → sameA (entAt es k) (entAt es j) = false) ∧ Met wr (w.heap.size + 1) es i ∧ Below (w.alloc (.cells cs1 25)).heap.size (w.alloc (.cells cs1 25)) wr)) (fun y _ => n - (intOf y).toNat)
              case atStart =>
                have hmz := met_zero (w.alloc (.cells cs1 25)) es
                rw [show (w.alloc (.cells cs1 25)).heap.size = w.heap.size + 1 by simp] at hmz
                exact ⟨0, rfl, Nat.zero_le _, fun j h => by omega, hmz, below_alloc (Below.refl _ _) _⟩
              case round =>
                obtain ⟨i, rfl, HI⟩ := hrel
                have HBR := Lib.hid (below_step HBE.out HI.out.2.2.2)
                by_cases hlt : i < n
                · have hlt' : (i : Int) < n := by omega
                  obtain ⟨b, o, rfl, hc⟩ := RS.at_ HE.out (by omega)
                  have HF := Lib.hid (RS.fits_at HE.out hlt)
                  have hent := (entLd_of HF.out ((hc i hlt).below HI.out.2.2.2)).ent
                  have HIL := Lib.hid (show i < es.length by rw [HE.out.len]; exact hlt)
                  clear hc
                  go_wp2_with (first | ((with_reducible show wpList _ _ _ (Oper.mk _ (Op.load _ _) _ _ _ _ :: _) _ _); refine wpList_load_g hent _ rfl rfl (by go_simp) ?_) | ((with_reducible show wpList _ _ _ (Oper.mk _ (Op.store _ _ _) _ _ _ _ :: _) _ _); refine wpList_store_blk (blk_new wr _) 43 0 (entV (entAt es i)) (store_ent_fit HF.out rfl) (info_ent HF.out) (entV_one _) _ _ rfl rfl rfl rfl ?_; intro w3 hg9 hs9 hb9; rw [splice_ent HF.out rfl] at hb9; have H3 := Lib.hid (And.intro hg9 hb9); clear hg9 hs9 hb9) | ((with_reducible show wpList _ _ _ (Oper.mk _ (Op.load _ _) _ _ _ _ :: _) _ _); refine wpList_load_g (((ent_at HF.out H3.out.2).all _ (Below.refl _ _)).ent) _ rfl rfl (by go_simp) ?_))
                  have HB3 := Lib.hid (below_grown (below_alloc (Below.refl wr.heap.size wr) (.cells (entV entZ) 43)) H3.out.1 (Nat.le_refl _))
                  refine (eright_any (entAt es i) w3 (HL.out.below (below_step HI.out.2.2.2 HB3.out)) (OE.out.at_ HIL.out)).mono ?_
                  rintro e w4 ⟨rfl, hb4⟩
                  have HB4 := Lib.hid (below_step HB3.out hb4)
                  have HX4 := Lib.hid (ent_at HF.out (blk_below H3.out.2 hb4))
                  have HM4 := Lib.hid (HI.out.2.2.1.below HB4.out)
                  have HBW4 := Lib.hid (below_step HBR.out HB4.out)
                  clear hb4 hent
                  cases hR : entB (entAt es i) with
                  | false =>
                    have HFF := Lib.hid (cacE_false (show cacB ⟨room, ver, some ⟨b, o, none⟩, n, c, hits, misses⟩ es = false by unfold cacB; rw [entsB_bad HIL.out hR, Bool.and_false]))
                    clear hR
                    go_wp2
                    go_ret
                    rw [HFF.out]
                    exact ⟨rfl, HBW4.out⟩
                  | true =>
                    have HR := Lib.hid hR
                    clear hR
                    have hla := (HX4.out.all _ (Below.refl _ _)).adr
                    have HE0 := Lib.hid (OE.out.at_ HIL.out)
                    cases hm : metB es i (entAt es i).v (entAt es i).l with
                    | true =>
                      obtain ⟨k, hki, hks⟩ := metB_true hm
                      have HFF := Lib.hid (cacE_false (show cacB ⟨room, ver, some ⟨b, o, none⟩, n, c, hits, misses⟩ es = false by unfold cacB; rw [entsB_dup HIL.out hki hks, Bool.and_false]))
                      have hlk := met_look HM4.out _ _ HE0.out.l HE0.out.v
                      rw [hm] at hlk
                      clear hm hks
                      go_wp2_with (first | ((with_reducible show wpList _ _ _ (Oper.mk _ (Op.load _ _) _ _ _ _ :: _) _ _); refine wpList_load_g hla _ rfl rfl (by go_simp) ?_) | ((with_reducible show wpList _ _ _ (Oper.mk _ (Op.lookup _ _ _ _) _ _ _ _ :: _) _ _); refine wpList_exw rfl (exec_lookup rfl rfl rfl hlk) ?_))
                      go_ret
                      rw [HFF.out]
                      exact ⟨rfl, HBW4.out⟩
                    | false =>
                      have HNM := Lib.hid (metB_false hm)
                      have hlk := met_look HM4.out _ _ HE0.out.l HE0.out.v
                      rw [hm] at hlk
                      clear hm
                      go_wp2_with (first | ((with_reducible show wpList _ _ _ (Oper.mk _ (Op.load _ _) _ _ _ _ :: _) _ _); refine wpList_load_g hla _ rfl rfl (by go_simp) ?_) | ((with_reducible show wpList _ _ _ (Oper.mk _ (Op.lookup _ _ _ _) _ _ _ _ :: _) _ _); refine wpList_exw rfl (exec_lookup rfl rfl rfl hlk) ?_) | (at_mapUpdate; refine wpList_met HM4.out (by unfold maxLen; omega) HE0.out _ _ _ rfl rfl rfl rfl rfl ?_; intro w5 hg5 hm5; have H5 := Lib.hid (And.intro hg5 hm5); clear hg5 hm5))
                      go_roundw
                      case measure => simp [intOf]; omega
                      case rel =>
                        refine ⟨i + 1, by go_num, by omega, fun j hj => ?_, H5.out.2, below_grown (below_step HI.out.2.2.2 HB4.out) H5.out.1 (by simp)⟩
                        by_cases hji : j < i
                        · exact HI.out.2.1 j hji
                        · have hje : j = i := by omega
                          subst hje
                          exact ⟨HR.out, HNM.out⟩
                · have hlt' : decide (i < n) = false := decide_eq_false hlt
                  have HT := Lib.hid (cacE_true (show cacB ⟨room, ver, A, n, c, hits, misses⟩ es = true by unfold cacB; rw [HH.out, entsB_true (fun j hj => HI.out.2.1 j (by rw [HE.out.len] at hj; omega))]; rfl))
                  clear hlt
                  go_wp2
                  go_ret
                  rw [HT.out]
                  exact ⟨rfl, HBR.out⟩
end Go.Proofs.YtihfaknflfmohaaDoor

/- Layer 27 (cache): Same, the document's and the program's. -/
namespace Go.Proofs.YtihfaknflfmohaaDoor
open Go.RowKit
set_option linter.unusedVariables false
set_option linter.unusedSimpArgs false
set_option maxRecDepth 4000
def cacSame (x : Cac) (es : List Ent) (y : Cac) (fs : List Ent) : Bool := decide (x.room = y.room) && decide (x.ver = y.ver) && decide (x.hits = y.hits) && decide (x.misses = y.misses) && entE.eqL es fs
theorem cacSame_iff {x y : Cac} {es fs : List Ent} : cacSame x es y fs = true ↔ x.room = y.room ∧ x.ver = y.ver ∧ x.hits = y.hits ∧ x.misses = y.misses ∧ es = fs := by
  unfold cacSame
  simp only [Bool.and_eq_true, decide_eq_true_eq, ShapeEq.eqL_iff]
  constructor
  · rintro ⟨⟨⟨⟨a, b⟩, c⟩, d⟩, e⟩
    exact ⟨a, b, c, d, e⟩
  · rintro ⟨a, b, c, d, e⟩
    exact ⟨⟨⟨⟨a, b⟩, c⟩, d⟩, e⟩
set_option maxRecDepth 100000 in
set_option maxHeartbeats 4000000 in
theorem refcsame_any (x : Cac) (es : List Ent) (y : Cac) (fs : List Ent) (w : World) (h1 : RE w x.A x.n x.c es) (h2 : RE w y.A y.n y.c fs) (o1 : Oke es) (o2 : Oke fs) (hn : x.n ≤ 100000) (hm : y.n ≤ 100000) : Calls Tryd.prog 20 #[.agg x.vv, .agg y.vv] w fun r w' => r = .returned (.bool (cacSame x es y fs)) ∧ Below w.heap.size w w' := by
  have hblk1 := blk_new w (.cells (x.vv) 25)
  have hbel1 : Below w.heap.size w (w.alloc (.cells (x.vv) 25)) := below_alloc (Below.refl _ _) _
  have hblk2 := blk_new (w.alloc (.cells (x.vv) 25)) (.cells (y.vv) 25)
  have hbel2 : Below w.heap.size w ((w.alloc (.cells (x.vv) 25)).alloc (.cells (y.vv) 25)) := below_alloc (hbel1) _
  rw [show (w.alloc (.cells (x.vv) 25)).heap.size = w.heap.size + 1 by simp] at hblk2
  replace hblk1 := blk_below hblk1 (below_alloc (Below.refl _ _) (.cells (y.vv) 25))
  have HP1 := Lib.hid (cac_at hblk1)
  have HBK1 := Lib.hid hblk1
  have HP2 := Lib.hid (cac_at hblk2)
  have HBK2 := Lib.hid hblk2
  have HBE := Lib.hid hbel2
  obtain ⟨cs1, hcs1⟩ : ∃ cs, x.vv = cs := ⟨_, rfl⟩
  obtain ⟨cs2, hcs2⟩ : ∃ cs, y.vv = cs := ⟨_, rfl⟩
  simp only [hcs1, hcs2] at HBE HP1 HP2 HBK1 HBK2 ⊢
  have HC1 := Lib.hid hcs1
  have HC2 := Lib.hid hcs2
  clear hcs1 hblk1 hbel1 hcs2 hblk2 hbel2
  have H1 := Lib.hid (h1.below HBE.out)
  have H2 := Lib.hid (h2.below HBE.out)
  have O1 := Lib.hid o1
  have O2 := Lib.hid o2
  have hl := HP1.out.all _ (Below.refl _ _)
  have hl1 := hl.room
  have hl2 := hl.ver
  have hl3 := hl.ents
  have hl4 := hl.hits
  have hl5 := hl.misses
  have hm := HP2.out.all _ (Below.refl _ _)
  have hm1 := hm.room
  have hm2 := hm.ver
  have hm3 := hm.ents
  have hm4 := hm.hits
  have hm5 := hm.misses
  clear h1 h2 o1 o2 hl hm
  obtain ⟨room, ver, A, n, c, hits, misses⟩ := x
  obtain ⟨room2, ver2, A2, n2, c2, hits2, misses2⟩ := y
  simp only at *
  go_enter Tryd.func20, Tryd.ntmps20
  by_cases hd0 : room = room2
  case neg =>
    have hb0 : (room == room2) = false := by simpa using hd0
    have HF := Lib.hid (show cacSame ⟨room, ver, A, n, c, hits, misses⟩ es ⟨room2, ver2, A2, n2, c2, hits2, misses2⟩ fs = false by rw [Bool.eq_false_iff]; intro h; exact hd0 (cacSame_iff.1 h).1)
    go_wp2_with (first | ((with_reducible show wpList _ _ _ (Oper.mk _ (Op.load _ _) _ _ _ _ :: _) _ _); refine wpList_load_g hl1 _ rfl rfl (by go_simp) ?_) | ((with_reducible show wpList _ _ _ (Oper.mk _ (Op.load _ _) _ _ _ _ :: _) _ _); refine wpList_load_g hl2 _ rfl rfl (by go_simp) ?_) | ((with_reducible show wpList _ _ _ (Oper.mk _ (Op.load _ _) _ _ _ _ :: _) _ _); refine wpList_load_g hl3 _ rfl rfl (by go_simp) ?_) | ((with_reducible show wpList _ _ _ (Oper.mk _ (Op.load _ _) _ _ _ _ :: _) _ _); refine wpList_load_g hl4 _ rfl rfl (by go_simp) ?_) | ((with_reducible show wpList _ _ _ (Oper.mk _ (Op.load _ _) _ _ _ _ :: _) _ _); refine wpList_load_g hl5 _ rfl rfl (by go_simp) ?_) | ((with_reducible show wpList _ _ _ (Oper.mk _ (Op.load _ _) _ _ _ _ :: _) _ _); refine wpList_load_g hm1 _ rfl rfl (by go_simp) ?_) | ((with_reducible show wpList _ _ _ (Oper.mk _ (Op.load _ _) _ _ _ _ :: _) _ _); refine wpList_load_g hm2 _ rfl rfl (by go_simp) ?_) | ((with_reducible show wpList _ _ _ (Oper.mk _ (Op.load _ _) _ _ _ _ :: _) _ _); refine wpList_load_g hm3 _ rfl rfl (by go_simp) ?_) | ((with_reducible show wpList _ _ _ (Oper.mk _ (Op.load _ _) _ _ _ _ :: _) _ _); refine wpList_load_g hm4 _ rfl rfl (by go_simp) ?_) | ((with_reducible show wpList _ _ _ (Oper.mk _ (Op.load _ _) _ _ _ _ :: _) _ _); refine wpList_load_g hm5 _ rfl rfl (by go_simp) ?_))
    go_ret
    rw [HF.out]
    exact ⟨rfl, HBE.out⟩
  subst hd0
  by_cases hd1 : ver = ver2
  case neg =>
    have hb1 : (ver == ver2) = false := by simpa using hd1
    have HF := Lib.hid (show cacSame ⟨room, ver, A, n, c, hits, misses⟩ es ⟨room, ver2, A2, n2, c2, hits2, misses2⟩ fs = false by rw [Bool.eq_false_iff]; intro h; exact hd1 (cacSame_iff.1 h).2.1)
    go_wp2_with (first | ((with_reducible show wpList _ _ _ (Oper.mk _ (Op.load _ _) _ _ _ _ :: _) _ _); refine wpList_load_g hl1 _ rfl rfl (by go_simp) ?_) | ((with_reducible show wpList _ _ _ (Oper.mk _ (Op.load _ _) _ _ _ _ :: _) _ _); refine wpList_load_g hl2 _ rfl rfl (by go_simp) ?_) | ((with_reducible show wpList _ _ _ (Oper.mk _ (Op.load _ _) _ _ _ _ :: _) _ _); refine wpList_load_g hl3 _ rfl rfl (by go_simp) ?_) | ((with_reducible show wpList _ _ _ (Oper.mk _ (Op.load _ _) _ _ _ _ :: _) _ _); refine wpList_load_g hl4 _ rfl rfl (by go_simp) ?_) | ((with_reducible show wpList _ _ _ (Oper.mk _ (Op.load _ _) _ _ _ _ :: _) _ _); refine wpList_load_g hl5 _ rfl rfl (by go_simp) ?_) | ((with_reducible show wpList _ _ _ (Oper.mk _ (Op.load _ _) _ _ _ _ :: _) _ _); refine wpList_load_g hm1 _ rfl rfl (by go_simp) ?_) | ((with_reducible show wpList _ _ _ (Oper.mk _ (Op.load _ _) _ _ _ _ :: _) _ _); refine wpList_load_g hm2 _ rfl rfl (by go_simp) ?_) | ((with_reducible show wpList _ _ _ (Oper.mk _ (Op.load _ _) _ _ _ _ :: _) _ _); refine wpList_load_g hm3 _ rfl rfl (by go_simp) ?_) | ((with_reducible show wpList _ _ _ (Oper.mk _ (Op.load _ _) _ _ _ _ :: _) _ _); refine wpList_load_g hm4 _ rfl rfl (by go_simp) ?_) | ((with_reducible show wpList _ _ _ (Oper.mk _ (Op.load _ _) _ _ _ _ :: _) _ _); refine wpList_load_g hm5 _ rfl rfl (by go_simp) ?_))
    go_ret
    rw [HF.out]
    exact ⟨rfl, HBE.out⟩
  subst hd1
  by_cases hd2 : hits = hits2
  case neg =>
    have hb2 : (hits == hits2) = false := by simpa using hd2
    have HF := Lib.hid (show cacSame ⟨room, ver, A, n, c, hits, misses⟩ es ⟨room, ver, A2, n2, c2, hits2, misses2⟩ fs = false by rw [Bool.eq_false_iff]; intro h; exact hd2 (cacSame_iff.1 h).2.2.1)
    go_wp2_with (first | ((with_reducible show wpList _ _ _ (Oper.mk _ (Op.load _ _) _ _ _ _ :: _) _ _); refine wpList_load_g hl1 _ rfl rfl (by go_simp) ?_) | ((with_reducible show wpList _ _ _ (Oper.mk _ (Op.load _ _) _ _ _ _ :: _) _ _); refine wpList_load_g hl2 _ rfl rfl (by go_simp) ?_) | ((with_reducible show wpList _ _ _ (Oper.mk _ (Op.load _ _) _ _ _ _ :: _) _ _); refine wpList_load_g hl3 _ rfl rfl (by go_simp) ?_) | ((with_reducible show wpList _ _ _ (Oper.mk _ (Op.load _ _) _ _ _ _ :: _) _ _); refine wpList_load_g hl4 _ rfl rfl (by go_simp) ?_) | ((with_reducible show wpList _ _ _ (Oper.mk _ (Op.load _ _) _ _ _ _ :: _) _ _); refine wpList_load_g hl5 _ rfl rfl (by go_simp) ?_) | ((with_reducible show wpList _ _ _ (Oper.mk _ (Op.load _ _) _ _ _ _ :: _) _ _); refine wpList_load_g hm1 _ rfl rfl (by go_simp) ?_) | ((with_reducible show wpList _ _ _ (Oper.mk _ (Op.load _ _) _ _ _ _ :: _) _ _); refine wpList_load_g hm2 _ rfl rfl (by go_simp) ?_) | ((with_reducible show wpList _ _ _ (Oper.mk _ (Op.load _ _) _ _ _ _ :: _) _ _); refine wpList_load_g hm3 _ rfl rfl (by go_simp) ?_) | ((with_reducible show wpList _ _ _ (Oper.mk _ (Op.load _ _) _ _ _ _ :: _) _ _); refine wpList_load_g hm4 _ rfl rfl (by go_simp) ?_) | ((with_reducible show wpList _ _ _ (Oper.mk _ (Op.load _ _) _ _ _ _ :: _) _ _); refine wpList_load_g hm5 _ rfl rfl (by go_simp) ?_))
    go_ret
    rw [HF.out]
    exact ⟨rfl, HBE.out⟩
  subst hd2
  by_cases hd3 : misses = misses2
  case neg =>
    have hb3 : (misses == misses2) = false := by simpa using hd3
    have HF := Lib.hid (show cacSame ⟨room, ver, A, n, c, hits, misses⟩ es ⟨room, ver, A2, n2, c2, hits, misses2⟩ fs = false by rw [Bool.eq_false_iff]; intro h; exact hd3 (cacSame_iff.1 h).2.2.2.1)
    go_wp2_with (first | ((with_reducible show wpList _ _ _ (Oper.mk _ (Op.load _ _) _ _ _ _ :: _) _ _); refine wpList_load_g hl1 _ rfl rfl (by go_simp) ?_) | ((with_reducible show wpList _ _ _ (Oper.mk _ (Op.load _ _) _ _ _ _ :: _) _ _); refine wpList_load_g hl2 _ rfl rfl (by go_simp) ?_) | ((with_reducible show wpList _ _ _ (Oper.mk _ (Op.load _ _) _ _ _ _ :: _) _ _); refine wpList_load_g hl3 _ rfl rfl (by go_simp) ?_) | ((with_reducible show wpList _ _ _ (Oper.mk _ (Op.load _ _) _ _ _ _ :: _) _ _); refine wpList_load_g hl4 _ rfl rfl (by go_simp) ?_) | ((with_reducible show wpList _ _ _ (Oper.mk _ (Op.load _ _) _ _ _ _ :: _) _ _); refine wpList_load_g hl5 _ rfl rfl (by go_simp) ?_) | ((with_reducible show wpList _ _ _ (Oper.mk _ (Op.load _ _) _ _ _ _ :: _) _ _); refine wpList_load_g hm1 _ rfl rfl (by go_simp) ?_) | ((with_reducible show wpList _ _ _ (Oper.mk _ (Op.load _ _) _ _ _ _ :: _) _ _); refine wpList_load_g hm2 _ rfl rfl (by go_simp) ?_) | ((with_reducible show wpList _ _ _ (Oper.mk _ (Op.load _ _) _ _ _ _ :: _) _ _); refine wpList_load_g hm3 _ rfl rfl (by go_simp) ?_) | ((with_reducible show wpList _ _ _ (Oper.mk _ (Op.load _ _) _ _ _ _ :: _) _ _); refine wpList_load_g hm4 _ rfl rfl (by go_simp) ?_) | ((with_reducible show wpList _ _ _ (Oper.mk _ (Op.load _ _) _ _ _ _ :: _) _ _); refine wpList_load_g hm5 _ rfl rfl (by go_simp) ?_))
    go_ret
    rw [HF.out]
    exact ⟨rfl, HBE.out⟩
  subst hd3
  by_cases hnm : n = n2
  case neg =>
    have hb4 : (n == n2) = false := by simpa using hnm
    have HF := Lib.hid (show cacSame ⟨room, ver, A, n, c, hits, misses⟩ es ⟨room, ver, A2, n2, c2, hits, misses⟩ fs = false by
      rw [Bool.eq_false_iff]
      intro h
      apply hnm
      rw [← H1.out.len, ← H2.out.len, (cacSame_iff.1 h).2.2.2.2])
    go_wp2_with (first | ((with_reducible show wpList _ _ _ (Oper.mk _ (Op.load _ _) _ _ _ _ :: _) _ _); refine wpList_load_g hl1 _ rfl rfl (by go_simp) ?_) | ((with_reducible show wpList _ _ _ (Oper.mk _ (Op.load _ _) _ _ _ _ :: _) _ _); refine wpList_load_g hl2 _ rfl rfl (by go_simp) ?_) | ((with_reducible show wpList _ _ _ (Oper.mk _ (Op.load _ _) _ _ _ _ :: _) _ _); refine wpList_load_g hl3 _ rfl rfl (by go_simp) ?_) | ((with_reducible show wpList _ _ _ (Oper.mk _ (Op.load _ _) _ _ _ _ :: _) _ _); refine wpList_load_g hl4 _ rfl rfl (by go_simp) ?_) | ((with_reducible show wpList _ _ _ (Oper.mk _ (Op.load _ _) _ _ _ _ :: _) _ _); refine wpList_load_g hl5 _ rfl rfl (by go_simp) ?_) | ((with_reducible show wpList _ _ _ (Oper.mk _ (Op.load _ _) _ _ _ _ :: _) _ _); refine wpList_load_g hm1 _ rfl rfl (by go_simp) ?_) | ((with_reducible show wpList _ _ _ (Oper.mk _ (Op.load _ _) _ _ _ _ :: _) _ _); refine wpList_load_g hm2 _ rfl rfl (by go_simp) ?_) | ((with_reducible show wpList _ _ _ (Oper.mk _ (Op.load _ _) _ _ _ _ :: _) _ _); refine wpList_load_g hm3 _ rfl rfl (by go_simp) ?_) | ((with_reducible show wpList _ _ _ (Oper.mk _ (Op.load _ _) _ _ _ _ :: _) _ _); refine wpList_load_g hm4 _ rfl rfl (by go_simp) ?_) | ((with_reducible show wpList _ _ _ (Oper.mk _ (Op.load _ _) _ _ _ _ :: _) _ _); refine wpList_load_g hm5 _ rfl rfl (by go_simp) ?_))
    go_ret
    rw [HF.out]
    exact ⟨rfl, HBE.out⟩
  subst hnm
  have HLEN := Lib.hid (show es.length = fs.length by rw [H1.out.len, H2.out.len])
  go_wp2_with (first | ((with_reducible show wpList _ _ _ (Oper.mk _ (Op.load _ _) _ _ _ _ :: _) _ _); refine wpList_load_g hl1 _ rfl rfl (by go_simp) ?_) | ((with_reducible show wpList _ _ _ (Oper.mk _ (Op.load _ _) _ _ _ _ :: _) _ _); refine wpList_load_g hl2 _ rfl rfl (by go_simp) ?_) | ((with_reducible show wpList _ _ _ (Oper.mk _ (Op.load _ _) _ _ _ _ :: _) _ _); refine wpList_load_g hl3 _ rfl rfl (by go_simp) ?_) | ((with_reducible show wpList _ _ _ (Oper.mk _ (Op.load _ _) _ _ _ _ :: _) _ _); refine wpList_load_g hl4 _ rfl rfl (by go_simp) ?_) | ((with_reducible show wpList _ _ _ (Oper.mk _ (Op.load _ _) _ _ _ _ :: _) _ _); refine wpList_load_g hl5 _ rfl rfl (by go_simp) ?_) | ((with_reducible show wpList _ _ _ (Oper.mk _ (Op.load _ _) _ _ _ _ :: _) _ _); refine wpList_load_g hm1 _ rfl rfl (by go_simp) ?_) | ((with_reducible show wpList _ _ _ (Oper.mk _ (Op.load _ _) _ _ _ _ :: _) _ _); refine wpList_load_g hm2 _ rfl rfl (by go_simp) ?_) | ((with_reducible show wpList _ _ _ (Oper.mk _ (Op.load _ _) _ _ _ _ :: _) _ _); refine wpList_load_g hm3 _ rfl rfl (by go_simp) ?_) | ((with_reducible show wpList _ _ _ (Oper.mk _ (Op.load _ _) _ _ _ _ :: _) _ _); refine wpList_load_g hm4 _ rfl rfl (by go_simp) ?_) | ((with_reducible show wpList _ _ _ (Oper.mk _ (Op.load _ _) _ _ _ _ :: _) _ _); refine wpList_load_g hm5 _ rfl rfl (by go_simp) ?_))
  clear hl1 hl2 hl3 hl4 hl5 hm1 hm2 hm3 hm4 hm5
  obtain ⟨W1, HW1⟩ : ∃ W, Hid ((w.alloc (.cells cs1 25)).alloc (.cells cs2 25) = W) := ⟨_, Lib.hid rfl⟩
  rw [HW1.out] at HBE HP1 HP2 H1 H2 ⊢
  go_loopw [5] (fun x wr => ∃ i : Nat, x = .int .i64 i ∧ Hid (i ≤ n ∧ (∀ k, k < i → entE.eqB (entAt es k) (entAt fs k) = true) ∧ Below W1.heap.size W1 wr)) (fun x _ => n - (intOf x).toNat)
  case atStart => exact ⟨0, rfl, Nat.zero_le _, fun k h => by omega, Below.refl _ _⟩
  case round =>
    obtain ⟨i, rfl, HH⟩ := hrel
    have hlw := (HP1.out.all wr HH.out.2.2).ents
    by_cases hlt : i < n
    · have hlt' : (i : Int) < n := by omega
      obtain ⟨b, o, rfl, hc⟩ := RS.at_ H1.out (by omega)
      obtain ⟨b2, o2, rfl, hc2⟩ := RS.at_ H2.out (by omega)
      have HC1 := Lib.hid (hc i hlt)
      have HC2 := Lib.hid (hc2 i hlt)
      have HF1 := Lib.hid (RS.fits_at H1.out hlt)
      have HF2 := Lib.hid (RS.fits_at H2.out hlt)
      clear hc hc2
      go_wp2_with ((with_reducible show wpList _ _ _ (Oper.mk _ (Op.load _ _) _ _ _ _ :: _) _ _); refine wpList_load_g hlw _ rfl rfl (by go_simp) ?_)
      clear hlw
      refine wp_region_mix (fun w0 => Below (wr).heap.size (wr) w0) [(0, 0), (1, 0), (2, 0), (3, 0), (4, 0), (5, 0), (6, 0), (7, 0), (8, 0), (9, 0), (10, 0)] (by kernel_rfl) (by kernel_rfl) (below_drew1 _) ?_
      simp only [List.map_cons, List.map_nil]
      iterate 1 (refine wpO_step0 rfl rfl (fun K hK => ?_); go_simp; refine hK _ _ ?_; clear hK K)
      refine wpO_loadW (t := 23) (ad := ⟨w.heap.size, 2, none⟩) rfl rfl ?hw rfl rfl ((fun w0 hS => (HP1.out.all w0 (below_step HH.out.2.2 hS)).ents)) ?_
      case hw => go_simp
      iterate 2 (refine wpO_step0 rfl rfl (fun K hK => ?_); go_simp; refine hK _ _ ?_; clear hK K)
      refine wpO_loadW (t := 43) (ad := ⟨b, (o+i*37), none⟩) rfl rfl ?hw rfl rfl ((fun w0 hS => (entLd_of HF1.out (HC1.out.below (below_step HH.out.2.2 hS))).ent)) ?_
      case hw => go_simp
      iterate 1 (refine wpO_step0 rfl rfl (fun K hK => ?_); go_simp; refine hK _ _ ?_; clear hK K)
      refine wpO_loadW (t := 23) (ad := ⟨(w.heap.size+1), 2, none⟩) rfl rfl ?hw rfl rfl ((fun w0 hS => (HP2.out.all w0 (below_step HH.out.2.2 hS)).ents)) ?_
      case hw => go_simp
      iterate 2 (refine wpO_step0 rfl rfl (fun K hK => ?_); go_simp; refine hK _ _ ?_; clear hK K)
      refine wpO_loadW (t := 43) (ad := ⟨b2, (o2+i*37), none⟩) rfl rfl ?hw rfl rfl ((fun w0 hS => (entLd_of HF2.out (HC2.out.below (below_step HH.out.2.2 hS))).ent)) ?_
      case hw => go_simp
      refine wpO_step0 rfl rfl (fun K hK => ?_)
      rw [if_pos (show Region.wanted _ _ = true from rfl)]
      refine ⟨_, fun w0 => ShapeEq.neq entE rfl (entAt es i) (entAt fs i) rfl rfl (ShapeEq.all_at (E := entE) O1.out (by rw [H1.out.len]; exact hlt)) (ShapeEq.all_at (E := entE) O2.out (by rw [H2.out.len]; exact hlt)) w0, hK _ _ ?_⟩
      clear hK K
      refine wpO_nil ?_
      cases hq : entE.eqB (entAt es i) (entAt fs i) with
      | true =>
        have HQ := Lib.hid hq
        clear hq
        go_wp2_with fail
        go_roundw
        case measure => simp [intOf]; omega
        case rel =>
          refine ⟨i + 1, by go_num, by omega, fun k hk => ?_, below_step HH.out.2.2 (below_drew1 _)⟩
          by_cases hki : k < i
          · exact HH.out.2.1 k hki
          · rw [show k = i by omega]; exact HQ.out
      | false =>
        have HT := Lib.hid (show cacSame ⟨room, ver, some ⟨b, o, none⟩, n, c, hits, misses⟩ es ⟨room, ver, some ⟨b2, o2, none⟩, n, c2, hits, misses⟩ fs = false by
          rw [Bool.eq_false_iff]
          intro h
          have h2 := (cacSame_iff.1 h).2.2.2.2
          subst h2
          rw [(entE.iff _ _).2 rfl] at hq
          cases hq)
        clear hq
        go_wp2_with fail
        go_ret
        rw [HT.out]
        exact ⟨rfl, below_step HBE.out (below_step HH.out.2.2 (below_drew1 _))⟩
    · have hlt' : decide (i < n) = false := decide_eq_false hlt
      have HT := Lib.hid (show cacSame ⟨room, ver, A, n, c, hits, misses⟩ es ⟨room, ver, A2, n, c2, hits, misses⟩ fs = true from cacSame_iff.2 ⟨rfl, rfl, rfl, rfl, (ShapeEq.eqL_iff (E := entE) _ _).1 (ShapeEq.eqL_yes HLEN.out (fun k hk => HH.out.2.1 k (by rw [H1.out.len] at hk; have := HH.out.1; omega)))⟩)
      clear hlt
      go_wp2_with ((with_reducible show wpList _ _ _ (Oper.mk _ (Op.load _ _) _ _ _ _ :: _) _ _); refine wpList_load_g hlw _ rfl rfl (by go_simp) ?_)
      go_ret
      rw [HT.out]
      exact ⟨rfl, below_step HBE.out HH.out.2.2⟩
set_option maxRecDepth 100000 in
set_option maxHeartbeats 4000000 in
theorem csame_any (x : Cac) (es : List Ent) (y : Cac) (fs : List Ent) (w : World) (h1 : RE w x.A x.n x.c es) (h2 : RE w y.A y.n y.c fs) (o1 : Oke es) (o2 : Oke fs) (hn : x.n ≤ 100000) (hm : y.n ≤ 100000) : Calls Tryd.prog 33 #[.agg x.vv, .agg y.vv] w fun r w' => r = .returned (.bool (cacSame x es y fs)) ∧ Below w.heap.size w w' := by
  have hblk1 := blk_new w (.cells (x.vv) 25)
  have hbel1 : Below w.heap.size w (w.alloc (.cells (x.vv) 25)) := below_alloc (Below.refl _ _) _
  have hblk2 := blk_new (w.alloc (.cells (x.vv) 25)) (.cells (y.vv) 25)
  have hbel2 : Below w.heap.size w ((w.alloc (.cells (x.vv) 25)).alloc (.cells (y.vv) 25)) := below_alloc (hbel1) _
  rw [show (w.alloc (.cells (x.vv) 25)).heap.size = w.heap.size + 1 by simp] at hblk2
  replace hblk1 := blk_below hblk1 (below_alloc (Below.refl _ _) (.cells (y.vv) 25))
  have HP1 := Lib.hid (cac_at hblk1)
  have HBK1 := Lib.hid hblk1
  have HP2 := Lib.hid (cac_at hblk2)
  have HBK2 := Lib.hid hblk2
  have HBE := Lib.hid hbel2
  obtain ⟨cs1, hcs1⟩ : ∃ cs, x.vv = cs := ⟨_, rfl⟩
  obtain ⟨cs2, hcs2⟩ : ∃ cs, y.vv = cs := ⟨_, rfl⟩
  simp only [hcs1, hcs2] at HBE HP1 HP2 HBK1 HBK2 ⊢
  have HC1 := Lib.hid hcs1
  have HC2 := Lib.hid hcs2
  clear hcs1 hblk1 hbel1 hcs2 hblk2 hbel2
  have H1 := Lib.hid (h1.below HBE.out)
  have H2 := Lib.hid (h2.below HBE.out)
  have O1 := Lib.hid o1
  have O2 := Lib.hid o2
  have hl := HP1.out.all _ (Below.refl _ _)
  have hl1 := hl.room
  have hl2 := hl.ver
  have hl3 := hl.ents
  have hl4 := hl.hits
  have hl5 := hl.misses
  have hm := HP2.out.all _ (Below.refl _ _)
  have hm1 := hm.room
  have hm2 := hm.ver
  have hm3 := hm.ents
  have hm4 := hm.hits
  have hm5 := hm.misses
  clear h1 h2 o1 o2 hl hm
  obtain ⟨room, ver, A, n, c, hits, misses⟩ := x
  obtain ⟨room2, ver2, A2, n2, c2, hits2, misses2⟩ := y
  simp only at *
  go_enter Tryd.func33, Tryd.ntmps33
  by_cases hd0 : room = room2
  case neg =>
    have hb0 : (room == room2) = false := by simpa using hd0
    have HF := Lib.hid (show cacSame ⟨room, ver, A, n, c, hits, misses⟩ es ⟨room2, ver2, A2, n2, c2, hits2, misses2⟩ fs = false by rw [Bool.eq_false_iff]; intro h; exact hd0 (cacSame_iff.1 h).1)
    go_wp2_with (first | ((with_reducible show wpList _ _ _ (Oper.mk _ (Op.load _ _) _ _ _ _ :: _) _ _); refine wpList_load_g hl1 _ rfl rfl (by go_simp) ?_) | ((with_reducible show wpList _ _ _ (Oper.mk _ (Op.load _ _) _ _ _ _ :: _) _ _); refine wpList_load_g hl2 _ rfl rfl (by go_simp) ?_) | ((with_reducible show wpList _ _ _ (Oper.mk _ (Op.load _ _) _ _ _ _ :: _) _ _); refine wpList_load_g hl3 _ rfl rfl (by go_simp) ?_) | ((with_reducible show wpList _ _ _ (Oper.mk _ (Op.load _ _) _ _ _ _ :: _) _ _); refine wpList_load_g hl4 _ rfl rfl (by go_simp) ?_) | ((with_reducible show wpList _ _ _ (Oper.mk _ (Op.load _ _) _ _ _ _ :: _) _ _); refine wpList_load_g hl5 _ rfl rfl (by go_simp) ?_) | ((with_reducible show wpList _ _ _ (Oper.mk _ (Op.load _ _) _ _ _ _ :: _) _ _); refine wpList_load_g hm1 _ rfl rfl (by go_simp) ?_) | ((with_reducible show wpList _ _ _ (Oper.mk _ (Op.load _ _) _ _ _ _ :: _) _ _); refine wpList_load_g hm2 _ rfl rfl (by go_simp) ?_) | ((with_reducible show wpList _ _ _ (Oper.mk _ (Op.load _ _) _ _ _ _ :: _) _ _); refine wpList_load_g hm3 _ rfl rfl (by go_simp) ?_) | ((with_reducible show wpList _ _ _ (Oper.mk _ (Op.load _ _) _ _ _ _ :: _) _ _); refine wpList_load_g hm4 _ rfl rfl (by go_simp) ?_) | ((with_reducible show wpList _ _ _ (Oper.mk _ (Op.load _ _) _ _ _ _ :: _) _ _); refine wpList_load_g hm5 _ rfl rfl (by go_simp) ?_))
    go_ret
    rw [HF.out]
    exact ⟨rfl, HBE.out⟩
  subst hd0
  by_cases hd1 : ver = ver2
  case neg =>
    have hb1 : (ver == ver2) = false := by simpa using hd1
    have HF := Lib.hid (show cacSame ⟨room, ver, A, n, c, hits, misses⟩ es ⟨room, ver2, A2, n2, c2, hits2, misses2⟩ fs = false by rw [Bool.eq_false_iff]; intro h; exact hd1 (cacSame_iff.1 h).2.1)
    go_wp2_with (first | ((with_reducible show wpList _ _ _ (Oper.mk _ (Op.load _ _) _ _ _ _ :: _) _ _); refine wpList_load_g hl1 _ rfl rfl (by go_simp) ?_) | ((with_reducible show wpList _ _ _ (Oper.mk _ (Op.load _ _) _ _ _ _ :: _) _ _); refine wpList_load_g hl2 _ rfl rfl (by go_simp) ?_) | ((with_reducible show wpList _ _ _ (Oper.mk _ (Op.load _ _) _ _ _ _ :: _) _ _); refine wpList_load_g hl3 _ rfl rfl (by go_simp) ?_) | ((with_reducible show wpList _ _ _ (Oper.mk _ (Op.load _ _) _ _ _ _ :: _) _ _); refine wpList_load_g hl4 _ rfl rfl (by go_simp) ?_) | ((with_reducible show wpList _ _ _ (Oper.mk _ (Op.load _ _) _ _ _ _ :: _) _ _); refine wpList_load_g hl5 _ rfl rfl (by go_simp) ?_) | ((with_reducible show wpList _ _ _ (Oper.mk _ (Op.load _ _) _ _ _ _ :: _) _ _); refine wpList_load_g hm1 _ rfl rfl (by go_simp) ?_) | ((with_reducible show wpList _ _ _ (Oper.mk _ (Op.load _ _) _ _ _ _ :: _) _ _); refine wpList_load_g hm2 _ rfl rfl (by go_simp) ?_) | ((with_reducible show wpList _ _ _ (Oper.mk _ (Op.load _ _) _ _ _ _ :: _) _ _); refine wpList_load_g hm3 _ rfl rfl (by go_simp) ?_) | ((with_reducible show wpList _ _ _ (Oper.mk _ (Op.load _ _) _ _ _ _ :: _) _ _); refine wpList_load_g hm4 _ rfl rfl (by go_simp) ?_) | ((with_reducible show wpList _ _ _ (Oper.mk _ (Op.load _ _) _ _ _ _ :: _) _ _); refine wpList_load_g hm5 _ rfl rfl (by go_simp) ?_))
    go_ret
    rw [HF.out]
    exact ⟨rfl, HBE.out⟩
  subst hd1
  by_cases hd2 : hits = hits2
  case neg =>
    have hb2 : (hits == hits2) = false := by simpa using hd2
    have HF := Lib.hid (show cacSame ⟨room, ver, A, n, c, hits, misses⟩ es ⟨room, ver, A2, n2, c2, hits2, misses2⟩ fs = false by rw [Bool.eq_false_iff]; intro h; exact hd2 (cacSame_iff.1 h).2.2.1)
    go_wp2_with (first | ((with_reducible show wpList _ _ _ (Oper.mk _ (Op.load _ _) _ _ _ _ :: _) _ _); refine wpList_load_g hl1 _ rfl rfl (by go_simp) ?_) | ((with_reducible show wpList _ _ _ (Oper.mk _ (Op.load _ _) _ _ _ _ :: _) _ _); refine wpList_load_g hl2 _ rfl rfl (by go_simp) ?_) | ((with_reducible show wpList _ _ _ (Oper.mk _ (Op.load _ _) _ _ _ _ :: _) _ _); refine wpList_load_g hl3 _ rfl rfl (by go_simp) ?_) | ((with_reducible show wpList _ _ _ (Oper.mk _ (Op.load _ _) _ _ _ _ :: _) _ _); refine wpList_load_g hl4 _ rfl rfl (by go_simp) ?_) | ((with_reducible show wpList _ _ _ (Oper.mk _ (Op.load _ _) _ _ _ _ :: _) _ _); refine wpList_load_g hl5 _ rfl rfl (by go_simp) ?_) | ((with_reducible show wpList _ _ _ (Oper.mk _ (Op.load _ _) _ _ _ _ :: _) _ _); refine wpList_load_g hm1 _ rfl rfl (by go_simp) ?_) | ((with_reducible show wpList _ _ _ (Oper.mk _ (Op.load _ _) _ _ _ _ :: _) _ _); refine wpList_load_g hm2 _ rfl rfl (by go_simp) ?_) | ((with_reducible show wpList _ _ _ (Oper.mk _ (Op.load _ _) _ _ _ _ :: _) _ _); refine wpList_load_g hm3 _ rfl rfl (by go_simp) ?_) | ((with_reducible show wpList _ _ _ (Oper.mk _ (Op.load _ _) _ _ _ _ :: _) _ _); refine wpList_load_g hm4 _ rfl rfl (by go_simp) ?_) | ((with_reducible show wpList _ _ _ (Oper.mk _ (Op.load _ _) _ _ _ _ :: _) _ _); refine wpList_load_g hm5 _ rfl rfl (by go_simp) ?_))
    go_ret
    rw [HF.out]
    exact ⟨rfl, HBE.out⟩
  subst hd2
  by_cases hd3 : misses = misses2
  case neg =>
    have hb3 : (misses == misses2) = false := by simpa using hd3
    have HF := Lib.hid (show cacSame ⟨room, ver, A, n, c, hits, misses⟩ es ⟨room, ver, A2, n2, c2, hits, misses2⟩ fs = false by rw [Bool.eq_false_iff]; intro h; exact hd3 (cacSame_iff.1 h).2.2.2.1)
    go_wp2_with (first | ((with_reducible show wpList _ _ _ (Oper.mk _ (Op.load _ _) _ _ _ _ :: _) _ _); refine wpList_load_g hl1 _ rfl rfl (by go_simp) ?_) | ((with_reducible show wpList _ _ _ (Oper.mk _ (Op.load _ _) _ _ _ _ :: _) _ _); refine wpList_load_g hl2 _ rfl rfl (by go_simp) ?_) | ((with_reducible show wpList _ _ _ (Oper.mk _ (Op.load _ _) _ _ _ _ :: _) _ _); refine wpList_load_g hl3 _ rfl rfl (by go_simp) ?_) | ((with_reducible show wpList _ _ _ (Oper.mk _ (Op.load _ _) _ _ _ _ :: _) _ _); refine wpList_load_g hl4 _ rfl rfl (by go_simp) ?_) | ((with_reducible show wpList _ _ _ (Oper.mk _ (Op.load _ _) _ _ _ _ :: _) _ _); refine wpList_load_g hl5 _ rfl rfl (by go_simp) ?_) | ((with_reducible show wpList _ _ _ (Oper.mk _ (Op.load _ _) _ _ _ _ :: _) _ _); refine wpList_load_g hm1 _ rfl rfl (by go_simp) ?_) | ((with_reducible show wpList _ _ _ (Oper.mk _ (Op.load _ _) _ _ _ _ :: _) _ _); refine wpList_load_g hm2 _ rfl rfl (by go_simp) ?_) | ((with_reducible show wpList _ _ _ (Oper.mk _ (Op.load _ _) _ _ _ _ :: _) _ _); refine wpList_load_g hm3 _ rfl rfl (by go_simp) ?_) | ((with_reducible show wpList _ _ _ (Oper.mk _ (Op.load _ _) _ _ _ _ :: _) _ _); refine wpList_load_g hm4 _ rfl rfl (by go_simp) ?_) | ((with_reducible show wpList _ _ _ (Oper.mk _ (Op.load _ _) _ _ _ _ :: _) _ _); refine wpList_load_g hm5 _ rfl rfl (by go_simp) ?_))
    go_ret
    rw [HF.out]
    exact ⟨rfl, HBE.out⟩
  subst hd3
  go_wp2_with (first | ((with_reducible show wpList _ _ _ (Oper.mk _ (Op.load _ _) _ _ _ _ :: _) _ _); refine wpList_load_g hl1 _ rfl rfl (by go_simp) ?_) | ((with_reducible show wpList _ _ _ (Oper.mk _ (Op.load _ _) _ _ _ _ :: _) _ _); refine wpList_load_g hl2 _ rfl rfl (by go_simp) ?_) | ((with_reducible show wpList _ _ _ (Oper.mk _ (Op.load _ _) _ _ _ _ :: _) _ _); refine wpList_load_g hl3 _ rfl rfl (by go_simp) ?_) | ((with_reducible show wpList _ _ _ (Oper.mk _ (Op.load _ _) _ _ _ _ :: _) _ _); refine wpList_load_g hl4 _ rfl rfl (by go_simp) ?_) | ((with_reducible show wpList _ _ _ (Oper.mk _ (Op.load _ _) _ _ _ _ :: _) _ _); refine wpList_load_g hl5 _ rfl rfl (by go_simp) ?_) | ((with_reducible show wpList _ _ _ (Oper.mk _ (Op.load _ _) _ _ _ _ :: _) _ _); refine wpList_load_g hm1 _ rfl rfl (by go_simp) ?_) | ((with_reducible show wpList _ _ _ (Oper.mk _ (Op.load _ _) _ _ _ _ :: _) _ _); refine wpList_load_g hm2 _ rfl rfl (by go_simp) ?_) | ((with_reducible show wpList _ _ _ (Oper.mk _ (Op.load _ _) _ _ _ _ :: _) _ _); refine wpList_load_g hm3 _ rfl rfl (by go_simp) ?_) | ((with_reducible show wpList _ _ _ (Oper.mk _ (Op.load _ _) _ _ _ _ :: _) _ _); refine wpList_load_g hm4 _ rfl rfl (by go_simp) ?_) | ((with_reducible show wpList _ _ _ (Oper.mk _ (Op.load _ _) _ _ _ _ :: _) _ _); refine wpList_load_g hm5 _ rfl rfl (by go_simp) ?_))
  refine (equalE_any A n c es A2 n2 c2 fs _ H1.out H2.out O1.out O2.out (by omega) (by omega)).mono ?_
  rintro e w1 ⟨rfl, hb1⟩
  have HT := Lib.hid (show cacSame ⟨room, ver, A, n, c, hits, misses⟩ es ⟨room, ver, A2, n2, c2, hits, misses⟩ fs = entE.eqL es fs by unfold cacSame; simp)
  have HB1 := Lib.hid (below_step HBE.out hb1)
  clear hb1
  go_wp2
  go_ret
  rw [HT.out]
  exact ⟨rfl, HB1.out⟩
end Go.Proofs.YtihfaknflfmohaaDoor

/- Layer 27 (cache): place. -/
namespace Go.Proofs.YtihfaknflfmohaaDoor
open Go.RowKit
set_option linter.unusedVariables false
set_option linter.unusedSimpArgs false
set_option maxRecDepth 4000
def idxE {α : Type} (q : α → Bool) (t : List α) : Int := match t.findIdx? q with | some i => i | none => -1
theorem idxE_at {α : Type} {S : Shape α} {q : α → Bool} {t : List α} {i : Nat} (hi : i < t.length) (h : q (S.at_ t i) = true) (hl : ∀ k, k < i → q (S.at_ t k) = false) : idxE q t = (i : Int) := by
  have : t.findIdx? q = some i := by
    rw [List.findIdx?_eq_some_iff_getElem]
    have hg : ∀ k (hk : k < t.length), t[k] = S.at_ t k := fun k hk => by
      have := Shape.at_get (S := S) hk
      rw [List.getElem?_eq_getElem hk] at this
      exact Option.some.inj this
    refine ⟨hi, by rw [hg i hi]; exact h, fun k hk => ?_⟩
    rw [hg k (by omega), hl k hk]
    simp
  unfold idxE
  rw [this]
theorem idxE_none {α : Type} {S : Shape α} {q : α → Bool} {t : List α} (hl : ∀ k, k < t.length → q (S.at_ t k) = false) : idxE q t = -1 := by
  have : t.findIdx? q = none := by
    rw [List.findIdx?_eq_none_iff]
    intro x hx
    obtain ⟨k, hk, e⟩ := List.getElem_of_mem hx
    have := Shape.at_get (S := S) hk
    rw [List.getElem?_eq_getElem hk, e] at this
    rw [Option.some.inj this]
    exact hl k hk
  unfold idxE
  rw [this]
theorem cplace1_any (e : Ent) (v : Int) (l : List Int) (g : Nat) (w : World) (heo : e.ok) (hl : B16 l) (hv : (Lit.int .i64 v).wf = true) (ha : AdrAt w g v l) : Calls Tryd.prog 102 #[.agg (entV e), .pointer (some ⟨g, 0, none⟩)] w fun x w' => x = .returned (.bool (sA e.v e.l v l)) ∧ Below w.heap.size w w' := by
  have he := heo.fits
  have HA := Lib.hid (ha.all (w.alloc (.cells (entV e) 43)) (below_alloc (Below.refl _ _) _))
  have hblk1 := blk_new w (.cells (entV e) 43)
  have hbel1 : Below w.heap.size w (w.alloc (.cells (entV e) 43)) := below_alloc (Below.refl _ _) _
  have HP1 := Lib.hid (ent_at he hblk1)
  have HBK1 := Lib.hid hblk1
  have HBE := Lib.hid hbel1
  obtain ⟨cs1, hcs1⟩ : ∃ cs, entV e = cs := ⟨_, rfl⟩
  simp only [hcs1] at HBE HP1 HBK1 ⊢
  have HC1 := Lib.hid hcs1
  clear hcs1 hblk1 hbel1
  have hl1 := (HP1.out.all _ (Below.refl _ _)).adr
  rw [HC1.out] at HA
  have hl2 := HA.out.1
  clear ha HA
  go_enter Tryd.func102, Tryd.ntmps102
  go_wp2_with (first | ((with_reducible show wpList _ _ _ (Oper.mk _ (Op.load _ _) _ _ _ _ :: _) _ _); refine wpList_load_g hl1 _ rfl rfl (by go_simp) ?_) | ((with_reducible show wpList _ _ _ (Oper.mk _ (Op.load _ _) _ _ _ _ :: _) _ _); refine wpList_load_g hl2 _ rfl rfl (by go_simp) ?_) | ((with_reducible show wpList _ _ _ (Oper.mk _ (Op.binOp _ _ _ _ _) _ _ _ _ :: _) _ _); refine wpList_exw rfl (sA_exec rfl e.v e.l v l rfl rfl heo.l hl heo.v hv _) ?_))
  go_ret
  exact ⟨rfl, HBE.out⟩
set_option maxHeartbeats 1000000 in
theorem indexfP_any (A : Option Addr) (n c : Nat) (t : List Ent) (w : World) (g : Nat) (hr : RS entK w A n c t) (hn : n ≤ 1000000) (q : Ent → Bool)
    (hq : ∀ i, i < n → ∀ w1, Below w.heap.size w w1 → Calls Tryd.prog 102 #[entK.val (entK.at_ t i), .pointer (some ⟨g, 0, none⟩)] w1 fun e w2 => e = .returned (.bool (q (entK.at_ t i))) ∧ Below w1.heap.size w1 w2) :
    Calls Tryd.prog 101 #[.slice A n c, .func (Fn.func 102) #[] #[.pointer (some ⟨g, 0, none⟩)]] w fun e w' => e = .returned (.int .i64 (idxE q t)) ∧ Below w.heap.size w w' := by
  have HR := Lib.hid hr
  have HQ := Lib.hid hq
  clear hr hq
  go_enter Tryd.func101, Tryd.ntmps101
  go_wp2_with fail
  go_loopw [8] (fun x wr => ∃ i : Nat, x = .int .i64 i ∧ Hid (i ≤ n ∧ (∀ k, k < i → q (entK.at_ t k) = false) ∧ Below w.heap.size w wr)) (fun x _ => n - (intOf x).toNat)
  case atStart => exact ⟨0, rfl, Nat.zero_le _, fun k h => by omega, Below.refl _ _⟩
  case round =>
    obtain ⟨i, rfl, HH⟩ := hrel
    by_cases hlt : i < n
    · have hlt' : (i : Int) < n := by omega
      obtain ⟨b, o, rfl, hc⟩ := RS.at_ HR.out (by omega)
      have hld := Shape.ld entK wr b _ _ (RS.fits_at HR.out hlt) ((hc i hlt).below HH.out.2.2)
      have HIL := Lib.hid (show i < t.length by rw [HR.out.len]; exact hlt)
      clear hc
      go_wp2_with (first | ((with_reducible show wpList _ _ _ (Oper.mk _ (Op.load _ _) _ _ _ _ :: _) _ _); refine wpList_load_g hld _ rfl rfl (by go_simp) ?_))
      refine (HQ.out i hlt wr HH.out.2.2).mono ?_
      rintro e w2 ⟨rfl, hb2⟩
      have HB2 := Lib.hid (below_step HH.out.2.2 hb2)
      clear hb2 hld
      cases hqq : q (entK.at_ t i) with
      | true =>
        have HE : Hid (idxE q t = (i : Int)) := Lib.hid (idxE_at (S := entK) HIL.out hqq HH.out.2.1)
        clear hqq
        go_wp2
        go_ret
        rw [HE.out]
        exact ⟨rfl, HB2.out⟩
      | false =>
        have HN := Lib.hid hqq
        clear hqq
        go_wp2_with fail
        go_roundw
        case measure => simp [intOf]; omega
        case rel =>
          refine ⟨i + 1, by go_num, by omega, fun k hk => ?_, HB2.out⟩
          by_cases hki : k < i
          · exact HH.out.2.1 k hki
          · rw [show k = i by omega]; exact HN.out
    · have hlt' : decide (i < n) = false := decide_eq_false hlt
      have HE : Hid (idxE q t = -1) := Lib.hid (idxE_none (S := entK) (fun k hk => HH.out.2.1 k (by rw [HR.out.len] at hk; omega)))
      clear hlt
      go_wp2
      go_ret
      rw [HE.out]
      exact ⟨rfl, HH.out.2.2⟩
theorem cplace_any (x : Cac) (es : List Ent) (v : Int) (l : List Int) (w : World) (he : RE w x.A x.n x.c es) (oe : Oke es) (hn : x.n ≤ 100000) (hl : B16 l) (hv : (Lit.int .i64 v).wf = true) :
    Calls Tryd.prog 58 #[.agg x.vv, .agg (adrV v l)] w fun r w' => r = .returned (.int .i64 (idxE (fun e => sA e.v e.l v l) es)) ∧ Below w.heap.size w w' := by
  have hblk1 := blk_new w (.cells (x.vv) 25)
  have hbel1 : Below w.heap.size w (w.alloc (.cells (x.vv) 25)) := below_alloc (Below.refl _ _) _
  have hblk2 := blk_new (w.alloc (.cells (x.vv) 25)) (.cells (adrV v l) 31)
  have hbel2 : Below w.heap.size w ((w.alloc (.cells (x.vv) 25)).alloc (.cells (adrV v l) 31)) := below_alloc (hbel1) _
  rw [show (w.alloc (.cells (x.vv) 25)).heap.size = w.heap.size + 1 by simp] at hblk2
  replace hblk1 := blk_below hblk1 (below_alloc (Below.refl _ _) (.cells (adrV v l) 31))
  have HP1 := Lib.hid (cac_at hblk1)
  have HBK1 := Lib.hid hblk1
  have HP2 := Lib.hid (adr_at hl hblk2)
  have HBK2 := Lib.hid hblk2
  have HBE := Lib.hid hbel2
  obtain ⟨cs1, hcs1⟩ : ∃ cs, x.vv = cs := ⟨_, rfl⟩
  obtain ⟨cs2, hcs2⟩ : ∃ cs, adrV v l = cs := ⟨_, rfl⟩
  simp only [hcs1, hcs2] at HBE HP1 HP2 HBK1 HBK2 ⊢
  have HC1 := Lib.hid hcs1
  have HC2 := Lib.hid hcs2
  clear hcs1 hblk1 hbel1 hcs2 hblk2 hbel2
  have HE := Lib.hid (he.below HBE.out)
  have hl1 := (HP1.out.all _ (Below.refl _ _)).ents
  clear he
  go_enter Tryd.func58, Tryd.ntmps58
  go_wp2_with (first | ((with_reducible show wpList _ _ _ (Oper.mk _ (Op.load _ _) _ _ _ _ :: _) _ _); refine wpList_load_g hl1 _ rfl rfl (by go_simp) ?_))
  refine (indexfP_any x.A x.n x.c es _ _ HE.out (by omega) (fun e => sA e.v e.l v l) (fun i hi w1 hb1 => cplace1_any (entAt es i) v l _ w1 (oe.at_ (by rw [HE.out.len]; exact hi)) hl hv ?_)).mono ?_
  · exact ⟨fun w0 hb0 => HP2.out.all w0 (below_step hb1 hb0)⟩
  rintro e w1 ⟨rfl, hb1⟩
  have HB1 := Lib.hid (below_step HBE.out hb1)
  clear hb1
  go_wp2
  go_ret
  exact ⟨rfl, HB1.out⟩
end Go.Proofs.YtihfaknflfmohaaDoor

/- Layer 27 (cache): front. -/
namespace Go.Proofs.YtihfaknflfmohaaDoor
open Go.RowKit
set_option linter.unusedVariables false
set_option linter.unusedSimpArgs false
set_option maxRecDepth 4000
theorem cutHM {α : Type} (S : Shape α) (A : Option Addr) (n c : Nat) (r m : Int) (k l : Nat) (hr : r = k) (hm : m = l) (hk : k ≤ l) (hl : l ≤ c) (W : World) : (Instr.slice S.ts (.slice A n c) none (some (.int .i64 r)) (some (.int .i64 m))).run Tryd.prog W = .ok (.slice A k l) W := by
  subst hr; subst hm
  rw [run_slice_hm W S.ts A n c S.undE .i64 .i64 k l (by omega) (by omega) (by omega), S.elem, S.run_size]
  have h0 : (fun x : Addr => x.add 0) = id := by funext x; simp [Addr.add]
  simp [sliced, Result.andThen, h0]
theorem run_make_shp {α : Type} (S : Shape α) (W : World) (n : Nat) (hn : n ≤ 1000000000) : (Instr.makeSlice S.ts (.int .i64 (n : Int)) (.int .i64 (n : Int))).run Tryd.prog W = .ok (.slice (some ⟨W.heap.size, 0, none⟩) n n) (W.alloc (.cells (S.cells (List.replicate n S.z)).toArray S.t)) := by
  obtain ⟨i0, hi, hz⟩ := Option.map_eq_some_iff.1 S.info
  simp only [Prod.mk.injEq] at hz
  obtain ⟨hz0, hz1, hz2⟩ := hz
  have hb1 := S.blt
  have hb : i0.bytes * n ≤ 10000 * 1000000000 := Nat.mul_le_mul (by omega) hn
  have hb2 : (i0.bytes : Int) * (n : Int) ≤ 281474976710656 := by
    have : ((i0.bytes * n : Nat) : Int) ≤ 281474976710656 := by omega
    rwa [Int.natCast_mul] at this
  have hr := run_make (P := Tryd.prog) W S.ts S.t i0 (S.val S.z) S.und hi hz0 .i64 .i64 n n (by omega) (by omega) hb2 (by omega)
  simp only [Int.toNat_natCast] at hr
  rw [hr]
  have e : madeCells (S.val S.z).cells (n * i0.size) = (S.cells (List.replicate n S.z)).toArray := by
    rw [hz1, S.zenc, shp_replicate]
    have h := zero_cells (S.enc S.z) (by rw [S.len _ S.okz]; exact S.pos) n
    rw [← h]
    unfold Builtin.zeroCells madeCells
    rw [List.size_toArray, S.len _ S.okz]
  rw [e]
theorem OS.made {α : Type} (S : Shape α) (W : World) (base n : Nat) (hb : base ≤ W.heap.size) (hn : n ≤ 1000000000) : OS S (W.alloc (.cells (S.cells (List.replicate n S.z)).toArray S.t)) base (some ⟨W.heap.size, 0, none⟩) n n (List.replicate n S.z) := by
  have := OS.new S W base (List.replicate n S.z) hb (fun a ha => by rw [List.eq_of_mem_replicate ha]; exact S.okz) (by simp; omega)
  rwa [List.length_replicate] at this
theorem wpList_store_elem {α : Type} {S : Shape α} {w : World} {base n c : Nat} {ad : Addr} {l : List α} {ops : Array Oper} {rest : List Oper} {op : Oper} {a : Act} {Q : Exit → Act → World → Prop} (h : OS S w base (some ad) n c l) (j : Nat) (hj : j < n) (b : α) (hb : S.ok b) (hv : S.val b = .agg (S.enc b).toArray)
    (x y : Operand) (ho : op.op = .store S.t x y) (hx : a.eval x = .pointer (some ⟨ad.block, ad.off + j * S.sz, none⟩)) (hy : a.eval y = S.val b) (hw : Region.wanted op (yielded ops a.tmps) = true)
    (hk : ∀ w', w.grownBy w' (some ad.block) → w'.heap.size = w.heap.size → OS S w' base (some ad) n c (l.take j ++ [b] ++ l.drop (j + 1)) → wpList Tryd.prog ops Q rest (a.put op.dst undef) w') : wpList Tryd.prog ops Q (op :: rest) a w := by
  obtain ⟨_, _, cur, hh, hfit, _⟩ := h.ov.form ad rfl
  have hcap := h.cap
  have h2 : (j + 1) * S.sz ≤ c * S.sz := Nat.mul_le_mul_right _ (by omega)
  rw [Nat.add_mul, Nat.one_mul] at h2
  have hsz : (S.enc b).toArray.size = S.sz := by rw [List.size_toArray, S.len _ hb]
  have hr := run_storeAt_mid (P := Tryd.prog) w ad.block (ad.off + j * S.sz) S.t (S.enc b).toArray (blk_there hh _ _ (by rw [hsz]; omega)) (by rw [hsz]; exact S.size) (by rw [← Array.all_toList, List.all_eq_true]; exact fun u hu => S.one b u hu)
  have hO := h.put j [b] (Shape.all_one hb) (by simp; omega)
  rw [Shape.cells_one] at hO
  refine wpList_step (fun K hK => ?_)
  rw [if_pos hw]
  unfold Oper.wp execOp
  simp only [ho, hx, hy, hv, Sem.run_bind, hr, Result.andThen_ok, Sem.run_pure]
  exact hK _ _ (hk _ (setCells_grown _ _ _ _) (setCells_same _ _ _ _).2.2.2 hO)
set_option maxHeartbeats 2000000 in
theorem cfront_miss (A : Option Addr) (n c : Nat) (es : List Ent) (e : Ent) (w : World) (hre : RE w A n c es) (he : e.fits) (hn : n ≤ 100000) : Calls Tryd.prog 59 #[.slice A n c, .agg (entV e), .int .i64 (-1)] w fun r w' => ∃ A' c', r = .returned (.slice A' (n + 1) c') ∧ OS entK w' w.heap.size A' (n + 1) c' (e :: es) ∧ Below w.heap.size w w' := by
  have HF := Lib.hid he
  have hcap := hre.cap
  have hcut : ∀ W : World, (Instr.slice 23 (.slice A n c) none (some (.int .i64 (n : Int))) (some (.int .i64 (n : Int)))).run Tryd.prog W = .ok (.slice A n n) W := fun W => cutHM entK A n c _ _ n n rfl rfl (Nat.le_refl _) hcap W
  have hblk1 := blk_new w (.cells (entV e) 43)
  have hbel1 : Below w.heap.size w (w.alloc (.cells (entV e) 43)) := below_alloc (Below.refl _ _) _
  have HP1 := Lib.hid (ent_at he hblk1)
  have HBK1 := Lib.hid hblk1
  have HBE := Lib.hid hbel1
  obtain ⟨cs1, hcs1⟩ : ∃ cs, entV e = cs := ⟨_, rfl⟩
  simp only [hcs1] at HBE HP1 HBK1 ⊢
  have HC1 := Lib.hid hcs1
  clear hcs1 hblk1 hbel1
  have HE : Hid (RE (w.alloc (.cells cs1 43)) A n n es) := Lib.hid ((hre.below HBE.out).capmono (Nat.le_refl _))
  clear hre
  go_enter Tryd.func59, Tryd.ntmps59
  go_wp2_with fail
  refine wp_region_mix (fun w0 => Below ((w.alloc (.cells cs1 43))).heap.size ((w.alloc (.cells cs1 43))) w0) [(0, 0), (2, 0), (3, 0), (4, 0), (5, 0), (1, 2), (6, 2), (7, 0)] (by kernel_rfl) (by kernel_rfl) (below_drew1 _) ?_
  simp only [List.map_cons, List.map_nil]
  refine wpO_loadW (t := 43) (ad := ⟨w.heap.size, 0, none⟩) rfl rfl ?hw rfl rfl ((fun w0 hS => (HP1.out.all w0 hS).ent)) ?_
  case hw => go_simp
  iterate 4 (refine wpO_step0 rfl rfl (fun K hK => ?_); go_simp; refine hK _ _ ?_; clear hK K)
  refine wpO_step2 rfl rfl (below_drew1 _) (fun K hK => ?_)
  rw [if_pos (show Region.wanted _ _ = true from rfl)]
  refine oper_exec (exec_lit1 entK (x := .tmp 12) rfl e rfl HF.out (by show 37 ≤ _; omega) _) ?_
  refine hK _ _ ⟨below_step (below_drew1 _) (below_alloc (Below.refl _ _) _), ?_⟩
  clear hK K
  refine wpO_step2 rfl rfl (below_step (below_drew1 _) (below_alloc (Below.refl _ _) _)) (fun K hK => ?_)
  rw [if_pos (show Region.wanted _ _ = true from rfl)]
  refine oper_append_shp (S := entK) (.tmp 13) (.tmp 17) rfl rfl rfl (OS.one entK (w.alloc (.cells cs1 43)).drew w.heap.size e (by simp) HF.out) (HE.out.below (below_step (below_drew1 _) (below_alloc (Below.refl _ _) (.cells (entK.enc e).toArray entK.t)))) (by simp; omega) (by omega) ?_
  intro A' c' w' h1 h2 h3
  rw [show 1 + n = n + 1 by omega] at h1 ⊢
  have HB : Hid (Below w.heap.size w w') := Lib.hid (below_own (below_step HBE.out (below_step (below_drew1 _) (below_alloc (Below.refl _ _) _))) h2 (fun ad e => by injection e with e; rw [← e]; simp))
  have H1 : Hid (OS entK w' w.heap.size A' (n + 1) c' (e :: es)) := Lib.hid h1
  have HB2 : Hid (Below (w.alloc (.cells cs1 43)).heap.size (w.alloc (.cells cs1 43)) w') := Lib.hid (below_own (below_step (below_drew1 _) (below_alloc (Below.refl _ _) _)) h2 (fun ad e => by injection e with e; rw [← e]; simp))
  clear h1 h2 h3
  refine hK _ _ ⟨HB2.out, ?_⟩
  clear hK K
  iterate 1 (refine wpO_step0 rfl rfl (fun K hK => ?_); go_simp; refine hK _ _ ?_; clear hK K)
  refine wpO_nil ?_
  go_wp2
  go_ret
  exact ⟨_, _, rfl, H1.out, HB.out⟩
theorem front_list {α : Type} (es : List α) (z e : α) (n i : Nat) (hlen : es.length = n) (hi : i < n) (t1 t2 : List α)
    (h1 : t1 = (List.replicate n z).take 1 ++ (es.take i).take i ++ (List.replicate n z).drop (1 + i))
    (h2 : t2 = t1.take (i + 1) ++ (es.drop (i + 1)).take (n - (i + 1)) ++ t1.drop (i + 1 + (n - (i + 1)))) :
    t2.take 0 ++ [e] ++ t2.drop (0 + 1) = e :: (es.take i ++ es.drop (i + 1)) := by
  have e1 : (List.replicate n z).take 1 = [z] := by
    rw [List.take_replicate, show min 1 n = 1 by omega]
    rfl
  have e2 : (es.take i).take i = es.take i := by rw [List.take_take, Nat.min_self]
  have l2 : (es.take i).length = i := by rw [List.length_take]; omega
  have e3 : t1 = (z :: es.take i) ++ (List.replicate n z).drop (1 + i) := by rw [h1, e1, e2]; rfl
  have l3 : (z :: es.take i).length = i + 1 := by rw [List.length_cons, l2]
  have e4 : t1.take (i + 1) = z :: es.take i := by rw [e3, List.take_left' l3]
  have e5 : t1.drop (i + 1 + (n - (i + 1))) = [] := by
    apply List.drop_of_length_le
    rw [e3, List.length_append, l3, List.length_drop, List.length_replicate]
    omega
  have e6 : (es.drop (i + 1)).take (n - (i + 1)) = es.drop (i + 1) := by
    apply List.take_of_length_le
    rw [List.length_drop, hlen]
    exact Nat.le_refl _
  rw [h2, e4, e5, e6]
  simp
set_option maxHeartbeats 2000000 in
theorem cfront_hit (A : Option Addr) (n c i : Nat) (es : List Ent) (e : Ent) (w : World) (hre : RE w A n c es) (he : e.fits) (hi : i < n) (hn : n ≤ 100000) : Calls Tryd.prog 59 #[.slice A n c, .agg (entV e), .int .i64 (i : Int)] w fun r w' => ∃ A' c', r = .returned (.slice A' n c') ∧ OS entK w' w.heap.size A' n c' (e :: (es.take i ++ es.drop (i + 1))) ∧ Below w.heap.size w w' := by
  have HF := Lib.hid he
  have hcap := hre.cap
  have hlen := hre.len
  have hi0 : decide ((i : Int) < 0) = false := decide_eq_false (by omega)
  have hi1 : IntKind.i64.wrap ((i : Int) + 1) = i + 1 := IntWalk.i64_in _ (by omega)
  have hmk : ∀ W : World, (Instr.makeSlice 23 (.int .i64 (n : Int)) (.int .i64 (n : Int))).run Tryd.prog W = .ok (.slice (some ⟨W.heap.size, 0, none⟩) n n) (W.alloc (.cells (entK.cells (List.replicate n entZ)).toArray 43)) := fun W => run_make_shp entK W n (by omega)
  have hblk1 := blk_new w (.cells (entV e) 43)
  have hbel1 : Below w.heap.size w (w.alloc (.cells (entV e) 43)) := below_alloc (Below.refl _ _) _
  have HP1 := Lib.hid (ent_at he hblk1)
  have HBK1 := Lib.hid hblk1
  have HBE := Lib.hid hbel1
  obtain ⟨cs1, hcs1⟩ : ∃ cs, entV e = cs := ⟨_, rfl⟩
  simp only [hcs1] at HBE HP1 HBK1 ⊢
  have HC1 := Lib.hid hcs1
  clear hcs1 hblk1 hbel1
  have HE := Lib.hid (hre.below HBE.out)
  clear hre
  obtain ⟨W2, hW2⟩ : ∃ W2, W2 = ((w.alloc (.cells cs1 43)).alloc (.cells (entK.cells (List.replicate n entZ)).toArray 43)) := ⟨_, rfl⟩
  have hO1 : OS entK W2 w.heap.size (some ⟨w.heap.size + 1, 0, none⟩) n n (List.replicate n entZ) := by
    rw [hW2]
    have := OS.made entK (w.alloc (.cells cs1 43)) w.heap.size n (by simp) (by omega)
    rw [show (w.alloc (.cells cs1 43)).heap.size = w.heap.size + 1 by simp] at this
    exact this
  have hB1 : Below (w.alloc (.cells cs1 43)).heap.size (w.alloc (.cells cs1 43)) W2 := by rw [hW2]; exact below_alloc (Below.refl _ _) _
  have hcut1 : ∀ W : World, (Instr.slice 23 (.slice A n c) none (some (.int .i64 (i : Int))) (some (.int .i64 (i : Int)))).run Tryd.prog W = .ok (.slice A i i) W := fun W => cutHM entK A n c _ _ i i rfl rfl (Nat.le_refl _) (by omega) W
  obtain ⟨D1, hD1⟩ : ∃ D, (if n = 1 then some (⟨w.heap.size + 1, 0, none⟩ : Addr) else some ((⟨w.heap.size + 1, 0, none⟩ : Addr).add (1 * 37))) = D := ⟨_, rfl⟩
  have hcut2 : ∀ W : World, (Instr.slice 23 (.slice (some ⟨w.heap.size + 1, 0, none⟩) n n) (some (.int .i64 1)) none none).run Tryd.prog W = .ok (.slice D1 (n - 1) (n - 1)) W := fun W => by
    rw [← hD1]
    exact cutL entK (some ⟨w.heap.size + 1, 0, none⟩) n n _ 1 rfl (by omega) W
  obtain ⟨D2, hD2⟩ : ∃ D, (if n = i + 1 then some (⟨w.heap.size + 1, 0, none⟩ : Addr) else some ((⟨w.heap.size + 1, 0, none⟩ : Addr).add ((i + 1) * 37))) = D := ⟨_, rfl⟩
  have hcut3 : ∀ W : World, (Instr.slice 23 (.slice (some ⟨w.heap.size + 1, 0, none⟩) n n) (some (.int .i64 ((i : Int) + 1))) none none).run Tryd.prog W = .ok (.slice D2 (n - (i + 1)) (n - (i + 1))) W := fun W => by
    rw [← hD2]
    exact cutL entK (some ⟨w.heap.size + 1, 0, none⟩) n n _ (i + 1) rfl (by omega) W
  obtain ⟨A3, hA3⟩ : ∃ A3, (if c = i + 1 then A else A.map (·.add ((i + 1) * 37))) = A3 := ⟨_, rfl⟩
  have hcut4 : ∀ W : World, (Instr.slice 23 (.slice A n c) (some (.int .i64 ((i : Int) + 1))) none none).run Tryd.prog W = .ok (.slice A3 (n - (i + 1)) (c - (i + 1))) W := fun W => by
    rw [← hA3]
    exact cutL entK A n c _ (i + 1) rfl (by omega) W
  have hmin1 : min i (n - 1) = i := by omega
  have hmin2 : min (n - (i + 1)) (n - (i + 1)) = n - (i + 1) := by omega
  obtain ⟨w3, hc3, hO3, hg3⟩ := run_copy_shp entK W2.drew 3 ⟨w.heap.size + 1, 0, none⟩ n n 1 (List.replicate n entZ) A i i (es.take i) (hO1.below (below_drew1 W2)) (((HE.out.below hB1).below (below_drew1 W2)).take i (by omega) |>.capmono (Nat.le_refl _)) (by omega) (d := D1) hD1.symm (n - 1)
  rw [hmin1] at hc3 hO3
  have hB3 : Below (w.alloc (.cells cs1 43)).heap.size (w.alloc (.cells cs1 43)) w3 := below_grown (below_step hB1 (below_drew1 W2)) hg3 (by simp)
  have hRD : RE w3.drew A3 (n - (i + 1)) (c - (i + 1)) (es.drop (i + 1)) := by
    have := (HE.out.below (below_step hB3 (below_drew1 w3))).drop (i + 1) (by omega)
    rwa [show (if c = i + 1 then A else Option.map (fun x => x.add ((i + 1) * entK.sz)) A) = A3 from hA3] at this
  obtain ⟨w4, hc4, hO4, hg4⟩ := run_copy_shp entK w3.drew 3 ⟨w.heap.size + 1, 0, none⟩ n n (i + 1) _ A3 (n - (i + 1)) (c - (i + 1)) _ (hO3.below (below_drew1 w3)) hRD (by omega) (d := D2) hD2.symm (n - (i + 1))
  rw [hmin2] at hc4 hO4
  have hB4 : Below (w.alloc (.cells cs1 43)).heap.size (w.alloc (.cells cs1 43)) w4 := below_grown (below_step hB3 (below_drew1 w3)) hg4 (by simp)
  have H4 := Lib.hid (And.intro hO4 hB4)
  clear hO4 hB4 hg4 hRD hB3 hg3 hO3 hB1 hO1 hA3 hD2 hD1 hmin1 hmin2
  have hld := (HP1.out.all w4 H4.out.2).ent
  subst hW2
  go_enter Tryd.func59, Tryd.ntmps59
  go_wp2_with fail
  refine wp_region_mix ((fun _ => True)) [(0, 0), (1, 0), (2, 0), (3, 0), (4, 0), (5, 0), (6, 2)] (by kernel_rfl) (by kernel_rfl) (trivial) ?_
  simp only [List.map_cons, List.map_nil]
  iterate 6 (refine wpO_step0 rfl rfl (fun K hK => ?_); go_simp; refine hK _ _ ?_; clear hK K)
  refine wpO_step2 rfl rfl (trivial) (fun K hK => ?_)
  rw [if_pos (show Region.wanted _ _ = true from rfl)]
  refine oper_exec (exec_copy (.tmp 23) (.tmp 27) _ rfl rfl rfl hc3) ?_
  refine hK _ _ ⟨trivial, ?_⟩
  clear hK K
  refine wpO_nil ?_
  go_wp2_with fail
  refine wp_region_mix ((fun _ => True)) [(0, 0), (1, 0), (2, 0), (3, 0), (4, 0), (5, 0), (6, 0), (7, 0), (8, 2)] (by kernel_rfl) (by kernel_rfl) (trivial) ?_
  simp only [List.map_cons, List.map_nil]
  iterate 8 (refine wpO_step0 rfl rfl (fun K hK => ?_); go_simp; refine hK _ _ ?_; clear hK K)
  refine wpO_step2 rfl rfl (trivial) (fun K hK => ?_)
  rw [if_pos (show Region.wanted _ _ = true from rfl)]
  refine oper_exec (exec_copy (.tmp 32) (.tmp 36) _ rfl rfl rfl hc4) ?_
  refine hK _ _ ⟨trivial, ?_⟩
  clear hK K
  refine wpO_nil ?_
  go_wp2_with (first | ((with_reducible show wpList _ _ _ (Oper.mk _ (Op.load _ _) _ _ _ _ :: _) _ _); refine wpList_load_g hld _ rfl rfl (by go_simp) ?_) | ((with_reducible show wpList _ _ _ (Oper.mk _ (Op.store _ _ _) _ _ _ _ :: _) _ _); refine wpList_store_elem H4.out.1 0 (by omega) e HF.out rfl _ _ rfl rfl rfl rfl ?_; intro w5 hg5 hs5 ho5; have H5 := Lib.hid (And.intro hg5 ho5); clear hg5 hs5 ho5))
  go_ret
  have hl := front_list es entZ e n i hlen hi _ _ rfl rfl
  have h5 := H5.out.2
  rw [hl] at h5
  exact ⟨_, _, rfl, h5, below_grown (below_step HBE.out H4.out.2) H5.out.1 (by show w.heap.size ≤ w.heap.size + 1; omega)⟩
end Go.Proofs.YtihfaknflfmohaaDoor

/- Layer 9 (table): Drop, Same, Set. -/
namespace Go.Proofs.YtihfaknflfmohaaDoor
open Go.RowKit
set_option linter.unusedVariables false
set_option linter.unusedSimpArgs false
set_option maxRecDepth 4000
theorem tab_one (A : Option Addr) (n c : Nat) : (tabV A n c).all (·.oneCell') = true := by simp [tabV, Value.oneCell']
theorem splice_tab (A A2 : Option Addr) (n c n2 c2 : Nat) : splice (tabV A n c) 0 (tabV A2 n2 c2).toList = tabV A2 n2 c2 := splice_all _ _ rfl
end Go.Proofs.YtihfaknflfmohaaDoor

/- Layer 27 (cache): asked. -/
namespace Go.Proofs.YtihfaknflfmohaaDoor
open Go.RowKit
set_option linter.unusedVariables false
set_option linter.unusedSimpArgs false
set_option maxRecDepth 4000
structure Tb where
  A : Option Addr
  n : Nat
  c : Nat
  t : List Row
def tbZ : Tb := ⟨none, 0, 0, []⟩
theorem zero_tbl : (Tryd.prog.info? 28).map (fun i => (i.zero, i.size, i.bytes)) = some (some (.agg (tabV none 0 0)), 1, 24) := by kernel_rfl
def tbK : Shape Tb where
  t := 28
  ts := 103
  sz := 1
  bytes := 24
  z := tbZ
  ok := fun _ => True
  enc := fun x => [.slice x.A x.n x.c]
  val := fun x => .agg (tabV x.A x.n x.c)
  len := fun _ _ => rfl
  one := fun x u hu => by rw [List.mem_singleton] at hu; subst hu; rfl
  okz := trivial
  pos := by omega
  bpos := by omega
  blt := by omega
  und := Tryd.underlying103
  info := zero_tbl
  venc := fun _ => rfl
  ld := fun w b o x _ h => load_cells (cs := tabV x.A x.n x.c) h Tryd.underlying28 rfl (info_tab _ _ _)
def tbAt (ts : List Tb) (i : Nat) : Tb := tbK.at_ ts i
def TbOk (w : World) (x : Tb) : Prop := RT w x.A x.n x.c x.t ∧ x.n ≤ 100000
theorem TbOk.below {w w1 : World} {x : Tb} (h : TbOk w x) (hb : Below w.heap.size w w1) : TbOk w1 x := ⟨h.1.below hb, h.2⟩
def askE (x : Cac) (es : List Ent) (ts : List Tb) : Int := if cacB x es then (if ts.all (fun y => tabB y.t) then 0 else 190) else 370
set_option maxRecDepth 100000 in
set_option maxHeartbeats 2000000 in
theorem casked_any (x : Cac) (es : List Ent) (A : Option Addr) (m c : Nat) (ts : List Tb) (w : World) (hL : Laid w) (he : RE w x.A x.n x.c es) (oe : Oke es) (hn : x.n ≤ 100000) (ht : RS tbK w A m c ts) (hm : m ≤ 100) (hts : ∀ y ∈ ts, TbOk w y) :
    Calls Tryd.prog 56 #[.agg x.vv, .slice A m c] w fun r w' => r = .returned (.int .i64 (askE x es ts)) ∧ Below w.heap.size w w' := by
  have hblk1 := blk_new w (.cells (x.vv) 25)
  have hbel1 : Below w.heap.size w (w.alloc (.cells (x.vv) 25)) := below_alloc (Below.refl _ _) _
  have HP1 := Lib.hid (cac_at hblk1)
  have HBK1 := Lib.hid hblk1
  have HBE := Lib.hid hbel1
  have HL := Lib.hid (hL.below HBE.out)
  obtain ⟨cs1, hcs1⟩ : ∃ cs, x.vv = cs := ⟨_, rfl⟩
  simp only [hcs1] at HBE HL HP1 HBK1 ⊢
  have HC1 := Lib.hid hcs1
  clear hL hcs1 hblk1 hbel1
  have HE := Lib.hid (he.below HBE.out)
  have HT := Lib.hid (ht.below HBE.out)
  have HTS := Lib.hid (fun y hy => (hts y hy).below HBE.out)
  have hl1 := (HP1.out.all _ (Below.refl _ _)).cac
  clear he ht hts
  go_enter Tryd.func56, Tryd.ntmps56
  go_wp2_with (first | ((with_reducible show wpList _ _ _ (Oper.mk _ (Op.load _ _) _ _ _ _ :: _) _ _); refine wpList_load_g hl1 _ rfl rfl (by go_simp) ?_))
  refine (ccheck_any x es _ HL.out HE.out oe hn).mono ?_
  rintro e w1 ⟨rfl, hb1⟩
  have HB1 := Lib.hid hb1
  clear hb1 hl1
  cases hc : cacB x es with
  | false =>
    have HF := Lib.hid (show askE x es ts = 370 by unfold askE; rw [hc]; rfl)
    rw [cacE_false hc]
    clear hc
    go_wp2
    go_ret
    rw [HF.out]
    exact ⟨rfl, below_step HBE.out HB1.out⟩
  | true =>
    have HC := Lib.hid hc
    rw [cacE_true hc]
    clear hc
    go_wp2_with fail
    go_loopw [16] (fun y wr => ∃ i : Nat, y = .int .i64 i ∧ Hid (i ≤ m ∧ (∀ k, k < i → tabB (tbAt ts k).t = true) ∧ Below (w.alloc (.cells cs1 25)).heap.size (w.alloc (.cells cs1 25)) wr)) (fun y _ => m - (intOf y).toNat)
    case atStart => exact ⟨0, rfl, Nat.zero_le _, fun k h => by omega, HB1.out⟩
    case round =>
      obtain ⟨i, rfl, HI⟩ := hrel
      by_cases hlt : i < m
      · have hlt' : (i : Int) < m := by omega
        obtain ⟨b, o, rfl, hc⟩ := RS.at_ HT.out (by omega)
        have hld := Shape.ld tbK wr b _ _ (RS.fits_at HT.out hlt) ((hc i hlt).below HI.out.2.2)
        rw [show o + i * tbK.sz = o + i by rw [show i * tbK.sz = i from Nat.mul_one i]] at hld
        have hld : (Instr.loadAt 28 (.pointer (some ⟨b, o + i, none⟩))).run Tryd.prog wr = .ok (.agg (tabV (tbAt ts i).A (tbAt ts i).n (tbAt ts i).c)) wr := hld
        have HIL := Lib.hid (show i < ts.length by rw [HT.out.len]; exact hlt)
        have HTI := Lib.hid ((HTS.out (tbAt ts i) (List.mem_of_getElem? (Shape.at_get (S := tbK) HIL.out))).below HI.out.2.2)
        clear hc
        go_wp2_with (first | ((with_reducible show wpList _ _ _ (Oper.mk _ (Op.load _ _) _ _ _ _ :: _) _ _); refine wpList_load_g hld _ rfl rfl (by go_simp) ?_) | ((with_reducible show wpList _ _ _ (Oper.mk _ (Op.store _ _ _) _ _ _ _ :: _) _ _); refine wpList_store_blk (blk_new wr (.cells (tabV none 0 0) 28)) 28 0 (tabV (tbAt ts i).A (tbAt ts i).n (tbAt ts i).c) (Nat.le_refl _) (info_tab _ _ _) (tab_one _ _ _) _ _ rfl rfl rfl rfl ?_; intro w3 hg9 hs9 hb9; rw [splice_tab] at hb9; have H3 := Lib.hid (And.intro hg9 hb9); clear hg9 hs9 hb9) | ((with_reducible show wpList _ _ _ (Oper.mk _ (Op.load _ _) _ _ _ _ :: _) _ _); refine wpList_load_g (((tab_at H3.out.2).all _ (Below.refl _ _)).1) _ rfl rfl (by go_simp) ?_))
        have HB3 := Lib.hid (below_grown (below_alloc (Below.refl wr.heap.size wr) (.cells (tabV none 0 0) 28)) H3.out.1 (Nat.le_refl _))
        refine (tcheck_any _ _ _ (tbAt ts i).t w3 (HL.out.below (below_step HI.out.2.2 HB3.out)) (HTI.out.1.below HB3.out) HTI.out.2).mono ?_
        rintro e w4 ⟨rfl, hb4⟩
        have HB4 := Lib.hid (below_step HI.out.2.2 (below_step HB3.out hb4))
        clear hb4 hld
        cases hR : tabB (tbAt ts i).t with
        | false =>
          have HF := Lib.hid (show askE x es ts = 190 by
            unfold askE
            rw [HC.out, if_pos rfl, if_neg]
            intro h
            rw [List.all_eq_true] at h
            have h2 := h _ (List.mem_of_getElem? (Shape.at_get (S := tbK) HIL.out))
            exact Bool.false_ne_true (hR.symm.trans h2))
          rw [errT_false hR]
          clear hR
          go_wp2
          go_ret
          rw [HF.out]
          exact ⟨rfl, below_step HBE.out HB4.out⟩
        | true =>
          have HR := Lib.hid hR
          rw [errT_true hR]
          clear hR
          go_wp2_with fail
          go_roundw
          case measure => simp [intOf]; omega
          case rel =>
            refine ⟨i + 1, by go_num, by omega, fun k hk => ?_, HB4.out⟩
            by_cases hki : k < i
            · exact HI.out.2.1 k hki
            · rw [show k = i by omega]; exact HR.out
      · have hlt' : decide (i < m) = false := decide_eq_false hlt
        have HF := Lib.hid (show askE x es ts = 0 by
          unfold askE
          rw [HC.out, if_pos rfl, if_pos]
          rw [List.all_eq_true]
          intro y hy
          obtain ⟨k, hk, e⟩ := List.getElem_of_mem hy
          have h1 := Shape.at_get (S := tbK) hk
          rw [List.getElem?_eq_getElem hk, e] at h1
          rw [Option.some.inj h1]
          exact HI.out.2.1 k (by rw [HT.out.len] at hk; omega))
        have HB := Lib.hid HI.out.2.2
        clear hlt
        go_wp2
        go_ret
        rw [HF.out]
        exact ⟨rfl, below_step HBE.out HB.out⟩
end Go.Proofs.YtihfaknflfmohaaDoor

/- Layer 9 (table): Set. -/
namespace Go.Proofs.YtihfaknflfmohaaDoor
open Go.RowKit
set_option linter.unusedVariables false
set_option linter.unusedSimpArgs false
set_option maxRecDepth 4000
end Go.Proofs.YtihfaknflfmohaaDoor

/- Layer 9 (table): the document's Same and Get. -/
namespace Go.Proofs.YtihfaknflfmohaaDoor
open Go.RowKit
set_option linter.unusedVariables false
set_option linter.unusedSimpArgs false
set_option maxRecDepth 4000
end Go.Proofs.YtihfaknflfmohaaDoor

/- Layer 9 (table): the longest match, by the document. -/
namespace Go.Proofs.YtihfaknflfmohaaDoor
open Go.RowKit
set_option linter.unusedVariables false
set_option linter.unusedSimpArgs false
set_option maxRecDepth 4000
def longR (t : List Row) (v : Int) (l : List Int) : Row := (longest t v l).getD rowZ
def longB (t : List Row) (v : Int) (l : List Int) : Bool := (longest t v l).isSome
theorem long_top {t : List Row} {v : Int} {l : List Int} {r : Row} (ht : rising t = true) (h : Top t v l r) : longR t v l = r ∧ longB t v l = true := by
  unfold longR longB
  rw [(longest_top ht).2 h]
  exact ⟨rfl, rfl⟩
theorem long_no {t : List Row} {v : Int} {l : List Int} (h : ∀ x ∈ t, x.p.has v l = false) : longR t v l = rowZ ∧ longB t v l = false := by
  unfold longR longB
  rw [longest_no.2 h]
  exact ⟨rfl, rfl⟩
theorem has_bits {p : Pfx} {v : Int} {l : List Int} (h : p.has v l = true) : 0 ≤ p.b ∧ p.b ≤ 128 := by
  have h1 : p.right = true := by
    unfold Pfx.has at h
    simp only [Bool.and_eq_true] at h
    exact h.1.1.1
  obtain ⟨b, hb, _, h3⟩ := right_b h1
  omega
theorem row_mem {t : List Row} {i : Nat} (hi : i < t.length) : rowAt t i ∈ t := List.mem_of_getElem? (rowAt_get hi)
theorem rowZ_fits : rowZ.fits := zero16_B
set_option maxHeartbeats 4000000 in
theorem reflongest_any (A : Option Addr) (n c : Nat) (t : List Row) (v : Int) (l : List Int) (w : World) (ht : RT w A n c t) (ot : Oks t) (hup : rising t = true) (hl : B16 l) (hn : n ≤ 100000) : Calls Tryd.prog 28 #[.agg (tabV A n c), .agg (adrV v l)] w fun e w' => e = .returned (.tuple #[.agg (rowV (longR t v l)), .bool (longB t v l)]) ∧ Below w.heap.size w w' := by
  have hblk1 := blk_new w (.cells (tabV A n c) 28)
  have hbel1 : Below w.heap.size w (w.alloc (.cells (tabV A n c) 28)) := below_alloc (Below.refl _ _) _
  have hblk2 := blk_new (w.alloc (.cells (tabV A n c) 28)) (.cells (adrV v l) 31)
  have hbel2 : Below w.heap.size w ((w.alloc (.cells (tabV A n c) 28)).alloc (.cells (adrV v l) 31)) := below_alloc (hbel1) _
  rw [show (w.alloc (.cells (tabV A n c) 28)).heap.size = w.heap.size + 1 by simp] at hblk2
  replace hblk1 := blk_below hblk1 (below_alloc (Below.refl _ _) (.cells (adrV v l) 31))
  have HP1 := Lib.hid (tab_at hblk1)
  have HBK1 := Lib.hid hblk1
  have HP2 := Lib.hid (adr_at hl hblk2)
  have HBK2 := Lib.hid hblk2
  have HBE := Lib.hid hbel2
  obtain ⟨cs1, hcs1⟩ : ∃ cs, tabV A n c = cs := ⟨_, rfl⟩
  obtain ⟨cs2, hcs2⟩ : ∃ cs, adrV v l = cs := ⟨_, rfl⟩
  simp only [hcs1, hcs2] at HBE HP1 HP2 HBK1 HBK2 ⊢
  have HC1 := Lib.hid hcs1
  have HC2 := Lib.hid hcs2
  clear hcs1 hblk1 hbel1 hcs2 hblk2 hbel2
  have HT := Lib.hid (ht.below HBE.out)
  have OT := Lib.hid ot
  have HUP := Lib.hid hup
  have hsz2 : ((w.alloc (.cells cs1 28)).alloc (.cells cs2 31)).heap.size = w.heap.size + 2 := by simp
  have hz := blk_new ((w.alloc (.cells cs1 28)).alloc (.cells cs2 31)) (.cells (rowV rowZ) 38)
  rw [hsz2] at hz
  obtain ⟨W0, hW0⟩ : ∃ W0, ((w.alloc (.cells cs1 28)).alloc (.cells cs2 31)).alloc (.cells (rowV rowZ) 38) = W0 := ⟨_, rfl⟩
  have hb0 : Below ((w.alloc (.cells cs1 28)).alloc (.cells cs2 31)).heap.size ((w.alloc (.cells cs1 28)).alloc (.cells cs2 31)) W0 := hW0 ▸ below_alloc (Below.refl _ _) _
  rw [hW0] at hz
  have HZ := Lib.hid hz
  have HB0 := Lib.hid hb0
  have HW0 := Lib.hid hW0
  clear ht ot hup hz hsz2 hb0
  go_enter Tryd.func28, Tryd.ntmps28
  go_wp2_with fail
  rw [show (((w.alloc (.cells cs1 28)).alloc (.cells cs2 31)).alloc (.cells #[.int .i64 0, .int .u8 0, .int .u8 0, .int .u8 0, .int .u8 0, .int .u8 0, .int .u8 0, .int .u8 0, .int .u8 0, .int .u8 0, .int .u8 0, .int .u8 0, .int .u8 0, .int .u8 0, .int .u8 0, .int .u8 0, .int .u8 0, .int .i64 0, .int .i64 0] 38)) = W0 from hW0]
  clear hW0
  go_loopw [6] (fun x wr => ∃ bt : Int, x = .int .i64 bt ∧ Hid (-1 ≤ bt ∧ bt ≤ 128 ∧ (∀ x ∈ t, x.p.has v l = true → x.p.b ≤ bt) ∧ Below W0.heap.size W0 wr)) (fun x _ => (intOf x + 1).toNat)
  case atStart => exact ⟨128, rfl, by omega, by omega, fun x _ h => (has_bits h).2, Below.refl _ _⟩
  case round =>
    obtain ⟨bt, rfl, HH⟩ := hrel
    by_cases hb0 : 0 ≤ bt
    · have hb128 : bt ≤ 128 := HH.out.2.1
      have hb0' : decide (0 ≤ bt) = true := decide_eq_true hb0
      go_wp2_with fail
      obtain ⟨wo, hwo⟩ : ∃ wo : World, wo = wr := ⟨_, rfl⟩
      rw [← hwo] at HH ⊢
      clear hwo wr
      go_loopw [7] (fun x wr => ∃ i : Nat, x = .int .i64 i ∧ Hid (i ≤ n ∧ (∀ k, k < i → (rowAt t k).p.has v l = true → (rowAt t k).p.b ≠ bt) ∧ Below W0.heap.size W0 wr)) (fun x _ => n - (intOf x).toNat)
      case atStart => exact ⟨0, rfl, Nat.zero_le _, fun k h => by omega, HH.out.2.2.2⟩
      case round =>
        obtain ⟨i, rfl, HI⟩ := hrel
        have HBI := Lib.hid (below_step HB0.out HI.out.2.2)
        have hl1 := (HP1.out.all wr HBI.out).2
        by_cases hlt : i < n
        · have hlt' : (i : Int) < n := by omega
          obtain ⟨b, o, rfl, hc⟩ := RT.at_ HT.out (by omega)
          have HC3 := Lib.hid (hc i hlt)
          have HF := Lib.hid (RT.fits_at HT.out hlt)
          have hbw := wf_le (OT.out.at_ (i := i) (by rw [HT.out.len]; exact hlt)).p.b
          clear hc
          go_wp2_with (first | ((with_reducible show wpList _ _ _ (Oper.mk _ (Op.load _ _) _ _ _ _ :: _) _ _); refine wpList_load_g hl1 _ rfl rfl (by go_simp) ?_))
          clear hl1
          refine wp_region_mix (fun w0 => Below (wr).heap.size (wr) w0) [(0, 0), (1, 0), (2, 0), (3, 0), (4, 0), (5, 0), (6, 0), (7, 0), (8, 0), (9, 0), (10, 0), (11, 0), (12, 0), (13, 0), (14, 0), (15, 0), (16, 0), (17, 2), (18, 0)] (by kernel_rfl) (by kernel_rfl) (below_drew1 _) ?_
          simp only [List.map_cons, List.map_nil]
          iterate 1 (refine wpO_step0 rfl rfl (fun K hK => ?_); go_simp; refine hK _ _ ?_; clear hK K)
          refine wpO_loadW (t := 26) (ad := ⟨w.heap.size, 0, none⟩) rfl rfl ?hw rfl rfl ((fun w0 hS => (HP1.out.all w0 (below_step HBI.out hS)).2)) ?_
          case hw => go_simp
          iterate 4 (refine wpO_step0 rfl rfl (fun K hK => ?_); go_simp; refine hK _ _ ?_; clear hK K)
          refine wpO_loadW (t := 3) (ad := ⟨b, (o+i*19+17), none⟩) rfl rfl ?hw rfl rfl ((fun w0 hS => (rowLd_of HF.out (HC3.out.below (below_step HBI.out hS))).bit)) ?_
          case hw => go_simp
          by_cases hbb : (rowAt t i).p.b = bt
          · have hbb' : ((rowAt t i).p.b == bt) = true := by simpa using hbb
            have HBB := Lib.hid hbb
            clear hbb
            iterate 4 (refine wpO_step0 rfl rfl (fun K hK => ?_); go_simp; refine hK _ _ ?_; clear hK K)
            refine wpO_loadW (t := 26) (ad := ⟨w.heap.size, 0, none⟩) rfl rfl ?hw rfl rfl ((fun w0 hS => (HP1.out.all w0 (below_step HBI.out hS)).2)) ?_
            case hw => go_simp
            iterate 3 (refine wpO_step0 rfl rfl (fun K hK => ?_); go_simp; refine hK _ _ ?_; clear hK K)
            refine wpO_loadW (t := 36) (ad := ⟨b, (o+i*19), none⟩) rfl rfl ?hw rfl rfl ((fun w0 hS => (rowLd_of HF.out (HC3.out.below (below_step HBI.out hS))).pfx)) ?_
            case hw => go_simp
            refine wpO_loadW (t := 31) (ad := ⟨(w.heap.size+1), 0, none⟩) rfl rfl ?hw rfl rfl ((fun w0 hS => (HP2.out.all w0 (below_step HBI.out hS)).1)) ?_
            case hw => go_simp
            refine wpO_step2 rfl rfl (below_drew1 _) (fun K hK => ?_)
            go_simp
            refine (refhas_any (rowAt t i).p v l _ HF.out hl hbw).mono ?_
            rintro e w3 ⟨rfl, hbb3⟩
            have HB3 := Lib.hid (below_step (below_drew1 _) hbb3)
            clear hbb3
            refine hK _ _ ⟨HB3.out, ?_⟩
            clear hK K
            have HB4 := Lib.hid (below_step HI.out.2.2 HB3.out)
            cases hh : (rowAt t i).p.has v l with
            | true =>
              have HE := Lib.hid (long_top HUP.out (show Top t v l (rowAt t i) from ⟨row_mem (by rw [HT.out.len]; exact hlt), hh, fun x hx hxh => by rw [HBB.out]; exact HH.out.2.2.1 x hx hxh⟩))
              have hl2 := (HP1.out.all w3 (below_step HB0.out HB4.out)).2
              have hl3 := (rowLd_of HF.out (HC3.out.below (below_step HB0.out HB4.out))).row
              have HZ3 := Lib.hid (blk_below HZ.out HB4.out)
              clear hh
              iterate 1 (refine wpO_step0 rfl rfl (fun K hK => ?_); go_simp; refine hK _ _ ?_; clear hK K)
              refine wpO_nil ?_
              go_wp2_with (first | ((with_reducible show wpList _ _ _ (Oper.mk _ (Op.load _ _) _ _ _ _ :: _) _ _); refine wpList_load_g hl2 _ rfl rfl (by go_simp) ?_) | ((with_reducible show wpList _ _ _ (Oper.mk _ (Op.load _ _) _ _ _ _ :: _) _ _); refine wpList_load_g hl3 _ rfl rfl (by go_simp) ?_) | ((with_reducible show wpList _ _ _ (Oper.mk _ (Op.store _ _ _) _ _ _ _ :: _) _ _); refine wpList_store_blk HZ3.out 38 0 (rowV (rowAt t i)) (store_row_fit HF.out (rowV_size rowZ_fits)) (info_row HF.out) (rowV_one _) _ _ rfl rfl rfl rfl ?_; intro w5 hg9 hs9 hb9; rw [splice_row HF.out (rowV_size rowZ_fits)] at hb9; have H5 := Lib.hid (And.intro hg9 hb9); clear hg9 hs9 hb9))
              have hld := Shape.ld rowK w5 _ 0 (rowAt t i) HF.out (cells_blk H5.out.2)
              refine bodyPost_ret (results_c2 rfl rfl hld) rfl ?_
              rw [HE.out.1, HE.out.2]
              exact ⟨rfl, below_grown (below_step HBE.out (below_step HB0.out HB4.out)) H5.out.1 (by omega)⟩
            | false =>
              have HQ := Lib.hid hh
              clear hh
              iterate 1 (refine wpO_step0 rfl rfl (fun K hK => ?_); go_simp; refine hK _ _ ?_; clear hK K)
              refine wpO_nil ?_
              go_wp2_with fail
              go_roundw
              case measure => simp [intOf]; omega
              case rel =>
                refine ⟨i + 1, by go_num, by omega, fun k hk hkh => ?_, HB4.out⟩
                by_cases hki : k < i
                · exact HI.out.2.1 k hki hkh
                · rw [show k = i by omega, HQ.out] at hkh
                  cases hkh
          · have hbb' : ((rowAt t i).p.b == bt) = false := by simpa using hbb
            have HBB := Lib.hid hbb
            clear hbb
            repeat first | (refine wpO_step0 rfl rfl (fun K hK => ?_); go_simp; refine hK _ _ ?_; clear hK K) | (refine wpO_step2 rfl rfl (below_drew1 _) (fun K hK => ?_); go_simp; refine hK _ _ ⟨below_drew1 _, ?_⟩; clear hK K)
            refine wpO_nil ?_
            go_wp2_with fail
            go_roundw
            case measure => simp [intOf]; omega
            case rel =>
              refine ⟨i + 1, by go_num, by omega, fun k hk hkh => ?_, below_step HI.out.2.2 (below_drew1 _)⟩
              by_cases hki : k < i
              · exact HI.out.2.1 k hki hkh
              · rw [show k = i by omega]
                exact HBB.out
        · have hlt' : decide (i < n) = false := decide_eq_false hlt
          have HIN := Lib.hid (show ∀ x ∈ t, x.p.has v l = true → x.p.b ≤ bt - 1 by
            intro x hx hxh
            have h1 := HH.out.2.2.1 x hx hxh
            obtain ⟨k, hk, rfl⟩ := List.getElem_of_mem hx
            have h4 := rowAt_get hk
            rw [List.getElem?_eq_getElem hk] at h4
            rw [Option.some.inj h4] at hxh h1 ⊢
            have h2 := HI.out.2.1 k (by rw [HT.out.len] at hk; have := HI.out.1; omega) hxh
            omega)
          clear hlt
          go_wp2_with (first | ((with_reducible show wpList _ _ _ (Oper.mk _ (Op.load _ _) _ _ _ _ :: _) _ _); refine wpList_load_g hl1 _ rfl rfl (by go_simp) ?_))
          go_roundw
          case measure => simp [intOf]; omega
          case rel => exact ⟨bt - 1, by go_num, by omega, by omega, HIN.out, HI.out.2.2⟩
    · have hb0' : decide (0 ≤ bt) = false := decide_eq_false hb0
      have HE := Lib.hid (long_no (t := t) (v := v) (l := l) (fun x hx => by
        rw [Bool.eq_false_iff]
        intro h
        have h1 := HH.out.2.2.1 x hx h
        have h2 := has_bits h
        omega))
      have HZ3 := Lib.hid (blk_below HZ.out HH.out.2.2.2)
      have hbn := run_build_row_nil
      clear hb0
      go_wp2_with (first | (refine wpList_exec rfl (exec_build 38 #[] rfl #[] rfl (hbn _)) ?_) | ((with_reducible show wpList _ _ _ (Oper.mk _ (Op.store _ _ _) _ _ _ _ :: _) _ _); refine wpList_store_blk HZ3.out 38 0 (rowV rowZ) (store_row_fit rowZ_fits (rowV_size rowZ_fits)) (info_row rowZ_fits) (rowV_one _) _ _ rfl rfl rfl rfl ?_; intro w5 hg9 hs9 hb9; rw [splice_row rowZ_fits (rowV_size rowZ_fits)] at hb9; have H5 := Lib.hid (And.intro hg9 hb9); clear hg9 hs9 hb9))
      have hld := Shape.ld rowK w5 _ 0 rowZ rowZ_fits (cells_blk H5.out.2)
      refine bodyPost_ret (results_c2 rfl rfl hld) rfl ?_
      rw [HE.out.1, HE.out.2]
      exact ⟨rfl, below_grown (below_step HBE.out (below_step HB0.out HH.out.2.2.2)) H5.out.1 (by omega)⟩
end Go.Proofs.YtihfaknflfmohaaDoor

/- Layer 5 (prefix): Holds. -/
namespace Go.Proofs.YtihfaknflfmohaaDoor
open Go.RowKit
set_option linter.unusedVariables false
set_option linter.unusedSimpArgs false
set_option maxRecDepth 4000

end Go.Proofs.YtihfaknflfmohaaDoor

/- Layer 9 (table): Longest. -/
namespace Go.Proofs.YtihfaknflfmohaaDoor
open Go.RowKit
set_option linter.unusedVariables false
set_option linter.unusedSimpArgs false
set_option maxRecDepth 4000
def longE (t : List Row) (v : Int) (l : List Int) : Int := if tabB t then errA v l else 190
def longRE (t : List Row) (v : Int) (l : List Int) : Row := if longE t v l = 0 then longR t v l else rowZ
def longBE (t : List Row) (v : Int) (l : List Int) : Bool := if longE t v l = 0 then longB t v l else false
theorem long_skip {t : List Row} {v : Int} {l : List Int} {i : Nat} (hi : i < t.length) (h : (rowAt t i).p.has v l = false) : longR (t.take (i + 1)) v l = longR (t.take i) v l ∧ longB (t.take (i + 1)) v l = longB (t.take i) v l := by
  have e : t.take (i + 1) = t.take i ++ [rowAt t i] := Shape.take_succ (S := rowK) hi
  have e2 : longest (t.take (i + 1)) v l = longest (t.take i) v l := by rw [e, longest_snoc]; unfold bestStep; rw [h]; rfl
  unfold longR longB
  rw [e2]
  exact ⟨rfl, rfl⟩
theorem long_first {t : List Row} {v : Int} {l : List Int} {i : Nat} (hi : i < t.length) (h : (rowAt t i).p.has v l = true) (hb : longB (t.take i) v l = false) : longR (t.take (i + 1)) v l = rowAt t i ∧ longB (t.take (i + 1)) v l = true := by
  have e : t.take (i + 1) = t.take i ++ [rowAt t i] := Shape.take_succ (S := rowK) hi
  have hn : longest (t.take i) v l = none := by
    unfold longB at hb
    cases hx : longest (t.take i) v l with
    | none => rfl
    | some x => rw [hx] at hb; cases hb
  have e2 : longest (t.take (i + 1)) v l = some (rowAt t i) := by rw [e, longest_snoc]; unfold bestStep; rw [h, hn]; rfl
  unfold longR longB
  rw [e2]
  exact ⟨rfl, rfl⟩
theorem long_more {t : List Row} {v : Int} {l : List Int} {i : Nat} (hi : i < t.length) (h : (rowAt t i).p.has v l = true) (hb : longB (t.take i) v l = true) (hc : (longR (t.take i) v l).p.b < (rowAt t i).p.b) : longR (t.take (i + 1)) v l = rowAt t i ∧ longB (t.take (i + 1)) v l = true := by
  have e : t.take (i + 1) = t.take i ++ [rowAt t i] := Shape.take_succ (S := rowK) hi
  have e2 : longest (t.take (i + 1)) v l = some (rowAt t i) := by
    rw [e, longest_snoc]
    unfold bestStep
    rw [h]
    unfold longB at hb
    unfold longR at hc
    cases hx : longest (t.take i) v l with
    | none => rw [hx] at hb; cases hb
    | some x =>
      rw [hx] at hc
      simp only [Option.getD_some] at hc
      simp [hc]
  unfold longR longB
  rw [e2]
  exact ⟨rfl, rfl⟩
theorem long_less {t : List Row} {v : Int} {l : List Int} {i : Nat} (hi : i < t.length) (h : (rowAt t i).p.has v l = true) (hb : longB (t.take i) v l = true) (hc : ¬ (longR (t.take i) v l).p.b < (rowAt t i).p.b) : longR (t.take (i + 1)) v l = longR (t.take i) v l ∧ longB (t.take (i + 1)) v l = true := by
  have e : t.take (i + 1) = t.take i ++ [rowAt t i] := Shape.take_succ (S := rowK) hi
  have e2 : longest (t.take (i + 1)) v l = longest (t.take i) v l := by
    rw [e, longest_snoc]
    unfold bestStep
    rw [h]
    unfold longB at hb
    unfold longR at hc
    cases hx : longest (t.take i) v l with
    | none => rw [hx] at hb; cases hb
    | some x =>
      rw [hx] at hc
      simp only [Option.getD_some] at hc
      simp [hc]
  unfold longR longB at *
  rw [e2]
  exact ⟨rfl, hb⟩
theorem longR_fits {t : List Row} (h : Fits t) (v : Int) (l : List Int) : (longR t v l).fits := by
  unfold longR
  rcases longest_spec v l t with ⟨h1, _⟩ | ⟨i, r, h1, h2⟩
  · rw [h1]; exact zero16_B
  · rw [h1]
    exact h r (List.mem_of_getElem? h2.at_)
set_option maxHeartbeats 4000000 in
theorem tlongest_any (A : Option Addr) (n c : Nat) (t : List Row) (v : Int) (l : List Int) (w : World) (hL : Laid w) (ht : RT w A n c t) (hl : B16 l) (hn : n ≤ 100000) : Calls Tryd.prog 23 #[.agg (tabV A n c), .agg (adrV v l)] w fun e w' => e = .returned (.tuple #[.agg (rowV (longRE t v l)), .bool (longBE t v l), .int .i64 (longE t v l)]) ∧ Below w.heap.size w w' := by
  have hblk1 := blk_new w (.cells (tabV A n c) 28)
  have hbel1 : Below w.heap.size w (w.alloc (.cells (tabV A n c) 28)) := below_alloc (Below.refl _ _) _
  have hblk2 := blk_new (w.alloc (.cells (tabV A n c) 28)) (.cells (adrV v l) 31)
  have hbel2 : Below w.heap.size w ((w.alloc (.cells (tabV A n c) 28)).alloc (.cells (adrV v l) 31)) := below_alloc (hbel1) _
  rw [show (w.alloc (.cells (tabV A n c) 28)).heap.size = w.heap.size + 1 by simp] at hblk2
  replace hblk1 := blk_below hblk1 (below_alloc (Below.refl _ _) (.cells (adrV v l) 31))
  have HP1 := Lib.hid (tab_at hblk1)
  have HBK1 := Lib.hid hblk1
  have HP2 := Lib.hid (adr_at hl hblk2)
  have HBK2 := Lib.hid hblk2
  have HBE := Lib.hid hbel2
  have HL := Lib.hid (hL.below HBE.out)
  obtain ⟨cs1, hcs1⟩ : ∃ cs, tabV A n c = cs := ⟨_, rfl⟩
  obtain ⟨cs2, hcs2⟩ : ∃ cs, adrV v l = cs := ⟨_, rfl⟩
  simp only [hcs1, hcs2] at HBE HL HP1 HP2 HBK1 HBK2 ⊢
  have HC1 := Lib.hid hcs1
  have HC2 := Lib.hid hcs2
  clear hL hcs1 hblk1 hbel1 hcs2 hblk2 hbel2
  have HT := Lib.hid (ht.below HBE.out)
  have hsz2 : ((w.alloc (.cells cs1 28)).alloc (.cells cs2 31)).heap.size = w.heap.size + 2 := by simp
  have hz := blk_new ((w.alloc (.cells cs1 28)).alloc (.cells cs2 31)) (.cells (rowV rowZ) 38)
  rw [hsz2] at hz
  have HZ := Lib.hid hz
  have hl1 := (HP1.out.all _ (below_alloc (Below.refl _ _) (.cells (rowV rowZ) 38))).1
  rw [HC1.out] at hl1
  have hbn := run_build_row_nil
  clear ht hz hsz2
  go_enter Tryd.func23, Tryd.ntmps23
  go_wp2_with (first | ((with_reducible show wpList _ _ _ (Oper.mk _ (Op.load _ _) _ _ _ _ :: _) _ _); refine wpList_load_g hl1 _ rfl rfl (by go_simp) ?_))
  have hch := tcheck_any A n c t _ (HL.out.below (below_alloc (Below.refl _ _) (.cells (rowV rowZ) 38))) (HT.out.below (below_alloc (Below.refl _ _) _)) (by omega)
  rw [HC1.out] at hch
  refine hch.mono ?_
  clear hch
  rintro e w1 ⟨rfl, hbb1⟩
  have HZ1 := Lib.hid (blk_below HZ.out hbb1)
  have HB1 := Lib.hid (below_step (below_alloc (Below.refl _ _) (.cells (rowV rowZ) 38)) hbb1)
  clear hbb1 hl1 HZ
  cases hR : tabB t with
  | false =>
    have HE := Lib.hid (show longE t v l = 190 ∧ longRE t v l = rowZ ∧ longBE t v l = false by
      have h1 : longE t v l = 190 := by unfold longE; rw [hR]; rfl
      unfold longRE longBE
      rw [h1]
      exact ⟨rfl, rfl, rfl⟩)
    rw [errT_false hR]
    clear hR
    go_wp2_with (first | ((with_reducible show wpList _ _ _ (Oper.mk _ (Op.build _ _) _ _ _ _ :: _) _ _); refine wpList_exw rfl (exec_build 38 #[] rfl #[] rfl (hbn _)) ?_) | ((with_reducible show wpList _ _ _ (Oper.mk _ (Op.store _ _ _) _ _ _ _ :: _) _ _); refine wpList_store_blk HZ1.out 38 0 (rowV rowZ) (store_row_fit rowZ_fits (rowV_size rowZ_fits)) (info_row rowZ_fits) (rowV_one _) _ _ rfl rfl rfl rfl ?_; intro w5 hg9 hs9 hb9; rw [splice_row rowZ_fits (rowV_size rowZ_fits)] at hb9; have H5 := Lib.hid (And.intro hg9 hb9); clear hg9 hs9 hb9))
    have hld := Shape.ld rowK w5 _ 0 rowZ rowZ_fits (cells_blk H5.out.2)
    refine bodyPost_ret (results_c3 rfl rfl hld) rfl ?_
    rw [HE.out.1, HE.out.2.1, HE.out.2.2]
    exact ⟨rfl, below_grown (below_step HBE.out HB1.out) H5.out.1 (by omega)⟩
  | true =>
    have HR := Lib.hid hR
    rw [errT_true hR]
    clear hR
    have hl2 := (HP2.out.all w1 HB1.out).1
    rw [HC2.out] at hl2
    go_wp2_with (first | ((with_reducible show wpList _ _ _ (Oper.mk _ (Op.load _ _) _ _ _ _ :: _) _ _); refine wpList_load_g hl2 _ rfl rfl (by go_simp) ?_))
    have hch := checkAddr_any v l w1 (HL.out.below HB1.out) hl
    rw [HC2.out] at hch
    refine hch.mono ?_
    clear hch
    rintro e w2 ⟨rfl, hbb2⟩
    have HZ2 := Lib.hid (blk_below HZ1.out hbb2)
    have HB2 := Lib.hid (below_step HB1.out hbb2)
    have HLE : Hid (longE t v l = errA v l) := Lib.hid (by unfold longE; rw [HR.out]; rfl)
    clear hbb2 hl2 HZ1 HB1
    cases hra : rightA v l with
    | false =>
      have HE := Lib.hid (show longE t v l = 150 ∧ longRE t v l = rowZ ∧ longBE t v l = false by
        have h1 : longE t v l = 150 := by rw [HLE.out, errA_false hra]
        unfold longRE longBE
        rw [h1]
        exact ⟨rfl, rfl, rfl⟩)
      rw [errA_false hra]
      clear hra
      go_wp2_with (first | ((with_reducible show wpList _ _ _ (Oper.mk _ (Op.build _ _) _ _ _ _ :: _) _ _); refine wpList_exw rfl (exec_build 38 #[] rfl #[] rfl (hbn _)) ?_) | ((with_reducible show wpList _ _ _ (Oper.mk _ (Op.store _ _ _) _ _ _ _ :: _) _ _); refine wpList_store_blk HZ2.out 38 0 (rowV rowZ) (store_row_fit rowZ_fits (rowV_size rowZ_fits)) (info_row rowZ_fits) (rowV_one _) _ _ rfl rfl rfl rfl ?_; intro w5 hg9 hs9 hb9; rw [splice_row rowZ_fits (rowV_size rowZ_fits)] at hb9; have H5 := Lib.hid (And.intro hg9 hb9); clear hg9 hs9 hb9))
      have hld := Shape.ld rowK w5 _ 0 rowZ rowZ_fits (cells_blk H5.out.2)
      refine bodyPost_ret (results_c3 rfl rfl hld) rfl ?_
      rw [HE.out.1, HE.out.2.1, HE.out.2.2]
      exact ⟨rfl, below_grown (below_step HBE.out HB2.out) H5.out.1 (by omega)⟩
    | true =>
      have HE := Lib.hid (show longE t v l = 0 ∧ longRE t v l = longR t v l ∧ longBE t v l = longB t v l by
        have h1 : longE t v l = 0 := by rw [HLE.out, errA_true hra]
        unfold longRE longBE
        rw [h1]
        exact ⟨rfl, rfl, rfl⟩)
      rw [errA_true hra]
      clear hra
      have hl3 := (HP1.out.all (w2.alloc (.cells (rowV rowZ) 38)) (below_step HB2.out (below_alloc (Below.refl _ _) _))).2
      have HG := Lib.hid (blk_new w2 (.cells (rowV rowZ) 38))
      have HZ2L := Lib.hid (blk_lt HZ2.out)
      go_wp2_with (first | ((with_reducible show wpList _ _ _ (Oper.mk _ (Op.load _ _) _ _ _ _ :: _) _ _); refine wpList_load_g hl3 _ rfl rfl (by go_simp) ?_))
      clear hl3
      go_loopw [8, 24] (fun y x wr => ∃ (i : Nat) (th : Bool), x = .int .i64 i ∧ y = .bool th ∧ Hid (i ≤ n ∧ longB (t.take i) v l = th ∧ wr.heap[w2.heap.size]? = some (.cells (rowV (longR (t.take i) v l)) 38 (0, 0)) ∧ Below w2.heap.size w2 wr)) (fun _ x _ => n - (intOf x).toNat)
      case atStart => exact ⟨0, false, rfl, rfl, Nat.zero_le _, rfl, HG.out, below_alloc (Below.refl _ _) _⟩
      case round =>
        obtain ⟨i, th, rfl, rfl, HH⟩ := hrel
        have HBR := Lib.hid (below_step HB2.out HH.out.2.2.2)
        by_cases hlt : i < n
        · have hlt' : (i : Int) < n := by omega
          obtain ⟨b, o, rfl, hc⟩ := RT.at_ HT.out (by omega)
          have HC3 := Lib.hid (hc i hlt)
          have HF := Lib.hid (RT.fits_at HT.out hlt)
          have hrow := (rowLd_of HF.out (HC3.out.below HBR.out)).row
          have hilt : i < t.length := by rw [HT.out.len]; exact hlt
          have HIL := Lib.hid hilt
          have hg := blk_lt HH.out.2.2.1
          clear hc hilt
          go_wp2_with (first | ((with_reducible show wpList _ _ _ (Oper.mk _ (Op.load _ _) _ _ _ _ :: _) _ _); refine wpList_load_g hrow _ rfl rfl (by go_simp) ?_) | ((with_reducible show wpList _ _ _ (Oper.mk _ (Op.store _ _ _) _ _ _ _ :: _) _ _); refine wpList_store_blk (blk_new wr _) 38 0 (rowV (rowAt t i)) (store_row_fit HF.out rfl) (info_row HF.out) (rowV_one _) _ _ rfl rfl rfl rfl ?_; intro w3 hg9 hs9 hb9; rw [splice_row HF.out rfl] at hb9; have H3 := Lib.hid (And.intro hg9 hb9); clear hg9 hs9 hb9) | ((with_reducible show wpList _ _ _ (Oper.mk _ (Op.load _ _) _ _ _ _ :: _) _ _); refine wpList_load_g (((row_at HF.out H3.out.2).all _ (Below.refl _ _)).pfx) _ rfl rfl (by go_simp) ?_) | ((with_reducible show wpList _ _ _ (Oper.mk _ (Op.load _ _) _ _ _ _ :: _) _ _); refine wpList_load_g ((HP2.out.all w3 (below_grown (below_step HBR.out (below_alloc (Below.refl _ _) _)) H3.out.1 (HBR.out.size))).1) _ rfl rfl (by go_simp) ?_))
          have HB3 := Lib.hid (below_grown (below_alloc (Below.refl wr.heap.size wr) (.cells (rowV rowZ) 38)) H3.out.1 (Nat.le_refl _))
          refine (has_any (rowAt t i).p v l w3 (HL.out.below (below_step HBR.out HB3.out)) HF.out hl).mono ?_
          rintro e w4 ⟨rfl, hbb4⟩
          have HB4 := Lib.hid (below_step HB3.out hbb4)
          have H4 := Lib.hid (row_at HF.out (blk_below H3.out.2 hbb4))
          have HG4 := Lib.hid (blk_below HH.out.2.2.1 HB4.out)
          clear hbb4 hrow
          cases hh : (rowAt t i).p.has v l with
          | false =>
            have HQ := Lib.hid (long_skip HIL.out hh)
            clear hh
            go_wp2_with fail
            go_roundw
            case measure => simp [intOf]; omega
            case rel => exact ⟨i + 1, th, by go_num, rfl, by omega, by rw [HQ.out.2]; exact HH.out.2.1, by rw [HQ.out.1]; exact HG4.out, below_step HH.out.2.2.2 HB4.out⟩
          | true =>
            cases th with
            | false =>
              have HQ := Lib.hid (long_first HIL.out hh HH.out.2.1)
              have hl4 := (H4.out.all w4 (Below.refl _ _)).row
              clear hh
              go_wp2_with (first | ((with_reducible show wpList _ _ _ (Oper.mk _ (Op.load _ _) _ _ _ _ :: _) _ _); refine wpList_load_g hl4 _ rfl rfl (by go_simp) ?_) | ((with_reducible show wpList _ _ _ (Oper.mk _ (Op.store _ _ _) _ _ _ _ :: _) _ _); refine wpList_store_blk HG4.out 38 0 (rowV (rowAt t i)) (store_row_fit HF.out (rowV_size (longR_fits (HT.out.fits.take i) v l))) (info_row HF.out) (rowV_one _) _ _ rfl rfl rfl rfl ?_; intro w5 hg9 hs9 hb9; rw [splice_row HF.out (rowV_size (longR_fits (HT.out.fits.take i) v l))] at hb9; have H5 := Lib.hid (And.intro hg9 hb9); clear hg9 hs9 hb9))
              go_roundw
              case measure => simp [intOf]; omega
              case rel => exact ⟨i + 1, true, by go_num, rfl, by omega, HQ.out.2, by rw [HQ.out.1]; exact H5.out.2, below_grown (below_step HH.out.2.2.2 HB4.out) H5.out.1 (Nat.le_refl _)⟩
            | true =>
              have hlb := (H4.out.all w4 (Below.refl _ _)).bit
              have hlc := ((row_at (longR_fits (HT.out.fits.take i) v l) HG4.out).all w4 (Below.refl _ _)).bit
              by_cases hcb : (longR (t.take i) v l).p.b < (rowAt t i).p.b
              · have HQ := Lib.hid (long_more HIL.out hh HH.out.2.1 hcb)
                have hl4 := (H4.out.all w4 (Below.refl _ _)).row
                clear hh
                go_wp2_with (first | ((with_reducible show wpList _ _ _ (Oper.mk _ (Op.load _ _) _ _ _ _ :: _) _ _); refine wpList_load_g hlb _ rfl rfl (by go_simp) ?_) | ((with_reducible show wpList _ _ _ (Oper.mk _ (Op.load _ _) _ _ _ _ :: _) _ _); refine wpList_load_g hlc _ rfl rfl (by go_simp) ?_) | ((with_reducible show wpList _ _ _ (Oper.mk _ (Op.load _ _) _ _ _ _ :: _) _ _); refine wpList_load_g hl4 _ rfl rfl (by go_simp) ?_) | ((with_reducible show wpList _ _ _ (Oper.mk _ (Op.store _ _ _) _ _ _ _ :: _) _ _); refine wpList_store_blk HG4.out 38 0 (rowV (rowAt t i)) (store_row_fit HF.out (rowV_size (longR_fits (HT.out.fits.take i) v l))) (info_row HF.out) (rowV_one _) _ _ rfl rfl rfl rfl ?_; intro w5 hg9 hs9 hb9; rw [splice_row HF.out (rowV_size (longR_fits (HT.out.fits.take i) v l))] at hb9; have H5 := Lib.hid (And.intro hg9 hb9); clear hg9 hs9 hb9))
                go_roundw
                case measure => simp [intOf]; omega
                case rel => exact ⟨i + 1, true, by go_num, rfl, by omega, HQ.out.2, by rw [HQ.out.1]; exact H5.out.2, below_grown (below_step HH.out.2.2.2 HB4.out) H5.out.1 (Nat.le_refl _)⟩
              · have HQ := Lib.hid (long_less HIL.out hh HH.out.2.1 hcb)
                have hcb' : decide ((longR (t.take i) v l).p.b < (rowAt t i).p.b) = false := decide_eq_false hcb
                clear hh hcb
                go_wp2_with (first | ((with_reducible show wpList _ _ _ (Oper.mk _ (Op.load _ _) _ _ _ _ :: _) _ _); refine wpList_load_g hlb _ rfl rfl (by go_simp) ?_) | ((with_reducible show wpList _ _ _ (Oper.mk _ (Op.load _ _) _ _ _ _ :: _) _ _); refine wpList_load_g hlc _ rfl rfl (by go_simp) ?_))
                go_roundw
                case measure => simp [intOf]; omega
                case rel => exact ⟨i + 1, true, by go_num, rfl, by omega, HQ.out.2, by rw [HQ.out.1]; exact HG4.out, below_step HH.out.2.2.2 HB4.out⟩
        · have hlt' : decide (i < n) = false := decide_eq_false hlt
          have htk : t.take i = t := List.take_of_length_le (by rw [HT.out.len]; omega)
          have hth := HH.out.2.1
          have hgg := HH.out.2.2.1
          rw [htk] at hth hgg
          have HTH := Lib.hid hth
          have HZ3 := Lib.hid (blk_below HZ2.out HH.out.2.2.2)
          have hfl := longR_fits HT.out.fits v l
          have hl5 := ((row_at hfl hgg).all wr (Below.refl _ _)).row
          clear hlt htk hth
          go_wp2_with (first | ((with_reducible show wpList _ _ _ (Oper.mk _ (Op.load _ _) _ _ _ _ :: _) _ _); refine wpList_load_g hl5 _ rfl rfl (by go_simp) ?_) | ((with_reducible show wpList _ _ _ (Oper.mk _ (Op.store _ _ _) _ _ _ _ :: _) _ _); refine wpList_store_blk HZ3.out 38 0 (rowV (longR t v l)) (store_row_fit hfl (rowV_size rowZ_fits)) (info_row hfl) (rowV_one _) _ _ rfl rfl rfl rfl ?_; intro w5 hg9 hs9 hb9; rw [splice_row hfl (rowV_size rowZ_fits)] at hb9; have H5 := Lib.hid (And.intro hg9 hb9); clear hg9 hs9 hb9))
          have hld := Shape.ld rowK w5 _ 0 (longR t v l) hfl (cells_blk H5.out.2)
          refine bodyPost_ret (results_c3 rfl rfl hld) rfl ?_
          rw [HE.out.1, HE.out.2.1, HE.out.2.2, HTH.out]
          exact ⟨rfl, below_grown (below_step HBE.out HBR.out) H5.out.1 (by omega)⟩
end Go.Proofs.YtihfaknflfmohaaDoor

/- Layer 27 (cache): New, Look. -/
namespace Go.Proofs.YtihfaknflfmohaaDoor
open Go.RowKit
set_option linter.unusedVariables false
set_option linter.unusedSimpArgs false
set_option maxRecDepth 4000
def cacZ : Cac := ⟨0, 0, none, 0, 0, 0, 0⟩
theorem cac_one (x : Cac) : x.vv.all (·.oneCell') = true := by simp [Cac.vv, cacV, Value.oneCell']
theorem splice_cac (x y : Cac) : splice x.vv 0 y.vv.toList = y.vv := splice_all _ _ rfl
theorem run_build_cac_nil (w : World) : (Instr.build 25 #[]).run Tryd.prog w = .ok (.agg cacZ.vv) w := run_build w _ _ _ (by kernel_rfl)
theorem load_cac {w : World} {g : Nat} {x : Cac} (h : w.heap[g]? = some (.cells x.vv 25 (0, 0))) : (Instr.loadAt 25 (.pointer (some ⟨g, 0, none⟩))).run Tryd.prog w = .ok (.agg x.vv) w := ((cac_at h).all _ (Below.refl _ _)).cac
theorem results_cc2 {P : Program} {w : World} {fn : Func} {p q u x : Tmp} {ty ty2 : TypeId} {ad ad2 : Addr} {v v2 : Value} {tmps : Array Value} (h : fn.results = #[.cell p ty, .cell q ty2, .tmp u, .tmp x]) (hp : tmps.getD p undef = .pointer (some ad)) (hl : (Instr.loadAt ty (.pointer (some ad))).run P w = .ok v w) (hq : tmps.getD q undef = .pointer (some ad2)) (hl2 : (Instr.loadAt ty2 (.pointer (some ad2))).run P w = .ok v2 w) :
    (results fn tmps).run P w = .ok (.tuple #[v, v2, tmps.getD u undef, tmps.getD x undef]) w := by
  have hp' : tmps[p]?.getD undef = .pointer (some ad) := by simpa using hp
  have hq' : tmps[q]?.getD undef = .pointer (some ad2) := by simpa using hq
  simp [results, h, hp', hq', asAddr, loadVar_of hl, loadVar_of hl2]
def hitN (es : List Ent) (v : Int) (l : List Int) : Int := idxE (fun e => sA e.v e.l v l) es
def told (es : List Ent) (t : List Row) (v : Int) (l : List Int) : Ent := if 0 ≤ hitN es v l then entAt es (hitN es v l).toNat else ⟨v, l, longR t v l, longB t v l⟩
def lookL (room : Int) (es : List Ent) (t : List Row) (v : Int) (l : List Int) : List Ent := if 0 ≤ hitN es v l then told es t v l :: (es.take (hitN es v l).toNat ++ es.drop ((hitN es v l).toNat + 1)) else (told es t v l :: es).take room.toNat
structure Cac.ok (x : Cac) : Prop where
  room : (Lit.int .i64 x.room).wf = true
  ver : (Lit.int .u64 x.ver).wf = true
  hits : (Lit.int .u64 x.hits).wf = true
  misses : (Lit.int .u64 x.misses).wf = true
theorem wfu {x : Int} (h : (Lit.int .u64 x).wf = true) : 0 ≤ x ∧ x ≤ 18446744073709551615 := by
  simp [Lit.wf, IntKind.min, IntKind.max, IntKind.bits, IntKind.signed] at h
  omega
theorem hit_cases (es : List Ent) (v : Int) (l : List Int) : hitN es v l = -1 ∨ ∃ i, i < es.length ∧ hitN es v l = ((i : Nat) : Int) := by
  unfold hitN idxE
  cases h : es.findIdx? (fun e => sA e.v e.l v l) with
  | none => exact .inl rfl
  | some i =>
    rw [List.findIdx?_eq_some_iff_getElem] at h
    exact .inr ⟨i, h.1, rfl⟩
def lookN (x : Cac) (es : List Ent) (t : List Row) (v : Int) (l : List Int) : Int := if cacB x es then (if tabB t then errA v l else 190) else 370
def oneMore (h : Int) : Int := min (h + 1) 4611686018427387904
/-- What a lookup leaves. -/
def LookIs (x : Cac) (es : List Ent) (t : List Row) (v : Int) (l : List Int) (y : Cac) (fs : List Ent) (ro : Row) (fo : Bool) : Prop :=
  if lookN x es t v l = 0 then y.room = x.room ∧ y.ver = x.ver ∧ fs = lookL x.room es t v l ∧ y.hits = (if 0 ≤ hitN es v l then oneMore x.hits else x.hits) ∧ y.misses = (if 0 ≤ hitN es v l then x.misses else oneMore x.misses) ∧ ro = (told es t v l).r ∧ fo = (told es t v l).f
  else y = cacZ ∧ fs = [] ∧ ro = rowZ ∧ fo = false
theorem built_ent (v : Int) (l : List Int) (r : Row) (f : Bool) (hl : l.length = 16) (hr : r.p.l.length = 16) : Tryd.prog.built 43 [(0, .agg (adrV v l)), (1, .agg (rowV r)), (2, .bool f)] = some (entV ⟨v, l, r, f⟩) := by
  obtain ⟨a, b, c, d, e, f2, g, h1, i, j, k, m, n, o, q, r2, hh⟩ := len16 hl
  obtain ⟨⟨v3, l3, x3⟩, h3⟩ := r
  obtain ⟨a', b', c', d', e', f2', g', h1', i', j', k', m', n', o', q', r2', hh'⟩ := len16 hr
  simp only at hh'
  subst hh
  subst hh'
  kernel_rfl
theorem exec_build_ent {r : Operand → Value} {o : Oper} {x y z : Operand} {v : Int} {l : List Int} {ro : Row} {f : Bool} (ho : o.op = .build 43 #[(0, x), (1, y), (2, z)]) (hx : r x = .agg (adrV v l)) (hy : r y = .agg (rowV ro)) (hz : r z = .bool f) (hl : l.length = 16) (hr : ro.p.l.length = 16) (w : World) :
    (execOp r o).run Tryd.prog w = .ok (.value (.agg (entV ⟨v, l, ro, f⟩))) w :=
  exec_build _ _ ho #[(0, .agg (adrV v l)), (1, .agg (rowV ro)), (2, .bool f)] (by simp [hx, hy, hz]) (run_build w _ _ _ (built_ent v l ro f hl hr))
theorem take_min {α : Type} (l : List α) (k r : Nat) (h : k = min l.length r) : l.take k = l.take r := by
  subst h
  by_cases hr : r ≤ l.length
  · rw [Nat.min_eq_right hr]
  · rw [Nat.min_eq_left (by omega), List.take_length, List.take_of_length_le (by omega)]
theorem askE_one (x : Cac) (es : List Ent) (y : Tb) : askE x es [y] = (if cacB x es then (if tabB y.t then 0 else 190) else 370) := by simp [askE]
theorem lookIs_err {x : Cac} {es : List Ent} {t : List Row} {v : Int} {l : List Int} (h : lookN x es t v l ≠ 0) : LookIs x es t v l cacZ [] rowZ false := by
  unfold LookIs
  rw [if_neg h]
  exact ⟨rfl, rfl, rfl, rfl⟩
set_option maxRecDepth 100000 in
set_option maxHeartbeats 8000000 in
theorem clook_any (x : Cac) (es : List Ent) (A : Option Addr) (n c : Nat) (t : List Row) (v : Int) (l : List Int) (w : World) (hL : Laid w) (he : RE w x.A x.n x.c es) (oe : Oke es) (hxn : x.n ≤ 100000) (ht : RT w A n c t) (hn : n ≤ 100000) (hl : B16 l) (hv : (Lit.int .i64 v).wf = true) (hx : x.ok) :
    Calls Tryd.prog 18 #[.agg x.vv, .agg (tabV A n c), .agg (adrV v l)] w fun r w' => ∃ y fs ro fo, r = .returned (.tuple #[.agg (Cac.vv y), .agg (rowV ro), .bool fo, .int .i64 (lookN x es t v l)]) ∧ RE w' y.A y.n y.c fs ∧ (∀ ad, y.A = some ad → w.heap.size ≤ ad.block) ∧ LookIs x es t v l y fs ro fo ∧ Below w.heap.size w w' := by
  have hblk1 := blk_new w (.cells (x.vv) 25)
  have hbel1 : Below w.heap.size w (w.alloc (.cells (x.vv) 25)) := below_alloc (Below.refl _ _) _
  have hblk2 := blk_new (w.alloc (.cells (x.vv) 25)) (.cells (tabV A n c) 28)
  have hbel2 : Below w.heap.size w ((w.alloc (.cells (x.vv) 25)).alloc (.cells (tabV A n c) 28)) := below_alloc (hbel1) _
  rw [show (w.alloc (.cells (x.vv) 25)).heap.size = w.heap.size + 1 by simp] at hblk2
  replace hblk1 := blk_below hblk1 (below_alloc (Below.refl _ _) (.cells (tabV A n c) 28))
  have hblk3 := blk_new ((w.alloc (.cells (x.vv) 25)).alloc (.cells (tabV A n c) 28)) (.cells (adrV v l) 31)
  have hbel3 : Below w.heap.size w (((w.alloc (.cells (x.vv) 25)).alloc (.cells (tabV A n c) 28)).alloc (.cells (adrV v l) 31)) := below_alloc (hbel2) _
  rw [show ((w.alloc (.cells (x.vv) 25)).alloc (.cells (tabV A n c) 28)).heap.size = w.heap.size + 2 by simp] at hblk3
  replace hblk1 := blk_below hblk1 (below_alloc (Below.refl _ _) (.cells (adrV v l) 31))
  replace hblk2 := blk_below hblk2 (below_alloc (Below.refl _ _) (.cells (adrV v l) 31))
  have HP1 := Lib.hid (cac_at hblk1)
  have HBK1 := Lib.hid hblk1
  have HP2 := Lib.hid (tab_at hblk2)
  have HBK2 := Lib.hid hblk2
  have HP3 := Lib.hid (adr_at hl hblk3)
  have HBK3 := Lib.hid hblk3
  have HBE := Lib.hid hbel3
  have HL := Lib.hid (hL.below HBE.out)
  obtain ⟨cs1, hcs1⟩ : ∃ cs, x.vv = cs := ⟨_, rfl⟩
  obtain ⟨cs2, hcs2⟩ : ∃ cs, tabV A n c = cs := ⟨_, rfl⟩
  obtain ⟨cs3, hcs3⟩ : ∃ cs, adrV v l = cs := ⟨_, rfl⟩
  simp only [hcs1, hcs2, hcs3] at HBE HL HP1 HP2 HP3 HBK1 HBK2 HBK3 ⊢
  have HC1 := Lib.hid hcs1
  have HC2 := Lib.hid hcs2
  have HC3 := Lib.hid hcs3
  clear hL hcs1 hblk1 hbel1 hcs2 hblk2 hbel2 hcs3 hblk3 hbel3
  have HE := Lib.hid (he.below HBE.out)
  have HT := Lib.hid (ht.below HBE.out)
  have hbr := run_build_row_nil
  have hbc := run_build_cac_nil
  clear he ht
  obtain ⟨W0, hW0⟩ : ∃ W0, W0 = (((w.alloc (.cells cs1 25)).alloc (.cells cs2 28)).alloc (.cells cs3 31)) := ⟨_, rfl⟩
  obtain ⟨W, hW⟩ : ∃ W, W = ((W0.alloc (.cells cacZ.vv 25)).alloc (.cells (rowV rowZ) 38)).alloc (.cells (tbK.enc ⟨A, n, c, t⟩).toArray tbK.t) := ⟨_, rfl⟩
  have hs0 : W0.heap.size = w.heap.size + 3 := by rw [hW0]; simp
  have HBW : Hid (Below W0.heap.size W0 W) := Lib.hid (by rw [hW]; exact below_alloc (below_alloc (below_alloc (Below.refl _ _) _) _) _)
  have HG6 : Hid (W.heap[w.heap.size + 3]? = some (.cells cacZ.vv 25 (0, 0))) := Lib.hid (by
    rw [← hs0, hW]
    exact blk_below (blk_new W0 _) (below_alloc (below_alloc (Below.refl _ _) _) _))
  have HG7 : Hid (W.heap[w.heap.size + 4]? = some (.cells (rowV rowZ) 38 (0, 0))) := Lib.hid (by
    have := blk_below (blk_new (W0.alloc (.cells cacZ.vv 25)) (.cells (rowV rowZ) 38)) (below_alloc (Below.refl _ _) (.cells (tbK.enc ⟨A, n, c, t⟩).toArray tbK.t))
    rw [← hW] at this
    rw [show w.heap.size + 4 = (W0.alloc (.cells cacZ.vv 25)).heap.size by simp [hs0]]
    exact this)
  have HLT : Hid (RS tbK W (some ⟨w.heap.size + 5, 0, none⟩) 1 1 [⟨A, n, c, t⟩]) := Lib.hid (by
    have := (OS.one tbK ((W0.alloc (.cells cacZ.vv 25)).alloc (.cells (rowV rowZ) 38)) 0 ⟨A, n, c, t⟩ (Nat.zero_le _) trivial).reads
    rw [← hW] at this
    rw [show w.heap.size + 5 = ((W0.alloc (.cells cacZ.vv 25)).alloc (.cells (rowV rowZ) 38)).heap.size by simp [hs0]]
    exact this)
  clear hs0
  subst hW
  subst hW0
  go_enter Tryd.func18, Tryd.ntmps18
  go_wp2_with (first | ((with_reducible show wpList _ _ _ (Oper.mk _ (Op.load _ _) _ _ _ _ :: _) _ _); refine wpList_load_g ((HP1.out.all _ (below_alloc (below_alloc (Below.refl _ _) _) _)).cac) _ rfl rfl (by go_simp) ?_) | ((with_reducible show wpList _ _ _ (Oper.mk _ (Op.load _ _) _ _ _ _ :: _) _ _); refine wpList_load_g ((HP2.out.all _ (below_alloc (below_alloc (Below.refl _ _) _) _)).1) _ rfl rfl (by go_simp) ?_) | ((with_reducible show wpList _ _ _ (Oper.mk _ (Op.buildSlice _ _ _) _ _ _ _ :: _) _ _); refine wpList_exw rfl (exec_lit1 tbK (x := .tmp 18) rfl ⟨A, n, c, t⟩ rfl trivial (by show 1 ≤ _; omega) _) ?_))
  have hcall := casked_any x es _ 1 1 [⟨A, n, c, t⟩] _ (HL.out.below HBW.out) (HE.out.below HBW.out) oe hxn HLT.out (by omega) (fun y hy => by
    rw [List.mem_singleton] at hy
    subst hy
    exact ⟨HT.out.below HBW.out, hn⟩)
  refine hcall.mono ?_
  clear hcall
  rintro e w1 ⟨rfl, hb1⟩
  rw [askE_one]
  have HB1 := Lib.hid (below_step HBW.out hb1)
  have HR6 := Lib.hid (blk_below HG6.out hb1)
  have HR7 := Lib.hid (blk_below HG7.out hb1)
  clear hb1 HG6 HG7 HLT HBW
  cases hC : cacB x es with
  | false =>
    have HN := Lib.hid (show lookN x es t v l = 370 by unfold lookN; rw [hC]; rfl)
    clear hC
    simp only [Bool.false_eq_true, if_false]
    go_wp2_with (first | ((with_reducible show wpList _ _ _ (Oper.mk _ (Op.build _ _) _ _ _ _ :: _) _ _); refine wpList_exw rfl (exec_build 25 #[] rfl #[] rfl (hbc _)) ?_) | ((with_reducible show wpList _ _ _ (Oper.mk _ (Op.build _ _) _ _ _ _ :: _) _ _); refine wpList_exw rfl (exec_build 38 #[] rfl #[] rfl (hbr _)) ?_) | ((with_reducible show wpList _ _ _ (Oper.mk _ (Op.store _ _ _) _ _ _ _ :: _) _ _); refine wpList_store_blk HR6.out 25 0 cacZ.vv (Nat.le_refl _) (info_cac _) (cac_one _) _ _ rfl rfl rfl rfl ?_; intro w8 hg9 hs9 hb9; rw [splice_cac] at hb9; have H8 := Lib.hid (And.intro hg9 hb9); clear hg9 hs9 hb9) | ((with_reducible show wpList _ _ _ (Oper.mk _ (Op.store _ _ _) _ _ _ _ :: _) _ _); refine wpList_store_blk (blk_grown HR7.out H8.out.1 (by simp)) 38 0 (rowV rowZ) (store_row_fit rowZ_fits (rowV_size rowZ_fits)) (info_row rowZ_fits) (rowV_one _) _ _ rfl rfl rfl rfl ?_; intro w9 hg9 hs9 hb9; rw [splice_row rowZ_fits (rowV_size rowZ_fits)] at hb9; have H9 := Lib.hid (And.intro hg9 hb9); clear hg9 hs9 hb9))
    refine bodyPost_ret (results_cc2 rfl rfl (load_cac (blk_grown H8.out.2 H9.out.1 (by simp))) rfl (Shape.ld rowK w9 _ 0 rowZ rowZ_fits (cells_blk H9.out.2))) rfl ?_
    refine ⟨cacZ, [], rowZ, false, by rw [HN.out]; rfl, RS.nil _ _ _ _, (fun ad e => by cases e), lookIs_err (by rw [HN.out]; decide), below_grown (below_grown (below_step HBE.out HB1.out) H8.out.1 (by omega)) H9.out.1 (by omega)⟩
  | true =>
    have HCB := Lib.hid hC
    clear hC
    simp only [if_true]
    cases hR : tabB t with
    | false =>
      have HN := Lib.hid (show lookN x es t v l = 190 by unfold lookN; rw [HCB.out, hR]; rfl)
      clear hR
      simp only [Bool.false_eq_true, if_false]
      go_wp2_with (first | ((with_reducible show wpList _ _ _ (Oper.mk _ (Op.build _ _) _ _ _ _ :: _) _ _); refine wpList_exw rfl (exec_build 25 #[] rfl #[] rfl (hbc _)) ?_) | ((with_reducible show wpList _ _ _ (Oper.mk _ (Op.build _ _) _ _ _ _ :: _) _ _); refine wpList_exw rfl (exec_build 38 #[] rfl #[] rfl (hbr _)) ?_) | ((with_reducible show wpList _ _ _ (Oper.mk _ (Op.store _ _ _) _ _ _ _ :: _) _ _); refine wpList_store_blk HR6.out 25 0 cacZ.vv (Nat.le_refl _) (info_cac _) (cac_one _) _ _ rfl rfl rfl rfl ?_; intro w8 hg9 hs9 hb9; rw [splice_cac] at hb9; have H8 := Lib.hid (And.intro hg9 hb9); clear hg9 hs9 hb9) | ((with_reducible show wpList _ _ _ (Oper.mk _ (Op.store _ _ _) _ _ _ _ :: _) _ _); refine wpList_store_blk (blk_grown HR7.out H8.out.1 (by simp)) 38 0 (rowV rowZ) (store_row_fit rowZ_fits (rowV_size rowZ_fits)) (info_row rowZ_fits) (rowV_one _) _ _ rfl rfl rfl rfl ?_; intro w9 hg9 hs9 hb9; rw [splice_row rowZ_fits (rowV_size rowZ_fits)] at hb9; have H9 := Lib.hid (And.intro hg9 hb9); clear hg9 hs9 hb9))
      refine bodyPost_ret (results_cc2 rfl rfl (load_cac (blk_grown H8.out.2 H9.out.1 (by simp))) rfl (Shape.ld rowK w9 _ 0 rowZ rowZ_fits (cells_blk H9.out.2))) rfl ?_
      refine ⟨cacZ, [], rowZ, false, by rw [HN.out]; rfl, RS.nil _ _ _ _, (fun ad e => by cases e), lookIs_err (by rw [HN.out]; decide), below_grown (below_grown (below_step HBE.out HB1.out) H8.out.1 (by omega)) H9.out.1 (by omega)⟩
    | true =>
      have HR := Lib.hid hR
      clear hR
      simp only [if_true]
      have hl3 := (HP3.out.all w1 HB1.out).1
      go_wp2_with (first | ((with_reducible show wpList _ _ _ (Oper.mk _ (Op.load _ _) _ _ _ _ :: _) _ _); refine wpList_load_g hl3 _ rfl rfl (by go_simp) ?_))
      clear hl3
      refine (checkAddr_any v l w1 (HL.out.below HB1.out) hl).mono ?_
      rintro e w2 ⟨rfl, hb2⟩
      have HB2 := Lib.hid (below_step HB1.out hb2)
      have HS6 := Lib.hid (blk_below HR6.out hb2)
      have HS7 := Lib.hid (blk_below HR7.out hb2)
      clear hb2 HR6 HR7 HB1
      have HLN : Hid (lookN x es t v l = errA v l) := Lib.hid (by unfold lookN; rw [HCB.out, HR.out]; rfl)
      cases hA : rightA v l with
      | false =>
        have HN := Lib.hid (show lookN x es t v l = 150 by rw [HLN.out, errA_false hA])
        rw [errA_false hA]
        clear hA
        go_wp2_with (first | ((with_reducible show wpList _ _ _ (Oper.mk _ (Op.build _ _) _ _ _ _ :: _) _ _); refine wpList_exw rfl (exec_build 25 #[] rfl #[] rfl (hbc _)) ?_) | ((with_reducible show wpList _ _ _ (Oper.mk _ (Op.build _ _) _ _ _ _ :: _) _ _); refine wpList_exw rfl (exec_build 38 #[] rfl #[] rfl (hbr _)) ?_) | ((with_reducible show wpList _ _ _ (Oper.mk _ (Op.store _ _ _) _ _ _ _ :: _) _ _); refine wpList_store_blk HS6.out 25 0 cacZ.vv (Nat.le_refl _) (info_cac _) (cac_one _) _ _ rfl rfl rfl rfl ?_; intro w8 hg9 hs9 hb9; rw [splice_cac] at hb9; have H8 := Lib.hid (And.intro hg9 hb9); clear hg9 hs9 hb9) | ((with_reducible show wpList _ _ _ (Oper.mk _ (Op.store _ _ _) _ _ _ _ :: _) _ _); refine wpList_store_blk (blk_grown HS7.out H8.out.1 (by simp)) 38 0 (rowV rowZ) (store_row_fit rowZ_fits (rowV_size rowZ_fits)) (info_row rowZ_fits) (rowV_one _) _ _ rfl rfl rfl rfl ?_; intro w9 hg9 hs9 hb9; rw [splice_row rowZ_fits (rowV_size rowZ_fits)] at hb9; have H9 := Lib.hid (And.intro hg9 hb9); clear hg9 hs9 hb9))
        refine bodyPost_ret (results_cc2 rfl rfl (load_cac (blk_grown H8.out.2 H9.out.1 (by simp))) rfl (Shape.ld rowK w9 _ 0 rowZ rowZ_fits (cells_blk H9.out.2))) rfl ?_
        refine ⟨cacZ, [], rowZ, false, by rw [HN.out]; rfl, RS.nil _ _ _ _, (fun ad e => by cases e), lookIs_err (by rw [HN.out]; decide), below_grown (below_grown (below_step HBE.out HB2.out) H8.out.1 (by omega)) H9.out.1 (by omega)⟩
      | true =>
        have HN := Lib.hid (show lookN x es t v l = 0 by rw [HLN.out, errA_true hA])
        rw [errA_true hA]
        clear hA HLN
        have hl1 := (HP1.out.all w2 HB2.out).cac
        have hl3 := (HP3.out.all w2 HB2.out).1
        go_wp2_with (first | ((with_reducible show wpList _ _ _ (Oper.mk _ (Op.load _ _) _ _ _ _ :: _) _ _); refine wpList_load_g hl1 _ rfl rfl (by go_simp) ?_) | ((with_reducible show wpList _ _ _ (Oper.mk _ (Op.load _ _) _ _ _ _ :: _) _ _); refine wpList_load_g hl3 _ rfl rfl (by go_simp) ?_))
        clear hl1 hl3
        refine (cplace_any x es v l w2 (HE.out.below HB2.out) oe hxn hl hv).mono ?_
        rintro e w3 ⟨rfl, hb3⟩
        have HB3 := Lib.hid (below_step HB2.out hb3)
        have HT6 := Lib.hid (blk_below HS6.out hb3)
        have HT7 := Lib.hid (blk_below HS7.out hb3)
        clear hb3 HS6 HS7 HB2
        have HK3 : Hid (w3.heap[w.heap.size]? = some (.cells x.vv 25 (0, 0))) := Lib.hid (blk_below (by rw [HC1.out]; exact HBK1.out) HB3.out)
        have hl3 := (HP1.out.all w3 HB3.out).ents
        have hw0 := wfu hx.hits
        have hw1 := wfu hx.misses
        have HEL := Lib.hid HE.out.len
        rcases hit_cases es v l with hm | ⟨i, hi, hm⟩
        · rw [show idxE (fun e => sA e.v e.l v l) es = -1 from hm]
          have HM := Lib.hid hm
          clear hm
          have hlt := (HP2.out.all w3 HB3.out).1
          have hla := (HP3.out.all w3 HB3.out).1
          go_wp2_with (first | ((with_reducible show wpList _ _ _ (Oper.mk _ (Op.load _ _) _ _ _ _ :: _) _ _); refine wpList_load_g hlt _ rfl rfl (by go_simp) ?_) | ((with_reducible show wpList _ _ _ (Oper.mk _ (Op.load _ _) _ _ _ _ :: _) _ _); refine wpList_load_g hla _ rfl rfl (by go_simp) ?_))
          clear hlt hla hl3
          refine (tlongest_any A n c t v l w3 (HL.out.below HB3.out) (HT.out.below HB3.out) hl hn).mono ?_
          rintro e w4 ⟨rfl, hb4⟩
          have hle : longE t v l = 0 := by
            have h1 := HN.out
            unfold lookN at h1
            rw [HCB.out, HR.out] at h1
            unfold longE
            rw [HR.out]
            simpa using h1
          rw [show longRE t v l = longR t v l by unfold longRE; rw [if_pos hle], show longBE t v l = longB t v l by unfold longBE; rw [if_pos hle], hle]
          have HS3 := Lib.hid (blk_lt HT7.out)
          have HB34 := Lib.hid hb4
          have HB4 := Lib.hid (below_step HB3.out hb4)
          have HRF := Lib.hid (longR_fits (RT.fits HT.out) v l)
          clear hb4 hle
          obtain ⟨ro, hro⟩ : ∃ ro, longR t v l = ro := ⟨_, rfl⟩
          obtain ⟨fo, hfo⟩ : ∃ fo, longB t v l = fo := ⟨_, rfl⟩
          rw [hro, hfo]
          rw [hro] at HRF
          have HRO := Lib.hid hro
          have HFO := Lib.hid hfo
          clear hro hfo
          have HB4f := Lib.hid (fun (W : World) (h : (w4.alloc (.cells (rowV rowZ) 38)).grownBy W (some w4.heap.size)) => below_step HB4.out (below_grown (below_alloc (Below.refl w4.heap.size w4) (.cells (rowV rowZ) 38)) h (Nat.le_refl _)))
          go_wp2_with (first | ((with_reducible show wpList _ _ _ (Oper.mk _ (Op.store _ _ _) _ _ _ _ :: _) _ _); refine wpList_store_blk (blk_new w4 _) 38 0 (rowV ro) (store_row_fit HRF.out rfl) (info_row HRF.out) (rowV_one _) _ _ rfl rfl rfl rfl ?_; intro w5 hg9 hs9 hb9; rw [splice_row HRF.out rfl] at hb9; have H5 := Lib.hid (And.intro hg9 hb9); clear hg9 hs9 hb9) | ((with_reducible show wpList _ _ _ (Oper.mk _ (Op.load _ _) _ _ _ _ :: _) _ _); refine wpList_load_g ((HP1.out.all w5 (HB4f.out w5 H5.out.1)).ents) _ rfl rfl (by go_simp) ?_) | ((with_reducible show wpList _ _ _ (Oper.mk _ (Op.load _ _) _ _ _ _ :: _) _ _); refine wpList_load_g ((HP3.out.all w5 (HB4f.out w5 H5.out.1)).1) _ rfl rfl (by go_simp) ?_) | ((with_reducible show wpList _ _ _ (Oper.mk _ (Op.load _ _) _ _ _ _ :: _) _ _); refine wpList_load_g (((row_at HRF.out H5.out.2).all _ (Below.refl _ _)).row) _ rfl rfl (by go_simp) ?_) | ((with_reducible show wpList _ _ _ (Oper.mk _ (Op.build _ _) _ _ _ _ :: _) _ _); refine wpList_exw rfl (exec_build_ent (v := v) (l := l) (ro := ro) (f := fo) rfl rfl rfl rfl hl.len HRF.out.len _) ?_))
          have HB5 := Lib.hid (HB4f.out w5 H5.out.1)
          have HB35 := Lib.hid (below_step HB34.out (below_grown (below_alloc (Below.refl w4.heap.size w4) (.cells (rowV rowZ) 38)) H5.out.1 (Nat.le_refl _)))
          clear HB4f
          have HEF : Hid ((⟨v, l, ro, fo⟩ : Ent).fits) := Lib.hid ⟨hl, HRF.out⟩
          refine (cfront_miss x.A x.n x.c es ⟨v, l, ro, fo⟩ w5 (HE.out.below HB5.out) HEF.out hxn).mono ?_
          rintro e w6 ⟨A', c', rfl, ho6, hb6⟩
          have HB36 := Lib.hid (below_step HB35.out hb6)
          have HB6 := Lib.hid (below_step HB3.out HB36.out)
          have HK6 := Lib.hid (blk_below HK3.out HB36.out)
          have HX6 := Lib.hid (blk_below H5.out.2 hb6)
          have HU6 := Lib.hid (blk_below HT6.out HB36.out)
          have HU7 := Lib.hid (blk_below HT7.out HB36.out)
          have HO6 := Lib.hid ho6
          have HS34 := Lib.hid HB34.out.size
          have HS35 := Lib.hid HB35.out.size
          have HXN := Lib.hid hxn
          obtain ⟨k, hk⟩ : ∃ k : Nat, k = min (x.n + 1) x.room.toNat := ⟨_, rfl⟩
          have hroom : 1 ≤ x.room ∧ (x.n : Int) ≤ x.room ∧ x.misses ≤ 4611686018427387904 := by
            have := HCB.out
            unfold cacB headB at this
            simp at this
            omega
          have hmin : min ((x.n : Int) + 1) x.room = (k : Int) := by omega
          have hkc : k ≤ c' := by have := HO6.out.cap; omega
          have hcut : ∀ W : World, (Instr.slice 23 (.slice A' (x.n + 1) c') none (some (.int .i64 (k : Int))) none).run Tryd.prog W = .ok (.slice A' k c') W := fun W => cutH entK A' (x.n + 1) c' _ k rfl hkc W
          have hwr : IntKind.u64.wrap (x.misses + 1) = x.misses + 1 := by
            simp only [IntKind.wrap, IntKind.bits, IntKind.signed]
            simp
            omega
          have HKK := Lib.hid hk
          clear hb6 ho6 HK3 HT6 HT7 H5 hk hkc hroom
          go_wp2_with (first | ((with_reducible show wpList _ _ _ (Oper.mk _ (Op.store _ _ _) _ _ _ _ :: _) _ _); refine wpList_store_cell HK6.out 23 2 (.slice A' (x.n + 1) c') (by show 2 < 5; omega) (by kernel_rfl) rfl rfl _ _ rfl rfl rfl rfl ?_; intro w7 hg9 hs9 hb9; have H7 := Lib.hid (And.intro hg9 (show (World.heap w7)[(w.heap.size)]? = some (.cells (Cac.vv ⟨x.room, x.ver, A', x.n + 1, c', x.hits, x.misses⟩) 25 (0, 0)) from hb9)); clear hg9 hs9 hb9) | ((with_reducible show wpList _ _ _ (Oper.mk _ (Op.store _ _ _) _ _ _ _ :: _) _ _); refine wpList_store_cell H7.out.2 23 2 (.slice A' k c') (by show 2 < 5; omega) (by kernel_rfl) rfl rfl _ _ rfl rfl rfl rfl ?_; intro w8 hg9 hs9 hb9; have H8 := Lib.hid (And.intro hg9 (show (World.heap w8)[(w.heap.size)]? = some (.cells (Cac.vv ⟨x.room, x.ver, A', k, c', x.hits, x.misses⟩) 25 (0, 0)) from hb9)); clear hg9 hs9 hb9) | ((with_reducible show wpList _ _ _ (Oper.mk _ (Op.store _ _ _) _ _ _ _ :: _) _ _); refine wpList_store_cell H8.out.2 22 4 (.int .u64 (oneMore x.misses)) (by show 4 < 5; omega) (by kernel_rfl) rfl rfl _ _ rfl rfl rfl rfl ?_; intro w9 hg9 hs9 hb9; have H9 := Lib.hid (And.intro hg9 (show (World.heap w9)[(w.heap.size)]? = some (.cells (Cac.vv ⟨x.room, x.ver, A', k, c', x.hits, oneMore x.misses⟩) 25 (0, 0)) from hb9)); clear hg9 hs9 hb9) | ((with_reducible show wpList _ _ _ (Oper.mk _ (Op.load _ _) _ _ _ _ :: _) _ _); refine wpList_load_g (((cac_at H7.out.2).all _ (Below.refl _ _)).ents) _ rfl rfl (by go_simp) ?_) | ((with_reducible show wpList _ _ _ (Oper.mk _ (Op.load _ _) _ _ _ _ :: _) _ _); refine wpList_load_g (((cac_at H7.out.2).all _ (Below.refl _ _)).room) _ rfl rfl (by go_simp) ?_) | ((with_reducible show wpList _ _ _ (Oper.mk _ (Op.load _ _) _ _ _ _ :: _) _ _); refine wpList_load_g (((cac_at H8.out.2).all _ (Below.refl _ _)).misses) _ rfl rfl (by go_simp) ?_))
          have hxa := blk_grown (blk_grown (blk_grown HX6.out H7.out.1 (fun e => by injection e with e; have := HS3.out; have := HS34.out; omega)) H8.out.1 (fun e => by injection e with e; have := HS3.out; have := HS34.out; omega)) H9.out.1 (fun e => by injection e with e; have := HS3.out; have := HS34.out; omega)
          have h6a := blk_grown (blk_grown (blk_grown HU6.out H7.out.1 (fun e => by injection e with e; omega)) H8.out.1 (fun e => by injection e with e; omega)) H9.out.1 (fun e => by injection e with e; omega)
          have h7a := blk_grown (blk_grown (blk_grown HU7.out H7.out.1 (fun e => by injection e with e; omega)) H8.out.1 (fun e => by injection e with e; omega)) H9.out.1 (fun e => by injection e with e; omega)
          have HXA2 := Lib.hid (blk_below hxa (below_drew1 w9))
          have HV6 := Lib.hid (blk_below h6a (below_drew1 w9))
          have HV7 := Lib.hid (blk_below h7a (below_drew1 w9))
          have HK7 := Lib.hid (blk_below H9.out.2 (below_drew1 w9))
          clear hxa h6a h7a hwr hcut hmin
          refine wp_region_mix ((fun w0 => w0.heap[w.heap.size]? = some (.cells (Cac.vv ⟨x.room, x.ver, A', k, c', x.hits, oneMore x.misses⟩) 25 (0, 0)) ∧ w0.heap[w4.heap.size]? = some (.cells (rowV ro) 38 (0, 0)))) [(0, 0), (1, 0), (2, 0), (3, 2), (4, 2), (5, 0), (6, 0)] (by kernel_rfl) (by kernel_rfl) (⟨HK7.out, HXA2.out⟩) ?_
          simp only [List.map_cons, List.map_nil]
          refine wpO_loadW (t := 25) (ad := ⟨w.heap.size, 0, none⟩) rfl rfl ?hw rfl rfl ((fun w0 hS => load_cac hS.1)) ?_
          case hw => go_simp
          refine wpO_loadW (t := 38) (ad := ⟨w4.heap.size, 0, none⟩) rfl rfl ?hw rfl rfl ((fun w0 hS => ((row_at HRF.out hS.2).all _ (Below.refl _ _)).row)) ?_
          case hw => go_simp
          iterate 1 (refine wpO_step0 rfl rfl (fun K hK => ?_); go_simp; refine hK _ _ ?_; clear hK K)
          refine wpO_step2 rfl rfl (⟨HK7.out, HXA2.out⟩) (fun K hK => ?_)
          rw [if_pos (show Region.wanted _ _ = true from rfl)]
          refine oper_store_blk HV6.out 25 0 (Cac.vv ⟨x.room, x.ver, A', k, c', x.hits, oneMore x.misses⟩) (Nat.le_refl _) (info_cac _) (cac_one _) _ _ rfl rfl rfl ?_
          intro w10 hg8 hs8 hb8
          rw [splice_cac] at hb8
          have H10 := Lib.hid (And.intro hg8 hb8)
          clear hg8 hs8 hb8
          have HK8 := Lib.hid (blk_grown HK7.out H10.out.1 (fun e => by injection e with e; omega))
          have HX8 := Lib.hid (blk_grown HXA2.out H10.out.1 (fun e => by injection e with e; have := HS3.out; have := HS34.out; omega))
          have HW7 := Lib.hid (blk_grown HV7.out H10.out.1 (fun e => by injection e with e; omega))
          refine hK _ _ ⟨⟨HK8.out, HX8.out⟩, ?_⟩
          clear hK K
          refine wpO_step2 rfl rfl (⟨HK8.out, HX8.out⟩) (fun K hK => ?_)
          rw [if_pos (show Region.wanted _ _ = true from rfl)]
          refine oper_store_blk HW7.out 38 0 (rowV ro) (store_row_fit HRF.out (rowV_size rowZ_fits)) (info_row HRF.out) (rowV_one _) _ _ rfl rfl rfl ?_
          intro w11 hg9 hs9 hb9
          rw [splice_row HRF.out (rowV_size rowZ_fits)] at hb9
          have H11 := Lib.hid (And.intro hg9 hb9)
          clear hg9 hs9 hb9
          refine hK _ _ ⟨⟨blk_grown HK8.out H11.out.1 (fun e => by injection e with e; omega), blk_grown HX8.out H11.out.1 (fun e => by injection e with e; have := HS3.out; have := HS34.out; omega)⟩, ?_⟩
          clear hK K
          iterate 2 (refine wpO_step0 rfl rfl (fun K hK => ?_); go_simp; refine hK _ _ ?_; clear hK K)
          refine wpO_nil ?_
          go_wp2
          have HZ6 := blk_grown H10.out.2 H11.out.1 (fun e => by injection e with e; omega)
          refine bodyPost_ret (results_cc2 rfl rfl (load_cac HZ6) rfl (Shape.ld rowK w11 _ 0 _ HRF.out (cells_blk H11.out.2))) rfl ?_
          refine ⟨⟨x.room, x.ver, A', k, c', x.hits, oneMore x.misses⟩, (⟨v, l, ro, fo⟩ :: es).take k, ro, fo, by rw [HN.out]; rfl, ?_, ?_, ?_, ?_⟩
          · have hob := HO6.out.base_
            have hall := HKK.out
            have h6 := (HO6.out.reads.take k (by omega)).grown H7.out.1 (fun ad e h => by injection h with h; have := hob ad e; have := HS3.out; have := HS35.out; omega)
            have h7 := h6.grown H8.out.1 (fun ad e h => by injection h with h; have := hob ad e; have := HS3.out; have := HS35.out; omega)
            have h8 := h7.grown H9.out.1 (fun ad e h => by injection h with h; have := hob ad e; have := HS3.out; have := HS35.out; omega)
            have h9 := (h8.below (below_drew1 w9)).grown H10.out.1 (fun ad e h => by injection h with h; have := hob ad e; have := HS3.out; have := HS35.out; omega)
            exact h9.grown H11.out.1 (fun ad e h => by injection h with h; have := hob ad e; have := HS3.out; have := HS35.out; omega)
          · intro ad e; have := HO6.out.base_ ad e; have := HS3.out; have := HS35.out; omega
          · unfold LookIs
            rw [if_pos HN.out]
            have h0 : ¬ (0 : Int) ≤ hitN es v l := by rw [HM.out]; omega
            have htold : told es t v l = ⟨v, l, ro, fo⟩ := by unfold told; rw [if_neg h0, HRO.out, HFO.out]
            refine ⟨rfl, rfl, ?_, ?_, ?_, by rw [htold], by rw [htold]⟩
            · unfold lookL
              rw [if_neg h0, htold]
              exact take_min _ _ _ (by rw [List.length_cons, HEL.out]; exact HKK.out)
            · rw [if_neg h0]
            · rw [if_neg h0]
          · exact below_grown (below_grown (below_step (below_grown (below_grown (below_grown (below_step HBE.out HB6.out) H7.out.1 (by omega)) H8.out.1 (by omega)) H9.out.1 (by omega)) (below_drew1 w9)) H10.out.1 (by omega)) H11.out.1 (by omega)
        · rw [show idxE (fun e => sA e.v e.l v l) es = (i : Int) from hm]
          have HM := Lib.hid hm
          have HIL := Lib.hid hi
          have hin : i < x.n := by rw [← HEL.out]; exact hi
          have hin' : (i : Int) < x.n := by omega
          have hi0 : decide ((0 : Int) ≤ i) = true := decide_eq_true (by omega)
          obtain ⟨b, o, hxA, hc⟩ := RS.at_ HE.out (by omega)
          have HF := Lib.hid (RS.fits_at HE.out hin)
          have hent := (entLd_of HF.out ((hc i hin).below HB3.out)).ent
          have HXA := Lib.hid hxA
          rw [hxA] at hl3
          clear hm hi hc hxA
          have HB4f := Lib.hid (fun (W : World) (h : (w3.alloc (.cells (entV entZ) 43)).grownBy W (some w3.heap.size)) => below_step HB3.out (below_grown (below_alloc (Below.refl w3.heap.size w3) (.cells (entV entZ) 43)) h (Nat.le_refl _)))
          go_wp2_with (first | ((with_reducible show wpList _ _ _ (Oper.mk _ (Op.load _ _) _ _ _ _ :: _) _ _); refine wpList_load_g hl3 _ rfl rfl (by go_simp) ?_) | ((with_reducible show wpList _ _ _ (Oper.mk _ (Op.load _ _) _ _ _ _ :: _) _ _); refine wpList_load_g hent _ rfl rfl (by go_simp) ?_) | ((with_reducible show wpList _ _ _ (Oper.mk _ (Op.store _ _ _) _ _ _ _ :: _) _ _); refine wpList_store_blk (blk_new w3 _) 43 0 (entV (entAt es i)) (store_ent_fit HF.out rfl) (info_ent HF.out) (entV_one _) _ _ rfl rfl rfl rfl ?_; intro w4 hg9 hs9 hb9; rw [splice_ent HF.out rfl] at hb9; have H4 := Lib.hid (And.intro hg9 hb9); clear hg9 hs9 hb9) | ((with_reducible show wpList _ _ _ (Oper.mk _ (Op.load _ _) _ _ _ _ :: _) _ _); refine wpList_load_g (((ent_at HF.out H4.out.2).all _ (Below.refl _ _)).ent) _ rfl rfl (by go_simp) ?_) | ((with_reducible show wpList _ _ _ (Oper.mk _ (Op.load _ _) _ _ _ _ :: _) _ _); refine wpList_load_g ((HP1.out.all w4 (HB4f.out w4 H4.out.1)).ents) _ rfl rfl (by go_simp) ?_))
          have HB4 := Lib.hid (HB4f.out w4 H4.out.1)
          have HB34 := Lib.hid (below_grown (below_alloc (Below.refl w3.heap.size w3) (.cells (entV entZ) 43)) H4.out.1 (Nat.le_refl _))
          clear HB4f
          refine (cfront_hit x.A x.n x.c i es (entAt es i) w4 (HE.out.below HB4.out) HF.out hin hxn).mono ?_
          rintro e w5 ⟨A', c', rfl, ho5, hb5⟩
          have HB35 := Lib.hid (below_step HB34.out hb5)
          have HB5 := Lib.hid (below_step HB3.out HB35.out)
          have HK5 := Lib.hid (blk_below HK3.out HB35.out)
          have HX5 := Lib.hid (blk_below H4.out.2 hb5)
          have HU6 := Lib.hid (blk_below HT6.out HB35.out)
          have HU7 := Lib.hid (blk_below HT7.out HB35.out)
          have HO5 := Lib.hid ho5
          have HS4 := Lib.hid HB34.out.size
          have HS3 := Lib.hid (blk_lt HT7.out)
          clear hb5 ho5 HK3 HT6 HT7 H4 hl3 hent
          have hwr : IntKind.u64.wrap (x.hits + 1) = x.hits + 1 := by
            have h62 : x.hits ≤ 4611686018427387904 := by
              have := HCB.out
              unfold cacB headB at this
              simp at this
              omega
            simp only [IntKind.wrap, IntKind.bits, IntKind.signed]
            simp
            omega
          go_wp2_with (first | ((with_reducible show wpList _ _ _ (Oper.mk _ (Op.store _ _ _) _ _ _ _ :: _) _ _); refine wpList_store_cell HK5.out 23 2 (.slice A' x.n c') (by show 2 < 5; omega) (by kernel_rfl) rfl rfl _ _ rfl rfl rfl rfl ?_; intro w6 hg9 hs9 hb9; have H6 := Lib.hid (And.intro hg9 (show (World.heap w6)[(w.heap.size)]? = some (.cells (Cac.vv ⟨x.room, x.ver, A', x.n, c', x.hits, x.misses⟩) 25 (0, 0)) from hb9)); clear hg9 hs9 hb9) | ((with_reducible show wpList _ _ _ (Oper.mk _ (Op.store _ _ _) _ _ _ _ :: _) _ _); refine wpList_store_cell H6.out.2 22 3 (.int .u64 (oneMore x.hits)) (by show 3 < 5; omega) (by kernel_rfl) rfl rfl _ _ rfl rfl rfl rfl ?_; intro w7 hg9 hs9 hb9; have H7 := Lib.hid (And.intro hg9 (show (World.heap w7)[(w.heap.size)]? = some (.cells (Cac.vv ⟨x.room, x.ver, A', x.n, c', oneMore x.hits, x.misses⟩) 25 (0, 0)) from hb9)); clear hg9 hs9 hb9) | ((with_reducible show wpList _ _ _ (Oper.mk _ (Op.load _ _) _ _ _ _ :: _) _ _); refine wpList_load_g (((cac_at H6.out.2).all _ (Below.refl _ _)).hits) _ rfl rfl (by go_simp) ?_))
          have hne : w.heap.size ≠ w3.heap.size := by have := HS3.out; omega
          have hne2 : w.heap.size + 4 < w3.heap.size ∨ True := Or.inr trivial
          have hxa := blk_grown (blk_grown HX5.out H6.out.1 (fun e => by injection e with e; omega)) H7.out.1 (fun e => by injection e with e; omega)
          have h6a := blk_grown (blk_grown HU6.out H6.out.1 (fun e => by injection e with e; omega)) H7.out.1 (fun e => by injection e with e; omega)
          have h7a := blk_grown (blk_grown HU7.out H6.out.1 (fun e => by injection e with e; omega)) H7.out.1 (fun e => by injection e with e; omega)
          have HXA2 := Lib.hid (blk_below hxa (below_drew1 w7))
          have HV6 := Lib.hid (blk_below h6a (below_drew1 w7))
          have HV7 := Lib.hid (blk_below h7a (below_drew1 w7))
          have HK7 := Lib.hid (blk_below H7.out.2 (below_drew1 w7))
          clear hxa h6a h7a hwr
          refine wp_region_mix ((fun w0 => w0.heap[w.heap.size]? = some (.cells (Cac.vv ⟨x.room, x.ver, A', x.n, c', oneMore x.hits, x.misses⟩) 25 (0, 0)) ∧ w0.heap[w3.heap.size]? = some (.cells (entV (entAt es i)) 43 (0, 0)))) [(0, 0), (1, 0), (2, 0), (3, 0), (4, 0), (5, 2), (6, 2), (7, 0), (8, 0)] (by kernel_rfl) (by kernel_rfl) (⟨HK7.out, HXA2.out⟩) ?_
          simp only [List.map_cons, List.map_nil]
          refine wpO_loadW (t := 25) (ad := ⟨w.heap.size, 0, none⟩) rfl rfl ?hw rfl rfl ((fun w0 hS => load_cac hS.1)) ?_
          case hw => go_simp
          iterate 1 (refine wpO_step0 rfl rfl (fun K hK => ?_); go_simp; refine hK _ _ ?_; clear hK K)
          refine wpO_loadW (t := 38) (ad := ⟨w3.heap.size, 17, none⟩) rfl rfl ?hw rfl rfl ((fun w0 hS => ((ent_at HF.out hS.2).all _ (Below.refl _ _)).row.row)) ?_
          case hw => go_simp
          iterate 1 (refine wpO_step0 rfl rfl (fun K hK => ?_); go_simp; refine hK _ _ ?_; clear hK K)
          refine wpO_loadW (t := 4) (ad := ⟨w3.heap.size, 36, none⟩) rfl rfl ?hw rfl rfl ((fun w0 hS => (ent_at HF.out hS.2).found _ (Below.refl _ _))) ?_
          case hw => go_simp
          refine wpO_step2 rfl rfl (⟨HK7.out, HXA2.out⟩) (fun K hK => ?_)
          rw [if_pos (show Region.wanted _ _ = true from rfl)]
          refine oper_store_blk HV6.out 25 0 (Cac.vv ⟨x.room, x.ver, A', x.n, c', oneMore x.hits, x.misses⟩) (Nat.le_refl _) (info_cac _) (cac_one _) _ _ rfl rfl rfl ?_
          intro w8 hg8 hs8 hb8
          rw [splice_cac] at hb8
          have H8 := Lib.hid (And.intro hg8 hb8)
          clear hg8 hs8 hb8
          have hk8 := blk_grown HK7.out H8.out.1 (fun e => by injection e with e; omega)
          have hx8 := blk_grown HXA2.out H8.out.1 (fun e => by injection e with e; have := HS3.out; omega)
          have HK8 := Lib.hid hk8
          have HX8 := Lib.hid hx8
          have HW7 := Lib.hid (blk_grown HV7.out H8.out.1 (fun e => by injection e with e; omega))
          clear hk8 hx8
          refine hK _ _ ⟨⟨HK8.out, HX8.out⟩, ?_⟩
          clear hK K
          refine wpO_step2 rfl rfl (⟨HK8.out, HX8.out⟩) (fun K hK => ?_)
          rw [if_pos (show Region.wanted _ _ = true from rfl)]
          refine oper_store_blk HW7.out 38 0 (rowV (entAt es i).r) (store_row_fit HF.out.r (rowV_size rowZ_fits)) (info_row HF.out.r) (rowV_one _) _ _ rfl rfl rfl ?_
          intro w9 hg9 hs9 hb9
          rw [splice_row HF.out.r (rowV_size rowZ_fits)] at hb9
          have H9 := Lib.hid (And.intro hg9 hb9)
          clear hg9 hs9 hb9
          refine hK _ _ ⟨⟨blk_grown HK8.out H9.out.1 (fun e => by injection e with e; omega), blk_grown HX8.out H9.out.1 (fun e => by injection e with e; have := HS3.out; omega)⟩, ?_⟩
          clear hK K
          iterate 2 (refine wpO_step0 rfl rfl (fun K hK => ?_); go_simp; refine hK _ _ ?_; clear hK K)
          refine wpO_nil ?_
          go_wp2
          have HZ6 := blk_grown H8.out.2 H9.out.1 (fun e => by injection e with e; omega)
          refine bodyPost_ret (results_cc2 rfl rfl (load_cac HZ6) rfl (Shape.ld rowK w9 _ 0 _ HF.out.r (cells_blk H9.out.2))) rfl ?_
          refine ⟨⟨x.room, x.ver, A', x.n, c', oneMore x.hits, x.misses⟩, entAt es i :: (es.take i ++ es.drop (i + 1)), (entAt es i).r, (entAt es i).f, by rw [HN.out]; rfl, ?_, ?_, ?_, ?_⟩
          · have hob := HO5.out.base_
            have h6 := HO5.out.reads.grown H6.out.1 (fun ad e h => by injection h with h; have := hob ad e; have := HS4.out; have := HS3.out; omega)
            have h7 := h6.grown H7.out.1 (fun ad e h => by injection h with h; have := hob ad e; have := HS4.out; have := HS3.out; omega)
            have h8 := (h7.below (below_drew1 w7)).grown H8.out.1 (fun ad e h => by injection h with h; have := hob ad e; have := HS4.out; have := HS3.out; omega)
            exact h8.grown H9.out.1 (fun ad e h => by injection h with h; have := hob ad e; have := HS4.out; have := HS3.out; omega)
          · intro ad e; have := HO5.out.base_ ad e; have := HS4.out; have := HS3.out; omega
          · unfold LookIs
            rw [if_pos HN.out]
            have h0 : (0 : Int) ≤ hitN es v l := by rw [HM.out]; omega
            have ht : (hitN es v l).toNat = i := by rw [HM.out]; simp
            have htold : told es t v l = entAt es i := by unfold told; rw [if_pos h0, ht]
            refine ⟨rfl, rfl, ?_, ?_, ?_, by rw [htold], by rw [htold]⟩
            · unfold lookL
              rw [if_pos h0, ht, htold]
            · rw [if_pos h0]
            · rw [if_pos h0]
          · exact below_grown (below_grown (below_step (below_grown (below_grown (below_step HBE.out HB5.out) H6.out.1 (by omega)) H7.out.1 (by omega)) (below_drew1 w7)) H8.out.1 (by omega)) H9.out.1 (by omega)
end Go.Proofs.YtihfaknflfmohaaDoor

/- Arguments that are caches, opened. -/
namespace Go.Proofs.YtihfaknflfmohaaDoor
open Go.ChangeShapes Go.WideShapes Go.ChangeAt Go.RowKit
set_option linter.unusedVariables false
set_option linter.unusedSimpArgs false
set_option maxRecDepth 4000
section
variable {H : Type} {enc : TypeId × Value → H} {W : World} {base : Nat} {spare : Nat → Bool} {held : Bool}
theorem open_ent_cells {fuel : Nat} {cs : List Value} {x : DataW H × List MemPlace} (h : DataW.trod enc Tryd.prog W base spare held fuel 43 cs = some x) : ∃ e : Ent, cs = entC e ∧ e.ok := by
  obtain ⟨xs, m, -, -, hlen, hxl, hg⟩ := DataW.trod_struct Tryd.underlying43 h
  have c1 : Tryd.prog.cellsOf 31 = 17 := by kernel_rfl
  have c2 : Tryd.prog.cellsOf 38 = 19 := by kernel_rfl
  have c4 : Tryd.prog.cellsOf 4 = 1 := by kernel_rfl
  have c3 : Tryd.prog.cellsOf 43 = 37 := by kernel_rfl
  have h0 : DataW.trod enc Tryd.prog W base spare held m 31 ((cs.drop 0).take (Tryd.prog.cellsOf 31)) = xs[0]? := hg 0 _ rfl
  have h1 : DataW.trod enc Tryd.prog W base spare held m 38 ((cs.drop 17).take (Tryd.prog.cellsOf 38)) = xs[1]? := hg 1 _ rfl
  have h2 : DataW.trod enc Tryd.prog W base spare held m 4 ((cs.drop 36).take (Tryd.prog.cellsOf 4)) = xs[2]? := hg 2 _ rfl
  rw [c3] at hlen
  rw [c1, List.drop_zero] at h0
  rw [c2] at h1
  rw [c4] at h2
  have hx3 : xs.length = 3 := hxl
  match xs, hx3 with
  | [x0, x1, x2], _ =>
    obtain ⟨v, l, hvl, hb, hw⟩ := open_adr_cells (show DataW.trod enc Tryd.prog W base spare held m 31 (cs.take 17) = some x0 from h0)
    obtain ⟨r, hr, hro⟩ := open_row_cells (show DataW.trod enc Tryd.prog W base spare held m 38 ((cs.drop 17).take 19) = some x1 from h1)
    obtain ⟨f, hf, -⟩ := DataW.trod_bool Tryd.underlying4 (show DataW.trod enc Tryd.prog W base spare held m 4 ((cs.drop 36).take 1) = some x2 from h2)
    rw [List.take_of_length_le (by rw [List.length_drop]; omega)] at hf
    refine ⟨⟨v, l, r, f⟩, ?_, hb, hw, hro⟩
    have e1 : cs = cs.take 17 ++ ((cs.drop 17).take 19 ++ cs.drop 36) := by
      have h3 : cs.drop 17 = (cs.drop 17).take 19 ++ cs.drop 36 := by
        conv => lhs; rw [← List.take_append_drop 19 (cs.drop 17)]
        rw [List.drop_drop]
      rw [← h3, List.take_append_drop]
    rw [e1, hvl, hr, hf]
    simp [entC]
theorem open_cac_cells {fuel : Nat} {cs : List Value} {y : DataW H × List MemPlace} (h : DataW.trod enc Tryd.prog W base spare held fuel 25 cs = some y) (hl : Light Tryd.prog 25 y.1) : ∃ (x : Cac) (es : List Ent), cs = x.vv.toList ∧ RE W x.A x.n x.c es ∧ Oke es ∧ x.ok ∧ x.n * 72 ≤ 140737488351232 := by
  obtain ⟨xs, m, -, hx, hlen, hxl, hg⟩ := DataW.trod_struct Tryd.underlying25 h
  have c0 : Tryd.prog.cellsOf 3 = 1 := by kernel_rfl
  have c1 : Tryd.prog.cellsOf 22 = 1 := by kernel_rfl
  have c2 : Tryd.prog.cellsOf 23 = 1 := by kernel_rfl
  have c3 : Tryd.prog.cellsOf 25 = 5 := by kernel_rfl
  have h0 : DataW.trod enc Tryd.prog W base spare held m 3 ((cs.drop 0).take (Tryd.prog.cellsOf 3)) = xs[0]? := hg 0 _ rfl
  have h1 : DataW.trod enc Tryd.prog W base spare held m 22 ((cs.drop 1).take (Tryd.prog.cellsOf 22)) = xs[1]? := hg 1 _ rfl
  have h2 : DataW.trod enc Tryd.prog W base spare held m 23 ((cs.drop 2).take (Tryd.prog.cellsOf 23)) = xs[2]? := hg 2 _ rfl
  have h3 : DataW.trod enc Tryd.prog W base spare held m 22 ((cs.drop 3).take (Tryd.prog.cellsOf 22)) = xs[3]? := hg 3 _ rfl
  have h4 : DataW.trod enc Tryd.prog W base spare held m 22 ((cs.drop 4).take (Tryd.prog.cellsOf 22)) = xs[4]? := hg 4 _ rfl
  rw [c3] at hlen
  rw [c0] at h0
  rw [c1] at h1 h3 h4
  rw [c2] at h2
  have hx5 : xs.length = 5 := hxl
  subst hx
  match cs, hlen, xs, hx5 with
  | [d0, d1, d2, d3, d4], _, [x0, x1, x2, x3, x4], _ =>
    obtain ⟨room, hv0, -, hw0⟩ := DataW.trod_int Tryd.underlying3 (show DataW.trod enc Tryd.prog W base spare held m 3 [d0] = some x0 from h0)
    obtain ⟨ver, hv1, -, hw1⟩ := DataW.trod_int Tryd.underlying22 (show DataW.trod enc Tryd.prog W base spare held m 22 [d1] = some x1 from h1)
    obtain ⟨hits, hv3, -, hw3⟩ := DataW.trod_int Tryd.underlying22 (show DataW.trod enc Tryd.prog W base spare held m 22 [d3] = some x3 from h3)
    obtain ⟨misses, hv4, -, hw4⟩ := DataW.trod_int Tryd.underlying22 (show DataW.trod enc Tryd.prog W base spare held m 22 [d4] = some x4 from h4)
    have hl2 : Light Tryd.prog 23 x2.1 := light_field Tryd.underlying25 hl (i := 2) (f := _) rfl rfl
    obtain ⟨A, n, c, t, e1, e2, e3, e4⟩ := open_shp entK Ent.ok (by show Tryd.prog.cellsOf 43 = 37; kernel_rfl) (by show 0 < Tryd.prog.bytesOf 43; exact of_decide_eq_true (by kernel_rfl)) (fun fuel cs y hy _ => by
      obtain ⟨r, e, hr⟩ := open_ent_cells hy
      exact ⟨r, e, hr.fits, hr⟩) (show DataW.trod enc Tryd.prog W base spare held m 23 [d2] = some x2 from h2) hl2
    have hb : Tryd.prog.bytesOf entK.t = 72 := by show Tryd.prog.bytesOf 43 = 72; kernel_rfl
    rw [hb] at e4
    refine ⟨⟨room, ver, A, n, c, hits, misses⟩, t, ?_, e2, e3, ⟨hw0, hw1, hw3, hw4⟩, e4⟩
    injection hv0 with hv0
    injection hv1 with hv1
    injection e1 with e1
    injection hv3 with hv3
    injection hv4 with hv4
    subst hv0 hv1 e1 hv3 hv4
    rfl
end
theorem open_cac {H : Type} {enc : TypeId × Value → H} {W : World} {base b0 : Nat} {spare : Nat → Bool} {held : Bool} {v : Value} {d : DataW H} {p : List MemPlace} (hv : Value.okWide Tryd.prog W .any b0 25 v)
    (h : DataW.Trod enc Tryd.prog W base spare held 25 v d p) (hl : Light Tryd.prog 25 d) : ∃ (x : Cac) (es : List Ent), v = .agg x.vv ∧ RE W x.A x.n x.c es ∧ Oke es ∧ x.ok ∧ x.n * 72 ≤ 140737488351232 := by
  obtain ⟨cs, rfl, -⟩ := okWide_struct Tryd.underlying25 hv
  obtain ⟨fuel, hf⟩ := h
  obtain ⟨x, es, hc, h1, h2, h3, h4⟩ := open_cac_cells hf hl
  refine ⟨x, es, ?_, h1, h2, h3, h4⟩
  have : cs = x.vv := by
    apply Array.toList_inj.1
    exact hc
  rw [this]
end Go.Proofs.YtihfaknflfmohaaDoor

/- Layer 27 (cache): New; the document's Tells and more. -/
namespace Go.Proofs.YtihfaknflfmohaaDoor
open Go.RowKit
set_option linter.unusedVariables false
set_option linter.unusedSimpArgs false
set_option maxRecDepth 4000
def newE (room ver : Int) : Int := if room < 1 ∨ 16 < room ∨ 4611686018427387904 < ver then 2 else 0
def newC (room ver : Int) : Cac := if newE room ver = 0 then ⟨room, ver, none, 0, 0, 0, 0⟩ else cacZ
theorem run_build_cac2 (w : World) (room ver : Int) : (Instr.build 25 #[(0, .int .i64 room), (1, .int .u64 ver)]).run Tryd.prog w = .ok (.agg (Cac.vv ⟨room, ver, none, 0, 0, 0, 0⟩)) w := run_build w _ _ _ (by kernel_rfl)
theorem cnew_any (room ver : Int) (w : World) : Calls Tryd.prog 21 #[.int .i64 room, .int .u64 ver] w fun r w' => r = .returned (.tuple #[.agg (newC room ver).vv, .int .i64 (newE room ver)]) ∧ Below w.heap.size w w' := by
  have hbc := run_build_cac_nil
  have hbc2 := run_build_cac2
  go_enter Tryd.func21, Tryd.ntmps21
  by_cases h1 : room < 1
  · have h1b : decide (room < 1) = true := decide_eq_true h1
    have HN := Lib.hid (show newE room ver = 2 by unfold newE; rw [if_pos (by omega)])
    go_wp2_with (first | ((with_reducible show wpList _ _ _ (Oper.mk _ (Op.build _ _) _ _ _ _ :: _) _ _); refine wpList_exw rfl (exec_build 25 #[] rfl #[] rfl (hbc _)) ?_) | ((with_reducible show wpList _ _ _ (Oper.mk _ (Op.store _ _ _) _ _ _ _ :: _) _ _); refine wpList_store_blk (blk_new w (.cells cacZ.vv 25)) 25 0 cacZ.vv (Nat.le_refl _) (info_cac _) (cac_one _) _ _ rfl rfl rfl rfl ?_; intro w2 hg9 hs9 hb9; rw [splice_cac] at hb9; have H2 := Lib.hid (And.intro hg9 hb9); clear hg9 hs9 hb9))
    refine bodyPost_ret (results_c2 rfl rfl (load_cac H2.out.2)) rfl ?_
    rw [HN.out, show newC room ver = cacZ by unfold newC; rw [if_neg (by rw [HN.out]; decide)]]
    exact ⟨rfl, below_grown (below_alloc (Below.refl _ _) _) H2.out.1 (Nat.le_refl _)⟩
  · have h1b : decide (room < 1) = false := decide_eq_false h1
    by_cases h2 : 16 < room
    · have h2b : decide (16 < room) = true := decide_eq_true h2
      have HN := Lib.hid (show newE room ver = 2 by unfold newE; rw [if_pos (by omega)])
      go_wp2_with (first | ((with_reducible show wpList _ _ _ (Oper.mk _ (Op.build _ _) _ _ _ _ :: _) _ _); refine wpList_exw rfl (exec_build 25 #[] rfl #[] rfl (hbc _)) ?_) | ((with_reducible show wpList _ _ _ (Oper.mk _ (Op.store _ _ _) _ _ _ _ :: _) _ _); refine wpList_store_blk (blk_new w (.cells cacZ.vv 25)) 25 0 cacZ.vv (Nat.le_refl _) (info_cac _) (cac_one _) _ _ rfl rfl rfl rfl ?_; intro w2 hg9 hs9 hb9; rw [splice_cac] at hb9; have H2 := Lib.hid (And.intro hg9 hb9); clear hg9 hs9 hb9))
      refine bodyPost_ret (results_c2 rfl rfl (load_cac H2.out.2)) rfl ?_
      rw [HN.out, show newC room ver = cacZ by unfold newC; rw [if_neg (by rw [HN.out]; decide)]]
      exact ⟨rfl, below_grown (below_alloc (Below.refl _ _) _) H2.out.1 (Nat.le_refl _)⟩
    · have h2b : decide (16 < room) = false := decide_eq_false h2
      by_cases h3 : 4611686018427387904 < ver
      · have h3b : decide (4611686018427387904 < ver) = true := decide_eq_true h3
        have HN := Lib.hid (show newE room ver = 2 by unfold newE; rw [if_pos (by omega)])
        go_wp2_with (first | ((with_reducible show wpList _ _ _ (Oper.mk _ (Op.build _ _) _ _ _ _ :: _) _ _); refine wpList_exw rfl (exec_build 25 #[] rfl #[] rfl (hbc _)) ?_) | ((with_reducible show wpList _ _ _ (Oper.mk _ (Op.store _ _ _) _ _ _ _ :: _) _ _); refine wpList_store_blk (blk_new w (.cells cacZ.vv 25)) 25 0 cacZ.vv (Nat.le_refl _) (info_cac _) (cac_one _) _ _ rfl rfl rfl rfl ?_; intro w2 hg9 hs9 hb9; rw [splice_cac] at hb9; have H2 := Lib.hid (And.intro hg9 hb9); clear hg9 hs9 hb9))
        refine bodyPost_ret (results_c2 rfl rfl (load_cac H2.out.2)) rfl ?_
        rw [HN.out, show newC room ver = cacZ by unfold newC; rw [if_neg (by rw [HN.out]; decide)]]
        exact ⟨rfl, below_grown (below_alloc (Below.refl _ _) _) H2.out.1 (Nat.le_refl _)⟩
      · have h3b : decide (4611686018427387904 < ver) = false := decide_eq_false h3
        have HN := Lib.hid (show newE room ver = 0 by unfold newE; rw [if_neg (by omega)])
        go_wp2_with (first | ((with_reducible show wpList _ _ _ (Oper.mk _ (Op.build _ _) _ _ _ _ :: _) _ _); refine wpList_exw rfl (exec_build2 (t := 25) (i0 := 0) (i1 := 1) (x0 := .tmp 17) (x1 := .tmp 18) (v0 := (.int .i64 room)) (v1 := (.int .u64 ver)) (v := (.agg (Cac.vv ⟨room, ver, none, 0, 0, 0, 0⟩))) rfl rfl rfl (hbc2 _ _ _)) ?_) | ((with_reducible show wpList _ _ _ (Oper.mk _ (Op.store _ _ _) _ _ _ _ :: _) _ _); refine wpList_store_blk (blk_new w (.cells cacZ.vv 25)) 25 0 (Cac.mk room ver none 0 0 0 0).vv (Nat.le_refl _) (info_cac _) (cac_one _) _ _ rfl rfl rfl rfl ?_; intro w2 hg9 hs9 hb9; rw [splice_cac] at hb9; have H2 := Lib.hid (And.intro hg9 hb9); clear hg9 hs9 hb9))
        refine bodyPost_ret (results_c2 rfl rfl (load_cac H2.out.2)) rfl ?_
        rw [HN.out, show newC room ver = ⟨room, ver, none, 0, 0, 0, 0⟩ by unfold newC; rw [if_pos HN.out]]
        exact ⟨rfl, below_grown (below_alloc (Below.refl _ _) _) H2.out.1 (Nat.le_refl _)⟩
theorem longR_none {t : List Row} {v : Int} {l : List Int} (h : longB t v l = false) : longR t v l = rowZ := by
  unfold longB at h
  unfold longR
  cases hx : longest t v l with
  | none => rfl
  | some x => rw [hx] at h; cases h
theorem built_ent1 (v : Int) (l : List Int) (hl : l.length = 16) : Tryd.prog.built 43 [(0, .agg (adrV v l))] = some (entV ⟨v, l, rowZ, false⟩) := by
  obtain ⟨a, b, c, d, e, f2, g, h1, i, j, k, m, n, o, q, r2, hh⟩ := len16 hl
  subst hh
  kernel_rfl
theorem exec_build_ent1 {r : Operand → Value} {o : Oper} {x : Operand} {v : Int} {l : List Int} (ho : o.op = .build 43 #[(0, x)]) (hx : r x = .agg (adrV v l)) (hl : l.length = 16) (w : World) :
    (execOp r o).run Tryd.prog w = .ok (.value (.agg (entV ⟨v, l, rowZ, false⟩))) w :=
  exec_build _ _ ho #[(0, .agg (adrV v l))] (by simp [hx]) (run_build w _ _ _ (built_ent1 v l hl))
theorem run_build_ent_nil (w : World) : (Instr.build 43 #[]).run Tryd.prog w = .ok (.agg (entV entZ)) w := run_build w _ _ _ (by kernel_rfl)
def tells (t : List Row) (v : Int) (l : List Int) : Ent := ⟨v, l, longR t v l, longB t v l⟩
set_option maxHeartbeats 2000000 in
theorem reftells_any (A : Option Addr) (n c : Nat) (t : List Row) (v : Int) (l : List Int) (w : World) (ht : RT w A n c t) (ot : Oks t) (hup : rising t = true) (hl : B16 l) (hn : n ≤ 100000) :
    Calls Tryd.prog 35 #[.agg (tabV A n c), .agg (adrV v l)] w fun r w' => r = .returned (.agg (entV (tells t v l))) ∧ Below w.heap.size w w' := by
  have hblk1 := blk_new w (.cells (tabV A n c) 28)
  have hbel1 : Below w.heap.size w (w.alloc (.cells (tabV A n c) 28)) := below_alloc (Below.refl _ _) _
  have hblk2 := blk_new (w.alloc (.cells (tabV A n c) 28)) (.cells (adrV v l) 31)
  have hbel2 : Below w.heap.size w ((w.alloc (.cells (tabV A n c) 28)).alloc (.cells (adrV v l) 31)) := below_alloc (hbel1) _
  rw [show (w.alloc (.cells (tabV A n c) 28)).heap.size = w.heap.size + 1 by simp] at hblk2
  replace hblk1 := blk_below hblk1 (below_alloc (Below.refl _ _) (.cells (adrV v l) 31))
  have HP1 := Lib.hid (tab_at hblk1)
  have HBK1 := Lib.hid hblk1
  have HP2 := Lib.hid (adr_at hl hblk2)
  have HBK2 := Lib.hid hblk2
  have HBE := Lib.hid hbel2
  obtain ⟨cs1, hcs1⟩ : ∃ cs, tabV A n c = cs := ⟨_, rfl⟩
  obtain ⟨cs2, hcs2⟩ : ∃ cs, adrV v l = cs := ⟨_, rfl⟩
  simp only [hcs1, hcs2] at HBE HP1 HP2 HBK1 HBK2 ⊢
  have HC1 := Lib.hid hcs1
  have HC2 := Lib.hid hcs2
  clear hcs1 hblk1 hbel1 hcs2 hblk2 hbel2
  have HT := Lib.hid (ht.below HBE.out)
  have HRF := Lib.hid (longR_fits (RT.fits HT.out) v l)
  have HZ : Hid ((((w.alloc (.cells cs1 28)).alloc (.cells cs2 31)).alloc (.cells (entV entZ) 43)).heap[w.heap.size + 2]? = some (.cells (entV entZ) 43 (0, 0))) := Lib.hid (by
    have := blk_new ((w.alloc (.cells cs1 28)).alloc (.cells cs2 31)) (.cells (entV entZ) 43)
    rw [show ((w.alloc (.cells cs1 28)).alloc (.cells cs2 31)).heap.size = w.heap.size + 2 by simp] at this
    exact this)
  clear ht
  go_enter Tryd.func35, Tryd.ntmps35
  go_wp2_with (first | ((with_reducible show wpList _ _ _ (Oper.mk _ (Op.load _ _) _ _ _ _ :: _) _ _); refine wpList_load_g ((HP1.out.all _ (below_alloc (Below.refl _ _) _)).1) _ rfl rfl (by go_simp) ?_) | ((with_reducible show wpList _ _ _ (Oper.mk _ (Op.load _ _) _ _ _ _ :: _) _ _); refine wpList_load_g ((HP2.out.all _ (below_alloc (Below.refl _ _) _)).1) _ rfl rfl (by go_simp) ?_))
  have hcall := reflongest_any A n c t v l (((w.alloc (.cells cs1 28)).alloc (.cells cs2 31)).alloc (.cells (entV entZ) 43)) (HT.out.below (below_alloc (Below.refl _ _) _)) ot hup hl hn
  refine hcall.mono ?_
  clear hcall
  rintro e w1 ⟨rfl, hb1⟩
  have HB1 := Lib.hid (below_step (below_alloc (Below.refl _ _) _) hb1)
  have HZ1 := Lib.hid (blk_below HZ.out hb1)
  clear hb1 HZ
  cases hlb : longB t v l with
  | false =>
    have HTE := Lib.hid (show tells t v l = ⟨v, l, rowZ, false⟩ by unfold tells; rw [hlb, longR_none hlb])
    have HEF := Lib.hid (show (Ent.mk v l rowZ false).fits from ⟨hl, zero16_B⟩)
    clear hlb
    go_wp2_with (first | ((with_reducible show wpList _ _ _ (Oper.mk _ (Op.store _ _ _) _ _ _ _ :: _) _ _); refine wpList_store_blk (blk_new w1 _) 38 0 (rowV (longR t v l)) (store_row_fit HRF.out rfl) (info_row HRF.out) (rowV_one _) _ _ rfl rfl rfl rfl ?_; intro w2 hg9 hs9 hb9; rw [splice_row HRF.out rfl] at hb9; have H2 := Lib.hid (And.intro hg9 hb9); clear hg9 hs9 hb9) | ((with_reducible show wpList _ _ _ (Oper.mk _ (Op.load _ _) _ _ _ _ :: _) _ _); refine wpList_load_g ((HP2.out.all w2 (below_grown (below_step HB1.out (below_alloc (Below.refl w1.heap.size w1) (.cells (rowV rowZ) 38))) H2.out.1 HB1.out.size)).1) _ rfl rfl (by go_simp) ?_) | ((with_reducible show wpList _ _ _ (Oper.mk _ (Op.build _ _) _ _ _ _ :: _) _ _); refine wpList_exw rfl (exec_build_ent1 (v := v) (l := l) rfl rfl hl.len _) ?_) | ((with_reducible show wpList _ _ _ (Oper.mk _ (Op.store _ _ _) _ _ _ _ :: _) _ _); refine wpList_store_blk (blk_grown (blk_below HZ1.out (below_alloc (Below.refl _ _) (.cells (rowV rowZ) 38))) H2.out.1 (fun e => by injection e with e; have := blk_lt HZ1.out; omega)) 43 0 (entV (Ent.mk v l rowZ false)) (store_ent_fit HEF.out (entV_size entZ_fits)) (info_ent HEF.out) (entV_one _) _ _ rfl rfl rfl rfl ?_; intro w3 hg9 hs9 hb9; rw [splice_ent HEF.out (entV_size entZ_fits)] at hb9; have H3 := Lib.hid (And.intro hg9 hb9); clear hg9 hs9 hb9))
    have hld := (Shape.ld entK w3 _ 0 _ (show (Ent.mk v l rowZ false).fits from ⟨hl, zero16_B⟩) (cells_blk H3.out.2))
    refine bodyPost_ret (results_c1 rfl rfl hld) rfl ?_
    rw [HTE.out]
    exact ⟨rfl, below_grown (below_grown (below_step (below_step HBE.out HB1.out) (below_alloc (Below.refl w1.heap.size w1) (.cells (rowV rowZ) 38))) H2.out.1 (by have := blk_lt HZ1.out; omega)) H3.out.1 (by omega)⟩
  | true =>
    have HTE := Lib.hid (show tells t v l = ⟨v, l, longR t v l, true⟩ by unfold tells; rw [hlb])
    clear hlb
    obtain ⟨ro, hro⟩ : ∃ ro, longR t v l = ro := ⟨_, rfl⟩
    rw [hro] at HRF HTE ⊢
    go_wp2_with (first | ((with_reducible show wpList _ _ _ (Oper.mk _ (Op.store _ _ _) _ _ _ _ :: _) _ _); refine wpList_store_blk (blk_new w1 _) 38 0 (rowV ro) (store_row_fit HRF.out rfl) (info_row HRF.out) (rowV_one _) _ _ rfl rfl rfl rfl ?_; intro w2 hg9 hs9 hb9; rw [splice_row HRF.out rfl] at hb9; have H2 := Lib.hid (And.intro hg9 hb9); clear hg9 hs9 hb9) | ((with_reducible show wpList _ _ _ (Oper.mk _ (Op.load _ _) _ _ _ _ :: _) _ _); refine wpList_load_g ((HP2.out.all w2 (below_grown (below_step HB1.out (below_alloc (Below.refl w1.heap.size w1) (.cells (rowV rowZ) 38))) H2.out.1 HB1.out.size)).1) _ rfl rfl (by go_simp) ?_) | ((with_reducible show wpList _ _ _ (Oper.mk _ (Op.load _ _) _ _ _ _ :: _) _ _); refine wpList_load_g (((row_at HRF.out H2.out.2).all _ (Below.refl _ _)).row) _ rfl rfl (by go_simp) ?_) | ((with_reducible show wpList _ _ _ (Oper.mk _ (Op.build _ _) _ _ _ _ :: _) _ _); refine wpList_exw rfl (exec_build_ent (v := v) (l := l) (ro := ro) (f := true) rfl rfl rfl rfl hl.len HRF.out.len _) ?_) | ((with_reducible show wpList _ _ _ (Oper.mk _ (Op.store _ _ _) _ _ _ _ :: _) _ _); refine wpList_store_blk (blk_grown (blk_below HZ1.out (below_alloc (Below.refl _ _) (.cells (rowV rowZ) 38))) H2.out.1 (fun e => by injection e with e; have := blk_lt HZ1.out; omega)) 43 0 (entV (Ent.mk v l ro true)) (store_ent_fit ⟨hl, HRF.out⟩ (entV_size entZ_fits)) (info_ent ⟨hl, HRF.out⟩) (entV_one _) _ _ rfl rfl rfl rfl ?_; intro w3 hg9 hs9 hb9; rw [splice_ent ⟨hl, HRF.out⟩ (entV_size entZ_fits)] at hb9; have H3 := Lib.hid (And.intro hg9 hb9); clear hg9 hs9 hb9))
    have hld := (Shape.ld entK w3 _ 0 _ (show (Ent.mk v l ro true).fits from ⟨hl, HRF.out⟩) (cells_blk H3.out.2))
    refine bodyPost_ret (results_c1 rfl rfl hld) rfl ?_
    rw [HTE.out]
    exact ⟨rfl, below_grown (below_grown (below_step (below_step HBE.out HB1.out) (below_alloc (Below.refl w1.heap.size w1) (.cells (rowV rowZ) 38))) H2.out.1 (by have := blk_lt HZ1.out; omega)) H3.out.1 (by omega)⟩
end Go.Proofs.YtihfaknflfmohaaDoor

/- Layer 27 (cache): the document's Look. -/
namespace Go.Proofs.YtihfaknflfmohaaDoor
open Go.RowKit
set_option linter.unusedVariables false
set_option linter.unusedSimpArgs false
set_option maxRecDepth 4000
theorem hit_spec {es : List Ent} {v : Int} {l : List Int} {i : Nat} (h : hitN es v l = (i : Int)) : i < es.length ∧ sA (entAt es i).v (entAt es i).l v l = true ∧ ∀ k, k < i → sA (entAt es k).v (entAt es k).l v l = false := by
  unfold hitN idxE at h
  cases hf : es.findIdx? (fun e => sA e.v e.l v l) with
  | none =>
    rw [hf] at h
    have h : (-1 : Int) = i := h
    omega
  | some j =>
    rw [hf] at h
    have hj : j = i := by
      have h : (j : Int) = i := h
      omega
    subst hj
    rw [List.findIdx?_eq_some_iff_getElem] at hf
    obtain ⟨h1, h2, h3⟩ := hf
    have hg : ∀ k (hk : k < es.length), es[k] = entAt es k := fun k hk => by
      have := entAt_get hk
      rw [List.getElem?_eq_getElem hk] at this
      exact Option.some.inj this
    refine ⟨h1, by rw [← hg j h1]; exact h2, fun k hk => ?_⟩
    have := h3 k hk
    rw [hg k (by omega)] at this
    simpa using this
theorem miss_spec {es : List Ent} {v : Int} {l : List Int} (h : hitN es v l = -1) : ∀ k, k < es.length → sA (entAt es k).v (entAt es k).l v l = false := by
  intro k hk
  unfold hitN idxE at h
  cases hf : es.findIdx? (fun e => sA e.v e.l v l) with
  | some j =>
    rw [hf] at h
    have h : (j : Int) = -1 := h
    omega
  | none =>
    rw [List.findIdx?_eq_none_iff] at hf
    exact hf _ (List.mem_of_getElem? (entAt_get hk))
theorem mem_entAt {es : List Ent} {e : Ent} (h : e ∈ es) : ∃ k, k < es.length ∧ entAt es k = e := by
  obtain ⟨k, hk, he⟩ := List.getElem_of_mem h
  refine ⟨k, hk, ?_⟩
  have := entAt_get hk
  rw [List.getElem?_eq_getElem hk, he] at this
  exact (Option.some.inj this).symm
theorem blk_ownC {w w1 : World} {g : Nat} {o : Obj} {A : Option Addr} {n c : Nat} (h : w.heap[g]? = some o) (hg : w.grownBy w1 ((Value.slice A n c).ownBlock)) (ha : ∀ ad, A = some ad → ad.block ≠ g) : w1.heap[g]? = some o :=
  blk_grown h hg (fun e => by
    obtain ⟨ad, e1, e2⟩ := own_of e.symm
    exact ha ad e1 e2)
end Go.Proofs.YtihfaknflfmohaaDoor

/- Layer 9 (table): the document's Put. -/
namespace Go.Proofs.YtihfaknflfmohaaDoor
open Go.RowKit
set_option linter.unusedVariables false
set_option linter.unusedSimpArgs false
set_option maxRecDepth 4000
end Go.Proofs.YtihfaknflfmohaaDoor

/- Layer 9 (table): the document's Put, walked. -/
namespace Go.Proofs.YtihfaknflfmohaaDoor
open Go.RowKit
set_option linter.unusedVariables false
set_option linter.unusedSimpArgs false
set_option maxRecDepth 4000
end Go.Proofs.YtihfaknflfmohaaDoor

/- Layer 9 (table): the document's Set and Drop. -/
namespace Go.Proofs.YtihfaknflfmohaaDoor
open Go.RowKit
set_option linter.unusedVariables false
set_option linter.unusedSimpArgs false
set_option maxRecDepth 4000
end Go.Proofs.YtihfaknflfmohaaDoor

/- Layer 5 (prefix): Bit; the document's Bit. -/
namespace Go.Proofs.YtihfaknflfmohaaDoor
open Go.RowKit
set_option linter.unusedVariables false
set_option linter.unusedSimpArgs false
set_option maxRecDepth 4000

end Go.Proofs.YtihfaknflfmohaaDoor

/- Layer 5 (prefix): Nibble; the document's Nibble. -/
namespace Go.Proofs.YtihfaknflfmohaaDoor
open Go.RowKit
set_option linter.unusedVariables false
set_option linter.unusedSimpArgs false
set_option maxRecDepth 4000

end Go.Proofs.YtihfaknflfmohaaDoor

/- Layer 5 (prefix): EncodeAddr, Encode; the document's bytes. -/
namespace Go.Proofs.YtihfaknflfmohaaDoor
open Go.RowKit
set_option linter.unusedVariables false
set_option linter.unusedSimpArgs false
set_option maxRecDepth 4000

theorem OB.two (W : World) (x y : Int) (hx : 0 ≤ x ∧ x < 256) (hy : 0 ≤ y ∧ y < 256) (base : Nat) (hb : base ≤ W.heap.size) : OB (W.alloc (.cells #[.int .u8 x, .int .u8 y] 5)) base (some ⟨W.heap.size, 0, none⟩) 2 2 [x, y] :=
  OB.new W base [x, y] hb (by simp) (fun z hz => by simp at hz; omega)
theorem OB.one (W : World) (x : Int) (hx : 0 ≤ x ∧ x < 256) (base : Nat) (hb : base ≤ W.heap.size) : OB (W.alloc (.cells #[.int .u8 x] 5)) base (some ⟨W.heap.size, 0, none⟩) 1 1 [x] :=
  OB.new W base [x] hb (by simp) (fun z hz => by simp at hz; omega)

end Go.Proofs.YtihfaknflfmohaaDoor

/- Layer 5 (prefix): the reader's version and some. -/
namespace Go.Proofs.YtihfaknflfmohaaDoor
open Go.RowKit
set_option linter.unusedVariables false
set_option linter.unusedSimpArgs false
set_option maxRecDepth 4000

theorem Laid.grown {w w1 : World} (h : Laid w) {g : Nat} (hg : w.grownBy w1 (some g)) (h0 : g ≠ 0) : Laid w1 :=
  ⟨fun i hi => hg.cell (h.at_ i hi) (fun e => by injection e with e; exact h0 e.symm)⟩
/-- The reader of the package: a box that holds the pointer. -/
abbrev rdV (g : Nat) : Array Value := #[.pointer (some ⟨g, 0, none⟩)]

def SomeRest (lo g : Nat) (xs : List Int) (bits : Nat) (wrong : Int) (w : World) : Prop := ∃ rest e1, Rdr w lo g rest e1 ∧ (someE xs bits wrong = 0 → rest = xs.drop (fullB bits) ∧ e1 = 0)
end Go.Proofs.YtihfaknflfmohaaDoor

/- A region that draws its order, where two operations that act may stand in either order: both orders are walked. -/
namespace Go.Proofs.YtihfaknflfmohaaDoor
open Go.RowKit
set_option linter.unusedVariables false
set_option linter.unusedSimpArgs false
set_option maxRecDepth 4000

section
variable {P : Program} {S : World → Prop} {ops : Array Oper} {md : Region.Mode} {cl : Nat → Nat}
theorem notOut (X : Act → World → Prop) : ¬ LetsOut (onlyNormal X) := fun ⟨_, _, h⟩ => h
theorem wpOp_normal {X Y K : Act → World → Prop} {i : Nat} {a : Act} {w : World} (h : wpOp P ops (onlyNormal X) i K a w) : wpOp P ops (onlyNormal Y) i K a w := by
  unfold wpOp at *
  cases hi : ops[i]? with
  | none => rw [hi] at h; exact h
  | some o =>
    rw [hi] at h
    simp only at h ⊢
    split
    · rename_i hw
      rw [if_pos hw] at h
      rcases h with h | ⟨_, h⟩
      · refine .inl ?_
        unfold Oper.wp at *
        generalize (execOp a.eval o).run P w = r at *
        cases r with
        | ok n w' =>
          cases n <;> simp only [Oper.upon] at h ⊢
          case value u => exact h
          case skip => exact h
          case defer d => exact h
          case enter f args =>
            refine Calls.mono h fun e w'' he => ?_
            cases e with
            | returned u => exact he
            | panicked c => exact he.elim
            | outgrown => exact (notOut _ he).elim
          case row row args => exact h
        | halt x w' =>
          cases x <;> simp only [Oper.upon] at h ⊢
          case panic u => exact h.elim
      · exact (notOut _ h).elim
    · rename_i hw
      rw [if_neg hw] at h
      exact h
theorem mOp_normal {X Y K K' : Act → World → Prop} {i : Nat} {a : Act} {w : World} (hk : ∀ a w, K a w → K' a w) (h : mOp P S ops (onlyNormal X) cl i K a w) : mOp P S ops (onlyNormal Y) cl i K' a w := by
  refine mOp_mono hk ?_
  unfold mOp at *
  cases hi : ops[i]? with
  | none => rw [hi] at h; exact h
  | some o =>
    rw [hi] at h
    simp only at h ⊢
    split at h
    · exact h
    · exact h
    · exact wpOp_normal h
    · exact h
    · exact wpOp_normal h

inductive OrdT where
  | lin (l : List Nat)
  | fork (l : List Nat) (i j : Nat) (r s : OrdT)
def OrdT.len : OrdT → Nat
  | .lin l => l.length
  | .fork l _ _ r _ => l.length + (r.len + 1)
def wpF (P : Program) (S : World → Prop) (ops : Array Oper) (cl : Nat → Nat) (K : Act → World → Prop) : OrdT → Act → World → Prop
  | .lin l, a, w => wpO P S ops (onlyNormal K) cl l a w
  | .fork l i j r s, a, w => wpO P S ops (onlyNormal fun a w => wpO P S ops (onlyNormal (wpF P S ops cl K r)) cl [i] a w ∧ wpO P S ops (onlyNormal (wpF P S ops cl K s)) cl [j] a w) cl l a w
def afterL (l : List Nat) (listed : Array Bool) : Array Bool := l.foldl (fun b i => b.setIfInBounds i true) listed
def ordP (md : Region.Mode) (ops : Array Oper) (cl : Nat → Nat) : List Nat → Array Bool → Bool
  | [], _ => true
  | i :: l, listed => (match cl i with
    | 0 => (Region.ready md ops listed).contains i && Region.free md ops listed i
    | 1 => (Region.ready md ops listed).contains i && Region.free md ops listed i && (List.range ops.size).all fun j => listed.getD j true || cl j == 0 || cl j == 1 || reach md ops i ops.size j
    | 4 => (Region.ready md ops listed).contains i && Region.free md ops listed i
    | _ => Region.ready md ops listed == [i]) && ordP md ops cl l (listed.setIfInBounds i true)
def ordF (md : Region.Mode) (ops : Array Oper) (cl : Nat → Nat) : OrdT → Array Bool → Bool
  | .lin l, listed => ordB md ops cl l listed
  | .fork l i j r s, listed => ordP md ops cl l listed && (Region.ready md ops (afterL l listed) == [i, j]) && decide (r.len = s.len) && ordF md ops cl r ((afterL l listed).setIfInBounds i true) && ordF md ops cl s ((afterL l listed).setIfInBounds j true)

theorem wpM_prefix (hf : Fin md ops cl) (hs : Region.noSelect ops = true) {X K : Act → World → Prop} {n : Nat} : ∀ (l : List Nat) (listed : Array Bool) (a : Act) (w : World), Closed md ops listed → ordP md ops cl l listed = true →
    wpO P S ops (onlyNormal X) cl l a w → (∀ a w, Closed md ops (afterL l listed) → X a w → wpM P S md ops (onlyNormal K) cl n (afterL l listed) a w) → wpM P S md ops (onlyNormal K) cl (n + l.length) listed a w
  | [], listed, a, w, hcl, _, h, hX => hX a w hcl h
  | i :: l, listed, a, w, hcl, hB, h, hX => by
    simp only [ordP, Bool.and_eq_true] at hB
    obtain ⟨hB1, hB2⟩ := hB
    simp only [wpO] at h
    have h0 := h
    have hX' : ∀ a w, Closed md ops (afterL l (listed.setIfInBounds i true)) → X a w → wpM P S md ops (onlyNormal K) cl n (afterL l (listed.setIfInBounds i true)) a w := fun a w hc hx => hX a w hc hx
    show wpM P S md ops (onlyNormal K) cl (n + l.length + 1) listed a w
    unfold mOp at h
    split at hB1
    · rename_i hc
      simp only [Bool.and_eq_true, List.contains_iff_mem] at hB1
      obtain ⟨_, oi, hoi, _⟩ := mem_ready.1 hB1.1
      rw [hoi] at h
      simp only [hc] at h
      obtain ⟨v, hy, hk⟩ := h
      exact wpM_first0 hf hoi hc (Region.noSelect_spec hs) (fun c a w h => h) (n + l.length) listed a w hcl (Region.free_spec hoi hB1.2) hB1.1 hy (wpM_prefix hf hs l _ _ w (hcl.set hB1.1) hB2 hk hX')
    · rename_i hc
      simp only [Bool.and_eq_true, List.contains_iff_mem, List.all_eq_true, List.mem_range, Bool.or_eq_true, beq_iff_eq] at hB1
      obtain ⟨_, oi, hoi, _⟩ := mem_ready.1 hB1.1.1
      rw [hoi] at h
      simp only [hc] at h
      obtain ⟨v, hy, hk⟩ := h
      refine wpM_first1 (N := ops.size) hoi hc (Region.noSelect_spec hs) (n + l.length) listed a hcl (fun j oj hj hun => ?_) (Region.free_spec hoi hB1.1.2) hB1.1.1 hy (wpM_prefix hf hs l _ _ w (hcl.set hB1.1.1) hB2 hk hX')
      have := hB1.2 j (Array.getElem?_eq_some_iff.1 hj).1
      rw [hun] at this
      simpa [or_assoc] using this
    · rename_i hc
      simp only [Bool.and_eq_true, List.contains_iff_mem] at hB1
      obtain ⟨_, oi, hoi, _⟩ := mem_ready.1 hB1.1
      rw [hoi] at h
      simp only [hc] at h
      obtain ⟨v, hy, hk⟩ := h
      exact wpM_first4 hoi hc (Region.noSelect_spec hs) (fun c a w h => h) (n + l.length) listed a w hcl (Region.free_spec hoi hB1.2) hB1.1 hy (wpM_prefix hf hs l _ _ w (hcl.set hB1.1) hB2 hk hX')
    · simp only [beq_iff_eq] at hB1
      have hr : i ∈ Region.ready md ops listed := by rw [hB1]; exact List.mem_singleton.2 rfl
      exact wpM_only hB1 (mOp_normal (fun a' w' h' => wpM_prefix hf hs l _ a' w' (hcl.set hr) hB2 h' hX') h0)
theorem wpM_of_wpF (hf : Fin md ops cl) (hs : Region.noSelect ops = true) {K : Act → World → Prop} : ∀ (t : OrdT) (listed : Array Bool) (a : Act) (w : World), Closed md ops listed → ordF md ops cl t listed = true → wpF P S ops cl K t a w →
    wpM P S md ops (onlyNormal K) cl t.len listed a w
  | .lin l, listed, a, w, hcl, hB, h => wpM_of_wpO hf hs (fun c dst v a w h => h) l listed a w hcl hB h
  | .fork l i j r s, listed, a, w, hcl, hB, h => by
    simp only [ordF, Bool.and_eq_true, decide_eq_true_eq, beq_iff_eq] at hB
    obtain ⟨⟨⟨⟨h1, h2⟩, h3⟩, h4⟩, h5⟩ := hB
    show wpM P S md ops (onlyNormal K) cl (l.length + (r.len + 1)) listed a w
    rw [Nat.add_comm]
    refine wpM_prefix hf hs l listed a w hcl h1 h (fun a w hc hx => ?_)
    refine ⟨fun h => (by rw [h2] at h; cases h), fun k hk => ?_⟩
    have hri : i ∈ Region.ready md ops (afterL l listed) := by rw [h2]; simp
    have hrj : j ∈ Region.ready md ops (afterL l listed) := by rw [h2]; simp
    rw [h2] at hk
    rcases List.mem_cons.1 hk with rfl | hk
    · exact mOp_normal (fun a' w' h' => wpM_of_wpF hf hs r _ a' w' (hc.set hri) h4 h') hx.1
    · rw [List.mem_singleton] at hk
      subst hk
      exact mOp_normal (fun a' w' h' => by rw [h3]; exact wpM_of_wpF hf hs s _ a' w' (hc.set hrj) h5 h') hx.2
end
theorem wp_region_fork {P : Program} (S : World → Prop) {ops : Array Oper} {id : Nat} {Q : Exit → Act → World → Prop} {a : Act} {w : World} (t : OrdT) (l : List (Nat × Nat)) (hm : P.follows .mixedOrders = true)
    (hB : (finB .any ops l && Region.noSelect ops && decide (t.len = ops.size) && ordF .any ops (clOf l) t (Array.replicate ops.size false)) = true)
    (hS : S w.drew) (h : wpF P S ops (clOf l) (Q .normal) t a w.drew) : (Code.region id ops true).wp P Q a w := by
  simp only [Bool.and_eq_true, decide_eq_true_eq] at hB
  refine wp_mono (Q := onlyNormal (Q .normal)) (wp_region_any hm (wpAny_of_wpM (S := S) (cl := clOf l) (fin_of hB.1.1.1) _ _ _ _ (Closed.start _) hS ?_)) (fun e a w hq => ?_)
  · have := wpM_of_wpF (P := P) (S := S) (md := .any) (cl := clOf l) (fin_of hB.1.1.1) hB.1.1.2 t (Array.replicate ops.size false) a w.drew (Closed.start _) hB.2 h
    rw [hB.1.2] at this
    exact this
  · cases e <;> first | exact hq | exact hq.elim
end Go.Proofs.YtihfaknflfmohaaDoor

/- Layer 5 (prefix): DecodeAddr. -/
namespace Go.Proofs.YtihfaknflfmohaaDoor
open Go.RowKit
set_option linter.unusedVariables false
set_option linter.unusedSimpArgs false
set_option maxRecDepth 4000

theorem load_adr0 {w : World} {b : Nat} {v : Int} {l : List Int} (hl : B16 l) (h : w.heap[b]? = some (.cells (adrV v l) 31 (0, 0))) : (Instr.loadAt 31 (.pointer (some ⟨b, 0, none⟩))).run Tryd.prog w = .ok (.agg (adrV v l)) w :=
  ((adr_at hl h).all w (Below.refl _ _)).1
/-- What holds while the bytes are read: the reader's box, the result's cell. -/
structure DecS (w : World) (rb zb g : Nat) (z : Obj) (w0 : World) : Prop where
  below : Below w.heap.size w w0
  box : w0.heap[rb]? = some (.cells (rdV g) 163 (0, 0))
  zero : w0.heap[zb]? = some z
theorem DecS.step {w w0 w1 : World} {rb zb g : Nat} {z : Obj} (h : DecS w rb zb g z w0) (hb : Below w0.heap.size w0 w1) : DecS w rb zb g z w1 := ⟨below_step h.below hb, blk_below h.box hb, blk_below h.zero hb⟩
theorem SomeRest.below {lo g : Nat} {xs : List Int} {bits : Nat} {wrong : Int} {w w1 : World} (h : SomeRest lo g xs bits wrong w) (hb : Below w.heap.size w w1) : SomeRest lo g xs bits wrong w1 := by
  obtain ⟨r, e, h1, h2⟩ := h
  exact ⟨r, e, h1.below hb, h2⟩
theorem SomeRest.grown {lo g c : Nat} {xs : List Int} {bits : Nat} {wrong : Int} {w w1 : World} (h : SomeRest lo g xs bits wrong w) (hg : w.grownBy w1 (some c)) (hc : g < c) : SomeRest lo g xs bits wrong w1 := by
  obtain ⟨r, e, h1, h2⟩ := h
  exact ⟨r, e, h1.grown hg (fun b hb => by injection hb with hb; omega), h2⟩
/-- What the reading has left: the bytes in a block of their own, the reader behind them. -/
structure DecR (w : World) (rb zb g gb lo : Nat) (z : Obj) (sl : List Int) (ys : List Int) (bits : Nat) (wrong : Int) (w0 : World) : Prop where
  s : DecS w rb zb g z w0
  arr : w0.heap[gb]? = some (.cells (arrV sl) 29 (0, 0))
  rest : SomeRest lo g ys bits wrong w0
theorem DecR.drew {w w0 : World} {rb zb g gb lo : Nat} {z : Obj} {sl ys : List Int} {bits : Nat} {wrong : Int} (h : DecR w rb zb g gb lo z sl ys bits wrong w0) : DecR w rb zb g gb lo z sl ys bits wrong w0.drew :=
  ⟨h.s.step (below_drew1 _), h.arr, h.rest.below (below_drew1 _)⟩
structure DecT (w : World) (rb g gb : Nat) (sl : List Int) (w0 : World) : Prop where
  below : Below w.heap.size w w0
  box : w0.heap[rb]? = some (.cells (rdV g) 163 (0, 0))
  arr : w0.heap[gb]? = some (.cells (arrV sl) 29 (0, 0))
theorem DecR.t {w w0 : World} {rb zb g gb lo : Nat} {z : Obj} {sl ys : List Int} {bits : Nat} {wrong : Int} (h : DecR w rb zb g gb lo z sl ys bits wrong w0) : DecT w rb g gb sl w0 := ⟨h.s.below, h.s.box, h.arr⟩
end Go.Proofs.YtihfaknflfmohaaDoor

/- Layer 5 (prefix): Decode. -/
namespace Go.Proofs.YtihfaknflfmohaaDoor
open Go.RowKit
set_option linter.unusedVariables false
set_option linter.unusedSimpArgs false
set_option maxRecDepth 4000

end Go.Proofs.YtihfaknflfmohaaDoor

/- Layer 5: wakes. -/
namespace Go.Proofs.YtihfaknflfmohaaDoor
open Go.RowKit
set_option linter.unusedVariables false
set_option linter.unusedSimpArgs false
set_option maxRecDepth 4000

def ten8 : List Int := [10, 0, 0, 0, 0, 0, 0, 0, 0, 0, 0, 0, 0, 0, 0, 0]
theorem ten8_B : B16 ten8 := ⟨rfl, fun x hx => by simp [ten8] at hx; omega⟩
/-- A whole prefix stored into a cell just made. -/
structure WakS (w : World) (g h : Nat) (w0 : World) : Prop where
  below : Below w.heap.size w w0
  p : w0.heap[g]? = some (.cells (pfxV 4 ten8 8) 36 (0, 0))
  q : w0.heap[h]? = some (.cells (pfxV 4 ten8 8) 36 (0, 0))
theorem WakS.step {w w0 w1 : World} {g h : Nat} (s : WakS w g h w0) (hb : Below w0.heap.size w0 w1) : WakS w g h w1 := ⟨below_step s.below hb, blk_below s.p hb, blk_below s.q hb⟩
end Go.Proofs.YtihfaknflfmohaaDoor

/- Layer 9 (table): wakes, copied. -/
namespace Go.Proofs.YtihfaknflfmohaaDoor
open Go.RowKit
set_option linter.unusedVariables false
set_option linter.unusedSimpArgs false
set_option maxRecDepth 4000
def tenB : List Int := [10, 1, 0, 0, 0, 0, 0, 0, 0, 0, 0, 0, 0, 0, 0, 0]
theorem tenB_B : B16 tenB := ⟨rfl, fun x hx => by simp [tenB] at hx; omega⟩
end Go.Proofs.YtihfaknflfmohaaDoor
