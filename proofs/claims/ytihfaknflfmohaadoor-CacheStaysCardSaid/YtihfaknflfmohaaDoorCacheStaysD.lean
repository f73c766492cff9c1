/- Layer 27 (cache): the document's Right. -/
import Derived.DeepKeys4
import Derived.Maps.Own
import Derived.Maps.OwnOps
import Derived.Maps.Views
import Derived.Test.YtihfaknflfmohaaDoorCacheStaysB
import Derived.Test.YtihfaknflfmohaaDoorCacheStaysC
namespace Go.Proofs.YtihfaknflfmohaaDoor
open Go.RowKit
set_option linter.unusedVariables false
set_option linter.unusedSimpArgs false
set_option maxRecDepth 4000
abbrev entAt (es : List Ent) (i : Nat) : Ent := entK.at_ es i
abbrev RE (w : World) (A : Option Addr) (n c : Nat) (es : List Ent) : Prop := RS entK w A n c es
def Oke (es : List Ent) : Prop := ∀ e ∈ es, e.ok
theorem entAt_get {es : List Ent} {i : Nat} (hi : i < es.length) : es[i]? = some (entAt es i) := by
  unfold entAt Shape.at_
  simp [List.getElem?_eq_getElem hi]
theorem Oke.at_ {es : List Ent} (h : Oke es) {i : Nat} (hi : i < es.length) : (entAt es i).ok := h _ (List.mem_of_getElem? (entAt_get hi))
def sA (v : Int) (l : List Int) (v' : Int) (l' : List Int) : Bool := decide (v = v') && decide (l = l')
theorem sA_true {v v' : Int} {l l' : List Int} : sA v l v' l' = true ↔ v = v' ∧ l = l' := by simp [sA]
theorem sA_false {v v' : Int} {l l' : List Int} (h : sA v l v' l' = false) : ¬ (v = v' ∧ l = l') := fun hh => by rw [sA_true.2 hh] at h; cases h
theorem sA_exec {r : Operand → Value} {o : Oper} {x y : Operand} {ty : TypeId} (ho : o.op = .binOp .eql 31 x y ty) (v : Int) (l : List Int) (v' : Int) (l' : List Int) (hx : r x = .agg (adrV v l)) (hy : r y = .agg (adrV v' l')) (hl : B16 l) (hl' : B16 l') (hv : (Lit.int .i64 v).wf = true) (hv' : (Lit.int .i64 v').wf = true) (w : World) : (execOp r o).run Tryd.prog w = .ok (.value (.bool (sA v l v' l'))) w := adr_eql_exec ho v l v' l' hx hy hl hl' hv hv' w
theorem sA_nexec {r : Operand → Value} {o : Oper} {x y : Operand} {ty : TypeId} (ho : o.op = .binOp .neq 31 x y ty) (v : Int) (l : List Int) (v' : Int) (l' : List Int) (hx : r x = .agg (adrV v l)) (hy : r y = .agg (adrV v' l')) (hl : B16 l) (hl' : B16 l') (hv : (Lit.int .i64 v).wf = true) (hv' : (Lit.int .i64 v').wf = true) (w : World) : (execOp r o).run Tryd.prog w = .ok (.value (.bool (!sA v l v' l'))) w := by
  exact adr_neq_exec ho v l v' l' hx hy hl hl' hv hv' w
def sameA (x y : Ent) : Bool := sA x.v x.l y.v y.l
def entsB (es : List Ent) : Bool := decide (∀ j, j < es.length → entB (entAt es j) = true ∧ ∀ k, k < j → sameA (entAt es k) (entAt es j) = false)
def headB (x : Cac) : Bool := !(decide (x.room < 1) || decide (16 < x.room) || decide (4611686018427387904 < x.ver) || decide (x.room < x.n) || decide (4611686018427387904 < x.hits) || decide (4611686018427387904 < x.misses))
def cacB (x : Cac) (es : List Ent) : Bool := headB x && entsB es
theorem entsB_true {es : List Ent} (h : ∀ j, j < es.length → entB (entAt es j) = true ∧ ∀ k, k < j → sameA (entAt es k) (entAt es j) = false) : entsB es = true := decide_eq_true h
theorem entsB_bad {es : List Ent} {j : Nat} (hj : j < es.length) (h : entB (entAt es j) = false) : entsB es = false := decide_eq_false (fun hh => by rw [(hh j hj).1] at h; cases h)
theorem entsB_dup {es : List Ent} {j k : Nat} (hj : j < es.length) (hk : k < j) (h : sameA (entAt es k) (entAt es j) = true) : entsB es = false := decide_eq_false (fun hh => by rw [(hh j hj).2 k hk] at h; cases h)
set_option maxRecDepth 100000 in
set_option maxHeartbeats 4000000 in
theorem refcright_any (x : Cac) (es : List Ent) (w : World) (he : RE w x.A x.n x.c es) (oe : Oke es) (hn : x.n ≤ 100000) : Calls Tryd.prog 31 #[.agg x.vv] w fun r w' => r = .returned (.bool (cacB x es)) ∧ Below w.heap.size w w' := by
  have hblk1 := blk_new w (.cells (x.vv) 25)
  have hbel1 : Below w.heap.size w (w.alloc (.cells (x.vv) 25)) := below_alloc (Below.refl _ _) _
  have HP1 := Lib.hid (cac_at hblk1)
  have HBK1 := Lib.hid hblk1
  have HBE := Lib.hid hbel1
  obtain ⟨cs1, hcs1⟩ : ∃ cs, x.vv = cs := ⟨_, rfl⟩
  simp only [hcs1] at HBE HP1 HBK1 ⊢
  have HC1 := Lib.hid hcs1
  clear hcs1 hblk1 hbel1
  have HE := Lib.hid (he.below HBE.out)
  have OE := Lib.hid oe
  have hl := HP1.out.all _ (Below.refl _ _)
  have hl1 := hl.room
  have hl2 := hl.ver
  have hl3 := hl.ents
  have hl4 := hl.hits
  have hl5 := hl.misses
  clear he oe hl
  obtain ⟨room, ver, A, n, c, hits, misses⟩ := x
  simp only at *
  go_enter Tryd.func31, Tryd.ntmps31
  by_cases h1 : (room : Int) < 1
  · have h1b : decide ((room : Int) < 1) = true := decide_eq_true h1
    have HF := Lib.hid (show cacB ⟨room, ver, A, n, c, hits, misses⟩ es = false by unfold cacB headB; simp [h1])
    go_wp2_with (first | ((with_reducible show wpList _ _ _ (Oper.mk _ (Op.load _ _) _ _ _ _ :: _) _ _); refine wpList_load_g hl1 _ rfl rfl (by go_simp) ?_) | ((with_reducible show wpList _ _ _ (Oper.mk _ (Op.load _ _) _ _ _ _ :: _) _ _); refine wpList_load_g hl2 _ rfl rfl (by go_simp) ?_) | ((with_reducible show wpList _ _ _ (Oper.mk _ (Op.load _ _) _ _ _ _ :: _) _ _); refine wpList_load_g hl3 _ rfl rfl (by go_simp) ?_) | ((with_reducible show wpList _ _ _ (Oper.mk _ (Op.load _ _) _ _ _ _ :: _) _ _); refine wpList_load_g hl4 _ rfl rfl (by go_simp) ?_) | ((with_reducible show wpList _ _ _ (Oper.mk _ (Op.load _ _) _ _ _ _ :: _) _ _); refine wpList_load_g hl5 _ rfl rfl (by go_simp) ?_))
    go_ret
    rw [HF.out]
    exact ⟨rfl, HBE.out⟩
  · have h1b : decide ((room : Int) < 1) = false := decide_eq_false h1
    by_cases h2 : (16 : Int) < room
    · have h2b : decide ((16 : Int) < room) = true := decide_eq_true h2
      have HF := Lib.hid (show cacB ⟨room, ver, A, n, c, hits, misses⟩ es = false by unfold cacB headB; simp [h2])
      go_wp2_with (first | ((with_reducible show wpList _ _ _ (Oper.mk _ (Op.load _ _) _ _ _ _ :: _) _ _); refine wpList_load_g hl1 _ rfl rfl (by go_simp) ?_) | ((with_reducible show wpList _ _ _ (Oper.mk _ (Op.load _ _) _ _ _ _ :: _) _ _); refine wpList_load_g hl2 _ rfl rfl (by go_simp) ?_) | ((with_reducible show wpList _ _ _ (Oper.mk _ (Op.load _ _) _ _ _ _ :: _) _ _); refine wpList_load_g hl3 _ rfl rfl (by go_simp) ?_) | ((with_reducible show wpList _ _ _ (Oper.mk _ (Op.load _ _) _ _ _ _ :: _) _ _); refine wpList_load_g hl4 _ rfl rfl (by go_simp) ?_) | ((with_reducible show wpList _ _ _ (Oper.mk _ (Op.load _ _) _ _ _ _ :: _) _ _); refine wpList_load_g hl5 _ rfl rfl (by go_simp) ?_))
      go_ret
      rw [HF.out]
      exact ⟨rfl, HBE.out⟩
    · have h2b : decide ((16 : Int) < room) = false := decide_eq_false h2
      by_cases h3 : (4611686018427387904 : Int) < ver
      · have h3b : decide ((4611686018427387904 : Int) < ver) = true := decide_eq_true h3
        have HF := Lib.hid (show cacB ⟨room, ver, A, n, c, hits, misses⟩ es = false by unfold cacB headB; simp [h3])
        go_wp2_with (first | ((with_reducible show wpList _ _ _ (Oper.mk _ (Op.load _ _) _ _ _ _ :: _) _ _); refine wpList_load_g hl1 _ rfl rfl (by go_simp) ?_) | ((with_reducible show wpList _ _ _ (Oper.mk _ (Op.load _ _) _ _ _ _ :: _) _ _); refine wpList_load_g hl2 _ rfl rfl (by go_simp) ?_) | ((with_reducible show wpList _ _ _ (Oper.mk _ (Op.load _ _) _ _ _ _ :: _) _ _); refine wpList_load_g hl3 _ rfl rfl (by go_simp) ?_) | ((with_reducible show wpList _ _ _ (Oper.mk _ (Op.load _ _) _ _ _ _ :: _) _ _); refine wpList_load_g hl4 _ rfl rfl (by go_simp) ?_) | ((with_reducible show wpList _ _ _ (Oper.mk _ (Op.load _ _) _ _ _ _ :: _) _ _); refine wpList_load_g hl5 _ rfl rfl (by go_simp) ?_))
        go_ret
        rw [HF.out]
        exact ⟨rfl, HBE.out⟩
      · have h3b : decide ((4611686018427387904 : Int) < ver) = false := decide_eq_false h3
        by_cases h4 : room < (n : Int)
        · have h4b : decide (room < (n : Int)) = true := decide_eq_true h4
          have HF := Lib.hid (show cacB ⟨room, ver, A, n, c, hits, misses⟩ es = false by unfold cacB headB; simp [h4])
          go_wp2_with (first | ((with_reducible show wpList _ _ _ (Oper.mk _ (Op.load _ _) _ _ _ _ :: _) _ _); refine wpList_load_g hl1 _ rfl rfl (by go_simp) ?_) | ((with_reducible show wpList _ _ _ (Oper.mk _ (Op.load _ _) _ _ _ _ :: _) _ _); refine wpList_load_g hl2 _ rfl rfl (by go_simp) ?_) | ((with_reducible show wpList _ _ _ (Oper.mk _ (Op.load _ _) _ _ _ _ :: _) _ _); refine wpList_load_g hl3 _ rfl rfl (by go_simp) ?_) | ((with_reducible show wpList _ _ _ (Oper.mk _ (Op.load _ _) _ _ _ _ :: _) _ _); refine wpList_load_g hl4 _ rfl rfl (by go_simp) ?_) | ((with_reducible show wpList _ _ _ (Oper.mk _ (Op.load _ _) _ _ _ _ :: _) _ _); refine wpList_load_g hl5 _ rfl rfl (by go_simp) ?_))
          go_ret
          rw [HF.out]
          exact ⟨rfl, HBE.out⟩
        · have h4b : decide (room < (n : Int)) = false := decide_eq_false h4
          by_cases h5 : (4611686018427387904 : Int) < hits
          · have h5b : decide ((4611686018427387904 : Int) < hits) = true := decide_eq_true h5
            have HF := Lib.hid (show cacB ⟨room, ver, A, n, c, hits, misses⟩ es = false by unfold cacB headB; simp [h5])
            go_wp2_with (first | ((with_reducible show wpList _ _ _ (Oper.mk _ (Op.load _ _) _ _ _ _ :: _) _ _); refine wpList_load_g hl1 _ rfl rfl (by go_simp) ?_) | ((with_reducible show wpList _ _ _ (Oper.mk _ (Op.load _ _) _ _ _ _ :: _) _ _); refine wpList_load_g hl2 _ rfl rfl (by go_simp) ?_) | ((with_reducible show wpList _ _ _ (Oper.mk _ (Op.load _ _) _ _ _ _ :: _) _ _); refine wpList_load_g hl3 _ rfl rfl (by go_simp) ?_) | ((with_reducible show wpList _ _ _ (Oper.mk _ (Op.load _ _) _ _ _ _ :: _) _ _); refine wpList_load_g hl4 _ rfl rfl (by go_simp) ?_) | ((with_reducible show wpList _ _ _ (Oper.mk _ (Op.load _ _) _ _ _ _ :: _) _ _); refine wpList_load_g hl5 _ rfl rfl (by go_simp) ?_))
            go_ret
            rw [HF.out]
            exact ⟨rfl, HBE.out⟩
          · have h5b : decide ((4611686018427387904 : Int) < hits) = false := decide_eq_false h5
            by_cases h6 : (4611686018427387904 : Int) < misses
            · have h6b : decide ((4611686018427387904 : Int) < misses) = true := decide_eq_true h6
              have HF := Lib.hid (show cacB ⟨room, ver, A, n, c, hits, misses⟩ es = false by unfold cacB headB; simp [h6])
              go_wp2_with (first | ((with_reducible show wpList _ _ _ (Oper.mk _ (Op.load _ _) _ _ _ _ :: _) _ _); refine wpList_load_g hl1 _ rfl rfl (by go_simp) ?_) | ((with_reducible show wpList _ _ _ (Oper.mk _ (Op.load _ _) _ _ _ _ :: _) _ _); refine wpList_load_g hl2 _ rfl rfl (by go_simp) ?_) | ((with_reducible show wpList _ _ _ (Oper.mk _ (Op.load _ _) _ _ _ _ :: _) _ _); refine wpList_load_g hl3 _ rfl rfl (by go_simp) ?_) | ((with_reducible show wpList _ _ _ (Oper.mk _ (Op.load _ _) _ _ _ _ :: _) _ _); refine wpList_load_g hl4 _ rfl rfl (by go_simp) ?_) | ((with_reducible show wpList _ _ _ (Oper.mk _ (Op.load _ _) _ _ _ _ :: _) _ _); refine wpList_load_g hl5 _ rfl rfl (by go_simp) ?_))
              go_ret
              rw [HF.out]
              exact ⟨rfl, HBE.out⟩
            · have h6b : decide ((4611686018427387904 : Int) < misses) = false := decide_eq_false h6
              have HH : Hid (headB ⟨room, ver, A, n, c, hits, misses⟩ = true) := Lib.hid (by unfold headB; simp only [h1b, h2b, h3b, h4b, h5b, h6b]; rfl)
              go_wp2_with (first | ((with_reducible show wpList _ _ _ (Oper.mk _ (Op.load _ _) _ _ _ _ :: _) _ _); refine wpList_load_g hl1 _ rfl rfl (by go_simp) ?_) | ((with_reducible show wpList _ _ _ (Oper.mk _ (Op.load _ _) _ _ _ _ :: _) _ _); refine wpList_load_g hl2 _ rfl rfl (by go_simp) ?_) | ((with_reducible show wpList _ _ _ (Oper.mk _ (Op.load _ _) _ _ _ _ :: _) _ _); refine wpList_load_g hl3 _ rfl rfl (by go_simp) ?_) | ((with_reducible show wpList _ _ _ (Oper.mk _ (Op.load _ _) _ _ _ _ :: _) _ _); refine wpList_load_g hl4 _ rfl rfl (by go_simp) ?_) | ((with_reducible show wpList _ _ _ (Oper.mk _ (Op.load _ _) _ _ _ _ :: _) _ _); refine wpList_load_g hl5 _ rfl rfl (by go_simp) ?_))
              clear hl1 hl2 hl3 hl4 hl5 h1b h2b h3b h4b h5b h6b h1 h2 h3 h4 h5 h6
              go_loopw [3] (fun y wr => ∃ i : Nat, y = .int .i64 i ∧ Hid (i ≤ n ∧ (∀ j, j < i → entB (entAt es j) = true ∧ ∀ k, k < j → sameA (entAt es k) (entAt es j) = false) ∧ Below (w.alloc (.cells cs1 25)).heap.size (w.alloc (.cells cs1 25)) wr)) (fun y _ => n - (intOf y).toNat)
              case atStart => exact ⟨0, rfl, Nat.zero_le _, fun j h => by omega, Below.refl _ _⟩
              case round =>
                obtain ⟨i, rfl, HI⟩ := hrel
                have hlw := (HP1.out.all wr HI.out.2.2).ents
                by_cases hlt : i < n
                · have hlt' : (i : Int) < n := by omega
                  obtain ⟨b, o, rfl, hc⟩ := RS.at_ HE.out (by omega)
                  have HC := Lib.hid hc
                  have HF := Lib.hid (RS.fits_at HE.out hlt)
                  have hent := (entLd_of HF.out ((hc i hlt).below HI.out.2.2)).ent
                  have HIL := Lib.hid (show i < es.length by rw [HE.out.len]; exact hlt)
                  clear hc
                  go_wp2_with (first | ((with_reducible show wpList _ _ _ (Oper.mk _ (Op.load _ _) _ _ _ _ :: _) _ _); refine wpList_load_g hlw _ rfl rfl (by go_simp) ?_) | ((with_reducible show wpList _ _ _ (Oper.mk _ (Op.load _ _) _ _ _ _ :: _) _ _); refine wpList_load_g hent _ rfl rfl (by go_simp) ?_))
                  refine (referight_any (entAt es i) wr (OE.out.at_ HIL.out)).mono ?_
                  rintro e w1 ⟨rfl, hb1⟩
                  have HB1 := Lib.hid (below_step HI.out.2.2 hb1)
                  clear hb1 hlw hent
                  cases hR : entB (entAt es i) with
                  | false =>
                    have HFF := Lib.hid (show cacB ⟨room, ver, some ⟨b, o, none⟩, n, c, hits, misses⟩ es = false by unfold cacB; rw [entsB_bad HIL.out hR, Bool.and_false])
                    clear hR
                    go_wp2
                    go_ret
                    rw [HFF.out]
                    exact ⟨rfl, below_step HBE.out HB1.out⟩
                  | true =>
                    have HR := Lib.hid hR
                    clear hR
                    go_wp2_with fail
                    go_loopw [4] (fun y wk => ∃ k : Nat, y = .int .i64 k ∧ Hid (k ≤ i ∧ (∀ q, q < k → sameA (entAt es q) (entAt es i) = false) ∧ Below (w.alloc (.cells cs1 25)).heap.size (w.alloc (.cells cs1 25)) wk)) (fun y _ => i - (intOf y).toNat)
                    case atStart => exact ⟨0, rfl, Nat.zero_le _, fun q h => by omega, HB1.out⟩
                    case round =>
                      obtain ⟨k, rfl, HK⟩ := hrel
                      by_cases hki : k < i
                      · have hki' : (k : Int) < i := by omega
                        have hkn' : (k : Int) < n := by omega
                        have HKC := Lib.hid (HC.out k (by omega))
                        have HIC := Lib.hid (HC.out i (by omega))
                        have HFK := Lib.hid (RS.fits_at HE.out (show k < n by omega))
                        have HKL := Lib.hid (show k < es.length by rw [HE.out.len]; omega)
                        go_wp2_with fail
                        refine wp_region_mix (fun w0 => Below (wr).heap.size (wr) w0) [(0, 0), (1, 0), (2, 0), (3, 0), (4, 0), (5, 0), (6, 0), (7, 0), (8, 0), (9, 0), (10, 0), (11, 0), (12, 0)] (by kernel_rfl) (by kernel_rfl) (below_drew1 _) ?_
                        simp only [List.map_cons, List.map_nil]
                        iterate 1 (refine wpO_step0 rfl rfl (fun K hK => ?_); go_simp; refine hK _ _ ?_; clear hK K)
                        refine wpO_loadW (t := 23) (ad := ⟨w.heap.size, 2, none⟩) rfl rfl ?hw rfl rfl ((fun w0 hS => (HP1.out.all w0 (below_step HK.out.2.2 hS)).ents)) ?_
                        case hw => go_simp
                        iterate 3 (refine wpO_step0 rfl rfl (fun K hK => ?_); go_simp; refine hK _ _ ?_; clear hK K)
                        refine wpO_loadW (t := 31) (ad := ⟨b, (o+k*37), none⟩) rfl rfl ?hw rfl rfl ((fun w0 hS => (entLd_of HFK.out (HKC.out.below (below_step HK.out.2.2 hS))).adr)) ?_
                        case hw => go_simp
                        iterate 1 (refine wpO_step0 rfl rfl (fun K hK => ?_); go_simp; refine hK _ _ ?_; clear hK K)
                        refine wpO_loadW (t := 23) (ad := ⟨w.heap.size, 2, none⟩) rfl rfl ?hw rfl rfl ((fun w0 hS => (HP1.out.all w0 (below_step HK.out.2.2 hS)).ents)) ?_
                        case hw => go_simp
                        iterate 3 (refine wpO_step0 rfl rfl (fun K hK => ?_); go_simp; refine hK _ _ ?_; clear hK K)
                        refine wpO_loadW (t := 31) (ad := ⟨b, (o+i*37), none⟩) rfl rfl ?hw rfl rfl ((fun w0 hS => (entLd_of HF.out (HIC.out.below (below_step HK.out.2.2 hS))).adr)) ?_
                        case hw => go_simp
                        refine wpO_step0 rfl rfl (fun K hK => ?_)
                        rw [if_pos (show Region.wanted _ _ = true from rfl)]
                        refine ⟨_, fun w0 => sA_exec rfl (entAt es k).v (entAt es k).l (entAt es i).v (entAt es i).l rfl rfl HFK.out.l HF.out.l (OE.out.at_ HKL.out).v (OE.out.at_ HIL.out).v w0, hK _ _ ?_⟩
                        clear hK K
                        refine wpO_nil ?_
                        cases hs : sA (entAt es k).v (entAt es k).l (entAt es i).v (entAt es i).l with
                        | true =>
                          have HFF := Lib.hid (show cacB ⟨room, ver, some ⟨b, o, none⟩, n, c, hits, misses⟩ es = false by unfold cacB; rw [entsB_dup HIL.out (by omega) hs, Bool.and_false])
                          clear hs
                          go_wp2_with fail
                          go_ret
                          rw [HFF.out]
                          exact ⟨rfl, below_step HBE.out (below_step HK.out.2.2 (below_drew1 _))⟩
                        | false =>
                          have HS := Lib.hid (show sameA (entAt es k) (entAt es i) = false from hs)
                          clear hs
                          go_wp2_with fail
                          go_roundw
                          case measure => simp [intOf]; omega
                          case rel =>
                            refine ⟨k + 1, by go_num, by omega, fun q hq => ?_, below_step HK.out.2.2 (below_drew1 _)⟩
                            by_cases hqk : q < k
                            · exact HK.out.2.1 q hqk
                            · rw [show q = k by omega]; exact HS.out
                      · have hki' : decide ((k : Int) < i) = false := decide_eq_false (by omega)
                        go_wp2_with fail
                        go_roundw
                        case measure => simp [intOf]; omega
                        case rel =>
                          refine ⟨i + 1, by go_num, by omega, fun j hj => ?_, HK.out.2.2⟩
                          by_cases hji : j < i
                          · exact HI.out.2.1 j hji
                          · have hje : j = i := by omega
                            subst hje
                            exact ⟨HR.out, fun q hq => HK.out.2.1 q (by omega)⟩
                · have hlt' : decide (i < n) = false := decide_eq_false hlt
                  have HT := Lib.hid (show cacB ⟨room, ver, A, n, c, hits, misses⟩ es = true by unfold cacB; rw [HH.out, entsB_true (fun j hj => HI.out.2.1 j (by rw [HE.out.len] at hj; omega))]; rfl)
                  have HB := Lib.hid HI.out.2.2
                  clear hlt
                  go_wp2_with ((with_reducible show wpList _ _ _ (Oper.mk _ (Op.load _ _) _ _ _ _ :: _) _ _); refine wpList_load_g hlw _ rfl rfl (by go_simp) ?_)
                  go_ret
                  rw [HT.out]
                  exact ⟨rfl, below_step HBE.out HB.out⟩
end Go.Proofs.YtihfaknflfmohaaDoor

/- Layer 27 (cache): the map of the addresses met (keys of 17 cells). -/
namespace Go.Proofs.YtihfaknflfmohaaDoor
open Go.RowKit
set_option linter.unusedVariables false
set_option linter.unusedSimpArgs false
set_option maxRecDepth 4000
open Go.Maps
theorem mkeyl_u8 (n : Nat) (x : Int) (h0 : 0 ≤ x) (h1 : x < 256) : Tryd.prog.keyLits (n + 1) 5 [.int .u8 x] = some [Lit.int .u8 x] := by
  unfold Program.keyLits
  rw [Tryd.underlying5]
  simp [Lit.wf, IntKind.min, IntKind.max, IntKind.bits, IntKind.signed]
  omega
theorem mkeys_arr (n : Nat) (l : List Int) (hl : B16 l) : (List.range 16).mapM (fun i => Tryd.prog.keyLits (n + 1) 5 (((arrV l).toList.drop (i * Tryd.prog.cellsOf 5)).take (Tryd.prog.cellsOf 5))) = some ((List.range 16).map fun i => [Lit.int .u8 (rd l ((i : Nat) : Int))]) := by
  have hc : Tryd.prog.cellsOf 5 = 1 := by kernel_rfl
  rw [hc]
  refine mapM_all _ _ _ (fun i hi => ?_)
  have hi' : i < l.length := by rw [hl.len]; exact List.mem_range.1 hi
  have hr := hl.rd (i : Int)
  have e : ((arrV l).toList.drop (i * 1)).take 1 = [.int .u8 (rd l (i : Int))] := by
    apply List.ext_getElem?
    intro j
    cases j with
    | zero =>
      rw [List.getElem?_take]
      simp only [Nat.mul_one, List.getElem?_drop, arrV, Nat.add_zero, if_pos (show 0 < 1 by omega), List.getElem?_cons_zero]
      exact nums_get .u8 l i hi'
    | succ j => simp; omega
  rw [e, mkeyl_u8 n _ hr.1 hr.2]
theorem mkeyl_arr (n : Nat) (l : List Int) (hl : B16 l) : Tryd.prog.keyLits (n + 2) 29 (nums .u8 l) = some (lits .u8 l) := by
  have hk := mkeys_arr n l hl
  have he : (arrV l).toList = nums .u8 l := by simp [arrV]
  rw [he] at hk
  unfold Program.keyLits
  rw [Tryd.underlying29]
  simp only
  rw [if_pos (by rw [show (nums .u8 l).length = 16 by simp [nums, hl.len]]; kernel_rfl), hk]
  simp only [Option.map_some, flat1]
  refine congrArg some ?_
  unfold lits
  apply List.ext_getElem
  · simp [hl.len]
  · intro i h1 h2
    simp only [List.length_map, List.length_range] at h1
    simp [rd, List.getD_eq_getElem?_getD, hl.len, h1]
theorem mkeyl_adr (n : Nat) (v : Int) (l : List Int) (hl : B16 l) (hv : (Lit.int .i64 v).wf = true) : Tryd.prog.keyLits (n + 3) 31 (adrV v l).toList = some (.int .i64 v :: lits .u8 l) := by
  unfold Program.keyLits
  rw [Tryd.underlying31]
  simp only
  have h1 : (adrV v l).toList = .int .i64 v :: nums .u8 l := by simp [adrV]
  rw [h1, if_pos ⟨by rw [show (Value.int IntKind.i64 v :: nums .u8 l).length = 17 by simp [nums, hl.len]]; kernel_rfl, by kernel_rfl⟩]
  have c1 : Tryd.prog.cellsOf 3 = 1 := by kernel_rfl
  have c2 : Tryd.prog.cellsOf 29 = 16 := by kernel_rfl
  simp only [List.mapM_cons, List.mapM_nil, c1, c2, List.drop_zero, List.take_succ_cons, List.take_zero, List.drop_succ_cons]
  rw [keyl_int (n + 1) v hv, List.take_of_length_le (by simp [nums, hl.len]), mkeyl_arr n l hl]
  simp
def adrL (v : Int) (l : List Int) : Lit := .string (keyBytes (.int .i64 v :: lits .u8 l))
theorem keyOf_adr (v : Int) (l : List Int) (hl : B16 l) (hv : (Lit.int .i64 v).wf = true) : keyOf Tryd.prog 31 (.agg (adrV v l)) = some (adrL v l) := by
  unfold keyOf
  have hf := adr_formed v l hl
  have hk : Tryd.prog.keyType 31 = true := by kernel_rfl
  have hn : Tryd.prog.types.size + 1 = (Tryd.prog.types.size - 2) + 3 := by
    have : 2 ≤ Tryd.prog.types.size := of_decide_eq_true (by kernel_rfl)
    omega
  rw [Tryd.underlying31]
  simp only [hf, hk, Bool.and_true, if_true]
  rw [hn]
  have := mkeyl_adr (Tryd.prog.types.size - 2) v l hl hv
  simp only [Value.cells]
  rw [this]
  rfl
theorem adr_law : Keyed Tryd.prog 31 := Keyed.of_law (deep_law (m := 3) (by omega) (by kernel_rfl) (by kernel_rfl) (by kernel_rfl))
theorem nums_inj {k : IntKind} : ∀ {l m : List Int}, nums k l = nums k m → l = m
  | [], [], _ => rfl
  | [], _ :: _, h => by simp [nums] at h
  | _ :: _, [], h => by simp [nums] at h
  | a :: l, b :: m, h => by
    simp only [nums, List.map_cons, List.cons.injEq] at h
    obtain ⟨h1, h2⟩ := h
    injection h1 with _ h3
    rw [h3, nums_inj (k := k) (l := l) (m := m) h2]
theorem adrV_inj {v v' : Int} {l l' : List Int} (h : adrV v l = adrV v' l') : v = v' ∧ l = l' := by
  have h1 := congrArg Array.toList h
  simp only [adrV] at h1
  have h2 : (Value.int .i64 v :: nums .u8 l) = Value.int .i64 v' :: nums .u8 l' := by simpa using h1
  rw [List.cons.injEq] at h2
  refine ⟨by have := h2.1; injection this, ?_⟩
  exact nums_inj h2.2
theorem adrL_ne {v v' : Int} {l l' : List Int} (hl : B16 l) (hl' : B16 l') (hv : (Lit.int .i64 v).wf = true) (hv' : (Lit.int .i64 v').wf = true) (h : ¬ (v = v' ∧ l = l')) : adrL v l ≠ adrL v' l' := by
  intro e
  have h1 := keyOf_adr v l hl hv
  rw [e] at h1
  have := adr_law.inj h1 (keyOf_adr v' l' hl' hv')
  injection this with h2
  exact h (adrV_inj h2)
def metB (es : List Ent) (j : Nat) (v : Int) (l : List Int) : Bool := (List.range j).any fun k => decide ((entAt es k).v = v) && decide ((entAt es k).l = l)
abbrev MapT : TypeId := 122
/-- Block b is a map of the first j entries' addresses to true. -/
def Met (w : World) (b : Nat) (es : List Ent) (j : Nat) : Prop := ∃ D : DataW Unit, w.ownsMap Tryd.prog 31 (plainElem Tryd.prog 4) b j D ∧
  ∀ v l, B16 l → (Lit.int .i64 v).wf = true → D.atKey (adrL v l) (.lit (.bool false)) = .lit (.bool (metB es j v l))
theorem und_map : Tryd.prog.underlying MapT = some (.map 31 4) := Tryd.underlying122
theorem zero_bool (w : World) : (zeroValue 4).run Tryd.prog w = .ok (.bool false) w := by kernel_rfl
theorem met_zero (w : World) (es : List Ent) : Met (w.alloc (.map #[] 0)) w.heap.size es 0 := ⟨_, World.ownsMap_made _ _ _ _, fun v l _ _ => by
  unfold metB
  rfl⟩
theorem Met.kept {w w' : World} {b j : Nat} {es : List Ent} {row : Option Nat} (h : Met w b es j) (hg : w.grownBy w' row) (hne : some b ≠ row) : Met w' b es j := by
  obtain ⟨D, h1, h2⟩ := h
  exact ⟨D, h1.kept hg hne, h2⟩
theorem met_look {w : World} {b j : Nat} {es : List Ent} (h : Met w b es j) (v : Int) (l : List Int) (hl : B16 l) (hv : (Lit.int .i64 v).wf = true) :
    (Instr.lookup MapT (.map (some b)) (.agg (adrV v l)) false).run Tryd.prog w = .ok (.bool (metB es j v l)) w := by
  obtain ⟨D, h1, h2⟩ := h
  obtain ⟨x, ps, hrun, hx⟩ := h1.lookup adr_law und_map (zero_bool w) (plainElem_bool Tryd.underlying4 false) (keyOf_adr v l hl hv)
  rw [h2 v l hl hv] at hx
  have : x = .bool (metB es j v l) := by
    unfold plainElem at hx
    rw [Tryd.underlying4] at hx
    cases x <;> simp at hx
    rw [hx.1]
  rw [hrun, this]
theorem metB_succ (es : List Ent) (j : Nat) (v : Int) (l : List Int) : metB es (j + 1) v l = (metB es j v l || (decide ((entAt es j).v = v) && decide ((entAt es j).l = l))) := by
  unfold metB
  rw [List.range_succ, List.any_append]
  simp
theorem met_upd {w : World} {b j : Nat} {es : List Ent} (h : Met w b es j) (hj : j < maxLen) (he : (entAt es j).ok) :
    ∃ w', (Instr.mapUpdate MapT (.map (some b)) (.agg (adrV (entAt es j).v (entAt es j).l)) (.bool true)).run Tryd.prog w = .ok () w' ∧ Met w' b es (j + 1) ∧ w.grownBy w' (some b) := by
  obtain ⟨D, h1, h2⟩ := h
  obtain ⟨w', r1, r2, r3⟩ := h1.update adr_law und_map hj (keyOf_adr _ _ he.l he.v) (plainElem_bool (H := Unit) Tryd.underlying4 true)
  refine ⟨w', r1, ⟨_, r2, fun v l hl hv => ?_⟩, r3⟩
  rw [metB_succ]
  by_cases hh : v = (entAt es j).v ∧ l = (entAt es j).l
  · obtain ⟨rfl, rfl⟩ := hh
    have hm : IsMap D := by
      obtain ⟨_, _, _, _, _, hD⟩ := h1
      exact ⟨_, hD⟩
    rw [atKey_put_same hm (adr_law.key (keyOf_adr _ _ hl hv))]
    simp
  · rw [atKey_put_other (adrL_ne hl he.l hv he.v hh), h2 v l hl hv]
    have : (decide ((entAt es j).v = v) && decide ((entAt es j).l = l)) = false := by
      rw [Bool.and_eq_false_iff]
      simp only [decide_eq_false_iff_not]
      by_cases h3 : (entAt es j).v = v
      · right
        intro h4
        exact hh ⟨h3.symm, h4.symm⟩
      · exact Or.inl h3
    rw [this, Bool.or_false]
end Go.Proofs.YtihfaknflfmohaaDoor

/- Layer 27 (cache): entries held equal; the library's functions over slices of them; stores of them. -/
namespace Go.Proofs.YtihfaknflfmohaaDoor
open Go.RowKit
set_option linter.unusedVariables false
set_option linter.unusedSimpArgs false
set_option maxRecDepth 4000
def Ent.eqB (e g : Ent) : Bool := sA e.v e.l g.v g.l && e.r.eqB g.r && (e.f == g.f)
theorem Ent.eqB_iff (e g : Ent) : e.eqB g = true ↔ e = g := by
  obtain ⟨a, b, c, d⟩ := e
  obtain ⟨a', b', c', d'⟩ := g
  simp only [Ent.eqB, Bool.and_eq_true, sA_true, Row.eqB_iff, Ent.mk.injEq, beq_iff_eq]
  constructor
  · rintro ⟨⟨⟨h1, h2⟩, h3⟩, h4⟩
    exact ⟨h1, h2, h3, h4⟩
  · rintro ⟨h1, h2, h3, h4⟩
    exact ⟨⟨⟨h1, h2⟩, h3⟩, h4⟩
theorem keyl_bool (d : Nat) (f : Bool) : Tryd.prog.keyLits (d + 1) 4 [.bool f] = some [.bool f] := by
  unfold Program.keyLits
  rw [Tryd.underlying4]
theorem keyl_ent (e : Ent) (h : e.ok) : Tryd.prog.keyLits 6 43 (entV e).toList = some ((.int .i64 e.v :: lits .u8 e.l) ++ (((.int .i64 e.r.p.v :: lits .u8 e.r.p.l ++ [.int .i64 e.r.p.b]) ++ [.int .i64 e.r.h]) ++ [.bool e.f])) := by
  unfold Program.keyLits
  rw [Tryd.underlying43]
  simp only
  rw [if_pos ⟨by rw [show (entV e).toList.length = 37 by rw [Array.length_toList, entV_size h.fits]]; kernel_rfl, by kernel_rfl⟩]
  have c1 : Tryd.prog.cellsOf 31 = 17 := by kernel_rfl
  have c2 : Tryd.prog.cellsOf 38 = 19 := by kernel_rfl
  have c3 : Tryd.prog.cellsOf 4 = 1 := by kernel_rfl
  have e0 : (entV e).toList = (adrV e.v e.l).toList ++ ((rowV e.r).toList ++ [.bool e.f]) := by rw [adrV_list, rowV_list]; simp [entV, entC]
  have hl17 : (adrV e.v e.l).toList.length = 17 := by rw [Array.length_toList, adr_size h.l.len]
  have hl19 : (rowV e.r).toList.length = 19 := by rw [Array.length_toList, rowV_size h.fits.r]
  have e1 : (entV e).toList.take 17 = (adrV e.v e.l).toList := by rw [e0, List.take_left' hl17]
  have e2 : ((entV e).toList.drop 17).take 19 = (rowV e.r).toList := by rw [e0, List.drop_left' hl17, List.take_left' hl19]
  have e3 : (entV e).toList.drop 36 = [.bool e.f] := by
    rw [e0, ← List.append_assoc, List.drop_left']
    rw [List.length_append, hl17, hl19]
  simp only [List.mapM_cons, List.mapM_nil, c1, c2, c3, List.drop_zero]
  rw [e1, e2, e3, mkeyl_adr 2 _ _ h.l h.v, keyl_row _ h.r]
  simp only [List.take_succ_cons, List.take_zero]
  rw [keyl_bool 4 e.f]
  simp
theorem ent_formed (e : Ent) (h : e.fits) : (Value.agg (entV e)).formed Tryd.prog 43 = true := by
  simp only [Value.formed, Tryd.underlying43, entV_size h]
  kernel_rfl
theorem ent_equal (r s : Ent) (hr : r.ok) (hs : s.ok) (w : World) : (Op.equal 43 (.agg (entV r)) (.agg (entV s))).run Tryd.prog w = .ok (r.eqB s) w := by
  obtain ⟨b, hb, hiff⟩ := run_equalIn_deep (P := Tryd.prog) 9994 6 43 (by kernel_rfl) w 6 6 (.agg (entV r)) (.agg (entV s)) _ _ (ent_formed _ hr.fits) (ent_formed _ hs.fits) (keyl_ent r hr) (keyl_ent s hs)
  have h2 : (Op.equal 43 (.agg (entV r)) (.agg (entV s))).run Tryd.prog w = .ok b w := hb
  suffices hs2 : b = r.eqB s by rw [h2, hs2]
  rw [Bool.eq_iff_iff, hiff, Ent.eqB_iff]
  constructor
  · intro h
    obtain ⟨h1, h2⟩ := List.append_inj h (by simp [lits, hr.l.len, hs.l.len])
    simp only [List.cons.injEq, Lit.int.injEq, true_and] at h1
    obtain ⟨h1, h1'⟩ := h1
    obtain ⟨h2, h2'⟩ := List.append_inj h2 (by simp [lits, hr.r.p.l.len, hs.r.p.l.len])
    obtain ⟨h3, h4⟩ := List.append_inj h2 (by simp [lits, hr.r.p.l.len, hs.r.p.l.len])
    simp only [List.cons_append, List.cons.injEq, Lit.int.injEq, Lit.bool.injEq, true_and, and_true] at h2' h3 h4
    obtain ⟨h5, h6⟩ := h3
    obtain ⟨h7, h8⟩ := List.append_inj h6 (by simp [lits, hr.r.p.l.len, hs.r.p.l.len])
    simp only [List.cons.injEq, Lit.int.injEq, true_and, and_true] at h8
    obtain ⟨x, y, ⟨⟨a, b, c⟩, d⟩, f⟩ := r
    obtain ⟨x', y', ⟨⟨a', b', c'⟩, d'⟩, f'⟩ := s
    simp only at h1 h1' h2' h4 h5 h7 h8
    rw [h1, lits_inj h1', h2', h4, h5, lits_inj h7, h8]
  · rintro rfl
    rfl
section
variable {r : Operand → Value} {o : Oper} {x y : Operand} {ty : TypeId}
theorem ent_eql_exec (ho : o.op = .binOp .eql 43 x y ty) (p q : Ent) (hx : r x = .agg (entV p)) (hy : r y = .agg (entV q)) (hp : p.ok) (hq : q.ok) (w : World) : (execOp r o).run Tryd.prog w = .ok (.value (.bool (p.eqB q))) w :=
  exec_eql 43 (by kernel_rfl) ho _ _ hx hy w (ent_equal p q hp hq w)
theorem ent_neq_exec (ho : o.op = .binOp .neq 43 x y ty) (p q : Ent) (hx : r x = .agg (entV p)) (hy : r y = .agg (entV q)) (hp : p.ok) (hq : q.ok) (w : World) : (execOp r o).run Tryd.prog w = .ok (.value (.bool (!p.eqB q))) w :=
  exec_neq 43 (by kernel_rfl) ho _ _ hx hy w (ent_equal p q hp hq w)
end
def entE : ShapeEq entK where
  okE := Ent.ok
  eqB := Ent.eqB
  iff := Ent.eqB_iff
  eql := fun ho a b hx hy ha hb w => ent_eql_exec ho a b hx hy ha hb w
  neq := fun ho a b hx hy ha hb w => ent_neq_exec ho a b hx hy ha hb w
theorem cloneE_any (A : Option Addr) (n c : Nat) (t : List Ent) (w : World) (hr : RS entK w A n c t) (hn : n ≤ 1000000) :
    Calls Tryd.prog 109 #[.slice A n c] w fun e w' => ∃ A' c', e = .returned (.slice A' n c') ∧ OS entK w' w.heap.size A' n c' t ∧ Below w.heap.size w w' := by
  have hnil := fun (w : World) (A : Option Addr) (n c : Nat) => Lib.run_eql_slice_nil (P := Tryd.prog) w 23 43 A n c 0 0 Tryd.underlying23
  cases A with
  | none =>
    have h0 : n = 0 := by
      rcases Nat.eq_zero_or_pos n with h | h
      · exact h
      · obtain ⟨ad, e, _⟩ := hr.rv.cells h
        cases e
    subst h0
    obtain rfl : t = [] := List.eq_nil_of_length_eq_zero hr.len
    go_enter Tryd.func109, Tryd.ntmps109
    go_wp2
    go_ret
    exact ⟨_, _, rfl, OS.nil _ _ _, Below.refl _ _⟩
  | some ad =>
    go_enter Tryd.func109, Tryd.ntmps109
    go_wp2_with (at_builtin; refine wpList_append_shp entK rfl (.tmp 5) (.tmp 6) rfl rfl rfl (OS.empty entK w w.heap.size (Nat.le_refl _)) (hr.below (below_alloc (Below.refl _ _) _)) (by simp) (by omega) ?_; intro A' c' w' h1 h2 h3; rw [Nat.zero_add, List.nil_append] at h1; rw [Nat.zero_add])
    go_ret
    exact ⟨_, _, rfl, h1, below_own (below_alloc (Below.refl _ _) _) h2 (fun ad h => by injection h with h; subst h; exact Nat.le_refl _)⟩
set_option maxHeartbeats 1000000 in
theorem equalE_any (A : Option Addr) (n c : Nat) (t : List Ent) (A2 : Option Addr) (m c2 : Nat) (u : List Ent) (w : World) (h1 : RS entK w A n c t) (h2 : RS entK w A2 m c2 u) (o1 : entE.all t) (o2 : entE.all u) (hn : n ≤ 1000000) (hm : m ≤ 1000000) :
    Calls Tryd.prog 76 #[.slice A n c, .slice A2 m c2] w fun e w' => e = .returned (.bool (entE.eqL t u)) ∧ Below w.heap.size w w' := by
  have H1 := Lib.hid h1
  have H2 := Lib.hid h2
  have O1 := Lib.hid o1
  have O2 := Lib.hid o2
  clear h1 h2 o1 o2
  by_cases hnm : n = m
  · subst hnm
    have hlen : t.length = u.length := by rw [H1.out.len, H2.out.len]
    have HLEN := Lib.hid hlen
    clear hlen
    go_enter Tryd.func76, Tryd.ntmps76
    go_wp2_with fail
    go_loopw [13] (fun x wr => ∃ i : Nat, x = .int .i64 i ∧ Hid (i ≤ n ∧ (∀ k, k < i → entE.eqB (Shape.at_ entK t k) (Shape.at_ entK u k) = true) ∧ Below w.heap.size w wr)) (fun x _ => n - (intOf x).toNat)
    case atStart => exact ⟨0, rfl, Nat.zero_le _, fun k h => by omega, Below.refl _ _⟩
    case round =>
      obtain ⟨i, rfl, HH⟩ := hrel
      by_cases hlt : i < n
      · have hlt' : (i : Int) < n := by omega
        obtain ⟨b, o, rfl, hc⟩ := H1.out.at_ (by omega)
        obtain ⟨b2, o2, rfl, hc2⟩ := H2.out.at_ (by omega)
        have HC1 := Lib.hid (hc i hlt)
        have HC2 := Lib.hid (hc2 i hlt)
        clear hc hc2
        go_wp2_with fail
        refine wp_region_mix (fun w0 => Below (wr).heap.size (wr) w0) [(0, 0), (1, 0), (2, 0), (3, 0), (4, 0), (5, 0), (6, 0), (7, 0), (8, 0)] (by kernel_rfl) (by kernel_rfl) (below_drew1 _) ?_
        simp only [List.map_cons, List.map_nil]
        iterate 3 (refine wpO_step0 rfl rfl (fun K hK => ?_); go_simp; refine hK _ _ ?_; clear hK K)
        refine wpO_loadW (t := 43) (ad := ⟨b, (o+i*37), none⟩) rfl rfl ?hw rfl rfl ((fun w0 hS => Shape.ld entK w0 b _ _ (H1.out.fits_at hlt) (HC1.out.below (below_step HH.out.2.2 hS)))) ?_
        case hw => go_simp
        iterate 3 (refine wpO_step0 rfl rfl (fun K hK => ?_); go_simp; refine hK _ _ ?_; clear hK K)
        refine wpO_loadW (t := 43) (ad := ⟨b2, (o2+i*37), none⟩) rfl rfl ?hw rfl rfl ((fun w0 hS => Shape.ld entK w0 b2 _ _ (H2.out.fits_at hlt) (HC2.out.below (below_step HH.out.2.2 hS)))) ?_
        case hw => go_simp
        refine wpO_step0 rfl rfl (fun K hK => ?_)
        rw [if_pos (show Region.wanted _ _ = true from rfl)]
        refine ⟨_, fun w0 => ShapeEq.neq entE rfl (Shape.at_ entK t i) (Shape.at_ entK u i) rfl rfl (ShapeEq.all_at O1.out (by rw [H1.out.len]; exact hlt)) (ShapeEq.all_at O2.out (by rw [H2.out.len]; exact hlt)) w0, hK _ _ ?_⟩
        clear hK K
        refine wpO_nil ?_
        cases hq : entE.eqB (Shape.at_ entK t i) (Shape.at_ entK u i) with
        | true =>
          have HQ := Lib.hid hq
          clear hq
          go_wp2_with fail
          go_roundw
          case measure => simp [intOf]; omega
          case rel =>
            refine ⟨i + 1, by go_num, by omega, fun k hk => ?_, below_step HH.out.2.2 (below_drew1 _)⟩
            by_cases hki : k < i
            · exact HH.out.2.1 k hki
            · rw [show k = i by omega]; exact HQ.out
        | false =>
          have HE : Hid (entE.eqL t u = false) := Lib.hid (ShapeEq.eqL_no (by rw [H1.out.len]; exact hlt) (by rw [H2.out.len]; exact hlt) hq)
          clear hq
          go_wp2
          go_ret
          rw [HE.out]
          exact ⟨rfl, below_step HH.out.2.2 (below_drew1 _)⟩
      · have hlt' : decide (i < n) = false := decide_eq_false hlt
        have HE : Hid (entE.eqL t u = true) := Lib.hid (ShapeEq.eqL_yes HLEN.out (fun k hk => HH.out.2.1 k (by rw [H1.out.len] at hk; have := HH.out.1; omega)))
        clear hlt
        go_wp2
        go_ret
        rw [HE.out]
        exact ⟨rfl, HH.out.2.2⟩
  · have HE : Hid (entE.eqL t u = false) := Lib.hid (ShapeEq.eqL_len (by rw [H1.out.len, H2.out.len]; exact hnm))
    have hnm' : (n == m) = false := by simpa using hnm
    clear hnm
    go_enter Tryd.func76, Tryd.ntmps76
    go_wp2
    go_ret
    rw [HE.out]
    exact ⟨rfl, Below.refl _ _⟩
theorem entV_one (e : Ent) : (entV e).all (·.oneCell') = true := by
  rw [← Array.all_toList, List.all_eq_true]
  exact fun u hu => entC_one e u (by simpa [entV] using hu)
theorem store_ent_fit {cs : Array Value} {r : Ent} (hf : r.fits) (h : cs.size = 37) : 0 + (entV r).size ≤ cs.size := by rw [entV_size hf, h]; omega
theorem splice_ent {cs : Array Value} {r : Ent} (hf : r.fits) (h : cs.size = 37) : splice cs 0 (entV r).toList = entV r := splice_all _ _ (by rw [Array.length_toList, entV_size hf, h])
end Go.Proofs.YtihfaknflfmohaaDoor

/- Layer 27 (cache): Check. -/
namespace Go.Proofs.YtihfaknflfmohaaDoor
open Go.RowKit
set_option linter.unusedVariables false
set_option linter.unusedSimpArgs false
set_option maxRecDepth 4000
def cacE (x : Cac) (es : List Ent) : Int := if cacB x es then 0 else 370
theorem cacE_true {x : Cac} {es : List Ent} (h : cacB x es = true) : cacE x es = 0 := by unfold cacE; rw [h]; rfl
theorem cacE_false {x : Cac} {es : List Ent} (h : cacB x es = false) : cacE x es = 370 := by unfold cacE; rw [h]; rfl
theorem metB_true {es : List Ent} {j : Nat} {e : Ent} (h : metB es j e.v e.l = true) : ∃ k, k < j ∧ sameA (entAt es k) e = true := by
  unfold metB at h
  rw [List.any_eq_true] at h
  obtain ⟨k, hk, h2⟩ := h
  exact ⟨k, List.mem_range.1 hk, h2⟩
theorem metB_false {es : List Ent} {j : Nat} {e : Ent} (h : metB es j e.v e.l = false) : ∀ k, k < j → sameA (entAt es k) e = false := by
  intro k hk
  unfold metB at h
  rw [List.any_eq_false] at h
  have := h k (List.mem_range.2 hk)
  cases hs : sameA (entAt es k) e with
  | false => rfl
  | true => exact absurd hs this
theorem Met.below {w w1 : World} {b j : Nat} {es : List Ent} (h : Met w b es j) (hb : Below w.heap.size w w1) : Met w1 b es j := by
  obtain ⟨D, h1, h2⟩ := h
  exact ⟨D, h1.kept (grown_of_below hb none) (by simp), h2⟩
theorem exec_lookup {r : Operand → Value} {o : Oper} {x k : Operand} {w : World} {b : Nat} {kv v : Value} (ho : o.op = .lookup MapT x k false) (hx : r x = .map (some b)) (hk : r k = kv) (h : (Instr.lookup MapT (.map (some b)) kv false).run Tryd.prog w = .ok v w) : (execOp r o).run Tryd.prog w = .ok (.value v) w := by
  unfold execOp
  simp only [ho, hx, hk, Sem.run_bind, h, Result.andThen_ok, Sem.run_pure]
theorem wpList_met {ops : Array Oper} {rest : List Oper} {op : Oper} {a : Act} {Q : Exit → Act → World → Prop} {w : World} {b j : Nat} {es : List Ent} (hm : Met w b es j) (hj : j < maxLen) (he : (entAt es j).ok) (x k v : Operand)
    (ho : op.op = .mapUpdate MapT x k v) (hx : a.eval x = .map (some b)) (hk : a.eval k = .agg (adrV (entAt es j).v (entAt es j).l)) (hv : a.eval v = .bool true) (hw : Region.wanted op (yielded ops a.tmps) = true)
    (h : ∀ w', w.grownBy w' (some b) → Met w' b es (j + 1) → wpList Tryd.prog ops Q rest (a.put op.dst undef) w') : wpList Tryd.prog ops Q (op :: rest) a w := by
  obtain ⟨w', hr, h2, h3⟩ := met_upd hm hj he
  refine wpList_step (fun K hK => ?_)
  rw [if_pos hw]
  unfold Oper.wp execOp
  simp only [ho, hx, hk, hv, Sem.run_bind, hr, Result.andThen_ok, Sem.run_pure]
  exact hK _ _ (h w' h3 h2)
set_option maxRecDepth 100000 in
set_option maxHeartbeats 4000000 in
theorem ccheck_any (x : Cac) (es : List Ent) (w : World) (hL : Laid w) (he : RE w x.A x.n x.c es) (oe : Oke es) (hn : x.n ≤ 100000) : Calls Tryd.prog 32 #[.agg x.vv] w fun r w' => r = .returned (.int .i64 (cacE x es)) ∧ Below w.heap.size w w' := by
  have hblk1 := blk_new w (.cells (x.vv) 25)
  have hbel1 : Below w.heap.size w (w.alloc (.cells (x.vv) 25)) := below_alloc (Below.refl _ _) _
  have HP1 := Lib.hid (cac_at hblk1)
  have HBK1 := Lib.hid hblk1
  have HBE := Lib.hid hbel1
  have HL := Lib.hid (hL.below HBE.out)
  obtain ⟨cs1, hcs1⟩ : ∃ cs, x.vv = cs := ⟨_, rfl⟩
  simp only [hcs1] at HBE HL HP1 HBK1 ⊢
  have HC1 := Lib.hid hcs1
  clear hL hcs1 hblk1 hbel1
  have HE := Lib.hid (he.below HBE.out)
  have OE := Lib.hid oe
  have hl := HP1.out.all _ (Below.refl _ _)
  have hl1 := hl.room
  have hl2 := hl.ver
  have hl3 := hl.ents
  have hl4 := hl.hits
  have hl5 := hl.misses
  have hmm := @run_makeMap Tryd.prog
  clear he oe hl
  obtain ⟨room, ver, A, n, c, hits, misses⟩ := x
  simp only at *
  go_enter Tryd.func32, Tryd.ntmps32
  by_cases h1 : (room : Int) < 1
  · have h1b : decide ((room : Int) < 1) = true := decide_eq_true h1
    have HF := Lib.hid (cacE_false (show cacB ⟨room, ver, A, n, c, hits, misses⟩ es = false by unfold cacB headB; simp [h1]))
    go_wp2_with (first | ((with_reducible show wpList _ _ _ (Oper.mk _ (Op.load _ _) _ _ _ _ :: _) _ _); refine wpList_load_g hl1 _ rfl rfl (by go_simp) ?_) | ((with_reducible show wpList _ _ _ (Oper.mk _ (Op.load _ _) _ _ _ _ :: _) _ _); refine wpList_load_g hl2 _ rfl rfl (by go_simp) ?_) | ((with_reducible show wpList _ _ _ (Oper.mk _ (Op.load _ _) _ _ _ _ :: _) _ _); refine wpList_load_g hl3 _ rfl rfl (by go_simp) ?_) | ((with_reducible show wpList _ _ _ (Oper.mk _ (Op.load _ _) _ _ _ _ :: _) _ _); refine wpList_load_g hl4 _ rfl rfl (by go_simp) ?_) | ((with_reducible show wpList _ _ _ (Oper.mk _ (Op.load _ _) _ _ _ _ :: _) _ _); refine wpList_load_g hl5 _ rfl rfl (by go_simp) ?_))
    go_ret
    rw [HF.out]
    exact ⟨rfl, HBE.out⟩
  · have h1b : decide ((room : Int) < 1) = false := decide_eq_false h1
    by_cases h2 : (16 : Int) < room
    · have h2b : decide ((16 : Int) < room) = true := decide_eq_true h2
      have HF := Lib.hid (cacE_false (show cacB ⟨room, ver, A, n, c, hits, misses⟩ es = false by unfold cacB headB; simp [h2]))
      go_wp2_with (first | ((with_reducible show wpList _ _ _ (Oper.mk _ (Op.load _ _) _ _ _ _ :: _) _ _); refine wpList_load_g hl1 _ rfl rfl (by go_simp) ?_) | ((with_reducible show wpList _ _ _ (Oper.mk _ (Op.load _ _) _ _ _ _ :: _) _ _); refine wpList_load_g hl2 _ rfl rfl (by go_simp) ?_) | ((with_reducible show wpList _ _ _ (Oper.mk _ (Op.load _ _) _ _ _ _ :: _) _ _); refine wpList_load_g hl3 _ rfl rfl (by go_simp) ?_) | ((with_reducible show wpList _ _ _ (Oper.mk _ (Op.load _ _) _ _ _ _ :: _) _ _); refine wpList_load_g hl4 _ rfl rfl (by go_simp) ?_) | ((with_reducible show wpList _ _ _ (Oper.mk _ (Op.load _ _) _ _ _ _ :: _) _ _); refine wpList_load_g hl5 _ rfl rfl (by go_simp) ?_))
      go_ret
      rw [HF.out]
      exact ⟨rfl, HBE.out⟩
    · have h2b : decide ((16 : Int) < room) = false := decide_eq_false h2
      by_cases h3 : (4611686018427387904 : Int) < ver
      · have h3b : decide ((4611686018427387904 : Int) < ver) = true := decide_eq_true h3
        have HF := Lib.hid (cacE_false (show cacB ⟨room, ver, A, n, c, hits, misses⟩ es = false by unfold cacB headB; simp [h3]))
        go_wp2_with (first | ((with_reducible show wpList _ _ _ (Oper.mk _ (Op.load _ _) _ _ _ _ :: _) _ _); refine wpList_load_g hl1 _ rfl rfl (by go_simp) ?_) | ((with_reducible show wpList _ _ _ (Oper.mk _ (Op.load _ _) _ _ _ _ :: _) _ _); refine wpList_load_g hl2 _ rfl rfl (by go_simp) ?_) | ((with_reducible show wpList _ _ _ (Oper.mk _ (Op.load _ _) _ _ _ _ :: _) _ _); refine wpList_load_g hl3 _ rfl rfl (by go_simp) ?_) | ((with_reducible show wpList _ _ _ (Oper.mk _ (Op.load _ _) _ _ _ _ :: _) _ _); refine wpList_load_g hl4 _ rfl rfl (by go_simp) ?_) | ((with_reducible show wpList _ _ _ (Oper.mk _ (Op.load _ _) _ _ _ _ :: _) _ _); refine wpList_load_g hl5 _ rfl rfl (by go_simp) ?_))
        go_ret
        rw [HF.out]
        exact ⟨rfl, HBE.out⟩
      · have h3b : decide ((4611686018427387904 : Int) < ver) = false := decide_eq_false h3
        by_cases h4 : room < (n : Int)
        · have h4b : decide (room < (n : Int)) = true := decide_eq_true h4
          have HF := Lib.hid (cacE_false (show cacB ⟨room, ver, A, n, c, hits, misses⟩ es = false by unfold cacB headB; simp [h4]))
          go_wp2_with (first | ((with_reducible show wpList _ _ _ (Oper.mk _ (Op.load _ _) _ _ _ _ :: _) _ _); refine wpList_load_g hl1 _ rfl rfl (by go_simp) ?_) | ((with_reducible show wpList _ _ _ (Oper.mk _ (Op.load _ _) _ _ _ _ :: _) _ _); refine wpList_load_g hl2 _ rfl rfl (by go_simp) ?_) | ((with_reducible show wpList _ _ _ (Oper.mk _ (Op.load _ _) _ _ _ _ :: _) _ _); refine wpList_load_g hl3 _ rfl rfl (by go_simp) ?_) | ((with_reducible show wpList _ _ _ (Oper.mk _ (Op.load _ _) _ _ _ _ :: _) _ _); refine wpList_load_g hl4 _ rfl rfl (by go_simp) ?_) | ((with_reducible show wpList _ _ _ (Oper.mk _ (Op.load _ _) _ _ _ _ :: _) _ _); refine wpList_load_g hl5 _ rfl rfl (by go_simp) ?_))
          go_ret
          rw [HF.out]
          exact ⟨rfl, HBE.out⟩
        · have h4b : decide (room < (n : Int)) = false := decide_eq_false h4
          by_cases h5 : (4611686018427387904 : Int) < hits
          · have h5b : decide ((4611686018427387904 : Int) < hits) = true := decide_eq_true h5
            have HF := Lib.hid (cacE_false (show cacB ⟨room, ver, A, n, c, hits, misses⟩ es = false by unfold cacB headB; simp [h5]))
            go_wp2_with (first | ((with_reducible show wpList _ _ _ (Oper.mk _ (Op.load _ _) _ _ _ _ :: _) _ _); refine wpList_load_g hl1 _ rfl rfl (by go_simp) ?_) | ((with_reducible show wpList _ _ _ (Oper.mk _ (Op.load _ _) _ _ _ _ :: _) _ _); refine wpList_load_g hl2 _ rfl rfl (by go_simp) ?_) | ((with_reducible show wpList _ _ _ (Oper.mk _ (Op.load _ _) _ _ _ _ :: _) _ _); refine wpList_load_g hl3 _ rfl rfl (by go_simp) ?_) | ((with_reducible show wpList _ _ _ (Oper.mk _ (Op.load _ _) _ _ _ _ :: _) _ _); refine wpList_load_g hl4 _ rfl rfl (by go_simp) ?_) | ((with_reducible show wpList _ _ _ (Oper.mk _ (Op.load _ _) _ _ _ _ :: _) _ _); refine wpList_load_g hl5 _ rfl rfl (by go_simp) ?_))
            go_ret
            rw [HF.out]
            exact ⟨rfl, HBE.out⟩
          · have h5b : decide ((4611686018427387904 : Int) < hits) = false := decide_eq_false h5
            by_cases h6 : (4611686018427387904 : Int) < misses
            · have h6b : decide ((4611686018427387904 : Int) < misses) = true := decide_eq_true h6
              have HF := Lib.hid (cacE_false (show cacB ⟨room, ver, A, n, c, hits, misses⟩ es = false by unfold cacB headB; simp [h6]))
              go_wp2_with (first | ((with_reducible show wpList _ _ _ (Oper.mk _ (Op.load _ _) _ _ _ _ :: _) _ _); refine wpList_load_g hl1 _ rfl rfl (by go_simp) ?_) | ((with_reducible show wpList _ _ _ (Oper.mk _ (Op.load _ _) _ _ _ _ :: _) _ _); refine wpList_load_g hl2 _ rfl rfl (by go_simp) ?_) | ((with_reducible show wpList _ _ _ (Oper.mk _ (Op.load _ _) _ _ _ _ :: _) _ _); refine wpList_load_g hl3 _ rfl rfl (by go_simp) ?_) | ((with_reducible show wpList _ _ _ (Oper.mk _ (Op.load _ _) _ _ _ _ :: _) _ _); refine wpList_load_g hl4 _ rfl rfl (by go_simp) ?_) | ((with_reducible show wpList _ _ _ (Oper.mk _ (Op.load _ _) _ _ _ _ :: _) _ _); refine wpList_load_g hl5 _ rfl rfl (by go_simp) ?_))
              go_ret
              rw [HF.out]
              exact ⟨rfl, HBE.out⟩
            · have h6b : decide ((4611686018427387904 : Int) < misses) = false := decide_eq_false h6
              have HH : Hid (headB ⟨room, ver, A, n, c, hits, misses⟩ = true) := Lib.hid (by unfold headB; simp only [h1b, h2b, h3b, h4b, h5b, h6b]; rfl)
              have hl7 := (HP1.out.all _ (below_alloc (Below.refl (w.alloc (.cells cs1 25)).heap.size (w.alloc (.cells cs1 25))) (.map #[] 0))).ents
              go_wp2_with (first | ((with_reducible show wpList _ _ _ (Oper.mk _ (Op.load _ _) _ _ _ _ :: _) _ _); refine wpList_load_g hl1 _ rfl rfl (by go_simp) ?_) | ((with_reducible show wpList _ _ _ (Oper.mk _ (Op.load _ _) _ _ _ _ :: _) _ _); refine wpList_load_g hl2 _ rfl rfl (by go_simp) ?_) | ((with_reducible show wpList _ _ _ (Oper.mk _ (Op.load _ _) _ _ _ _ :: _) _ _); refine wpList_load_g hl3 _ rfl rfl (by go_simp) ?_) | ((with_reducible show wpList _ _ _ (Oper.mk _ (Op.load _ _) _ _ _ _ :: _) _ _); refine wpList_load_g hl4 _ rfl rfl (by go_simp) ?_) | ((with_reducible show wpList _ _ _ (Oper.mk _ (Op.load _ _) _ _ _ _ :: _) _ _); refine wpList_load_g hl5 _ rfl rfl (by go_simp) ?_) | ((with_reducible show wpList _ _ _ (Oper.mk _ (Op.load _ _) _ _ _ _ :: _) _ _); refine wpList_load_g hl7 _ rfl rfl (by go_simp) ?_))
              clear hl1 hl2 hl3 hl4 hl5 hl7 h1b h2b h3b h4b h5b h6b h1 h2 h3 h4 h5 h6 hmm
              go_loopw [41] (fun y wr => ∃ i : Nat, y = .int .i64 i ∧ Hid (i ≤ n ∧ (∀ j, j < i → entB (entAt es j) = true ∧ ∀ k, k < j → sameA (entAt es k) (entAt es j) = false) ∧ Met wr (w.heap.size + 1) es i ∧ Below (w.alloc (.cells cs1 25)).heap.size (w.alloc (.cells cs1 25)) wr)) (fun y _ => n - (intOf y).toNat)
              case atStart =>
                have hmz := met_zero (w.alloc (.cells cs1 25)) es
                rw [show (w.alloc (.cells cs1 25)).heap.size = w.heap.size + 1 by simp] at hmz
                exact ⟨0, rfl, Nat.zero_le _, fun j h => by omega, hmz, below_alloc (Below.refl _ _) _⟩
              case round =>
                obtain ⟨i, rfl, HI⟩ := hrel
                have HBR := Lib.hid (below_step HBE.out HI.out.2.2.2)
                by_cases hlt : i < n
                · have hlt' : (i : Int) < n := by omega
                  obtain ⟨b, o, rfl, hc⟩ := RS.at_ HE.out (by omega)
                  have HF := Lib.hid (RS.fits_at HE.out hlt)
                  have hent := (entLd_of HF.out ((hc i hlt).below HI.out.2.2.2)).ent
                  have HIL := Lib.hid (show i < es.length by rw [HE.out.len]; exact hlt)
                  clear hc
                  go_wp2_with (first | ((with_reducible show wpList _ _ _ (Oper.mk _ (Op.load _ _) _ _ _ _ :: _) _ _); refine wpList_load_g hent _ rfl rfl (by go_simp) ?_) | ((with_reducible show wpList _ _ _ (Oper.mk _ (Op.store _ _ _) _ _ _ _ :: _) _ _); refine wpList_store_blk (blk_new wr _) 43 0 (entV (entAt es i)) (store_ent_fit HF.out rfl) (info_ent HF.out) (entV_one _) _ _ rfl rfl rfl rfl ?_; intro w3 hg9 hs9 hb9; rw [splice_ent HF.out rfl] at hb9; have H3 := Lib.hid (And.intro hg9 hb9); clear hg9 hs9 hb9) | ((with_reducible show wpList _ _ _ (Oper.mk _ (Op.load _ _) _ _ _ _ :: _) _ _); refine wpList_load_g (((ent_at HF.out H3.out.2).all _ (Below.refl _ _)).ent) _ rfl rfl (by go_simp) ?_))
                  have HB3 := Lib.hid (below_grown (below_alloc (Below.refl wr.heap.size wr) (.cells (entV entZ) 43)) H3.out.1 (Nat.le_refl _))
                  refine (eright_any (entAt es i) w3 (HL.out.below (below_step HI.out.2.2.2 HB3.out)) (OE.out.at_ HIL.out)).mono ?_
                  rintro e w4 ⟨rfl, hb4⟩
                  have HB4 := Lib.hid (below_step HB3.out hb4)
                  have HX4 := Lib.hid (ent_at HF.out (blk_below H3.out.2 hb4))
                  have HM4 := Lib.hid (HI.out.2.2.1.below HB4.out)
                  have HBW4 := Lib.hid (below_step HBR.out HB4.out)
                  clear hb4 hent
                  cases hR : entB (entAt es i) with
                  | false =>
                    have HFF := Lib.hid (cacE_false (show cacB ⟨room, ver, some ⟨b, o, none⟩, n, c, hits, misses⟩ es = false by unfold cacB; rw [entsB_bad HIL.out hR, Bool.and_false]))
                    clear hR
                    go_wp2
                    go_ret
                    rw [HFF.out]
                    exact ⟨rfl, HBW4.out⟩
                  | true =>
                    have HR := Lib.hid hR
                    clear hR
                    have hla := (HX4.out.all _ (Below.refl _ _)).adr
                    have HE0 := Lib.hid (OE.out.at_ HIL.out)
                    cases hm : metB es i (entAt es i).v (entAt es i).l with
                    | true =>
                      obtain ⟨k, hki, hks⟩ := metB_true hm
                      have HFF := Lib.hid (cacE_false (show cacB ⟨room, ver, some ⟨b, o, none⟩, n, c, hits, misses⟩ es = false by unfold cacB; rw [entsB_dup HIL.out hki hks, Bool.and_false]))
                      have hlk := met_look HM4.out _ _ HE0.out.l HE0.out.v
                      rw [hm] at hlk
                      clear hm hks
                      go_wp2_with (first | ((with_reducible show wpList _ _ _ (Oper.mk _ (Op.load _ _) _ _ _ _ :: _) _ _); refine wpList_load_g hla _ rfl rfl (by go_simp) ?_) | ((with_reducible show wpList _ _ _ (Oper.mk _ (Op.lookup _ _ _ _) _ _ _ _ :: _) _ _); refine wpList_exw rfl (exec_lookup rfl rfl rfl hlk) ?_))
                      go_ret
                      rw [HFF.out]
                      exact ⟨rfl, HBW4.out⟩
                    | false =>
                      have HNM := Lib.hid (metB_false hm)
                      have hlk := met_look HM4.out _ _ HE0.out.l HE0.out.v
                      rw [hm] at hlk
                      clear hm
                      go_wp2_with (first | ((with_reducible show wpList _ _ _ (Oper.mk _ (Op.load _ _) _ _ _ _ :: _) _ _); refine wpList_load_g hla _ rfl rfl (by go_simp) ?_) | ((with_reducible show wpList _ _ _ (Oper.mk _ (Op.lookup _ _ _ _) _ _ _ _ :: _) _ _); refine wpList_exw rfl (exec_lookup rfl rfl rfl hlk) ?_) | (at_mapUpdate; refine wpList_met HM4.out (by unfold maxLen; omega) HE0.out _ _ _ rfl rfl rfl rfl rfl ?_; intro w5 hg5 hm5; have H5 := Lib.hid (And.intro hg5 hm5); clear hg5 hm5))
                      go_roundw
                      case measure => simp [intOf]; omega
                      case rel =>
                        refine ⟨i + 1, by go_num, by omega, fun j hj => ?_, H5.out.2, below_grown (below_step HI.out.2.2.2 HB4.out) H5.out.1 (by simp)⟩
                        by_cases hji : j < i
                        · exact HI.out.2.1 j hji
                        · have hje : j = i := by omega
                          subst hje
                          exact ⟨HR.out, HNM.out⟩
                · have hlt' : decide (i < n) = false := decide_eq_false hlt
                  have HT := Lib.hid (cacE_true (show cacB ⟨room, ver, A, n, c, hits, misses⟩ es = true by unfold cacB; rw [HH.out, entsB_true (fun j hj => HI.out.2.1 j (by rw [HE.out.len] at hj; omega))]; rfl))
                  clear hlt
                  go_wp2
                  go_ret
                  rw [HT.out]
                  exact ⟨rfl, HBR.out⟩
end Go.Proofs.YtihfaknflfmohaaDoor

/- Layer 27 (cache): Same, the document's and the program's. -/
namespace Go.Proofs.YtihfaknflfmohaaDoor
open Go.RowKit
set_option linter.unusedVariables false
set_option linter.unusedSimpArgs false
set_option maxRecDepth 4000
def cacSame (x : Cac) (es : List Ent) (y : Cac) (fs : List Ent) : Bool := decide (x.room = y.room) && decide (x.ver = y.ver) && decide (x.hits = y.hits) && decide (x.misses = y.misses) && entE.eqL es fs
theorem cacSame_iff {x y : Cac} {es fs : List Ent} : cacSame x es y fs = true ↔ x.room = y.room ∧ x.ver = y.ver ∧ x.hits = y.hits ∧ x.misses = y.misses ∧ es = fs := by
  unfold cacSame
  simp only [Bool.and_eq_true, decide_eq_true_eq, ShapeEq.eqL_iff]
  constructor
  · rintro ⟨⟨⟨⟨a, b⟩, c⟩, d⟩, e⟩
    exact ⟨a, b, c, d, e⟩
  · rintro ⟨a, b, c, d, e⟩
    exact ⟨⟨⟨⟨a, b⟩, c⟩, d⟩, e⟩
set_option maxRecDepth 100000 in
set_option maxHeartbeats 4000000 in
theorem refcsame_any (x : Cac) (es : List Ent) (y : Cac) (fs : List Ent) (w : World) (h1 : RE w x.A x.n x.c es) (h2 : RE w y.A y.n y.c fs) (o1 : Oke es) (o2 : Oke fs) (hn : x.n ≤ 100000) (hm : y.n ≤ 100000) : Calls Tryd.prog 20 #[.agg x.vv, .agg y.vv] w fun r w' => r = .returned (.bool (cacSame x es y fs)) ∧ Below w.heap.size w w' := by
  have hblk1 := blk_new w (.cells (x.vv) 25)
  have hbel1 : Below w.heap.size w (w.alloc (.cells (x.vv) 25)) := below_alloc (Below.refl _ _) _
  have hblk2 := blk_new (w.alloc (.cells (x.vv) 25)) (.cells (y.vv) 25)
  have hbel2 : Below w.heap.size w ((w.alloc (.cells (x.vv) 25)).alloc (.cells (y.vv) 25)) := below_alloc (hbel1) _
  rw [show (w.alloc (.cells (x.vv) 25)).heap.size = w.heap.size + 1 by simp] at hblk2
  replace hblk1 := blk_below hblk1 (below_alloc (Below.refl _ _) (.cells (y.vv) 25))
  have HP1 := Lib.hid (cac_at hblk1)
  have HBK1 := Lib.hid hblk1
  have HP2 := Lib.hid (cac_at hblk2)
  have HBK2 := Lib.hid hblk2
  have HBE := Lib.hid hbel2
  obtain ⟨cs1, hcs1⟩ : ∃ cs, x.vv = cs := ⟨_, rfl⟩
  obtain ⟨cs2, hcs2⟩ : ∃ cs, y.vv = cs := ⟨_, rfl⟩
  simp only [hcs1, hcs2] at HBE HP1 HP2 HBK1 HBK2 ⊢
  have HC1 := Lib.hid hcs1
  have HC2 := Lib.hid hcs2
  clear hcs1 hblk1 hbel1 hcs2 hblk2 hbel2
  have H1 := Lib.hid (h1.below HBE.out)
  have H2 := Lib.hid (h2.below HBE.out)
  have O1 := Lib.hid o1
  have O2 := Lib.hid o2
  have hl := HP1.out.all _ (Below.refl _ _)
  have hl1 := hl.room
  have hl2 := hl.ver
  have hl3 := hl.ents
  have hl4 := hl.hits
  have hl5 := hl.misses
  have hm := HP2.out.all _ (Below.refl _ _)
  have hm1 := hm.room
  have hm2 := hm.ver
  have hm3 := hm.ents
  have hm4 := hm.hits
  have hm5 := hm.misses
  clear h1 h2 o1 o2 hl hm
  obtain ⟨room, ver, A, n, c, hits, misses⟩ := x
  obtain ⟨room2, ver2, A2, n2, c2, hits2, misses2⟩ := y
  simp only at *
  go_enter Tryd.func20, Tryd.ntmps20
  by_cases hd0 : room = room2
  case neg =>
    have hb0 : (room == room2) = false := by simpa using hd0
    have HF := Lib.hid (show cacSame ⟨room, ver, A, n, c, hits, misses⟩ es ⟨room2, ver2, A2, n2, c2, hits2, misses2⟩ fs = false by rw [Bool.eq_false_iff]; intro h; exact hd0 (cacSame_iff.1 h).1)
    go_wp2_with (first | ((with_reducible show wpList _ _ _ (Oper.mk _ (Op.load _ _) _ _ _ _ :: _) _ _); refine wpList_load_g hl1 _ rfl rfl (by go_simp) ?_) | ((with_reducible show wpList _ _ _ (Oper.mk _ (Op.load _ _) _ _ _ _ :: _) _ _); refine wpList_load_g hl2 _ rfl rfl (by go_simp) ?_) | ((with_reducible show wpList _ _ _ (Oper.mk _ (Op.load _ _) _ _ _ _ :: _) _ _); refine wpList_load_g hl3 _ rfl rfl (by go_simp) ?_) | ((with_reducible show wpList _ _ _ (Oper.mk _ (Op.load _ _) _ _ _ _ :: _) _ _); refine wpList_load_g hl4 _ rfl rfl (by go_simp) ?_) | ((with_reducible show wpList _ _ _ (Oper.mk _ (Op.load _ _) _ _ _ _ :: _) _ _); refine wpList_load_g hl5 _ rfl rfl (by go_simp) ?_) | ((with_reducible show wpList _ _ _ (Oper.mk _ (Op.load _ _) _ _ _ _ :: _) _ _); refine wpList_load_g hm1 _ rfl rfl (by go_simp) ?_) | ((with_reducible show wpList _ _ _ (Oper.mk _ (Op.load _ _) _ _ _ _ :: _) _ _); refine wpList_load_g hm2 _ rfl rfl (by go_simp) ?_) | ((with_reducible show wpList _ _ _ (Oper.mk _ (Op.load _ _) _ _ _ _ :: _) _ _); refine wpList_load_g hm3 _ rfl rfl (by go_simp) ?_) | ((with_reducible show wpList _ _ _ (Oper.mk _ (Op.load _ _) _ _ _ _ :: _) _ _); refine wpList_load_g hm4 _ rfl rfl (by go_simp) ?_) | ((with_reducible show wpList _ _ _ (Oper.mk _ (Op.load _ _) _ _ _ _ :: _) _ _); refine wpList_load_g hm5 _ rfl rfl (by go_simp) ?_))
    go_ret
    rw [HF.out]
    exact ⟨rfl, HBE.out⟩
  subst hd0
  by_cases hd1 : ver = ver2
  case neg =>
    have hb1 : (ver == ver2) = false := by simpa using hd1
    have HF := Lib.hid (show cacSame ⟨room, ver, A, n, c, hits, misses⟩ es ⟨room, ver2, A2, n2, c2, hits2, misses2⟩ fs = false by rw [Bool.eq_false_iff]; intro h; exact hd1 (cacSame_iff.1 h).2.1)
    go_wp2_with (first | ((with_reducible show wpList _ _ _ (Oper.mk _ (Op.load _ _) _ _ _ _ :: _) _ _); refine wpList_load_g hl1 _ rfl rfl (by go_simp) ?_) | ((with_reducible show wpList _ _ _ (Oper.mk _ (Op.load _ _) _ _ _ _ :: _) _ _); refine wpList_load_g hl2 _ rfl rfl (by go_simp) ?_) | ((with_reducible show wpList _ _ _ (Oper.mk _ (Op.load _ _) _ _ _ _ :: _) _ _); refine wpList_load_g hl3 _ rfl rfl (by go_simp) ?_) | ((with_reducible show wpList _ _ _ (Oper.mk _ (Op.load _ _) _ _ _ _ :: _) _ _); refine wpList_load_g hl4 _ rfl rfl (by go_simp) ?_) | ((with_reducible show wpList _ _ _ (Oper.mk _ (Op.load _ _) _ _ _ _ :: _) _ _); refine wpList_load_g hl5 _ rfl rfl (by go_simp) ?_) | ((with_reducible show wpList _ _ _ (Oper.mk _ (Op.load _ _) _ _ _ _ :: _) _ _); refine wpList_load_g hm1 _ rfl rfl (by go_simp) ?_) | ((with_reducible show wpList _ _ _ (Oper.mk _ (Op.load _ _) _ _ _ _ :: _) _ _); refine wpList_load_g hm2 _ rfl rfl (by go_simp) ?_) | ((with_reducible show wpList _ _ _ (Oper.mk _ (Op.load _ _) _ _ _ _ :: _) _ _); refine wpList_load_g hm3 _ rfl rfl (by go_simp) ?_) | ((with_reducible show wpList _ _ _ (Oper.mk _ (Op.load _ _) _ _ _ _ :: _) _ _); refine wpList_load_g hm4 _ rfl rfl (by go_simp) ?_) | ((with_reducible show wpList _ _ _ (Oper.mk _ (Op.load _ _) _ _ _ _ :: _) _ _); refine wpList_load_g hm5 _ rfl rfl (by go_simp) ?_))
    go_ret
    rw [HF.out]
    exact ⟨rfl, HBE.out⟩
  subst hd1
  by_cases hd2 : hits = hits2
  case neg =>
    have hb2 : (hits == hits2) = false := by simpa using hd2
    have HF := Lib.hid (show cacSame ⟨room, ver, A, n, c, hits, misses⟩ es ⟨room, ver, A2, n2, c2, hits2, misses2⟩ fs = false by rw [Bool.eq_false_iff]; intro h; exact hd2 (cacSame_iff.1 h).2.2.1)
    go_wp2_with (first | ((with_reducible show wpList _ _ _ (Oper.mk _ (Op.load _ _) _ _ _ _ :: _) _ _); refine wpList_load_g hl1 _ rfl rfl (by go_simp) ?_) | ((with_reducible show wpList _ _ _ (Oper.mk _ (Op.load _ _) _ _ _ _ :: _) _ _); refine wpList_load_g hl2 _ rfl rfl (by go_simp) ?_) | ((with_reducible show wpList _ _ _ (Oper.mk _ (Op.load _ _) _ _ _ _ :: _) _ _); refine wpList_load_g hl3 _ rfl rfl (by go_simp) ?_) | ((with_reducible show wpList _ _ _ (Oper.mk _ (Op.load _ _) _ _ _ _ :: _) _ _); refine wpList_load_g hl4 _ rfl rfl (by go_simp) ?_) | ((with_reducible show wpList _ _ _ (Oper.mk _ (Op.load _ _) _ _ _ _ :: _) _ _); refine wpList_load_g hl5 _ rfl rfl (by go_simp) ?_) | ((with_reducible show wpList _ _ _ (Oper.mk _ (Op.load _ _) _ _ _ _ :: _) _ _); refine wpList_load_g hm1 _ rfl rfl (by go_simp) ?_) | ((with_reducible show wpList _ _ _ (Oper.mk _ (Op.load _ _) _ _ _ _ :: _) _ _); refine wpList_load_g hm2 _ rfl rfl (by go_simp) ?_) | ((with_reducible show wpList _ _ _ (Oper.mk _ (Op.load _ _) _ _ _ _ :: _) _ _); refine wpList_load_g hm3 _ rfl rfl (by go_simp) ?_) | ((with_reducible show wpList _ _ _ (Oper.mk _ (Op.load _ _) _ _ _ _ :: _) _ _); refine wpList_load_g hm4 _ rfl rfl (by go_simp) ?_) | ((with_reducible show wpList _ _ _ (Oper.mk _ (Op.load _ _) _ _ _ _ :: _) _ _); refine wpList_load_g hm5 _ rfl rfl (by go_simp) ?_))
    go_ret
    rw [HF.out]
    exact ⟨rfl, HBE.out⟩
  subst hd2
  by_cases hd3 : misses = misses2
  case neg =>
    have hb3 : (misses == misses2) = false := by simpa using hd3
    have HF := Lib.hid (show cacSame ⟨room, ver, A, n, c, hits, misses⟩ es ⟨room, ver, A2, n2, c2, hits, misses2⟩ fs = false by rw [Bool.eq_false_iff]; intro h; exact hd3 (cacSame_iff.1 h).2.2.2.1)
    go_wp2_with (first | ((with_reducible show wpList _ _ _ (Oper.mk _ (Op.load _ _) _ _ _ _ :: _) _ _); refine wpList_load_g hl1 _ rfl rfl (by go_simp) ?_) | ((with_reducible show wpList _ _ _ (Oper.mk _ (Op.load _ _) _ _ _ _ :: _) _ _); refine wpList_load_g hl2 _ rfl rfl (by go_simp) ?_) | ((with_reducible show wpList _ _ _ (Oper.mk _ (Op.load _ _) _ _ _ _ :: _) _ _); refine wpList_load_g hl3 _ rfl rfl (by go_simp) ?_) | ((with_reducible show wpList _ _ _ (Oper.mk _ (Op.load _ _) _ _ _ _ :: _) _ _); refine wpList_load_g hl4 _ rfl rfl (by go_simp) ?_) | ((with_reducible show wpList _ _ _ (Oper.mk _ (Op.load _ _) _ _ _ _ :: _) _ _); refine wpList_load_g hl5 _ rfl rfl (by go_simp) ?_) | ((with_reducible show wpList _ _ _ (Oper.mk _ (Op.load _ _) _ _ _ _ :: _) _ _); refine wpList_load_g hm1 _ rfl rfl (by go_simp) ?_) | ((with_reducible show wpList _ _ _ (Oper.mk _ (Op.load _ _) _ _ _ _ :: _) _ _); refine wpList_load_g hm2 _ rfl rfl (by go_simp) ?_) | ((with_reducible show wpList _ _ _ (Oper.mk _ (Op.load _ _) _ _ _ _ :: _) _ _); refine wpList_load_g hm3 _ rfl rfl (by go_simp) ?_) | ((with_reducible show wpList _ _ _ (Oper.mk _ (Op.load _ _) _ _ _ _ :: _) _ _); refine wpList_load_g hm4 _ rfl rfl (by go_simp) ?_) | ((with_reducible show wpList _ _ _ (Oper.mk _ (Op.load _ _) _ _ _ _ :: _) _ _); refine wpList_load_g hm5 _ rfl rfl (by go_simp) ?_))
    go_ret
    rw [HF.out]
    exact ⟨rfl, HBE.out⟩
  subst hd3
  by_cases hnm : n = n2
  case neg =>
    have hb4 : (n == n2) = false := by simpa using hnm
    have HF := Lib.hid (show cacSame ⟨room, ver, A, n, c, hits, misses⟩ es ⟨room, ver, A2, n2, c2, hits, misses⟩ fs = false by
      rw [Bool.eq_false_iff]
      intro h
      apply hnm
      rw [← H1.out.len, ← H2.out.len, (cacSame_iff.1 h).2.2.2.2])
    go_wp2_with (first | ((with_reducible show wpList _ _ _ (Oper.mk _ (Op.load _ _) _ _ _ _ :: _) _ _); refine wpList_load_g hl1 _ rfl rfl (by go_simp) ?_) | ((with_reducible show wpList _ _ _ (Oper.mk _ (Op.load _ _) _ _ _ _ :: _) _ _); refine wpList_load_g hl2 _ rfl rfl (by go_simp) ?_) | ((with_reducible show wpList _ _ _ (Oper.mk _ (Op.load _ _) _ _ _ _ :: _) _ _); refine wpList_load_g hl3 _ rfl rfl (by go_simp) ?_) | ((with_reducible show wpList _ _ _ (Oper.mk _ (Op.load _ _) _ _ _ _ :: _) _ _); refine wpList_load_g hl4 _ rfl rfl (by go_simp) ?_) | ((with_reducible show wpList _ _ _ (Oper.mk _ (Op.load _ _) _ _ _ _ :: _) _ _); refine wpList_load_g hl5 _ rfl rfl (by go_simp) ?_) | ((with_reducible show wpList _ _ _ (Oper.mk _ (Op.load _ _) _ _ _ _ :: _) _ _); refine wpList_load_g hm1 _ rfl rfl (by go_simp) ?_) | ((with_reducible show wpList _ _ _ (Oper.mk _ (Op.load _ _) _ _ _ _ :: _) _ _); refine wpList_load_g hm2 _ rfl rfl (by go_simp) ?_) | ((with_reducible show wpList _ _ _ (Oper.mk _ (Op.load _ _) _ _ _ _ :: _) _ _); refine wpList_load_g hm3 _ rfl rfl (by go_simp) ?_) | ((with_reducible show wpList _ _ _ (Oper.mk _ (Op.load _ _) _ _ _ _ :: _) _ _); refine wpList_load_g hm4 _ rfl rfl (by go_simp) ?_) | ((with_reducible show wpList _ _ _ (Oper.mk _ (Op.load _ _) _ _ _ _ :: _) _ _); refine wpList_load_g hm5 _ rfl rfl (by go_simp) ?_))
    go_ret
    rw [HF.out]
    exact ⟨rfl, HBE.out⟩
  subst hnm
  have HLEN := Lib.hid (show es.length = fs.length by rw [H1.out.len, H2.out.len])
  go_wp2_with (first | ((with_reducible show wpList _ _ _ (Oper.mk _ (Op.load _ _) _ _ _ _ :: _) _ _); refine wpList_load_g hl1 _ rfl rfl (by go_simp) ?_) | ((with_reducible show wpList _ _ _ (Oper.mk _ (Op.load _ _) _ _ _ _ :: _) _ _); refine wpList_load_g hl2 _ rfl rfl (by go_simp) ?_) | ((with_reducible show wpList _ _ _ (Oper.mk _ (Op.load _ _) _ _ _ _ :: _) _ _); refine wpList_load_g hl3 _ rfl rfl (by go_simp) ?_) | ((with_reducible show wpList _ _ _ (Oper.mk _ (Op.load _ _) _ _ _ _ :: _) _ _); refine wpList_load_g hl4 _ rfl rfl (by go_simp) ?_) | ((with_reducible show wpList _ _ _ (Oper.mk _ (Op.load _ _) _ _ _ _ :: _) _ _); refine wpList_load_g hl5 _ rfl rfl (by go_simp) ?_) | ((with_reducible show wpList _ _ _ (Oper.mk _ (Op.load _ _) _ _ _ _ :: _) _ _); refine wpList_load_g hm1 _ rfl rfl (by go_simp) ?_) | ((with_reducible show wpList _ _ _ (Oper.mk _ (Op.load _ _) _ _ _ _ :: _) _ _); refine wpList_load_g hm2 _ rfl rfl (by go_simp) ?_) | ((with_reducible show wpList _ _ _ (Oper.mk _ (Op.load _ _) _ _ _ _ :: _) _ _); refine wpList_load_g hm3 _ rfl rfl (by go_simp) ?_) | ((with_reducible show wpList _ _ _ (Oper.mk _ (Op.load _ _) _ _ _ _ :: _) _ _); refine wpList_load_g hm4 _ rfl rfl (by go_simp) ?_) | ((with_reducible show wpList _ _ _ (Oper.mk _ (Op.load _ _) _ _ _ _ :: _) _ _); refine wpList_load_g hm5 _ rfl rfl (by go_simp) ?_))
  clear hl1 hl2 hl3 hl4 hl5 hm1 hm2 hm3 hm4 hm5
  obtain ⟨W1, HW1⟩ : ∃ W, Hid ((w.alloc (.cells cs1 25)).alloc (.cells cs2 25) = W) := ⟨_, Lib.hid rfl⟩
  rw [HW1.out] at HBE HP1 HP2 H1 H2 ⊢
  go_loopw [5] (fun x wr => ∃ i : Nat, x = .int .i64 i ∧ Hid (i ≤ n ∧ (∀ k, k < i → entE.eqB (entAt es k) (entAt fs k) = true) ∧ Below W1.heap.size W1 wr)) (fun x _ => n - (intOf x).toNat)
  case atStart => exact ⟨0, rfl, Nat.zero_le _, fun k h => by omega, Below.refl _ _⟩
  case round =>
    obtain ⟨i, rfl, HH⟩ := hrel
    have hlw := (HP1.out.all wr HH.out.2.2).ents
    by_cases hlt : i < n
    · have hlt' : (i : Int) < n := by omega
      obtain ⟨b, o, rfl, hc⟩ := RS.at_ H1.out (by omega)
      obtain ⟨b2, o2, rfl, hc2⟩ := RS.at_ H2.out (by omega)
      have HC1 := Lib.hid (hc i hlt)
      have HC2 := Lib.hid (hc2 i hlt)
      have HF1 := Lib.hid (RS.fits_at H1.out hlt)
      have HF2 := Lib.hid (RS.fits_at H2.out hlt)
      clear hc hc2
      go_wp2_with ((with_reducible show wpList _ _ _ (Oper.mk _ (Op.load _ _) _ _ _ _ :: _) _ _); refine wpList_load_g hlw _ rfl rfl (by go_simp) ?_)
      clear hlw
      refine wp_region_mix (fun w0 => Below (wr).heap.size (wr) w0) [(0, 0), (1, 0), (2, 0), (3, 0), (4, 0), (5, 0), (6, 0), (7, 0), (8, 0), (9, 0), (10, 0)] (by kernel_rfl) (by kernel_rfl) (below_drew1 _) ?_
      simp only [List.map_cons, List.map_nil]
      iterate 1 (refine wpO_step0 rfl rfl (fun K hK => ?_); go_simp; refine hK _ _ ?_; clear hK K)
      refine wpO_loadW (t := 23) (ad := ⟨w.heap.size, 2, none⟩) rfl rfl ?hw rfl rfl ((fun w0 hS => (HP1.out.all w0 (below_step HH.out.2.2 hS)).ents)) ?_
      case hw => go_simp
      iterate 2 (refine wpO_step0 rfl rfl (fun K hK => ?_); go_simp; refine hK _ _ ?_; clear hK K)
      refine wpO_loadW (t := 43) (ad := ⟨b, (o+i*37), none⟩) rfl rfl ?hw rfl rfl ((fun w0 hS => (entLd_of HF1.out (HC1.out.below (below_step HH.out.2.2 hS))).ent)) ?_
      case hw => go_simp
      iterate 1 (refine wpO_step0 rfl rfl (fun K hK => ?_); go_simp; refine hK _ _ ?_; clear hK K)
      refine wpO_loadW (t := 23) (ad := ⟨(w.heap.size+1), 2, none⟩) rfl rfl ?hw rfl rfl ((fun w0 hS => (HP2.out.all w0 (below_step HH.out.2.2 hS)).ents)) ?_
      case hw => go_simp
      iterate 2 (refine wpO_step0 rfl rfl (fun K hK => ?_); go_simp; refine hK _ _ ?_; clear hK K)
      refine wpO_loadW (t := 43) (ad := ⟨b2, (o2+i*37), none⟩) rfl rfl ?hw rfl rfl ((fun w0 hS => (entLd_of HF2.out (HC2.out.below (below_step HH.out.2.2 hS))).ent)) ?_
      case hw => go_simp
      refine wpO_step0 rfl rfl (fun K hK => ?_)
      rw [if_pos (show Region.wanted _ _ = true from rfl)]
      refine ⟨_, fun w0 => ShapeEq.neq entE rfl (entAt es i) (entAt fs i) rfl rfl (ShapeEq.all_at (E := entE) O1.out (by rw [H1.out.len]; exact hlt)) (ShapeEq.all_at (E := entE) O2.out (by rw [H2.out.len]; exact hlt)) w0, hK _ _ ?_⟩
      clear hK K
      refine wpO_nil ?_
      cases hq : entE.eqB (entAt es i) (entAt fs i) with
      | true =>
        have HQ := Lib.hid hq
        clear hq
        go_wp2_with fail
        go_roundw
        case measure => simp [intOf]; omega
        case rel =>
          refine ⟨i + 1, by go_num, by omega, fun k hk => ?_, below_step HH.out.2.2 (below_drew1 _)⟩
          by_cases hki : k < i
          · exact HH.out.2.1 k hki
          · rw [show k = i by omega]; exact HQ.out
      | false =>
        have HT := Lib.hid (show cacSame ⟨room, ver, some ⟨b, o, none⟩, n, c, hits, misses⟩ es ⟨room, ver, some ⟨b2, o2, none⟩, n, c2, hits, misses⟩ fs = false by
          rw [Bool.eq_false_iff]
          intro h
          have h2 := (cacSame_iff.1 h).2.2.2.2
          subst h2
          rw [(entE.iff _ _).2 rfl] at hq
          cases hq)
        clear hq
        go_wp2_with fail
        go_ret
        rw [HT.out]
        exact ⟨rfl, below_step HBE.out (below_step HH.out.2.2 (below_drew1 _))⟩
    · have hlt' : decide (i < n) = false := decide_eq_false hlt
      have HT := Lib.hid (show cacSame ⟨room, ver, A, n, c, hits, misses⟩ es ⟨room, ver, A2, n, c2, hits, misses⟩ fs = true from cacSame_iff.2 ⟨rfl, rfl, rfl, rfl, (ShapeEq.eqL_iff (E := entE) _ _).1 (ShapeEq.eqL_yes HLEN.out (fun k hk => HH.out.2.1 k (by rw [H1.out.len] at hk; have := HH.out.1; omega)))⟩)
      clear hlt
      go_wp2_with ((with_reducible show wpList _ _ _ (Oper.mk _ (Op.load _ _) _ _ _ _ :: _) _ _); refine wpList_load_g hlw _ rfl rfl (by go_simp) ?_)
      go_ret
      rw [HT.out]
      exact ⟨rfl, below_step HBE.out HH.out.2.2⟩
set_option maxRecDepth 100000 in
set_option maxHeartbeats 4000000 in
theorem csame_any (x : Cac) (es : List Ent) (y : Cac) (fs : List Ent) (w : World) (h1 : RE w x.A x.n x.c es) (h2 : RE w y.A y.n y.c fs) (o1 : Oke es) (o2 : Oke fs) (hn : x.n ≤ 100000) (hm : y.n ≤ 100000) : Calls Tryd.prog 33 #[.agg x.vv, .agg y.vv] w fun r w' => r = .returned (.bool (cacSame x es y fs)) ∧ Below w.heap.size w w' := by
  have hblk1 := blk_new w (.cells (x.vv) 25)
  have hbel1 : Below w.heap.size w (w.alloc (.cells (x.vv) 25)) := below_alloc (Below.refl _ _) _
  have hblk2 := blk_new (w.alloc (.cells (x.vv) 25)) (.cells (y.vv) 25)
  have hbel2 : Below w.heap.size w ((w.alloc (.cells (x.vv) 25)).alloc (.cells (y.vv) 25)) := below_alloc (hbel1) _
  rw [show (w.alloc (.cells (x.vv) 25)).heap.size = w.heap.size + 1 by simp] at hblk2
  replace hblk1 := blk_below hblk1 (below_alloc (Below.refl _ _) (.cells (y.vv) 25))
  have HP1 := Lib.hid (cac_at hblk1)
  have HBK1 := Lib.hid hblk1
  have HP2 := Lib.hid (cac_at hblk2)
  have HBK2 := Lib.hid hblk2
  have HBE := Lib.hid hbel2
  obtain ⟨cs1, hcs1⟩ : ∃ cs, x.vv = cs := ⟨_, rfl⟩
  obtain ⟨cs2, hcs2⟩ : ∃ cs, y.vv = cs := ⟨_, rfl⟩
  simp only [hcs1, hcs2] at HBE HP1 HP2 HBK1 HBK2 ⊢
  have HC1 := Lib.hid hcs1
  have HC2 := Lib.hid hcs2
  clear hcs1 hblk1 hbel1 hcs2 hblk2 hbel2
  have H1 := Lib.hid (h1.below HBE.out)
  have H2 := Lib.hid (h2.below HBE.out)
  have O1 := Lib.hid o1
  have O2 := Lib.hid o2
  have hl := HP1.out.all _ (Below.refl _ _)
  have hl1 := hl.room
  have hl2 := hl.ver
  have hl3 := hl.ents
  have hl4 := hl.hits
  have hl5 := hl.misses
  have hm := HP2.out.all _ (Below.refl _ _)
  have hm1 := hm.room
  have hm2 := hm.ver
  have hm3 := hm.ents
  have hm4 := hm.hits
  have hm5 := hm.misses
  clear h1 h2 o1 o2 hl hm
  obtain ⟨room, ver, A, n, c, hits, misses⟩ := x
  obtain ⟨room2, ver2, A2, n2, c2, hits2, misses2⟩ := y
  simp only at *
  go_enter Tryd.func33, Tryd.ntmps33
  by_cases hd0 : room = room2
  case neg =>
    have hb0 : (room == room2) = false := by simpa using hd0
    have HF := Lib.hid (show cacSame ⟨room, ver, A, n, c, hits, misses⟩ es ⟨room2, ver2, A2, n2, c2, hits2, misses2⟩ fs = false by rw [Bool.eq_false_iff]; intro h; exact hd0 (cacSame_iff.1 h).1)
    go_wp2_with (first | ((with_reducible show wpList _ _ _ (Oper.mk _ (Op.load _ _) _ _ _ _ :: _) _ _); refine wpList_load_g hl1 _ rfl rfl (by go_simp) ?_) | ((with_reducible show wpList _ _ _ (Oper.mk _ (Op.load _ _) _ _ _ _ :: _) _ _); refine wpList_load_g hl2 _ rfl rfl (by go_simp) ?_) | ((with_reducible show wpList _ _ _ (Oper.mk _ (Op.load _ _) _ _ _ _ :: _) _ _); refine wpList_load_g hl3 _ rfl rfl (by go_simp) ?_) | ((with_reducible show wpList _ _ _ (Oper.mk _ (Op.load _ _) _ _ _ _ :: _) _ _); refine wpList_load_g hl4 _ rfl rfl (by go_simp) ?_) | ((with_reducible show wpList _ _ _ (Oper.mk _ (Op.load _ _) _ _ _ _ :: _) _ _); refine wpList_load_g hl5 _ rfl rfl (by go_simp) ?_) | ((with_reducible show wpList _ _ _ (Oper.mk _ (Op.load _ _) _ _ _ _ :: _) _ _); refine wpList_load_g hm1 _ rfl rfl (by go_simp) ?_) | ((with_reducible show wpList _ _ _ (Oper.mk _ (Op.load _ _) _ _ _ _ :: _) _ _); refine wpList_load_g hm2 _ rfl rfl (by go_simp) ?_) | ((with_reducible show wpList _ _ _ (Oper.mk _ (Op.load _ _) _ _ _ _ :: _) _ _); refine wpList_load_g hm3 _ rfl rfl (by go_simp) ?_) | ((with_reducible show wpList _ _ _ (Oper.mk _ (Op.load _ _) _ _ _ _ :: _) _ _); refine wpList_load_g hm4 _ rfl rfl (by go_simp) ?_) | ((with_reducible show wpList _ _ _ (Oper.mk _ (Op.load _ _) _ _ _ _ :: _) _ _); refine wpList_load_g hm5 _ rfl rfl (by go_simp) ?_))
    go_ret
    rw [HF.out]
    exact ⟨rfl, HBE.out⟩
  subst hd0
  by_cases hd1 : ver = ver2
  case neg =>
    have hb1 : (ver == ver2) = false := by simpa using hd1
    have HF := Lib.hid (show cacSame ⟨room, ver, A, n, c, hits, misses⟩ es ⟨room, ver2, A2, n2, c2, hits2, misses2⟩ fs = false by rw [Bool.eq_false_iff]; intro h; exact hd1 (cacSame_iff.1 h).2.1)
    go_wp2_with (first | ((with_reducible show wpList _ _ _ (Oper.mk _ (Op.load _ _) _ _ _ _ :: _) _ _); refine wpList_load_g hl1 _ rfl rfl (by go_simp) ?_) | ((with_reducible show wpList _ _ _ (Oper.mk _ (Op.load _ _) _ _ _ _ :: _) _ _); refine wpList_load_g hl2 _ rfl rfl (by go_simp) ?_) | ((with_reducible show wpList _ _ _ (Oper.mk _ (Op.load _ _) _ _ _ _ :: _) _ _); refine wpList_load_g hl3 _ rfl rfl (by go_simp) ?_) | ((with_reducible show wpList _ _ _ (Oper.mk _ (Op.load _ _) _ _ _ _ :: _) _ _); refine wpList_load_g hl4 _ rfl rfl (by go_simp) ?_) | ((with_reducible show wpList _ _ _ (Oper.mk _ (Op.load _ _) _ _ _ _ :: _) _ _); refine wpList_load_g hl5 _ rfl rfl (by go_simp) ?_) | ((with_reducible show wpList _ _ _ (Oper.mk _ (Op.load _ _) _ _ _ _ :: _) _ _); refine wpList_load_g hm1 _ rfl rfl (by go_simp) ?_) | ((with_reducible show wpList _ _ _ (Oper.mk _ (Op.load _ _) _ _ _ _ :: _) _ _); refine wpList_load_g hm2 _ rfl rfl (by go_simp) ?_) | ((with_reducible show wpList _ _ _ (Oper.mk _ (Op.load _ _) _ _ _ _ :: _) _ _); refine wpList_load_g hm3 _ rfl rfl (by go_simp) ?_) | ((with_reducible show wpList _ _ _ (Oper.mk _ (Op.load _ _) _ _ _ _ :: _) _ _); refine wpList_load_g hm4 _ rfl rfl (by go_simp) ?_) | ((with_reducible show wpList _ _ _ (Oper.mk _ (Op.load _ _) _ _ _ _ :: _) _ _); refine wpList_load_g hm5 _ rfl rfl (by go_simp) ?_))
    go_ret
    rw [HF.out]
    exact ⟨rfl, HBE.out⟩
  subst hd1
  by_cases hd2 : hits = hits2
  case neg =>
    have hb2 : (hits == hits2) = false := by simpa using hd2
    have HF := Lib.hid (show cacSame ⟨room, ver, A, n, c, hits, misses⟩ es ⟨room, ver, A2, n2, c2, hits2, misses2⟩ fs = false by rw [Bool.eq_false_iff]; intro h; exact hd2 (cacSame_iff.1 h).2.2.1)
    go_wp2_with (first | ((with_reducible show wpList _ _ _ (Oper.mk _ (Op.load _ _) _ _ _ _ :: _) _ _); refine wpList_load_g hl1 _ rfl rfl (by go_simp) ?_) | ((with_reducible show wpList _ _ _ (Oper.mk _ (Op.load _ _) _ _ _ _ :: _) _ _); refine wpList_load_g hl2 _ rfl rfl (by go_simp) ?_) | ((with_reducible show wpList _ _ _ (Oper.mk _ (Op.load _ _) _ _ _ _ :: _) _ _); refine wpList_load_g hl3 _ rfl rfl (by go_simp) ?_) | ((with_reducible show wpList _ _ _ (Oper.mk _ (Op.load _ _) _ _ _ _ :: _) _ _); refine wpList_load_g hl4 _ rfl rfl (by go_simp) ?_) | ((with_reducible show wpList _ _ _ (Oper.mk _ (Op.load _ _) _ _ _ _ :: _) _ _); refine wpList_load_g hl5 _ rfl rfl (by go_simp) ?_) | ((with_reducible show wpList _ _ _ (Oper.mk _ (Op.load _ _) _ _ _ _ :: _) _ _); refine wpList_load_g hm1 _ rfl rfl (by go_simp) ?_) | ((with_reducible show wpList _ _ _ (Oper.mk _ (Op.load _ _) _ _ _ _ :: _) _ _); refine wpList_load_g hm2 _ rfl rfl (by go_simp) ?_) | ((with_reducible show wpList _ _ _ (Oper.mk _ (Op.load _ _) _ _ _ _ :: _) _ _); refine wpList_load_g hm3 _ rfl rfl (by go_simp) ?_) | ((with_reducible show wpList _ _ _ (Oper.mk _ (Op.load _ _) _ _ _ _ :: _) _ _); refine wpList_load_g hm4 _ rfl rfl (by go_simp) ?_) | ((with_reducible show wpList _ _ _ (Oper.mk _ (Op.load _ _) _ _ _ _ :: _) _ _); refine wpList_load_g hm5 _ rfl rfl (by go_simp) ?_))
    go_ret
    rw [HF.out]
    exact ⟨rfl, HBE.out⟩
  subst hd2
  by_cases hd3 : misses = misses2
  case neg =>
    have hb3 : (misses == misses2) = false := by simpa using hd3
    have HF := Lib.hid (show cacSame ⟨room, ver, A, n, c, hits, misses⟩ es ⟨room, ver, A2, n2, c2, hits, misses2⟩ fs = false by rw [Bool.eq_false_iff]; intro h; exact hd3 (cacSame_iff.1 h).2.2.2.1)
    go_wp2_with (first | ((with_reducible show wpList _ _ _ (Oper.mk _ (Op.load _ _) _ _ _ _ :: _) _ _); refine wpList_load_g hl1 _ rfl rfl (by go_simp) ?_) | ((with_reducible show wpList _ _ _ (Oper.mk _ (Op.load _ _) _ _ _ _ :: _) _ _); refine wpList_load_g hl2 _ rfl rfl (by go_simp) ?_) | ((with_reducible show wpList _ _ _ (Oper.mk _ (Op.load _ _) _ _ _ _ :: _) _ _); refine wpList_load_g hl3 _ rfl rfl (by go_simp) ?_) | ((with_reducible show wpList _ _ _ (Oper.mk _ (Op.load _ _) _ _ _ _ :: _) _ _); refine wpList_load_g hl4 _ rfl rfl (by go_simp) ?_) | ((with_reducible show wpList _ _ _ (Oper.mk _ (Op.load _ _) _ _ _ _ :: _) _ _); refine wpList_load_g hl5 _ rfl rfl (by go_simp) ?_) | ((with_reducible show wpList _ _ _ (Oper.mk _ (Op.load _ _) _ _ _ _ :: _) _ _); refine wpList_load_g hm1 _ rfl rfl (by go_simp) ?_) | ((with_reducible show wpList _ _ _ (Oper.mk _ (Op.load _ _) _ _ _ _ :: _) _ _); refine wpList_load_g hm2 _ rfl rfl (by go_simp) ?_) | ((with_reducible show wpList _ _ _ (Oper.mk _ (Op.load _ _) _ _ _ _ :: _) _ _); refine wpList_load_g hm3 _ rfl rfl (by go_simp) ?_) | ((with_reducible show wpList _ _ _ (Oper.mk _ (Op.load _ _) _ _ _ _ :: _) _ _); refine wpList_load_g hm4 _ rfl rfl (by go_simp) ?_) | ((with_reducible show wpList _ _ _ (Oper.mk _ (Op.load _ _) _ _ _ _ :: _) _ _); refine wpList_load_g hm5 _ rfl rfl (by go_simp) ?_))
    go_ret
    rw [HF.out]
    exact ⟨rfl, HBE.out⟩
  subst hd3
  go_wp2_with (first | ((with_reducible show wpList _ _ _ (Oper.mk _ (Op.load _ _) _ _ _ _ :: _) _ _); refine wpList_load_g hl1 _ rfl rfl (by go_simp) ?_) | ((with_reducible show wpList _ _ _ (Oper.mk _ (Op.load _ _) _ _ _ _ :: _) _ _); refine wpList_load_g hl2 _ rfl rfl (by go_simp) ?_) | ((with_reducible show wpList _ _ _ (Oper.mk _ (Op.load _ _) _ _ _ _ :: _) _ _); refine wpList_load_g hl3 _ rfl rfl (by go_simp) ?_) | ((with_reducible show wpList _ _ _ (Oper.mk _ (Op.load _ _) _ _ _ _ :: _) _ _); refine wpList_load_g hl4 _ rfl rfl (by go_simp) ?_) | ((with_reducible show wpList _ _ _ (Oper.mk _ (Op.load _ _) _ _ _ _ :: _) _ _); refine wpList_load_g hl5 _ rfl rfl (by go_simp) ?_) | ((with_reducible show wpList _ _ _ (Oper.mk _ (Op.load _ _) _ _ _ _ :: _) _ _); refine wpList_load_g hm1 _ rfl rfl (by go_simp) ?_) | ((with_reducible show wpList _ _ _ (Oper.mk _ (Op.load _ _) _ _ _ _ :: _) _ _); refine wpList_load_g hm2 _ rfl rfl (by go_simp) ?_) | ((with_reducible show wpList _ _ _ (Oper.mk _ (Op.load _ _) _ _ _ _ :: _) _ _); refine wpList_load_g hm3 _ rfl rfl (by go_simp) ?_) | ((with_reducible show wpList _ _ _ (Oper.mk _ (Op.load _ _) _ _ _ _ :: _) _ _); refine wpList_load_g hm4 _ rfl rfl (by go_simp) ?_) | ((with_reducible show wpList _ _ _ (Oper.mk _ (Op.load _ _) _ _ _ _ :: _) _ _); refine wpList_load_g hm5 _ rfl rfl (by go_simp) ?_))
  refine (equalE_any A n c es A2 n2 c2 fs _ H1.out H2.out O1.out O2.out (by omega) (by omega)).mono ?_
  rintro e w1 ⟨rfl, hb1⟩
  have HT := Lib.hid (show cacSame ⟨room, ver, A, n, c, hits, misses⟩ es ⟨room, ver, A2, n2, c2, hits, misses⟩ fs = entE.eqL es fs by unfold cacSame; simp)
  have HB1 := Lib.hid (below_step HBE.out hb1)
  clear hb1
  go_wp2
  go_ret
  rw [HT.out]
  exact ⟨rfl, HB1.out⟩
end Go.Proofs.YtihfaknflfmohaaDoor

/- Layer 27 (cache): place. -/
namespace Go.Proofs.YtihfaknflfmohaaDoor
open Go.RowKit
set_option linter.unusedVariables false
set_option linter.unusedSimpArgs false
set_option maxRecDepth 4000
def idxE {α : Type} (q : α → Bool) (t : List α) : Int := match t.findIdx? q with | some i => i | none => -1
theorem idxE_at {α : Type} {S : Shape α} {q : α → Bool} {t : List α} {i : Nat} (hi : i < t.length) (h : q (S.at_ t i) = true) (hl : ∀ k, k < i → q (S.at_ t k) = false) : idxE q t = (i : Int) := by
  have : t.findIdx? q = some i := by
    rw [List.findIdx?_eq_some_iff_getElem]
    have hg : ∀ k (hk : k < t.length), t[k] = S.at_ t k := fun k hk => by
      have := Shape.at_get (S := S) hk
      rw [List.getElem?_eq_getElem hk] at this
      exact Option.some.inj this
    refine ⟨hi, by rw [hg i hi]; exact h, fun k hk => ?_⟩
    rw [hg k (by omega), hl k hk]
    simp
  unfold idxE
  rw [this]
theorem idxE_none {α : Type} {S : Shape α} {q : α → Bool} {t : List α} (hl : ∀ k, k < t.length → q (S.at_ t k) = false) : idxE q t = -1 := by
  have : t.findIdx? q = none := by
    rw [List.findIdx?_eq_none_iff]
    intro x hx
    obtain ⟨k, hk, e⟩ := List.getElem_of_mem hx
    have := Shape.at_get (S := S) hk
    rw [List.getElem?_eq_getElem hk, e] at this
    rw [Option.some.inj this]
    exact hl k hk
  unfold idxE
  rw [this]
theorem cplace1_any (e : Ent) (v : Int) (l : List Int) (g : Nat) (w : World) (heo : e.ok) (hl : B16 l) (hv : (Lit.int .i64 v).wf = true) (ha : AdrAt w g v l) : Calls Tryd.prog 102 #[.agg (entV e), .pointer (some ⟨g, 0, none⟩)] w fun x w' => x = .returned (.bool (sA e.v e.l v l)) ∧ Below w.heap.size w w' := by
  have he := heo.fits
  have HA := Lib.hid (ha.all (w.alloc (.cells (entV e) 43)) (below_alloc (Below.refl _ _) _))
  have hblk1 := blk_new w (.cells (entV e) 43)
  have hbel1 : Below w.heap.size w (w.alloc (.cells (entV e) 43)) := below_alloc (Below.refl _ _) _
  have HP1 := Lib.hid (ent_at he hblk1)
  have HBK1 := Lib.hid hblk1
  have HBE := Lib.hid hbel1
  obtain ⟨cs1, hcs1⟩ : ∃ cs, entV e = cs := ⟨_, rfl⟩
  simp only [hcs1] at HBE HP1 HBK1 ⊢
  have HC1 := Lib.hid hcs1
  clear hcs1 hblk1 hbel1
  have hl1 := (HP1.out.all _ (Below.refl _ _)).adr
  rw [HC1.out] at HA
  have hl2 := HA.out.1
  clear ha HA
  go_enter Tryd.func102, Tryd.ntmps102
  go_wp2_with (first | ((with_reducible show wpList _ _ _ (Oper.mk _ (Op.load _ _) _ _ _ _ :: _) _ _); refine wpList_load_g hl1 _ rfl rfl (by go_simp) ?_) | ((with_reducible show wpList _ _ _ (Oper.mk _ (Op.load _ _) _ _ _ _ :: _) _ _); refine wpList_load_g hl2 _ rfl rfl (by go_simp) ?_) | ((with_reducible show wpList _ _ _ (Oper.mk _ (Op.binOp _ _ _ _ _) _ _ _ _ :: _) _ _); refine wpList_exw rfl (sA_exec rfl e.v e.l v l rfl rfl heo.l hl heo.v hv _) ?_))
  go_ret
  exact ⟨rfl, HBE.out⟩
set_option maxHeartbeats 1000000 in
theorem indexfP_any (A : Option Addr) (n c : Nat) (t : List Ent) (w : World) (g : Nat) (hr : RS entK w A n c t) (hn : n ≤ 1000000) (q : Ent → Bool)
    (hq : ∀ i, i < n → ∀ w1, Below w.heap.size w w1 → Calls Tryd.prog 102 #[entK.val (entK.at_ t i), .pointer (some ⟨g, 0, none⟩)] w1 fun e w2 => e = .returned (.bool (q (entK.at_ t i))) ∧ Below w1.heap.size w1 w2) :
    Calls Tryd.prog 101 #[.slice A n c, .func (Fn.func 102) #[] #[.pointer (some ⟨g, 0, none⟩)]] w fun e w' => e = .returned (.int .i64 (idxE q t)) ∧ Below w.heap.size w w' := by
  have HR := Lib.hid hr
  have HQ := Lib.hid hq
  clear hr hq
  go_enter Tryd.func101, Tryd.ntmps101
  go_wp2_with fail
  go_loopw [8] (fun x wr => ∃ i : Nat, x = .int .i64 i ∧ Hid (i ≤ n ∧ (∀ k, k < i → q (entK.at_ t k) = false) ∧ Below w.heap.size w wr)) (fun x _ => n - (intOf x).toNat)
  case atStart => exact ⟨0, rfl, Nat.zero_le _, fun k h => by omega, Below.refl _ _⟩
  case round =>
    obtain ⟨i, rfl, HH⟩ := hrel
    by_cases hlt : i < n
    · have hlt' : (i : Int) < n := by omega
      obtain ⟨b, o, rfl, hc⟩ := RS.at_ HR.out (by omega)
      have hld := Shape.ld entK wr b _ _ (RS.fits_at HR.out hlt) ((hc i hlt).below HH.out.2.2)
      have HIL := Lib.hid (show i < t.length by rw [HR.out.len]; exact hlt)
      clear hc
      go_wp2_with (first | ((with_reducible show wpList _ _ _ (Oper.mk _ (Op.load _ _) _ _ _ _ :: _) _ _); refine wpList_load_g hld _ rfl rfl (by go_simp) ?_))
      refine (HQ.out i hlt wr HH.out.2.2).mono ?_
      rintro e w2 ⟨rfl, hb2⟩
      have HB2 := Lib.hid (below_step HH.out.2.2 hb2)
      clear hb2 hld
      cases hqq : q (entK.at_ t i) with
      | true =>
        have HE : Hid (idxE q t = (i : Int)) := Lib.hid (idxE_at (S := entK) HIL.out hqq HH.out.2.1)
        clear hqq
        go_wp2
        go_ret
        rw [HE.out]
        exact ⟨rfl, HB2.out⟩
      | false =>
        have HN := Lib.hid hqq
        clear hqq
        go_wp2_with fail
        go_roundw
        case measure => simp [intOf]; omega
        case rel =>
          refine ⟨i + 1, by go_num, by omega, fun k hk => ?_, HB2.out⟩
          by_cases hki : k < i
          · exact HH.out.2.1 k hki
          · rw [show k = i by omega]; exact HN.out
    · have hlt' : decide (i < n) = false := decide_eq_false hlt
      have HE : Hid (idxE q t = -1) := Lib.hid (idxE_none (S := entK) (fun k hk => HH.out.2.1 k (by rw [HR.out.len] at hk; omega)))
      clear hlt
      go_wp2
      go_ret
      rw [HE.out]
      exact ⟨rfl, HH.out.2.2⟩
theorem cplace_any (x : Cac) (es : List Ent) (v : Int) (l : List Int) (w : World) (he : RE w x.A x.n x.c es) (oe : Oke es) (hn : x.n ≤ 100000) (hl : B16 l) (hv : (Lit.int .i64 v).wf = true) :
    Calls Tryd.prog 58 #[.agg x.vv, .agg (adrV v l)] w fun r w' => r = .returned (.int .i64 (idxE (fun e => sA e.v e.l v l) es)) ∧ Below w.heap.size w w' := by
  have hblk1 := blk_new w (.cells (x.vv) 25)
  have hbel1 : Below w.heap.size w (w.alloc (.cells (x.vv) 25)) := below_alloc (Below.refl _ _) _
  have hblk2 := blk_new (w.alloc (.cells (x.vv) 25)) (.cells (adrV v l) 31)
  have hbel2 : Below w.heap.size w ((w.alloc (.cells (x.vv) 25)).alloc (.cells (adrV v l) 31)) := below_alloc (hbel1) _
  rw [show (w.alloc (.cells (x.vv) 25)).heap.size = w.heap.size + 1 by simp] at hblk2
  replace hblk1 := blk_below hblk1 (below_alloc (Below.refl _ _) (.cells (adrV v l) 31))
  have HP1 := Lib.hid (cac_at hblk1)
  have HBK1 := Lib.hid hblk1
  have HP2 := Lib.hid (adr_at hl hblk2)
  have HBK2 := Lib.hid hblk2
  have HBE := Lib.hid hbel2
  obtain ⟨cs1, hcs1⟩ : ∃ cs, x.vv = cs := ⟨_, rfl⟩
  obtain ⟨cs2, hcs2⟩ : ∃ cs, adrV v l = cs := ⟨_, rfl⟩
  simp only [hcs1, hcs2] at HBE HP1 HP2 HBK1 HBK2 ⊢
  have HC1 := Lib.hid hcs1
  have HC2 := Lib.hid hcs2
  clear hcs1 hblk1 hbel1 hcs2 hblk2 hbel2
  have HE := Lib.hid (he.below HBE.out)
  have hl1 := (HP1.out.all _ (Below.refl _ _)).ents
  clear he
  go_enter Tryd.func58, Tryd.ntmps58
  go_wp2_with (first | ((with_reducible show wpList _ _ _ (Oper.mk _ (Op.load _ _) _ _ _ _ :: _) _ _); refine wpList_load_g hl1 _ rfl rfl (by go_simp) ?_))
  refine (indexfP_any x.A x.n x.c es _ _ HE.out (by omega) (fun e => sA e.v e.l v l) (fun i hi w1 hb1 => cplace1_any (entAt es i) v l _ w1 (oe.at_ (by rw [HE.out.len]; exact hi)) hl hv ?_)).mono ?_
  · exact ⟨fun w0 hb0 => HP2.out.all w0 (below_step hb1 hb0)⟩
  rintro e w1 ⟨rfl, hb1⟩
  have HB1 := Lib.hid (below_step HBE.out hb1)
  clear hb1
  go_wp2
  go_ret
  exact ⟨rfl, HB1.out⟩
end Go.Proofs.YtihfaknflfmohaaDoor

/- Layer 27 (cache): front. -/
namespace Go.Proofs.YtihfaknflfmohaaDoor
open Go.RowKit
set_option linter.unusedVariables false
set_option linter.unusedSimpArgs false
set_option maxRecDepth 4000
theorem cutHM {α : Type} (S : Shape α) (A : Option Addr) (n c : Nat) (r m : Int) (k l : Nat) (hr : r = k) (hm : m = l) (hk : k ≤ l) (hl : l ≤ c) (W : World) : (Instr.slice S.ts (.slice A n c) none (some (.int .i64 r)) (some (.int .i64 m))).run Tryd.prog W = .ok (.slice A k l) W := by
  subst hr; subst hm
  rw [run_slice_hm W S.ts A n c S.undE .i64 .i64 k l (by omega) (by omega) (by omega), S.elem, S.run_size]
  have h0 : (fun x : Addr => x.add 0) = id := by funext x; simp [Addr.add]
  simp [sliced, Result.andThen, h0]
theorem run_make_shp {α : Type} (S : Shape α) (W : World) (n : Nat) (hn : n ≤ 1000000000) : (Instr.makeSlice S.ts (.int .i64 (n : Int)) (.int .i64 (n : Int))).run Tryd.prog W = .ok (.slice (some ⟨W.heap.size, 0, none⟩) n n) (W.alloc (.cells (S.cells (List.replicate n S.z)).toArray S.t)) := by
  obtain ⟨i0, hi, hz⟩ := Option.map_eq_some_iff.1 S.info
  simp only [Prod.mk.injEq] at hz
  obtain ⟨hz0, hz1, hz2⟩ := hz
  have hb1 := S.blt
  have hb : i0.bytes * n ≤ 10000 * 1000000000 := Nat.mul_le_mul (by omega) hn
  have hb2 : (i0.bytes : Int) * (n : Int) ≤ 281474976710656 := by
    have : ((i0.bytes * n : Nat) : Int) ≤ 281474976710656 := by omega
    rwa [Int.natCast_mul] at this
  have hr := run_make (P := Tryd.prog) W S.ts S.t i0 (S.val S.z) S.und hi hz0 .i64 .i64 n n (by omega) (by omega) hb2 (by omega)
  simp only [Int.toNat_natCast] at hr
  rw [hr]
  have e : madeCells (S.val S.z).cells (n * i0.size) = (S.cells (List.replicate n S.z)).toArray := by
    rw [hz1, S.zenc, shp_replicate]
    have h := zero_cells (S.enc S.z) (by rw [S.len _ S.okz]; exact S.pos) n
    rw [← h]
    unfold Builtin.zeroCells madeCells
    rw [List.size_toArray, S.len _ S.okz]
  rw [e]
theorem OS.made {α : Type} (S : Shape α) (W : World) (base n : Nat) (hb : base ≤ W.heap.size) (hn : n ≤ 1000000000) : OS S (W.alloc (.cells (S.cells (List.replicate n S.z)).toArray S.t)) base (some ⟨W.heap.size, 0, none⟩) n n (List.replicate n S.z) := by
  have := OS.new S W base (List.replicate n S.z) hb (fun a ha => by rw [List.eq_of_mem_replicate ha]; exact S.okz) (by simp; omega)
  rwa [List.length_replicate] at this
theorem wpList_store_elem {α : Type} {S : Shape α} {w : World} {base n c : Nat} {ad : Addr} {l : List α} {ops : Array Oper} {rest : List Oper} {op : Oper} {a : Act} {Q : Exit → Act → World → Prop} (h : OS S w base (some ad) n c l) (j : Nat) (hj : j < n) (b : α) (hb : S.ok b) (hv : S.val b = .agg (S.enc b).toArray)
    (x y : Operand) (ho : op.op = .store S.t x y) (hx : a.eval x = .pointer (some ⟨ad.block, ad.off + j * S.sz, none⟩)) (hy : a.eval y = S.val b) (hw : Region.wanted op (yielded ops a.tmps) = true)
    (hk : ∀ w', w.grownBy w' (some ad.block) → w'.heap.size = w.heap.size → OS S w' base (some ad) n c (l.take j ++ [b] ++ l.drop (j + 1)) → wpList Tryd.prog ops Q rest (a.put op.dst undef) w') : wpList Tryd.prog ops Q (op :: rest) a w := by
  obtain ⟨_, _, cur, hh, hfit, _⟩ := h.ov.form ad rfl
  have hcap := h.cap
  have h2 : (j + 1) * S.sz ≤ c * S.sz := Nat.mul_le_mul_right _ (by omega)
  rw [Nat.add_mul, Nat.one_mul] at h2
  have hsz : (S.enc b).toArray.size = S.sz := by rw [List.size_toArray, S.len _ hb]
  have hr := run_storeAt_mid (P := Tryd.prog) w ad.block (ad.off + j * S.sz) S.t (S.enc b).toArray (blk_there hh _ _ (by rw [hsz]; omega)) (by rw [hsz]; exact S.size) (by rw [← Array.all_toList, List.all_eq_true]; exact fun u hu => S.one b u hu)
  have hO := h.put j [b] (Shape.all_one hb) (by simp; omega)
  rw [Shape.cells_one] at hO
  refine wpList_step (fun K hK => ?_)
  rw [if_pos hw]
  unfold Oper.wp execOp
  simp only [ho, hx, hy, hv, Sem.run_bind, hr, Result.andThen_ok, Sem.run_pure]
  exact hK _ _ (hk _ (setCells_grown _ _ _ _) (setCells_same _ _ _ _).2.2.2 hO)
set_option maxHeartbeats 2000000 in
theorem cfront_miss (A : Option Addr) (n c : Nat) (es : List Ent) (e : Ent) (w : World) (hre : RE w A n c es) (he : e.fits) (hn : n ≤ 100000) : Calls Tryd.prog 59 #[.slice A n c, .agg (entV e), .int .i64 (-1)] w fun r w' => ∃ A' c', r = .returned (.slice A' (n + 1) c') ∧ OS entK w' w.heap.size A' (n + 1) c' (e :: es) ∧ Below w.heap.size w w' := by
  have HF := Lib.hid he
  have hcap := hre.cap
  have hcut : ∀ W : World, (Instr.slice 23 (.slice A n c) none (some (.int .i64 (n : Int))) (some (.int .i64 (n : Int)))).run Tryd.prog W = .ok (.slice A n n) W := fun W => cutHM entK A n c _ _ n n rfl rfl (Nat.le_refl _) hcap W
  have hblk1 := blk_new w (.cells (entV e) 43)
  have hbel1 : Below w.heap.size w (w.alloc (.cells (entV e) 43)) := below_alloc (Below.refl _ _) _
  have HP1 := Lib.hid (ent_at he hblk1)
  have HBK1 := Lib.hid hblk1
  have HBE := Lib.hid hbel1
  obtain ⟨cs1, hcs1⟩ : ∃ cs, entV e = cs := ⟨_, rfl⟩
  simp only [hcs1] at HBE HP1 HBK1 ⊢
  have HC1 := Lib.hid hcs1
  clear hcs1 hblk1 hbel1
  have HE : Hid (RE (w.alloc (.cells cs1 43)) A n n es) := Lib.hid ((hre.below HBE.out).capmono (Nat.le_refl _))
  clear hre
  go_enter Tryd.func59, Tryd.ntmps59
  go_wp2_with fail
  refine wp_region_mix (fun w0 => Below ((w.alloc (.cells cs1 43))).heap.size ((w.alloc (.cells cs1 43))) w0) [(0, 0), (2, 0), (3, 0), (4, 0), (5, 0), (1, 2), (6, 2), (7, 0)] (by kernel_rfl) (by kernel_rfl) (below_drew1 _) ?_
  simp only [List.map_cons, List.map_nil]
  refine wpO_loadW (t := 43) (ad := ⟨w.heap.size, 0, none⟩) rfl rfl ?hw rfl rfl ((fun w0 hS => (HP1.out.all w0 hS).ent)) ?_
  case hw => go_simp
  iterate 4 (refine wpO_step0 rfl rfl (fun K hK => ?_); go_simp; refine hK _ _ ?_; clear hK K)
  refine wpO_step2 rfl rfl (below_drew1 _) (fun K hK => ?_)
  rw [if_pos (show Region.wanted _ _ = true from rfl)]
  refine oper_exec (exec_lit1 entK (x := .tmp 12) rfl e rfl HF.out (by show 37 ≤ _; omega) _) ?_
  refine hK _ _ ⟨below_step (below_drew1 _) (below_alloc (Below.refl _ _) _), ?_⟩
  clear hK K
  refine wpO_step2 rfl rfl (below_step (below_drew1 _) (below_alloc (Below.refl _ _) _)) (fun K hK => ?_)
  rw [if_pos (show Region.wanted _ _ = true from rfl)]
  refine oper_append_shp (S := entK) (.tmp 13) (.tmp 17) rfl rfl rfl (OS.one entK (w.alloc (.cells cs1 43)).drew w.heap.size e (by simp) HF.out) (HE.out.below (below_step (below_drew1 _) (below_alloc (Below.refl _ _) (.cells (entK.enc e).toArray entK.t)))) (by simp; omega) (by omega) ?_
  intro A' c' w' h1 h2 h3
  rw [show 1 + n = n + 1 by omega] at h1 ⊢
  have HB : Hid (Below w.heap.size w w') := Lib.hid (below_own (below_step HBE.out (below_step (below_drew1 _) (below_alloc (Below.refl _ _) _))) h2 (fun ad e => by injection e with e; rw [← e]; simp))
  have H1 : Hid (OS entK w' w.heap.size A' (n + 1) c' (e :: es)) := Lib.hid h1
  have HB2 : Hid (Below (w.alloc (.cells cs1 43)).heap.size (w.alloc (.cells cs1 43)) w') := Lib.hid (below_own (below_step (below_drew1 _) (below_alloc (Below.refl _ _) _)) h2 (fun ad e => by injection e with e; rw [← e]; simp))
  clear h1 h2 h3
  refine hK _ _ ⟨HB2.out, ?_⟩
  clear hK K
  iterate 1 (refine wpO_step0 rfl rfl (fun K hK => ?_); go_simp; refine hK _ _ ?_; clear hK K)
  refine wpO_nil ?_
  go_wp2
  go_ret
  exact ⟨_, _, rfl, H1.out, HB.out⟩
theorem front_list {α : Type} (es : List α) (z e : α) (n i : Nat) (hlen : es.length = n) (hi : i < n) (t1 t2 : List α)
    (h1 : t1 = (List.replicate n z).take 1 ++ (es.take i).take i ++ (List.replicate n z).drop (1 + i))
    (h2 : t2 = t1.take (i + 1) ++ (es.drop (i + 1)).take (n - (i + 1)) ++ t1.drop (i + 1 + (n - (i + 1)))) :
    t2.take 0 ++ [e] ++ t2.drop (0 + 1) = e :: (es.take i ++ es.drop (i + 1)) := by
  have e1 : (List.replicate n z).take 1 = [z] := by
    rw [List.take_replicate, show min 1 n = 1 by omega]
    rfl
  have e2 : (es.take i).take i = es.take i := by rw [List.take_take, Nat.min_self]
  have l2 : (es.take i).length = i := by rw [List.length_take]; omega
  have e3 : t1 = (z :: es.take i) ++ (List.replicate n z).drop (1 + i) := by rw [h1, e1, e2]; rfl
  have l3 : (z :: es.take i).length = i + 1 := by rw [List.length_cons, l2]
  have e4 : t1.take (i + 1) = z :: es.take i := by rw [e3, List.take_left' l3]
  have e5 : t1.drop (i + 1 + (n - (i + 1))) = [] := by
    apply List.drop_of_length_le
    rw [e3, List.length_append, l3, List.length_drop, List.length_replicate]
    omega
  have e6 : (es.drop (i + 1)).take (n - (i + 1)) = es.drop (i + 1) := by
    apply List.take_of_length_le
    rw [List.length_drop, hlen]
    exact Nat.le_refl _
  rw [h2, e4, e5, e6]
  simp
set_option maxHeartbeats 2000000 in
theorem cfront_hit (A : Option Addr) (n c i : Nat) (es : List Ent) (e : Ent) (w : World) (hre : RE w A n c es) (he : e.fits) (hi : i < n) (hn : n ≤ 100000) : Calls Tryd.prog 59 #[.slice A n c, .agg (entV e), .int .i64 (i : Int)] w fun r w' => ∃ A' c', r = .returned (.slice A' n c') ∧ OS entK w' w.heap.size A' n c' (e :: (es.take i ++ es.drop (i + 1))) ∧ Below w.heap.size w w' := by
  have HF := Lib.hid he
  have hcap := hre.cap
  have hlen := hre.len
  have hi0 : decide ((i : Int) < 0) = false := decide_eq_false (by omega)
  have hi1 : IntKind.i64.wrap ((i : Int) + 1) = i + 1 := IntWalk.i64_in _ (by omega)
  have hmk : ∀ W : World, (Instr.makeSlice 23 (.int .i64 (n : Int)) (.int .i64 (n : Int))).run Tryd.prog W = .ok (.slice (some ⟨W.heap.size, 0, none⟩) n n) (W.alloc (.cells (entK.cells (List.replicate n entZ)).toArray 43)) := fun W => run_make_shp entK W n (by omega)
  have hblk1 := blk_new w (.cells (entV e) 43)
  have hbel1 : Below w.heap.size w (w.alloc (.cells (entV e) 43)) := below_alloc (Below.refl _ _) _
  have HP1 := Lib.hid (ent_at he hblk1)
  have HBK1 := Lib.hid hblk1
  have HBE := Lib.hid hbel1
  obtain ⟨cs1, hcs1⟩ : ∃ cs, entV e = cs := ⟨_, rfl⟩
  simp only [hcs1] at HBE HP1 HBK1 ⊢
  have HC1 := Lib.hid hcs1
  clear hcs1 hblk1 hbel1
  have HE := Lib.hid (hre.below HBE.out)
  clear hre
  obtain ⟨W2, hW2⟩ : ∃ W2, W2 = ((w.alloc (.cells cs1 43)).alloc (.cells (entK.cells (List.replicate n entZ)).toArray 43)) := ⟨_, rfl⟩
  have hO1 : OS entK W2 w.heap.size (some ⟨w.heap.size + 1, 0, none⟩) n n (List.replicate n entZ) := by
    rw [hW2]
    have := OS.made entK (w.alloc (.cells cs1 43)) w.heap.size n (by simp) (by omega)
    rw [show (w.alloc (.cells cs1 43)).heap.size = w.heap.size + 1 by simp] at this
    exact this
  have hB1 : Below (w.alloc (.cells cs1 43)).heap.size (w.alloc (.cells cs1 43)) W2 := by rw [hW2]; exact below_alloc (Below.refl _ _) _
  have hcut1 : ∀ W : World, (Instr.slice 23 (.slice A n c) none (some (.int .i64 (i : Int))) (some (.int .i64 (i : Int)))).run Tryd.prog W = .ok (.slice A i i) W := fun W => cutHM entK A n c _ _ i i rfl rfl (Nat.le_refl _) (by omega) W
  obtain ⟨D1, hD1⟩ : ∃ D, (if n = 1 then some (⟨w.heap.size + 1, 0, none⟩ : Addr) else some ((⟨w.heap.size + 1, 0, none⟩ : Addr).add (1 * 37))) = D := ⟨_, rfl⟩
  have hcut2 : ∀ W : World, (Instr.slice 23 (.slice (some ⟨w.heap.size + 1, 0, none⟩) n n) (some (.int .i64 1)) none none).run Tryd.prog W = .ok (.slice D1 (n - 1) (n - 1)) W := fun W => by
    rw [← hD1]
    exact cutL entK (some ⟨w.heap.size + 1, 0, none⟩) n n _ 1 rfl (by omega) W
  obtain ⟨D2, hD2⟩ : ∃ D, (if n = i + 1 then some (⟨w.heap.size + 1, 0, none⟩ : Addr) else some ((⟨w.heap.size + 1, 0, none⟩ : Addr).add ((i + 1) * 37))) = D := ⟨_, rfl⟩
  have hcut3 : ∀ W : World, (Instr.slice 23 (.slice (some ⟨w.heap.size + 1, 0, none⟩) n n) (some (.int .i64 ((i : Int) + 1))) none none).run Tryd.prog W = .ok (.slice D2 (n - (i + 1)) (n - (i + 1))) W := fun W => by
    rw [← hD2]
    exact cutL entK (some ⟨w.heap.size + 1, 0, none⟩) n n _ (i + 1) rfl (by omega) W
  obtain ⟨A3, hA3⟩ : ∃ A3, (if c = i + 1 then A else A.map (·.add ((i + 1) * 37))) = A3 := ⟨_, rfl⟩
  have hcut4 : ∀ W : World, (Instr.slice 23 (.slice A n c) (some (.int .i64 ((i : Int) + 1))) none none).run Tryd.prog W = .ok (.slice A3 (n - (i + 1)) (c - (i + 1))) W := fun W => by
    rw [← hA3]
    exact cutL entK A n c _ (i + 1) rfl (by omega) W
  have hmin1 : min i (n - 1) = i := by omega
  have hmin2 : min (n - (i + 1)) (n - (i + 1)) = n - (i + 1) := by omega
  obtain ⟨w3, hc3, hO3, hg3⟩ := run_copy_shp entK W2.drew 3 ⟨w.heap.size + 1, 0, none⟩ n n 1 (List.replicate n entZ) A i i (es.take i) (hO1.below (below_drew1 W2)) (((HE.out.below hB1).below (below_drew1 W2)).take i (by omega) |>.capmono (Nat.le_refl _)) (by omega) (d := D1) hD1.symm (n - 1)
  rw [hmin1] at hc3 hO3
  have hB3 : Below (w.alloc (.cells cs1 43)).heap.size (w.alloc (.cells cs1 43)) w3 := below_grown (below_step hB1 (below_drew1 W2)) hg3 (by simp)
  have hRD : RE w3.drew A3 (n - (i + 1)) (c - (i + 1)) (es.drop (i + 1)) := by
    have := (HE.out.below (below_step hB3 (below_drew1 w3))).drop (i + 1) (by omega)
    rwa [show (if c = i + 1 then A else Option.map (fun x => x.add ((i + 1) * entK.sz)) A) = A3 from hA3] at this
  obtain ⟨w4, hc4, hO4, hg4⟩ := run_copy_shp entK w3.drew 3 ⟨w.heap.size + 1, 0, none⟩ n n (i + 1) _ A3 (n - (i + 1)) (c - (i + 1)) _ (hO3.below (below_drew1 w3)) hRD (by omega) (d := D2) hD2.symm (n - (i + 1))
  rw [hmin2] at hc4 hO4
  have hB4 : Below (w.alloc (.cells cs1 43)).heap.size (w.alloc (.cells cs1 43)) w4 := below_grown (below_step hB3 (below_drew1 w3)) hg4 (by simp)
  have H4 := Lib.hid (And.intro hO4 hB4)
  clear hO4 hB4 hg4 hRD hB3 hg3 hO3 hB1 hO1 hA3 hD2 hD1 hmin1 hmin2
  have hld := (HP1.out.all w4 H4.out.2).ent
  subst hW2
  go_enter Tryd.func59, Tryd.ntmps59
  go_wp2_with fail
  refine wp_region_mix ((fun _ => True)) [(0, 0), (1, 0), (2, 0), (3, 0), (4, 0), (5, 0), (6, 2)] (by kernel_rfl) (by kernel_rfl) (trivial) ?_
  simp only [List.map_cons, List.map_nil]
  iterate 6 (refine wpO_step0 rfl rfl (fun K hK => ?_); go_simp; refine hK _ _ ?_; clear hK K)
  refine wpO_step2 rfl rfl (trivial) (fun K hK => ?_)
  rw [if_pos (show Region.wanted _ _ = true from rfl)]
  refine oper_exec (exec_copy (.tmp 23) (.tmp 27) _ rfl rfl rfl hc3) ?_
  refine hK _ _ ⟨trivial, ?_⟩
  clear hK K
  refine wpO_nil ?_
  go_wp2_with fail
  refine wp_region_mix ((fun _ => True)) [(0, 0), (1, 0), (2, 0), (3, 0), (4, 0), (5, 0), (6, 0), (7, 0), (8, 2)] (by kernel_rfl) (by kernel_rfl) (trivial) ?_
  simp only [List.map_cons, List.map_nil]
  iterate 8 (refine wpO_step0 rfl rfl (fun K hK => ?_); go_simp; refine hK _ _ ?_; clear hK K)
  refine wpO_step2 rfl rfl (trivial) (fun K hK => ?_)
  rw [if_pos (show Region.wanted _ _ = true from rfl)]
  refine oper_exec (exec_copy (.tmp 32) (.tmp 36) _ rfl rfl rfl hc4) ?_
  refine hK _ _ ⟨trivial, ?_⟩
  clear hK K
  refine wpO_nil ?_
  go_wp2_with (first | ((with_reducible show wpList _ _ _ (Oper.mk _ (Op.load _ _) _ _ _ _ :: _) _ _); refine wpList_load_g hld _ rfl rfl (by go_simp) ?_) | ((with_reducible show wpList _ _ _ (Oper.mk _ (Op.store _ _ _) _ _ _ _ :: _) _ _); refine wpList_store_elem H4.out.1 0 (by omega) e HF.out rfl _ _ rfl rfl rfl rfl ?_; intro w5 hg5 hs5 ho5; have H5 := Lib.hid (And.intro hg5 ho5); clear hg5 hs5 ho5))
  go_ret
  have hl := front_list es entZ e n i hlen hi _ _ rfl rfl
  have h5 := H5.out.2
  rw [hl] at h5
  exact ⟨_, _, rfl, h5, below_grown (below_step HBE.out H4.out.2) H5.out.1 (by show w.heap.size ≤ w.heap.size + 1; omega)⟩
end Go.Proofs.YtihfaknflfmohaaDoor

/- Layer 9 (table): Drop, Same, Set. -/
namespace Go.Proofs.YtihfaknflfmohaaDoor
open Go.RowKit
set_option linter.unusedVariables false
set_option linter.unusedSimpArgs false
set_option maxRecDepth 4000
theorem blk_own {w w1 : World} {g : Nat} {o : Obj} {A : Option Addr} {n c : Nat} (h : w.heap[g]? = some o) (hg : w.grownBy w1 ((Value.slice A n c).ownBlock)) (ha : ∀ ad, A = some ad → g < ad.block) : w1.heap[g]? = some o :=
  blk_grown h hg (fun e => by
    cases A with
    | none => cases e
    | some ad =>
      have := ha ad rfl
      injection e with e
      subst e
      exact Nat.lt_irrefl _ this)
theorem tab_one (A : Option Addr) (n c : Nat) : (tabV A n c).all (·.oneCell') = true := by simp [tabV, Value.oneCell']
theorem splice_tab (A A2 : Option Addr) (n c n2 c2 : Nat) : splice (tabV A n c) 0 (tabV A2 n2 c2).toList = tabV A2 n2 c2 := splice_all _ _ rfl
def dropE (t : List Row) (p : Pfx) : Int := if tabB t then (if thereB t p then 0 else 4) else 190
def dropL (t : List Row) (p : Pfx) : List Row := if dropE t p = 0 then dropT t p else []
set_option maxHeartbeats 2000000 in
theorem tdrop_any (A : Option Addr) (n c : Nat) (t : List Row) (p : Pfx) (w : World) (hL : Laid w) (ht : RT w A n c t) (hp : B16 p.l) (hn : n ≤ 100000) : Calls Tryd.prog 41 #[.agg (tabV A n c), .agg (pfxV p.v p.l p.b)] w fun e w' => ∃ A' n' c', e = .returned (.tuple #[.agg (tabV A' n' c'), .int .i64 (dropE t p)]) ∧ OT w' w.heap.size A' n' c' (dropL t p) ∧ Below w.heap.size w w' := by
  have hblk1 := blk_new w (.cells (tabV A n c) 28)
  have hbel1 : Below w.heap.size w (w.alloc (.cells (tabV A n c) 28)) := below_alloc (Below.refl _ _) _
  have hblk2 := blk_new (w.alloc (.cells (tabV A n c) 28)) (.cells (pfxV p.v p.l p.b) 36)
  have hbel2 : Below w.heap.size w ((w.alloc (.cells (tabV A n c) 28)).alloc (.cells (pfxV p.v p.l p.b) 36)) := below_alloc (hbel1) _
  rw [show (w.alloc (.cells (tabV A n c) 28)).heap.size = w.heap.size + 1 by simp] at hblk2
  replace hblk1 := blk_below hblk1 (below_alloc (Below.refl _ _) (.cells (pfxV p.v p.l p.b) 36))
  have HP1 := Lib.hid (tab_at hblk1)
  have HBK1 := Lib.hid hblk1
  have HP2 := Lib.hid (pfx_at hp hblk2)
  have HBK2 := Lib.hid hblk2
  have HBE := Lib.hid hbel2
  have HL := Lib.hid (hL.below HBE.out)
  obtain ⟨cs1, hcs1⟩ : ∃ cs, tabV A n c = cs := ⟨_, rfl⟩
  obtain ⟨cs2, hcs2⟩ : ∃ cs, pfxV p.v p.l p.b = cs := ⟨_, rfl⟩
  simp only [hcs1, hcs2] at HBE HL HP1 HP2 HBK1 HBK2 ⊢
  have HC1 := Lib.hid hcs1
  have HC2 := Lib.hid hcs2
  clear hL hcs1 hblk1 hbel1 hcs2 hblk2 hbel2
  have HT := Lib.hid (ht.below HBE.out)
  have hsz2 : ((w.alloc (.cells cs1 28)).alloc (.cells cs2 36)).heap.size = w.heap.size + 2 := by simp
  have hz := blk_new ((w.alloc (.cells cs1 28)).alloc (.cells cs2 36)) (.cells (tabV none 0 0) 28)
  rw [hsz2] at hz
  have HZ := Lib.hid hz
  have hl1 := (HP1.out.all _ (below_alloc (Below.refl _ _) (.cells (tabV none 0 0) 28))).1
  rw [HC1.out] at hl1
  have hbn := run_build_tab_nil
  clear ht hz hsz2
  go_enter Tryd.func41, Tryd.ntmps41
  go_wp2_with (first | ((with_reducible show wpList _ _ _ (Oper.mk _ (Op.load _ _) _ _ _ _ :: _) _ _); refine wpList_load_g hl1 _ rfl rfl (by go_simp) ?_))
  have hch := tcheck_any A n c t _ (HL.out.below (below_alloc (Below.refl _ _) (.cells (tabV none 0 0) 28))) (HT.out.below (below_alloc (Below.refl _ _) _)) hn
  rw [HC1.out] at hch
  refine hch.mono ?_
  clear hch
  rintro e w1 ⟨rfl, hbb1⟩
  have HZ1 := Lib.hid (blk_below HZ.out hbb1)
  have HB1 := Lib.hid (below_step (below_alloc (Below.refl _ _) (.cells (tabV none 0 0) 28)) hbb1)
  clear hbb1 hl1 HZ
  cases hR : tabB t with
  | false =>
    have HE := Lib.hid (show dropE t p = 190 ∧ dropL t p = [] by unfold dropL dropE; rw [hR]; exact ⟨rfl, rfl⟩)
    rw [errT_false hR]
    clear hR
    go_wp2_with (first | ((with_reducible show wpList _ _ _ (Oper.mk _ (Op.store _ _ _) _ _ _ _ :: _) _ _); refine wpList_store_blk HZ1.out 28 0 (tabV none 0 0) (Nat.le_refl _) (info_tab _ _ _) (tab_one _ _ _) _ _ rfl rfl rfl rfl ?_; intro w2 hg9 hs9 hb9; rw [splice_tab] at hb9; have H2 := Lib.hid (And.intro hg9 hb9); clear hg9 hs9 hb9))
    have hld := load_tab H2.out.2
    refine bodyPost_ret (results_c2 rfl rfl hld) rfl ?_
    rw [HE.out.1, HE.out.2]
    exact ⟨_, _, _, rfl, OS.nil _ _ _, below_grown (below_step HBE.out HB1.out) H2.out.1 (by omega)⟩
  | true =>
    have HUP := Lib.hid (tabB_to hR)
    have HR := Lib.hid hR
    rw [errT_true hR]
    clear hR
    have hl1 := (HP1.out.all w1 HB1.out).1
    have hl2 := (HP2.out.all w1 HB1.out).2.2.2.2
    rw [HC1.out] at hl1
    rw [HC2.out] at hl2
    go_wp2_with (first | ((with_reducible show wpList _ _ _ (Oper.mk _ (Op.load _ _) _ _ _ _ :: _) _ _); refine wpList_load_g hl1 _ rfl rfl (by go_simp) ?_) | ((with_reducible show wpList _ _ _ (Oper.mk _ (Op.load _ _) _ _ _ _ :: _) _ _); refine wpList_load_g hl2 _ rfl rfl (by go_simp) ?_))
    have hpl := place_any A n c t p w1 (HT.out.below HB1.out) HUP.out.2.2 hp (by have := HUP.out.1; rw [HT.out.len] at this; omega)
    rw [HC1.out, HC2.out] at hpl
    refine hpl.mono ?_
    clear hpl
    rintro e w2 ⟨rfl, hbb2⟩
    have HZ2 := Lib.hid (blk_below HZ1.out hbb2)
    have HB2 := Lib.hid (below_step HB1.out hbb2)
    clear hbb2 hl1 hl2 HZ1
    cases hth : thereB t p with
    | false =>
      have HE := Lib.hid (show dropE t p = 4 ∧ dropL t p = [] by unfold dropL dropE; rw [HR.out, hth]; exact ⟨rfl, rfl⟩)
      clear hth
      go_wp2_with (first | ((with_reducible show wpList _ _ _ (Oper.mk _ (Op.store _ _ _) _ _ _ _ :: _) _ _); refine wpList_store_blk HZ2.out 28 0 (tabV none 0 0) (Nat.le_refl _) (info_tab _ _ _) (tab_one _ _ _) _ _ rfl rfl rfl rfl ?_; intro w3 hg9 hs9 hb9; rw [splice_tab] at hb9; have H3 := Lib.hid (And.intro hg9 hb9); clear hg9 hs9 hb9))
      have hld := load_tab H3.out.2
      refine bodyPost_ret (results_c2 rfl rfl hld) rfl ?_
      rw [HE.out.1, HE.out.2]
      exact ⟨_, _, _, rfl, OS.nil _ _ _, below_grown (below_step HBE.out HB2.out) H3.out.1 (by omega)⟩
    | true =>
      have hlt := lowN_lt hth
      rw [HT.out.len] at hlt
      have HE := Lib.hid (show dropE t p = 0 ∧ dropL t p = t.take (lowN t p) ++ t.drop (lowN t p + 1) by unfold dropL dropE; rw [HR.out, hth]; exact ⟨rfl, rfl⟩)
      clear hth
      obtain ⟨i, hi⟩ : ∃ i, lowN t p = i := ⟨_, rfl⟩
      rw [hi] at hlt HE ⊢
      have hlt' : (i : Int) < n := by omega
      have hl3 := (HP1.out.all w2 HB2.out).2
      clear hi
      go_wp2_with (first | ((with_reducible show wpList _ _ _ (Oper.mk _ (Op.load _ _) _ _ _ _ :: _) _ _); refine wpList_load_g hl3 _ rfl rfl (by go_simp) ?_))
      refine (cloneR_any A n c t w2 (HT.out.below HB2.out) (by omega)).mono ?_
      rintro e w3 ⟨A1, c1, rfl, hO3, hbb3⟩
      have HO3 := Lib.hid hO3
      have HZ3 := Lib.hid (blk_below HZ2.out hbb3)
      have HB3 := Lib.hid (below_step HB2.out hbb3)
      have hi5 : (i : Int) ≤ 100000 := by omega
      have hsz3 := hbb3.size
      clear hO3 hbb3 hl3
      go_wp2_with fail
      refine (deleteR_any w2.heap.size A1 n c1 i t w3 HO3.out hlt (by omega)).mono ?_
      rintro e w4 ⟨rfl, hO4, hg4⟩
      have hsz := blk_lt HZ2.out
      have HZ4 := Lib.hid (blk_own HZ3.out hg4 (fun ad e => by have := HO3.out.base_ ad e; omega))
      have HO4 := Lib.hid hO4
      have hsz0 := (below_step HBE.out HB3.out).size
      have HB4 := Lib.hid (below_own (below_step HBE.out HB3.out) hg4 (fun ad e => by have := HO3.out.base_ ad e; omega))
      have hbt := fun w => run_build_tab w A1 (n - 1) c1
      clear hO4 hg4
      go_wp2_with (first | ((with_reducible show wpList _ _ _ (Oper.mk _ (Op.store _ _ _) _ _ _ _ :: _) _ _); refine wpList_store_blk HZ4.out 28 0 (tabV A1 (n - 1) c1) (Nat.le_refl _) (info_tab _ _ _) (tab_one _ _ _) _ _ rfl rfl rfl rfl ?_; intro w5 hg9 hs9 hb9; rw [splice_tab] at hb9; have H5 := Lib.hid (And.intro hg9 hb9); clear hg9 hs9 hb9))
      have hld := load_tab H5.out.2
      refine bodyPost_ret (results_c2 rfl rfl hld) rfl ?_
      rw [HE.out.1, HE.out.2]
      refine ⟨_, _, _, rfl, (HO4.out.grown H5.out.1 (fun ad e => ?_)).lower (by omega), below_grown HB4.out H5.out.1 (by omega)⟩
      have := HO3.out.base_ ad e
      intro h
      injection h with h
      omega
theorem tsame_any (A : Option Addr) (n c : Nat) (t : List Row) (A2 : Option Addr) (m c2 : Nat) (u : List Row) (w : World) (ht : RT w A n c t) (hu : RT w A2 m c2 u) (ot : Oks t) (ou : Oks u) (hn : n ≤ 100000) (hm : m ≤ 100000) :
    Calls Tryd.prog 46 #[.agg (tabV A n c), .agg (tabV A2 m c2)] w fun e w' => e = .returned (.bool (rowE.eqL t u)) ∧ Below w.heap.size w w' := by
  have hblk1 := blk_new w (.cells (tabV A n c) 28)
  have hbel1 : Below w.heap.size w (w.alloc (.cells (tabV A n c) 28)) := below_alloc (Below.refl _ _) _
  have hblk2 := blk_new (w.alloc (.cells (tabV A n c) 28)) (.cells (tabV A2 m c2) 28)
  have hbel2 : Below w.heap.size w ((w.alloc (.cells (tabV A n c) 28)).alloc (.cells (tabV A2 m c2) 28)) := below_alloc (hbel1) _
  rw [show (w.alloc (.cells (tabV A n c) 28)).heap.size = w.heap.size + 1 by simp] at hblk2
  replace hblk1 := blk_below hblk1 (below_alloc (Below.refl _ _) (.cells (tabV A2 m c2) 28))
  have HP1 := Lib.hid (tab_at hblk1)
  have HBK1 := Lib.hid hblk1
  have HP2 := Lib.hid (tab_at hblk2)
  have HBK2 := Lib.hid hblk2
  have HBE := Lib.hid hbel2
  obtain ⟨cs1, hcs1⟩ : ∃ cs, tabV A n c = cs := ⟨_, rfl⟩
  obtain ⟨cs2, hcs2⟩ : ∃ cs, tabV A2 m c2 = cs := ⟨_, rfl⟩
  simp only [hcs1, hcs2] at HBE HP1 HP2 HBK1 HBK2 ⊢
  have HC1 := Lib.hid hcs1
  have HC2 := Lib.hid hcs2
  clear hcs1 hblk1 hbel1 hcs2 hblk2 hbel2
  have HT := Lib.hid (ht.below HBE.out)
  have HU := Lib.hid (hu.below HBE.out)
  have hl1 := (HP1.out.all _ (Below.refl _ _)).2
  have hl2 := (HP2.out.all _ (Below.refl _ _)).2
  clear ht hu
  go_enter Tryd.func46, Tryd.ntmps46
  go_wp2_with (first | ((with_reducible show wpList _ _ _ (Oper.mk _ (Op.load _ _) _ _ _ _ :: _) _ _); refine wpList_load_g hl1 _ rfl rfl (by go_simp) ?_) | ((with_reducible show wpList _ _ _ (Oper.mk _ (Op.load _ _) _ _ _ _ :: _) _ _); refine wpList_load_g hl2 _ rfl rfl (by go_simp) ?_))
  refine (equalR_any A n c t A2 m c2 u _ HT.out HU.out ot ou (by omega) (by omega)).mono ?_
  rintro e w1 ⟨rfl, hbb1⟩
  have HB1 := Lib.hid hbb1
  clear hbb1 hl1 hl2
  go_wp2
  go_ret
  exact ⟨rfl, below_step HBE.out HB1.out⟩
end Go.Proofs.YtihfaknflfmohaaDoor

/- Layer 27 (cache): asked. -/
namespace Go.Proofs.YtihfaknflfmohaaDoor
open Go.RowKit
set_option linter.unusedVariables false
set_option linter.unusedSimpArgs false
set_option maxRecDepth 4000
structure Tb where
  A : Option Addr
  n : Nat
  c : Nat
  t : List Row
def tbZ : Tb := ⟨none, 0, 0, []⟩
theorem zero_tbl : (Tryd.prog.info? 28).map (fun i => (i.zero, i.size, i.bytes)) = some (some (.agg (tabV none 0 0)), 1, 24) := by kernel_rfl
def tbK : Shape Tb where
  t := 28
  ts := 103
  sz := 1
  bytes := 24
  z := tbZ
  ok := fun _ => True
  enc := fun x => [.slice x.A x.n x.c]
  val := fun x => .agg (tabV x.A x.n x.c)
  len := fun _ _ => rfl
  one := fun x u hu => by rw [List.mem_singleton] at hu; subst hu; rfl
  okz := trivial
  pos := by omega
  bpos := by omega
  blt := by omega
  und := Tryd.underlying103
  info := zero_tbl
  venc := fun _ => rfl
  ld := fun w b o x _ h => load_cells (cs := tabV x.A x.n x.c) h Tryd.underlying28 rfl (info_tab _ _ _)
def tbAt (ts : List Tb) (i : Nat) : Tb := tbK.at_ ts i
def TbOk (w : World) (x : Tb) : Prop := RT w x.A x.n x.c x.t ∧ x.n ≤ 100000
theorem TbOk.below {w w1 : World} {x : Tb} (h : TbOk w x) (hb : Below w.heap.size w w1) : TbOk w1 x := ⟨h.1.below hb, h.2⟩
def askE (x : Cac) (es : List Ent) (ts : List Tb) : Int := if cacB x es then (if ts.all (fun y => tabB y.t) then 0 else 190) else 370
set_option maxRecDepth 100000 in
set_option maxHeartbeats 2000000 in
theorem casked_any (x : Cac) (es : List Ent) (A : Option Addr) (m c : Nat) (ts : List Tb) (w : World) (hL : Laid w) (he : RE w x.A x.n x.c es) (oe : Oke es) (hn : x.n ≤ 100000) (ht : RS tbK w A m c ts) (hm : m ≤ 100) (hts : ∀ y ∈ ts, TbOk w y) :
    Calls Tryd.prog 56 #[.agg x.vv, .slice A m c] w fun r w' => r = .returned (.int .i64 (askE x es ts)) ∧ Below w.heap.size w w' := by
  have hblk1 := blk_new w (.cells (x.vv) 25)
  have hbel1 : Below w.heap.size w (w.alloc (.cells (x.vv) 25)) := below_alloc (Below.refl _ _) _
  have HP1 := Lib.hid (cac_at hblk1)
  have HBK1 := Lib.hid hblk1
  have HBE := Lib.hid hbel1
  have HL := Lib.hid (hL.below HBE.out)
  obtain ⟨cs1, hcs1⟩ : ∃ cs, x.vv = cs := ⟨_, rfl⟩
  simp only [hcs1] at HBE HL HP1 HBK1 ⊢
  have HC1 := Lib.hid hcs1
  clear hL hcs1 hblk1 hbel1
  have HE := Lib.hid (he.below HBE.out)
  have HT := Lib.hid (ht.below HBE.out)
  have HTS := Lib.hid (fun y hy => (hts y hy).below HBE.out)
  have hl1 := (HP1.out.all _ (Below.refl _ _)).cac
  clear he ht hts
  go_enter Tryd.func56, Tryd.ntmps56
  go_wp2_with (first | ((with_reducible show wpList _ _ _ (Oper.mk _ (Op.load _ _) _ _ _ _ :: _) _ _); refine wpList_load_g hl1 _ rfl rfl (by go_simp) ?_))
  refine (ccheck_any x es _ HL.out HE.out oe hn).mono ?_
  rintro e w1 ⟨rfl, hb1⟩
  have HB1 := Lib.hid hb1
  clear hb1 hl1
  cases hc : cacB x es with
  | false =>
    have HF := Lib.hid (show askE x es ts = 370 by unfold askE; rw [hc]; rfl)
    rw [cacE_false hc]
    clear hc
    go_wp2
    go_ret
    rw [HF.out]
    exact ⟨rfl, below_step HBE.out HB1.out⟩
  | true =>
    have HC := Lib.hid hc
    rw [cacE_true hc]
    clear hc
    go_wp2_with fail
    go_loopw [16] (fun y wr => ∃ i : Nat, y = .int .i64 i ∧ Hid (i ≤ m ∧ (∀ k, k < i → tabB (tbAt ts k).t = true) ∧ Below (w.alloc (.cells cs1 25)).heap.size (w.alloc (.cells cs1 25)) wr)) (fun y _ => m - (intOf y).toNat)
    case atStart => exact ⟨0, rfl, Nat.zero_le _, fun k h => by omega, HB1.out⟩
    case round =>
      obtain ⟨i, rfl, HI⟩ := hrel
      by_cases hlt : i < m
      · have hlt' : (i : Int) < m := by omega
        obtain ⟨b, o, rfl, hc⟩ := RS.at_ HT.out (by omega)
        have hld := Shape.ld tbK wr b _ _ (RS.fits_at HT.out hlt) ((hc i hlt).below HI.out.2.2)
        rw [show o + i * tbK.sz = o + i by rw [show i * tbK.sz = i from Nat.mul_one i]] at hld
        have hld : (Instr.loadAt 28 (.pointer (some ⟨b, o + i, none⟩))).run Tryd.prog wr = .ok (.agg (tabV (tbAt ts i).A (tbAt ts i).n (tbAt ts i).c)) wr := hld
        have HIL := Lib.hid (show i < ts.length by rw [HT.out.len]; exact hlt)
        have HTI := Lib.hid ((HTS.out (tbAt ts i) (List.mem_of_getElem? (Shape.at_get (S := tbK) HIL.out))).below HI.out.2.2)
        clear hc
        go_wp2_with (first | ((with_reducible show wpList _ _ _ (Oper.mk _ (Op.load _ _) _ _ _ _ :: _) _ _); refine wpList_load_g hld _ rfl rfl (by go_simp) ?_) | ((with_reducible show wpList _ _ _ (Oper.mk _ (Op.store _ _ _) _ _ _ _ :: _) _ _); refine wpList_store_blk (blk_new wr (.cells (tabV none 0 0) 28)) 28 0 (tabV (tbAt ts i).A (tbAt ts i).n (tbAt ts i).c) (Nat.le_refl _) (info_tab _ _ _) (tab_one _ _ _) _ _ rfl rfl rfl rfl ?_; intro w3 hg9 hs9 hb9; rw [splice_tab] at hb9; have H3 := Lib.hid (And.intro hg9 hb9); clear hg9 hs9 hb9) | ((with_reducible show wpList _ _ _ (Oper.mk _ (Op.load _ _) _ _ _ _ :: _) _ _); refine wpList_load_g (((tab_at H3.out.2).all _ (Below.refl _ _)).1) _ rfl rfl (by go_simp) ?_))
        have HB3 := Lib.hid (below_grown (below_alloc (Below.refl wr.heap.size wr) (.cells (tabV none 0 0) 28)) H3.out.1 (Nat.le_refl _))
        refine (tcheck_any _ _ _ (tbAt ts i).t w3 (HL.out.below (below_step HI.out.2.2 HB3.out)) (HTI.out.1.below HB3.out) HTI.out.2).mono ?_
        rintro e w4 ⟨rfl, hb4⟩
        have HB4 := Lib.hid (below_step HI.out.2.2 (below_step HB3.out hb4))
        clear hb4 hld
        cases hR : tabB (tbAt ts i).t with
        | false =>
          have HF := Lib.hid (show askE x es ts = 190 by
            unfold askE
            rw [HC.out, if_pos rfl, if_neg]
            intro h
            rw [List.all_eq_true] at h
            have h2 := h _ (List.mem_of_getElem? (Shape.at_get (S := tbK) HIL.out))
            exact Bool.false_ne_true (hR.symm.trans h2))
          rw [errT_false hR]
          clear hR
          go_wp2
          go_ret
          rw [HF.out]
          exact ⟨rfl, below_step HBE.out HB4.out⟩
        | true =>
          have HR := Lib.hid hR
          rw [errT_true hR]
          clear hR
          go_wp2_with fail
          go_roundw
          case measure => simp [intOf]; omega
          case rel =>
            refine ⟨i + 1, by go_num, by omega, fun k hk => ?_, HB4.out⟩
            by_cases hki : k < i
            · exact HI.out.2.1 k hki
            · rw [show k = i by omega]; exact HR.out
      · have hlt' : decide (i < m) = false := decide_eq_false hlt
        have HF := Lib.hid (show askE x es ts = 0 by
          unfold askE
          rw [HC.out, if_pos rfl, if_pos]
          rw [List.all_eq_true]
          intro y hy
          obtain ⟨k, hk, e⟩ := List.getElem_of_mem hy
          have h1 := Shape.at_get (S := tbK) hk
          rw [List.getElem?_eq_getElem hk, e] at h1
          rw [Option.some.inj h1]
          exact HI.out.2.1 k (by rw [HT.out.len] at hk; omega))
        have HB := Lib.hid HI.out.2.2
        clear hlt
        go_wp2
        go_ret
        rw [HF.out]
        exact ⟨rfl, below_step HBE.out HB.out⟩
end Go.Proofs.YtihfaknflfmohaaDoor

/- Layer 9 (table): Set. -/
namespace Go.Proofs.YtihfaknflfmohaaDoor
open Go.RowKit
set_option linter.unusedVariables false
set_option linter.unusedSimpArgs false
set_option maxRecDepth 4000
def setE (t : List Row) (p : Pfx) (h : Int) : Int := if tabB t then (if p.right = true ∧ 1 ≤ h ∧ h ≤ 255 then (if thereB t p = false ∧ t.length = 40 then 6 else 0) else 2) else 190
def setL (t : List Row) (p : Pfx) (h : Int) : List Row := if setE t p h = 0 then setT t p h else []
theorem there_eq {t : List Row} {p : Pfx} (hf : Fits t) (hp : B16 p.l) (h : thereB t p = true) : (rowAt t (lowN t p)).p = p := by
  have hlt := lowN_lt h
  unfold thereB at h
  rw [rowAt_get hlt] at h
  exact (Pfx.cmp_zero _ _ (hf.at_ hlt) hp).1 (by simpa using h)
theorem setT_there {t : List Row} {p : Pfx} {h : Int} (hf : Fits t) (hp : B16 p.l) (hth : thereB t p = true) : setT t p h = t.take (lowN t p) ++ ⟨(rowAt t (lowN t p)).p, h⟩ :: t.drop (lowN t p + 1) := by
  rw [there_eq hf hp hth]
  unfold setT
  rw [hth]
  rfl
theorem setT_new {t : List Row} {p : Pfx} {h : Int} (hth : thereB t p = false) : setT t p h = t.take (lowN t p) ++ ⟨p, h⟩ :: t.drop (lowN t p) := by
  unfold setT
  rw [hth]
  rfl
theorem row_patch (r : Row) (hf : r.fits) (h : Int) : rowC ⟨r.p, h⟩ = (rowC r).take 18 ++ Value.int .i64 h :: (rowC r).drop 19 := by
  have h1 := rowC_len hf
  have e : rowC r = (.int .i64 r.p.v :: (nums .u8 r.p.l ++ [.int .i64 r.p.b])) ++ [.int .i64 r.h] := by simp [rowC]
  have e2 : (Value.int .i64 r.p.v :: (nums .u8 r.p.l ++ [.int .i64 r.p.b])).length = 18 := by simp [nums, hf.len]
  rw [List.drop_eq_nil_of_le (by omega), e, List.take_left' e2]
  simp [rowC]
theorem hopB_iff (h : Int) : hopB h = true ↔ 1 ≤ h ∧ h ≤ 255 := by simp [hopB]
set_option maxHeartbeats 4000000 in
theorem tset_any (A : Option Addr) (n c : Nat) (t : List Row) (p : Pfx) (hp9 : Int) (w : World) (hL : Laid w) (ht : RT w A n c t) (hp : B16 p.l) (hn : n ≤ 10000) : Calls Tryd.prog 30 #[.agg (tabV A n c), .agg (pfxV p.v p.l p.b), .int .i64 hp9] w fun e w' => ∃ A' n' c', e = .returned (.tuple #[.agg (tabV A' n' c'), .int .i64 (setE t p hp9)]) ∧ OT w' w.heap.size A' n' c' (setL t p hp9) ∧ Below w.heap.size w w' := by
  have hblk1 := blk_new w (.cells (tabV A n c) 28)
  have hbel1 : Below w.heap.size w (w.alloc (.cells (tabV A n c) 28)) := below_alloc (Below.refl _ _) _
  have hblk2 := blk_new (w.alloc (.cells (tabV A n c) 28)) (.cells (pfxV p.v p.l p.b) 36)
  have hbel2 : Below w.heap.size w ((w.alloc (.cells (tabV A n c) 28)).alloc (.cells (pfxV p.v p.l p.b) 36)) := below_alloc (hbel1) _
  rw [show (w.alloc (.cells (tabV A n c) 28)).heap.size = w.heap.size + 1 by simp] at hblk2
  replace hblk1 := blk_below hblk1 (below_alloc (Below.refl _ _) (.cells (pfxV p.v p.l p.b) 36))
  have HP1 := Lib.hid (tab_at hblk1)
  have HBK1 := Lib.hid hblk1
  have HP2 := Lib.hid (pfx_at hp hblk2)
  have HBK2 := Lib.hid hblk2
  have HBE := Lib.hid hbel2
  have HL := Lib.hid (hL.below HBE.out)
  obtain ⟨cs1, hcs1⟩ : ∃ cs, tabV A n c = cs := ⟨_, rfl⟩
  obtain ⟨cs2, hcs2⟩ : ∃ cs, pfxV p.v p.l p.b = cs := ⟨_, rfl⟩
  simp only [hcs1, hcs2] at HBE HL HP1 HP2 HBK1 HBK2 ⊢
  have HC1 := Lib.hid hcs1
  have HC2 := Lib.hid hcs2
  clear hL hcs1 hblk1 hbel1 hcs2 hblk2 hbel2
  have HT := Lib.hid (ht.below HBE.out)
  have hsz2 : ((w.alloc (.cells cs1 28)).alloc (.cells cs2 36)).heap.size = w.heap.size + 2 := by simp
  have hz := blk_new ((w.alloc (.cells cs1 28)).alloc (.cells cs2 36)) (.cells (tabV none 0 0) 28)
  rw [hsz2] at hz
  have HZ := Lib.hid hz
  have hl1 := (HP1.out.all _ (below_alloc (Below.refl _ _) (.cells (tabV none 0 0) 28))).1
  rw [HC1.out] at hl1
  have hbn := run_build_tab_nil
  clear ht hz hsz2
  go_enter Tryd.func30, Tryd.ntmps30
  go_wp2_with (first | ((with_reducible show wpList _ _ _ (Oper.mk _ (Op.load _ _) _ _ _ _ :: _) _ _); refine wpList_load_g hl1 _ rfl rfl (by go_simp) ?_))
  have hch := tcheck_any A n c t _ (HL.out.below (below_alloc (Below.refl _ _) (.cells (tabV none 0 0) 28))) (HT.out.below (below_alloc (Below.refl _ _) _)) (by omega)
  rw [HC1.out] at hch
  refine hch.mono ?_
  clear hch
  rintro e w1 ⟨rfl, hbb1⟩
  have HZ1 := Lib.hid (blk_below HZ.out hbb1)
  have HB1 := Lib.hid (below_step (below_alloc (Below.refl _ _) (.cells (tabV none 0 0) 28)) hbb1)
  clear hbb1 hl1 HZ
  cases hR : tabB t with
  | false =>
    have HE := Lib.hid (show setE t p hp9 = 190 ∧ setL t p hp9 = [] by unfold setL setE; rw [hR]; exact ⟨rfl, rfl⟩)
    rw [errT_false hR]
    clear hR
    go_wp2_with (first | ((with_reducible show wpList _ _ _ (Oper.mk _ (Op.store _ _ _) _ _ _ _ :: _) _ _); refine wpList_store_blk HZ1.out 28 0 (tabV none 0 0) (Nat.le_refl _) (info_tab _ _ _) (tab_one _ _ _) _ _ rfl rfl rfl rfl ?_; intro w2 hg9 hs9 hb9; rw [splice_tab] at hb9; have H2 := Lib.hid (And.intro hg9 hb9); clear hg9 hs9 hb9))
    have hld := load_tab H2.out.2
    refine bodyPost_ret (results_c2 rfl rfl hld) rfl ?_
    rw [HE.out.1, HE.out.2]
    exact ⟨_, _, _, rfl, OS.nil _ _ _, below_grown (below_step HBE.out HB1.out) H2.out.1 (by omega)⟩
  | true =>
    have HUP := Lib.hid (tabB_to hR)
    have HR := Lib.hid hR
    rw [errT_true hR]
    clear hR
    have hl2 := (HP2.out.all w1 HB1.out).2.2.2.2
    rw [HC2.out] at hl2
    go_wp2_with (first | ((with_reducible show wpList _ _ _ (Oper.mk _ (Op.load _ _) _ _ _ _ :: _) _ _); refine wpList_load_g hl2 _ rfl rfl (by go_simp) ?_))
    have hch := check_any p.v p.l p.b w1 (HL.out.below HB1.out) hp
    rw [HC2.out] at hch
    refine hch.mono ?_
    clear hch
    rintro e w2 ⟨rfl, hbb2⟩
    have HZ2 := Lib.hid (blk_below HZ1.out hbb2)
    have HB2 := Lib.hid (below_step HB1.out hbb2)
    clear hbb2 hl2 HZ1 HB1
    cases hpr : rightP p.v p.l p.b with
    | false =>
      have HE := Lib.hid (show setE t p hp9 = 2 ∧ setL t p hp9 = [] by
        have : p.right = false := hpr
        unfold setL setE
        rw [HR.out, this]
        exact ⟨rfl, rfl⟩)
      rw [errP_false hpr]
      clear hpr
      go_wp2_with (first | ((with_reducible show wpList _ _ _ (Oper.mk _ (Op.store _ _ _) _ _ _ _ :: _) _ _); refine wpList_store_blk HZ2.out 28 0 (tabV none 0 0) (Nat.le_refl _) (info_tab _ _ _) (tab_one _ _ _) _ _ rfl rfl rfl rfl ?_; intro w3 hg9 hs9 hb9; rw [splice_tab] at hb9; have H3 := Lib.hid (And.intro hg9 hb9); clear hg9 hs9 hb9))
      have hld := load_tab H3.out.2
      refine bodyPost_ret (results_c2 rfl rfl hld) rfl ?_
      rw [HE.out.1, HE.out.2]
      exact ⟨_, _, _, rfl, OS.nil _ _ _, below_grown (below_step HBE.out HB2.out) H3.out.1 (by omega)⟩
    | true =>
      have HPR := Lib.hid (show p.right = true from hpr)
      rw [errP_true hpr]
      clear hpr
      go_wp2_with fail
      refine (hop_any hp9 w2).mono ?_
      rintro e w2' ⟨rfl, rfl⟩
      cases hho : hopB hp9 with
      | false =>
        have HE := Lib.hid (show setE t p hp9 = 2 ∧ setL t p hp9 = [] by
          have h2 : ¬ (1 ≤ hp9 ∧ hp9 ≤ 255) := fun h => by rw [(hopB_iff hp9).2 h] at hho; cases hho
          have h3 : setE t p hp9 = 2 := by unfold setE; rw [HR.out, if_pos rfl, if_neg (fun h => h2 h.2)]
          unfold setL
          rw [h3]
          exact ⟨rfl, rfl⟩)
        clear hho
        go_wp2_with (first | ((with_reducible show wpList _ _ _ (Oper.mk _ (Op.store _ _ _) _ _ _ _ :: _) _ _); refine wpList_store_blk HZ2.out 28 0 (tabV none 0 0) (Nat.le_refl _) (info_tab _ _ _) (tab_one _ _ _) _ _ rfl rfl rfl rfl ?_; intro w3 hg9 hs9 hb9; rw [splice_tab] at hb9; have H3 := Lib.hid (And.intro hg9 hb9); clear hg9 hs9 hb9))
        have hld := load_tab H3.out.2
        refine bodyPost_ret (results_c2 rfl rfl hld) rfl ?_
        rw [HE.out.1, HE.out.2]
        exact ⟨_, _, _, rfl, OS.nil _ _ _, below_grown (below_step HBE.out HB2.out) H3.out.1 (by omega)⟩
      | true =>
        have HHO := Lib.hid ((hopB_iff hp9).1 hho)
        clear hho
        have hl1 := (HP1.out.all w2 HB2.out).1
        have hl2 := (HP2.out.all w2 HB2.out).2.2.2.2
        rw [HC1.out] at hl1
        rw [HC2.out] at hl2
        go_wp2_with (first | ((with_reducible show wpList _ _ _ (Oper.mk _ (Op.load _ _) _ _ _ _ :: _) _ _); refine wpList_load_g hl1 _ rfl rfl (by go_simp) ?_) | ((with_reducible show wpList _ _ _ (Oper.mk _ (Op.load _ _) _ _ _ _ :: _) _ _); refine wpList_load_g hl2 _ rfl rfl (by go_simp) ?_))
        have hpl := place_any A n c t p w2 (HT.out.below HB2.out) HUP.out.2.2 hp (by have := HUP.out.1; rw [HT.out.len] at this; omega)
        rw [HC1.out, HC2.out] at hpl
        refine hpl.mono ?_
        clear hpl
        rintro e w3 ⟨rfl, hbb3⟩
        have HZ3 := Lib.hid (blk_below HZ2.out hbb3)
        have HB3 := Lib.hid (below_step HB2.out hbb3)
        have hlow : lowN t p ≤ n := by rw [← HT.out.len]; exact lowN_le t p
        have HTH := Lib.hid (@setT_there t p hp9 HT.out.fits hp)
        have HNEW := Lib.hid (@setT_new t p hp9)
        have hst : setE t p hp9 = if thereB t p = false ∧ n = 40 then 6 else 0 := by
          unfold setE
          rw [HR.out, if_pos rfl, if_pos ⟨HPR.out, HHO.out⟩, HT.out.len]
        have HST := Lib.hid hst
        have HLT := Lib.hid (@lowN_lt t p)
        have hl3 := (HP1.out.all w3 HB3.out).2
        obtain ⟨i, hi⟩ : ∃ i, lowN t p = i := ⟨_, rfl⟩
        obtain ⟨th, hth⟩ : ∃ th, thereB t p = th := ⟨_, rfl⟩
        rw [hi] at hlow HTH HNEW HLT ⊢
        rw [hth] at HTH HNEW HST HLT ⊢
        clear hbb3 hl1 hl2 HZ2 HB2 hst hi hth
        go_wp2_with (first | ((with_reducible show wpList _ _ _ (Oper.mk _ (Op.load _ _) _ _ _ _ :: _) _ _); refine wpList_load_g hl3 _ rfl rfl (by go_simp) ?_))
        refine (cloneR_any A n c t w3 (HT.out.below HB3.out) (by omega)).mono ?_
        rintro e w4 ⟨A1, c1, rfl, hO4, hbb4⟩
        have HO4 := Lib.hid hO4
        have HZ4 := Lib.hid (blk_below HZ3.out hbb4)
        have HB4 := Lib.hid (below_step HB3.out hbb4)
        have hsz34 := hbb4.size
        have hzlt := blk_lt HZ3.out
        have hzn := blk_new w4 (.cells (tabV none 0 0) 28)
        have hbt := fun w => run_build_tab w A1 n c1
        clear hO4 hbb4 hl3 HZ3 HB3
        go_upto_if 45 with (first | ((with_reducible show wpList _ _ _ (Oper.mk _ (Op.store _ _ _) _ _ _ _ :: _) _ _); refine wpList_store_blk hzn 28 0 (tabV A1 n c1) (Nat.le_refl _) (info_tab _ _ _) (tab_one _ _ _) _ _ rfl rfl rfl rfl ?_; intro w5 hg9 hs9 hb9; rw [splice_tab] at hb9; have H5 := Lib.hid (And.intro hg9 hb9); clear hg9 hs9 hb9))
        have hsz5 := H5.out.1.size
        have hA1 := HO4.out.lt
        have hA1b := HO4.out.base_
        have hb4a : Below w4.heap.size w4 (w4.alloc (.cells (tabV none 0 0) 28)) := below_alloc (Below.refl _ _) _
        simp at hsz5
        have HO5 := Lib.hid ((HO4.out.below hb4a).grown H5.out.1 (fun ad e => by have := hA1 ad e; intro h; injection h with h; omega))
        have HZ5 := Lib.hid (blk_grown (blk_below HZ4.out hb4a) H5.out.1 (fun e => by injection e with e; omega))
        have HB5 := Lib.hid (below_grown (below_step HBE.out (below_step HB4.out hb4a)) H5.out.1 (by have := (below_step HBE.out HB4.out).size; omega))
        have hl5 := ((tab_at H5.out.2).all w5 (Below.refl _ _)).2
        clear hzn hbt
        cases th with
        | true =>
          have hlt := HLT.out rfl
          rw [HT.out.len] at hlt
          have hlt' : (i : Int) < n := by omega
          have HE := Lib.hid (show setE t p hp9 = 0 ∧ setL t p hp9 = t.take i ++ ⟨(rowAt t i).p, hp9⟩ :: t.drop (i + 1) by
            have h1 : setE t p hp9 = 0 := by rw [HST.out, if_neg (by simp)]
            unfold setL
            rw [h1, if_pos rfl]
            exact ⟨rfl, HTH.out rfl⟩)
          obtain ⟨ad1, rfl⟩ : ∃ ad, A1 = some ad := by
            cases A1 with
            | none => have := HO5.out.ov.bare rfl; have := HO5.out.cap; omega
            | some ad => exact ⟨ad, rfl⟩
          have hsp : ad1.spot = none := (HO5.out.ov.form _ rfl).2.1
          obtain ⟨b1, o1, s1⟩ := ad1
          simp only at hsp
          subst hsp
          obtain ⟨⟨u, hu⟩, hfz, hO6⟩ := HO5.out.patch hlt ⟨(rowAt t i).p, hp9⟩ (RS.fits_at HT.out hlt) 18 (.int .i64 hp9) (by show 18 < 19; omega) (row_patch _ (RS.fits_at HT.out hlt) hp9)
          have hbl := hA1 _ rfl
          have hbb := hA1b _ rfl
          simp only at hbl hbb
          have hof : o1 + (i * 19 + 18) = o1 + i * 19 + 18 := by omega
          have hu2 : w5.cell? ⟨b1, o1 + i * 19 + 18, none⟩ = some u := by rw [← hof]; exact hu
          have hfz2 : w5.frozen? ⟨b1, o1 + i * 19 + 18, none⟩ = false := by rw [← hof]; exact hfz
          replace hO6 : OS rowK (w5.setCell ⟨b1, o1 + i * 19 + 18, none⟩ (.int .i64 hp9)) w3.heap.size (some ⟨b1, o1, none⟩) n c1 (t.take i ++ ⟨(rowAt t i).p, hp9⟩ :: t.drop (i + 1)) := by rw [← hof]; exact hO6
          clear hu hfz hof
          have HU := Lib.hid hO6
          have hg6 := grown_setCell w5 ⟨b1, o1 + i * 19 + 18, none⟩ (.int .i64 hp9)
          have hl6 := load_tab (blk_grown H5.out.2 hg6 (fun e => by injection e with e; simp only at e; omega))
          have HZ6 := Lib.hid (blk_grown HZ5.out hg6 (fun e => by injection e with e; simp only at e; omega))
          have HB6 := Lib.hid (below_grown HB5.out hg6 (by simp only; have := (below_step HBE.out HB4.out).size; omega))
          clear hO6 hg6
          go_wp2_with (first | ((with_reducible show wpList _ _ _ (Oper.mk _ (Op.load _ _) _ _ _ _ :: _) _ _); refine wpList_load_g hl5 _ rfl rfl (by go_simp) ?_) | ((with_reducible show wpList _ _ _ (Oper.mk _ (Op.load _ _) _ _ _ _ :: _) _ _); refine wpList_load_g hl6 _ rfl rfl (by go_simp) ?_) | ((with_reducible show wpList _ _ _ (Oper.mk _ (Op.store _ _ _) _ _ _ _ :: _) _ _); refine wpList_store_blk HZ6.out 28 0 (tabV (some ⟨b1, o1, none⟩) n c1) (Nat.le_refl _) (info_tab _ _ _) (tab_one _ _ _) _ _ rfl rfl rfl rfl ?_; intro w7 hg9 hs9 hb9; rw [splice_tab] at hb9; have H7 := Lib.hid (And.intro hg9 hb9); clear hg9 hs9 hb9))
          have hld := load_tab H7.out.2
          refine bodyPost_ret (results_c2 rfl rfl hld) rfl ?_
          rw [HE.out.1, HE.out.2]
          refine ⟨_, _, _, rfl, (HU.out.grown H7.out.1 (fun ad e h => ?_)).lower (by omega), below_grown HB6.out H7.out.1 (by omega)⟩
          injection e with e
          subst e
          injection h with h
          simp only at h
          omega
        | false =>
          by_cases h40 : n = 40
          · have HE := Lib.hid (show setE t p hp9 = 6 ∧ setL t p hp9 = [] by
              have h1 : setE t p hp9 = 6 := by rw [HST.out, if_pos ⟨rfl, h40⟩]
              unfold setL
              rw [h1]
              exact ⟨rfl, rfl⟩)
            have h40' : ((n : Int) == 40) = true := by simp; omega
            have hl6 := (HP1.out.all w5 (below_grown (below_step HB4.out hb4a) H5.out.1 HB4.out.size)).2
            clear h40
            go_wp2_with (first | ((with_reducible show wpList _ _ _ (Oper.mk _ (Op.load _ _) _ _ _ _ :: _) _ _); refine wpList_load_g hl6 _ rfl rfl (by go_simp) ?_) | ((with_reducible show wpList _ _ _ (Oper.mk _ (Op.store _ _ _) _ _ _ _ :: _) _ _); refine wpList_store_blk HZ5.out 28 0 (tabV none 0 0) (Nat.le_refl _) (info_tab _ _ _) (tab_one _ _ _) _ _ rfl rfl rfl rfl ?_; intro w7 hg9 hs9 hb9; rw [splice_tab] at hb9; have H7 := Lib.hid (And.intro hg9 hb9); clear hg9 hs9 hb9))
            have hld := load_tab H7.out.2
            refine bodyPost_ret (results_c2 rfl rfl hld) rfl ?_
            rw [HE.out.1, HE.out.2]
            exact ⟨_, _, _, rfl, OS.nil _ _ _, below_grown HB5.out H7.out.1 (by omega)⟩
          · have HE := Lib.hid (show setE t p hp9 = 0 ∧ setL t p hp9 = t.take i ++ ⟨p, hp9⟩ :: t.drop i by
              have h1 : setE t p hp9 = 0 := by rw [HST.out, if_neg (fun h => h40 h.2)]
              unfold setL
              rw [h1, if_pos rfl]
              exact ⟨rfl, HNEW.out rfl⟩)
            have h40' : ((n : Int) == 40) = false := by simp; omega
            have hl6 := (HP1.out.all w5 (below_grown (below_step HB4.out hb4a) H5.out.1 HB4.out.size)).2
            have hl7 := (HP2.out.all w5 (below_grown (below_step HB4.out hb4a) H5.out.1 HB4.out.size)).2.2.2.2
            rw [HC2.out] at hl7
            have hbr := fun w => run_build_row w p hp9 hp.len
            rw [HC2.out] at hbr
            clear h40
            go_wp2_with (first | ((with_reducible show wpList _ _ _ (Oper.mk _ (Op.load _ _) _ _ _ _ :: _) _ _); refine wpList_load_g hl6 _ rfl rfl (by go_simp) ?_) | ((with_reducible show wpList _ _ _ (Oper.mk _ (Op.load _ _) _ _ _ _ :: _) _ _); refine wpList_load_g hl5 _ rfl rfl (by go_simp) ?_) | ((with_reducible show wpList _ _ _ (Oper.mk _ (Op.load _ _) _ _ _ _ :: _) _ _); refine wpList_load_g hl7 _ rfl rfl (by go_simp) ?_) | (refine wpList_exec rfl (exec_build2 (t := 38) (i0 := 0) (i1 := 1) (x0 := .tmp 39) (x1 := .tmp 40) (v0 := .agg cs2) (v1 := .int .i64 hp9) (v := .agg (rowV ⟨p, hp9⟩)) rfl rfl rfl (hbr _)) ?_) | (refine wpList_exec rfl (exec_lit1 rowK (x := .tmp 41) rfl ⟨p, hp9⟩ rfl hp (by show 19 ≤ _; omega) _) ?_))
            have hne1 : ∀ ad, A1 = some ad → ad.block ≠ w5.heap.size := fun ad e => by have := hA1 ad e; omega
            have hrow := blk_new w5 (.cells (rowV ⟨p, hp9⟩) 38)
            refine (insertR_any w3.heap.size A1 n c1 i w5.heap.size t ⟨p, hp9⟩ _ (HO5.out.below (below_alloc (Below.refl _ _) _)) hlow (by omega) (by simp; omega) hrow hp hne1).mono ?_
            rintro e w6 ⟨A2, c2, rfl, hO6, hg6, hA2⟩
            have hsz6 := hg6.size
            simp at hsz6
            have hb5a : Below w5.heap.size w5 (w5.alloc (.cells (rowV ⟨p, hp9⟩) 38)) := below_alloc (Below.refl _ _) _
            have HZ6 := Lib.hid (blk_own (blk_below HZ5.out hb5a) hg6 (fun ad e => by have := hA1b ad e; omega))
            have hz10 := blk_grown (blk_below H5.out.2 hb5a) hg6 (fun e => by
              obtain ⟨ad, e1, e2⟩ := own_of e.symm
              have := hA1 ad e1
              omega)
            have hsz0 := (below_step HBE.out HB4.out).size
            have HB6 := Lib.hid (below_own (below_step HB5.out hb5a) hg6 (fun ad e => by have := hA1b ad e; omega))
            have hc10 : w6.cell? ⟨w4.heap.size, 0, none⟩ = some (.slice A1 n c1) := by rw [blk_cell hz10]; rfl
            have hf10 : w6.frozen? ⟨w4.heap.size, 0, none⟩ = false := blk_frozen hz10 0
            have hz11 : (w6.setCell ⟨w4.heap.size, 0, none⟩ (.slice A2 (n + 1) c2)).heap[w4.heap.size]? = some (.cells (tabV A2 (n + 1) c2) 28 (0, 0)) := blk_set hz10 0 _
            have hl11 := load_tab hz11
            have hg7 := grown_setCell w6 ⟨w4.heap.size, 0, none⟩ (.slice A2 (n + 1) c2)
            have HZ7 := Lib.hid (blk_grown HZ6.out hg7 (fun e => by injection e with e; simp only at e; omega))
            have HB7 := Lib.hid (below_grown HB6.out hg7 (by simp only; omega))
            have hne2 : ∀ ad, A2 = some ad → ad.block ≠ w4.heap.size ∧ w3.heap.size ≤ ad.block := fun ad e => by
              refine ⟨?_, hO6.base_ ad e⟩
              rcases hA2 with h | h
              · have := hA1 ad (h ▸ e); omega
              · have := h ad e; simp at this; omega
            have HO7 := Lib.hid (hO6.grown hg7 (fun ad e h => by injection h with h; simp only at h; exact (hne2 ad e).1 h))
            clear hO6 hg6 hA2 hz10 hz11 hg7 hb5a hne1
            go_wp2_with (first | ((with_reducible show wpList _ _ _ (Oper.mk _ (Op.load _ _) _ _ _ _ :: _) _ _); refine wpList_load_g hl11 _ rfl rfl (by go_simp) ?_) | ((with_reducible show wpList _ _ _ (Oper.mk _ (Op.store _ _ _) _ _ _ _ :: _) _ _); refine wpList_store_blk HZ7.out 28 0 (tabV A2 (n + 1) c2) (Nat.le_refl _) (info_tab _ _ _) (tab_one _ _ _) _ _ rfl rfl rfl rfl ?_; intro w8 hg9 hs9 hb9; rw [splice_tab] at hb9; have H8 := Lib.hid (And.intro hg9 hb9); clear hg9 hs9 hb9))
            have hld := load_tab H8.out.2
            refine bodyPost_ret (results_c2 rfl rfl hld) rfl ?_
            rw [HE.out.1, HE.out.2]
            refine ⟨_, _, _, rfl, (HO7.out.grown H8.out.1 (fun ad e h => ?_)).lower (by omega), below_grown HB7.out H8.out.1 (by omega)⟩
            injection h with h
            have := (hne2 ad e).2
            omega
end Go.Proofs.YtihfaknflfmohaaDoor

/- Layer 9 (table): the document's Same and Get. -/
namespace Go.Proofs.YtihfaknflfmohaaDoor
open Go.RowKit
set_option linter.unusedVariables false
set_option linter.unusedSimpArgs false
set_option maxRecDepth 4000
set_option maxHeartbeats 2000000 in
theorem refsameT_any (A : Option Addr) (n c : Nat) (t : List Row) (A2 : Option Addr) (m c2 : Nat) (u : List Row) (w : World) (ht : RT w A n c t) (hu : RT w A2 m c2 u) (ot : Oks t) (ou : Oks u) (hn : n ≤ 100000) (hm : m ≤ 100000) :
    Calls Tryd.prog 43 #[.agg (tabV A n c), .agg (tabV A2 m c2)] w fun e w' => e = .returned (.bool (rowE.eqL t u)) ∧ Below w.heap.size w w' := by
  have hblk1 := blk_new w (.cells (tabV A n c) 28)
  have hbel1 : Below w.heap.size w (w.alloc (.cells (tabV A n c) 28)) := below_alloc (Below.refl _ _) _
  have hblk2 := blk_new (w.alloc (.cells (tabV A n c) 28)) (.cells (tabV A2 m c2) 28)
  have hbel2 : Below w.heap.size w ((w.alloc (.cells (tabV A n c) 28)).alloc (.cells (tabV A2 m c2) 28)) := below_alloc (hbel1) _
  rw [show (w.alloc (.cells (tabV A n c) 28)).heap.size = w.heap.size + 1 by simp] at hblk2
  replace hblk1 := blk_below hblk1 (below_alloc (Below.refl _ _) (.cells (tabV A2 m c2) 28))
  have HP1 := Lib.hid (tab_at hblk1)
  have HBK1 := Lib.hid hblk1
  have HP2 := Lib.hid (tab_at hblk2)
  have HBK2 := Lib.hid hblk2
  have HBE := Lib.hid hbel2
  obtain ⟨cs1, hcs1⟩ : ∃ cs, tabV A n c = cs := ⟨_, rfl⟩
  obtain ⟨cs2, hcs2⟩ : ∃ cs, tabV A2 m c2 = cs := ⟨_, rfl⟩
  simp only [hcs1, hcs2] at HBE HP1 HP2 HBK1 HBK2 ⊢
  have HC1 := Lib.hid hcs1
  have HC2 := Lib.hid hcs2
  clear hcs1 hblk1 hbel1 hcs2 hblk2 hbel2
  have H1 := Lib.hid (ht.below HBE.out)
  have H2 := Lib.hid (hu.below HBE.out)
  have O1 := Lib.hid ot
  have O2 := Lib.hid ou
  have hl1 := (HP1.out.all _ (Below.refl _ _)).2
  have hl2 := (HP2.out.all _ (Below.refl _ _)).2
  clear ht hu ot ou
  by_cases hnm : n = m
  · subst hnm
    have HLEN := Lib.hid (show t.length = u.length by rw [H1.out.len, H2.out.len])
    go_enter Tryd.func43, Tryd.ntmps43
    go_wp2_with (first | ((with_reducible show wpList _ _ _ (Oper.mk _ (Op.load _ _) _ _ _ _ :: _) _ _); refine wpList_load_g hl1 _ rfl rfl (by go_simp) ?_) | ((with_reducible show wpList _ _ _ (Oper.mk _ (Op.load _ _) _ _ _ _ :: _) _ _); refine wpList_load_g hl2 _ rfl rfl (by go_simp) ?_))
    clear hl1 hl2
    go_loopw [5] (fun x wr => ∃ i : Nat, x = .int .i64 i ∧ Hid (i ≤ n ∧ (∀ k, k < i → rowE.eqB (rowAt t k) (rowAt u k) = true) ∧ Below ((w.alloc (.cells cs1 28)).alloc (.cells cs2 28)).heap.size ((w.alloc (.cells cs1 28)).alloc (.cells cs2 28)) wr)) (fun x _ => n - (intOf x).toNat)
    case atStart => exact ⟨0, rfl, Nat.zero_le _, fun k h => by omega, Below.refl _ _⟩
    case round =>
      obtain ⟨i, rfl, HH⟩ := hrel
      have hl1 := (HP1.out.all wr HH.out.2.2).2
      by_cases hlt : i < n
      · have hlt' : (i : Int) < n := by omega
        obtain ⟨b, o, rfl, hc⟩ := RT.at_ H1.out (by omega)
        obtain ⟨b2, o2, rfl, hc2⟩ := RT.at_ H2.out (by omega)
        have HC3 := Lib.hid (hc i hlt)
        have HC4 := Lib.hid (hc2 i hlt)
        clear hc hc2
        go_wp2_with (first | ((with_reducible show wpList _ _ _ (Oper.mk _ (Op.load _ _) _ _ _ _ :: _) _ _); refine wpList_load_g hl1 _ rfl rfl (by go_simp) ?_))
        refine wp_region_mix (fun w0 => Below (wr).heap.size (wr) w0) [(0, 0), (1, 0), (2, 0), (3, 0), (4, 0), (5, 0), (6, 0), (7, 0), (8, 0), (9, 0), (10, 0)] (by kernel_rfl) (by kernel_rfl) (below_drew1 _) ?_
        simp only [List.map_cons, List.map_nil]
        iterate 1 (refine wpO_step0 rfl rfl (fun K hK => ?_); go_simp; refine hK _ _ ?_; clear hK K)
        refine wpO_loadW (t := 26) (ad := ⟨w.heap.size, 0, none⟩) rfl rfl ?hw rfl rfl ((fun w0 hS => (HP1.out.all w0 (below_step HH.out.2.2 hS)).2)) ?_
        case hw => go_simp
        iterate 2 (refine wpO_step0 rfl rfl (fun K hK => ?_); go_simp; refine hK _ _ ?_; clear hK K)
        refine wpO_loadW (t := 38) (ad := ⟨b, (o+i*19), none⟩) rfl rfl ?hw rfl rfl ((fun w0 hS => Shape.ld rowK w0 b _ _ (H1.out.fits_at hlt) (HC3.out.below (below_step HH.out.2.2 hS)))) ?_
        case hw => go_simp
        iterate 1 (refine wpO_step0 rfl rfl (fun K hK => ?_); go_simp; refine hK _ _ ?_; clear hK K)
        refine wpO_loadW (t := 26) (ad := ⟨(w.heap.size+1), 0, none⟩) rfl rfl ?hw rfl rfl ((fun w0 hS => (HP2.out.all w0 (below_step HH.out.2.2 hS)).2)) ?_
        case hw => go_simp
        iterate 2 (refine wpO_step0 rfl rfl (fun K hK => ?_); go_simp; refine hK _ _ ?_; clear hK K)
        refine wpO_loadW (t := 38) (ad := ⟨b2, (o2+i*19), none⟩) rfl rfl ?hw rfl rfl ((fun w0 hS => Shape.ld rowK w0 b2 _ _ (H2.out.fits_at hlt) (HC4.out.below (below_step HH.out.2.2 hS)))) ?_
        case hw => go_simp
        refine wpO_step0 rfl rfl (fun K hK => ?_)
        rw [if_pos (show Region.wanted _ _ = true from rfl)]
        refine ⟨_, fun w0 => ShapeEq.neq rowE rfl (rowAt t i) (rowAt u i) rfl rfl (ShapeEq.all_at (E := rowE) O1.out (by rw [H1.out.len]; exact hlt)) (ShapeEq.all_at (E := rowE) O2.out (by rw [H2.out.len]; exact hlt)) w0, hK _ _ ?_⟩
        clear hK K
        refine wpO_nil ?_
        cases hq : rowE.eqB (rowAt t i) (rowAt u i) with
        | true =>
          have HQ := Lib.hid hq
          clear hq
          go_wp2_with fail
          go_roundw
          case measure => simp [intOf]; omega
          case rel =>
            refine ⟨i + 1, by go_num, by omega, fun k hk => ?_, below_step HH.out.2.2 (below_drew1 _)⟩
            by_cases hki : k < i
            · exact HH.out.2.1 k hki
            · rw [show k = i by omega]; exact HQ.out
        | false =>
          have HE : Hid (rowE.eqL t u = false) := Lib.hid (ShapeEq.eqL_no (by rw [H1.out.len]; exact hlt) (by rw [H2.out.len]; exact hlt) hq)
          clear hq
          go_wp2
          go_ret
          rw [HE.out]
          exact ⟨rfl, below_step HBE.out (below_step HH.out.2.2 (below_drew1 _))⟩
      · have hlt' : decide (i < n) = false := decide_eq_false hlt
        have HE : Hid (rowE.eqL t u = true) := Lib.hid (ShapeEq.eqL_yes HLEN.out (fun k hk => HH.out.2.1 k (by rw [H1.out.len] at hk; have := HH.out.1; omega)))
        clear hlt
        go_wp2_with (first | ((with_reducible show wpList _ _ _ (Oper.mk _ (Op.load _ _) _ _ _ _ :: _) _ _); refine wpList_load_g hl1 _ rfl rfl (by go_simp) ?_))
        go_ret
        rw [HE.out]
        exact ⟨rfl, below_step HBE.out HH.out.2.2⟩
  · have HE : Hid (rowE.eqL t u = false) := Lib.hid (ShapeEq.eqL_len (by rw [H1.out.len, H2.out.len]; exact hnm))
    have hnm' : (n == m) = false := by simpa using hnm
    clear hnm
    go_enter Tryd.func43, Tryd.ntmps43
    go_wp2_with (first | ((with_reducible show wpList _ _ _ (Oper.mk _ (Op.load _ _) _ _ _ _ :: _) _ _); refine wpList_load_g hl1 _ rfl rfl (by go_simp) ?_) | ((with_reducible show wpList _ _ _ (Oper.mk _ (Op.load _ _) _ _ _ _ :: _) _ _); refine wpList_load_g hl2 _ rfl rfl (by go_simp) ?_))
    go_ret
    rw [HE.out]
    exact ⟨rfl, HBE.out⟩
theorem eqP_eqB (p q : Pfx) : eqP p q = p.eqB q := rfl
theorem find_take {t : List Row} {p : Pfx} {i : Nat} (hi : i < t.length) (h : ∀ k, k < i → eqP (rowAt t k).p p = false) (h2 : eqP (rowAt t i).p p = true) : getR t p = (rowAt t i).h := by
  unfold getR
  have : t.find? (fun r => eqP r.p p) = some (rowAt t i) := by
    rw [List.find?_eq_some_iff_getElem]
    refine ⟨h2, i, hi, ?_, fun j hj => ?_⟩
    · have := rowAt_get hi
      rw [List.getElem?_eq_getElem hi] at this
      exact Option.some.inj this
    · have h3 := h j hj
      have h4 := rowAt_get (t := t) (i := j) (by omega)
      rw [List.getElem?_eq_getElem (by omega)] at h4
      rw [Option.some.inj h4]
      simp [h3]
  rw [this]
theorem find_none {t : List Row} {p : Pfx} (h : ∀ k, k < t.length → eqP (rowAt t k).p p = false) : getR t p = 0 := by
  unfold getR
  have : t.find? (fun r => eqP r.p p) = none := by
    rw [List.find?_eq_none]
    intro x hx
    obtain ⟨i, hi, rfl⟩ := List.getElem_of_mem hx
    have h4 := rowAt_get hi
    rw [List.getElem?_eq_getElem hi] at h4
    rw [Option.some.inj h4, h i hi]
    simp
  rw [this]
set_option maxHeartbeats 2000000 in
theorem refget_any (A : Option Addr) (n c : Nat) (t : List Row) (p : Pfx) (w : World) (ht : RT w A n c t) (ot : Oks t) (hpo : p.ok) (hn : n ≤ 100000) : Calls Tryd.prog 45 #[.agg (tabV A n c), .agg (pfxV p.v p.l p.b)] w fun e w' => e = .returned (.int .i64 (getR t p)) ∧ Below w.heap.size w w' := by
  have hp := hpo.l
  have hblk1 := blk_new w (.cells (tabV A n c) 28)
  have hbel1 : Below w.heap.size w (w.alloc (.cells (tabV A n c) 28)) := below_alloc (Below.refl _ _) _
  have hblk2 := blk_new (w.alloc (.cells (tabV A n c) 28)) (.cells (pfxV p.v p.l p.b) 36)
  have hbel2 : Below w.heap.size w ((w.alloc (.cells (tabV A n c) 28)).alloc (.cells (pfxV p.v p.l p.b) 36)) := below_alloc (hbel1) _
  rw [show (w.alloc (.cells (tabV A n c) 28)).heap.size = w.heap.size + 1 by simp] at hblk2
  replace hblk1 := blk_below hblk1 (below_alloc (Below.refl _ _) (.cells (pfxV p.v p.l p.b) 36))
  have HP1 := Lib.hid (tab_at hblk1)
  have HBK1 := Lib.hid hblk1
  have HP2 := Lib.hid (pfx_at hp hblk2)
  have HBK2 := Lib.hid hblk2
  have HBE := Lib.hid hbel2
  obtain ⟨cs1, hcs1⟩ : ∃ cs, tabV A n c = cs := ⟨_, rfl⟩
  obtain ⟨cs2, hcs2⟩ : ∃ cs, pfxV p.v p.l p.b = cs := ⟨_, rfl⟩
  simp only [hcs1, hcs2] at HBE HP1 HP2 HBK1 HBK2 ⊢
  have HC1 := Lib.hid hcs1
  have HC2 := Lib.hid hcs2
  clear hcs1 hblk1 hbel1 hcs2 hblk2 hbel2
  have HT := Lib.hid (ht.below HBE.out)
  have OT := Lib.hid ot
  clear ht ot
  go_enter Tryd.func45, Tryd.ntmps45
  go_wp2_with fail
  go_loopw [5] (fun x wr => ∃ i : Nat, x = .int .i64 i ∧ Hid (i ≤ n ∧ (∀ k, k < i → eqP (rowAt t k).p p = false) ∧ Below ((w.alloc (.cells cs1 28)).alloc (.cells cs2 36)).heap.size ((w.alloc (.cells cs1 28)).alloc (.cells cs2 36)) wr)) (fun x _ => n - (intOf x).toNat)
  case atStart => exact ⟨0, rfl, Nat.zero_le _, fun k h => by omega, Below.refl _ _⟩
  case round =>
    obtain ⟨i, rfl, HH⟩ := hrel
    have hl1 := (HP1.out.all wr HH.out.2.2).2
    by_cases hlt : i < n
    · have hlt' : (i : Int) < n := by omega
      obtain ⟨b, o, rfl, hc⟩ := RT.at_ HT.out (by omega)
      have HC3 := Lib.hid (hc i hlt)
      have HF := Lib.hid (RT.fits_at HT.out hlt)
      have HO := Lib.hid (OT.out.at_ (i := i) (by rw [HT.out.len]; exact hlt)).p
      clear hc
      go_wp2_with (first | ((with_reducible show wpList _ _ _ (Oper.mk _ (Op.load _ _) _ _ _ _ :: _) _ _); refine wpList_load_g hl1 _ rfl rfl (by go_simp) ?_))
      refine wp_region_mix (fun w0 => Below (wr).heap.size (wr) w0) [(0, 0), (1, 0), (2, 0), (3, 0), (4, 0), (5, 0), (6, 0), (7, 0)] (by kernel_rfl) (by kernel_rfl) (below_drew1 _) ?_
      simp only [List.map_cons, List.map_nil]
      iterate 1 (refine wpO_step0 rfl rfl (fun K hK => ?_); go_simp; refine hK _ _ ?_; clear hK K)
      refine wpO_loadW (t := 26) (ad := ⟨w.heap.size, 0, none⟩) rfl rfl ?hw rfl rfl ((fun w0 hS => (HP1.out.all w0 (below_step HH.out.2.2 hS)).2)) ?_
      case hw => go_simp
      iterate 3 (refine wpO_step0 rfl rfl (fun K hK => ?_); go_simp; refine hK _ _ ?_; clear hK K)
      refine wpO_loadW (t := 36) (ad := ⟨b, (o+i*19), none⟩) rfl rfl ?hw rfl rfl ((fun w0 hS => (rowLd_of HF.out (HC3.out.below (below_step HH.out.2.2 hS))).pfx)) ?_
      case hw => go_simp
      refine wpO_loadW (t := 36) (ad := ⟨(w.heap.size+1), 0, none⟩) rfl rfl ?hw rfl rfl ((fun w0 hS => (HP2.out.all w0 (below_step HH.out.2.2 hS)).2.2.2.2)) ?_
      case hw => go_simp
      rw [← HC2.out]
      refine wpO_step0 rfl rfl (fun K hK => ?_)
      rw [if_pos (show Region.wanted _ _ = true from rfl)]
      refine ⟨_, fun w0 => pfx_eql_exec rfl (rowAt t i).p p rfl rfl HO.out hpo w0, hK _ _ ?_⟩
      clear hK K
      refine wpO_nil ?_
      rw [HC2.out]
      cases hq : (rowAt t i).p.eqB p with
      | true =>
        have HE := Lib.hid (find_take (by rw [HT.out.len]; exact hlt) HH.out.2.1 hq)
        have hl2 := (HP1.out.all wr.drew (below_step HH.out.2.2 (below_drew1 _))).2
        have hl3 := (rowLd_of HF.out (HC3.out.below (below_step HH.out.2.2 (below_drew1 _)))).hop
        clear hq
        go_wp2_with (first | ((with_reducible show wpList _ _ _ (Oper.mk _ (Op.load _ _) _ _ _ _ :: _) _ _); refine wpList_load_g hl2 _ rfl rfl (by go_simp) ?_) | ((with_reducible show wpList _ _ _ (Oper.mk _ (Op.load _ _) _ _ _ _ :: _) _ _); refine wpList_load_g hl3 _ rfl rfl (by go_simp) ?_))
        go_ret
        rw [HE.out]
        exact ⟨rfl, below_step HBE.out (below_step HH.out.2.2 (below_drew1 _))⟩
      | false =>
        have HQ := Lib.hid hq
        clear hq
        go_wp2_with fail
        go_roundw
        case measure => simp [intOf]; omega
        case rel =>
          refine ⟨i + 1, by go_num, by omega, fun k hk => ?_, below_step HH.out.2.2 (below_drew1 _)⟩
          by_cases hki : k < i
          · exact HH.out.2.1 k hki
          · rw [show k = i by omega]; exact HQ.out
    · have hlt' : decide (i < n) = false := decide_eq_false hlt
      have HE := Lib.hid (find_none (t := t) (p := p) (fun k hk => HH.out.2.1 k (by rw [HT.out.len] at hk; have := HH.out.1; omega)))
      clear hlt
      go_wp2_with (first | ((with_reducible show wpList _ _ _ (Oper.mk _ (Op.load _ _) _ _ _ _ :: _) _ _); refine wpList_load_g hl1 _ rfl rfl (by go_simp) ?_))
      go_ret
      rw [HE.out]
      exact ⟨rfl, below_step HBE.out HH.out.2.2⟩
end Go.Proofs.YtihfaknflfmohaaDoor

/- Layer 9 (table): the longest match, by the document. -/
namespace Go.Proofs.YtihfaknflfmohaaDoor
open Go.RowKit
set_option linter.unusedVariables false
set_option linter.unusedSimpArgs false
set_option maxRecDepth 4000
def longR (t : List Row) (v : Int) (l : List Int) : Row := (longest t v l).getD rowZ
def longB (t : List Row) (v : Int) (l : List Int) : Bool := (longest t v l).isSome
theorem long_top {t : List Row} {v : Int} {l : List Int} {r : Row} (ht : rising t = true) (h : Top t v l r) : longR t v l = r ∧ longB t v l = true := by
  unfold longR longB
  rw [(longest_top ht).2 h]
  exact ⟨rfl, rfl⟩
theorem long_no {t : List Row} {v : Int} {l : List Int} (h : ∀ x ∈ t, x.p.has v l = false) : longR t v l = rowZ ∧ longB t v l = false := by
  unfold longR longB
  rw [longest_no.2 h]
  exact ⟨rfl, rfl⟩
theorem has_bits {p : Pfx} {v : Int} {l : List Int} (h : p.has v l = true) : 0 ≤ p.b ∧ p.b ≤ 128 := by
  have h1 : p.right = true := by
    unfold Pfx.has at h
    simp only [Bool.and_eq_true] at h
    exact h.1.1.1
  obtain ⟨b, hb, _, h3⟩ := right_b h1
  omega
theorem row_mem {t : List Row} {i : Nat} (hi : i < t.length) : rowAt t i ∈ t := List.mem_of_getElem? (rowAt_get hi)
theorem rowZ_fits : rowZ.fits := zero16_B
set_option maxHeartbeats 4000000 in
theorem reflongest_any (A : Option Addr) (n c : Nat) (t : List Row) (v : Int) (l : List Int) (w : World) (ht : RT w A n c t) (ot : Oks t) (hup : rising t = true) (hl : B16 l) (hn : n ≤ 100000) : Calls Tryd.prog 28 #[.agg (tabV A n c), .agg (adrV v l)] w fun e w' => e = .returned (.tuple #[.agg (rowV (longR t v l)), .bool (longB t v l)]) ∧ Below w.heap.size w w' := by
  have hblk1 := blk_new w (.cells (tabV A n c) 28)
  have hbel1 : Below w.heap.size w (w.alloc (.cells (tabV A n c) 28)) := below_alloc (Below.refl _ _) _
  have hblk2 := blk_new (w.alloc (.cells (tabV A n c) 28)) (.cells (adrV v l) 31)
  have hbel2 : Below w.heap.size w ((w.alloc (.cells (tabV A n c) 28)).alloc (.cells (adrV v l) 31)) := below_alloc (hbel1) _
  rw [show (w.alloc (.cells (tabV A n c) 28)).heap.size = w.heap.size + 1 by simp] at hblk2
  replace hblk1 := blk_below hblk1 (below_alloc (Below.refl _ _) (.cells (adrV v l) 31))
  have HP1 := Lib.hid (tab_at hblk1)
  have HBK1 := Lib.hid hblk1
  have HP2 := Lib.hid (adr_at hl hblk2)
  have HBK2 := Lib.hid hblk2
  have HBE := Lib.hid hbel2
  obtain ⟨cs1, hcs1⟩ : ∃ cs, tabV A n c = cs := ⟨_, rfl⟩
  obtain ⟨cs2, hcs2⟩ : ∃ cs, adrV v l = cs := ⟨_, rfl⟩
  simp only [hcs1, hcs2] at HBE HP1 HP2 HBK1 HBK2 ⊢
  have HC1 := Lib.hid hcs1
  have HC2 := Lib.hid hcs2
  clear hcs1 hblk1 hbel1 hcs2 hblk2 hbel2
  have HT := Lib.hid (ht.below HBE.out)
  have OT := Lib.hid ot
  have HUP := Lib.hid hup
  have hsz2 : ((w.alloc (.cells cs1 28)).alloc (.cells cs2 31)).heap.size = w.heap.size + 2 := by simp
  have hz := blk_new ((w.alloc (.cells cs1 28)).alloc (.cells cs2 31)) (.cells (rowV rowZ) 38)
  rw [hsz2] at hz
  obtain ⟨W0, hW0⟩ : ∃ W0, ((w.alloc (.cells cs1 28)).alloc (.cells cs2 31)).alloc (.cells (rowV rowZ) 38) = W0 := ⟨_, rfl⟩
  have hb0 : Below ((w.alloc (.cells cs1 28)).alloc (.cells cs2 31)).heap.size ((w.alloc (.cells cs1 28)).alloc (.cells cs2 31)) W0 := hW0 ▸ below_alloc (Below.refl _ _) _
  rw [hW0] at hz
  have HZ := Lib.hid hz
  have HB0 := Lib.hid hb0
  have HW0 := Lib.hid hW0
  clear ht ot hup hz hsz2 hb0
  go_enter Tryd.func28, Tryd.ntmps28
  go_wp2_with fail
  rw [show (((w.alloc (.cells cs1 28)).alloc (.cells cs2 31)).alloc (.cells #[.int .i64 0, .int .u8 0, .int .u8 0, .int .u8 0, .int .u8 0, .int .u8 0, .int .u8 0, .int .u8 0, .int .u8 0, .int .u8 0, .int .u8 0, .int .u8 0, .int .u8 0, .int .u8 0, .int .u8 0, .int .u8 0, .int .u8 0, .int .i64 0, .int .i64 0] 38)) = W0 from hW0]
  clear hW0
  go_loopw [6] (fun x wr => ∃ bt : Int, x = .int .i64 bt ∧ Hid (-1 ≤ bt ∧ bt ≤ 128 ∧ (∀ x ∈ t, x.p.has v l = true → x.p.b ≤ bt) ∧ Below W0.heap.size W0 wr)) (fun x _ => (intOf x + 1).toNat)
  case atStart => exact ⟨128, rfl, by omega, by omega, fun x _ h => (has_bits h).2, Below.refl _ _⟩
  case round =>
    obtain ⟨bt, rfl, HH⟩ := hrel
    by_cases hb0 : 0 ≤ bt
    · have hb128 : bt ≤ 128 := HH.out.2.1
      have hb0' : decide (0 ≤ bt) = true := decide_eq_true hb0
      go_wp2_with fail
      obtain ⟨wo, hwo⟩ : ∃ wo : World, wo = wr := ⟨_, rfl⟩
      rw [← hwo] at HH ⊢
      clear hwo wr
      go_loopw [7] (fun x wr => ∃ i : Nat, x = .int .i64 i ∧ Hid (i ≤ n ∧ (∀ k, k < i → (rowAt t k).p.has v l = true → (rowAt t k).p.b ≠ bt) ∧ Below W0.heap.size W0 wr)) (fun x _ => n - (intOf x).toNat)
      case atStart => exact ⟨0, rfl, Nat.zero_le _, fun k h => by omega, HH.out.2.2.2⟩
      case round =>
        obtain ⟨i, rfl, HI⟩ := hrel
        have HBI := Lib.hid (below_step HB0.out HI.out.2.2)
        have hl1 := (HP1.out.all wr HBI.out).2
        by_cases hlt : i < n
        · have hlt' : (i : Int) < n := by omega
          obtain ⟨b, o, rfl, hc⟩ := RT.at_ HT.out (by omega)
          have HC3 := Lib.hid (hc i hlt)
          have HF := Lib.hid (RT.fits_at HT.out hlt)
          have hbw := wf_le (OT.out.at_ (i := i) (by rw [HT.out.len]; exact hlt)).p.b
          clear hc
          go_wp2_with (first | ((with_reducible show wpList _ _ _ (Oper.mk _ (Op.load _ _) _ _ _ _ :: _) _ _); refine wpList_load_g hl1 _ rfl rfl (by go_simp) ?_))
          clear hl1
          refine wp_region_mix (fun w0 => Below (wr).heap.size (wr) w0) [(0, 0), (1, 0), (2, 0), (3, 0), (4, 0), (5, 0), (6, 0), (7, 0), (8, 0), (9, 0), (10, 0), (11, 0), (12, 0), (13, 0), (14, 0), (15, 0), (16, 0), (17, 2), (18, 0)] (by kernel_rfl) (by kernel_rfl) (below_drew1 _) ?_
          simp only [List.map_cons, List.map_nil]
          iterate 1 (refine wpO_step0 rfl rfl (fun K hK => ?_); go_simp; refine hK _ _ ?_; clear hK K)
          refine wpO_loadW (t := 26) (ad := ⟨w.heap.size, 0, none⟩) rfl rfl ?hw rfl rfl ((fun w0 hS => (HP1.out.all w0 (below_step HBI.out hS)).2)) ?_
          case hw => go_simp
          iterate 4 (refine wpO_step0 rfl rfl (fun K hK => ?_); go_simp; refine hK _ _ ?_; clear hK K)
          refine wpO_loadW (t := 3) (ad := ⟨b, (o+i*19+17), none⟩) rfl rfl ?hw rfl rfl ((fun w0 hS => (rowLd_of HF.out (HC3.out.below (below_step HBI.out hS))).bit)) ?_
          case hw => go_simp
          by_cases hbb : (rowAt t i).p.b = bt
          · have hbb' : ((rowAt t i).p.b == bt) = true := by simpa using hbb
            have HBB := Lib.hid hbb
            clear hbb
            iterate 4 (refine wpO_step0 rfl rfl (fun K hK => ?_); go_simp; refine hK _ _ ?_; clear hK K)
            refine wpO_loadW (t := 26) (ad := ⟨w.heap.size, 0, none⟩) rfl rfl ?hw rfl rfl ((fun w0 hS => (HP1.out.all w0 (below_step HBI.out hS)).2)) ?_
            case hw => go_simp
            iterate 3 (refine wpO_step0 rfl rfl (fun K hK => ?_); go_simp; refine hK _ _ ?_; clear hK K)
            refine wpO_loadW (t := 36) (ad := ⟨b, (o+i*19), none⟩) rfl rfl ?hw rfl rfl ((fun w0 hS => (rowLd_of HF.out (HC3.out.below (below_step HBI.out hS))).pfx)) ?_
            case hw => go_simp
            refine wpO_loadW (t := 31) (ad := ⟨(w.heap.size+1), 0, none⟩) rfl rfl ?hw rfl rfl ((fun w0 hS => (HP2.out.all w0 (below_step HBI.out hS)).1)) ?_
            case hw => go_simp
            refine wpO_step2 rfl rfl (below_drew1 _) (fun K hK => ?_)
            go_simp
            refine (refhas_any (rowAt t i).p v l _ HF.out hl hbw).mono ?_
            rintro e w3 ⟨rfl, hbb3⟩
            have HB3 := Lib.hid (below_step (below_drew1 _) hbb3)
            clear hbb3
            refine hK _ _ ⟨HB3.out, ?_⟩
            clear hK K
            have HB4 := Lib.hid (below_step HI.out.2.2 HB3.out)
            cases hh : (rowAt t i).p.has v l with
            | true =>
              have HE := Lib.hid (long_top HUP.out (show Top t v l (rowAt t i) from ⟨row_mem (by rw [HT.out.len]; exact hlt), hh, fun x hx hxh => by rw [HBB.out]; exact HH.out.2.2.1 x hx hxh⟩))
              have hl2 := (HP1.out.all w3 (below_step HB0.out HB4.out)).2
              have hl3 := (rowLd_of HF.out (HC3.out.below (below_step HB0.out HB4.out))).row
              have HZ3 := Lib.hid (blk_below HZ.out HB4.out)
              clear hh
              iterate 1 (refine wpO_step0 rfl rfl (fun K hK => ?_); go_simp; refine hK _ _ ?_; clear hK K)
              refine wpO_nil ?_
              go_wp2_with (first | ((with_reducible show wpList _ _ _ (Oper.mk _ (Op.load _ _) _ _ _ _ :: _) _ _); refine wpList_load_g hl2 _ rfl rfl (by go_simp) ?_) | ((with_reducible show wpList _ _ _ (Oper.mk _ (Op.load _ _) _ _ _ _ :: _) _ _); refine wpList_load_g hl3 _ rfl rfl (by go_simp) ?_) | ((with_reducible show wpList _ _ _ (Oper.mk _ (Op.store _ _ _) _ _ _ _ :: _) _ _); refine wpList_store_blk HZ3.out 38 0 (rowV (rowAt t i)) (store_row_fit HF.out (rowV_size rowZ_fits)) (info_row HF.out) (rowV_one _) _ _ rfl rfl rfl rfl ?_; intro w5 hg9 hs9 hb9; rw [splice_row HF.out (rowV_size rowZ_fits)] at hb9; have H5 := Lib.hid (And.intro hg9 hb9); clear hg9 hs9 hb9))
              have hld := Shape.ld rowK w5 _ 0 (rowAt t i) HF.out (cells_blk H5.out.2)
              refine bodyPost_ret (results_c2 rfl rfl hld) rfl ?_
              rw [HE.out.1, HE.out.2]
              exact ⟨rfl, below_grown (below_step HBE.out (below_step HB0.out HB4.out)) H5.out.1 (by omega)⟩
            | false =>
              have HQ := Lib.hid hh
              clear hh
              iterate 1 (refine wpO_step0 rfl rfl (fun K hK => ?_); go_simp; refine hK _ _ ?_; clear hK K)
              refine wpO_nil ?_
              go_wp2_with fail
              go_roundw
              case measure => simp [intOf]; omega
              case rel =>
                refine ⟨i + 1, by go_num, by omega, fun k hk hkh => ?_, HB4.out⟩
                by_cases hki : k < i
                · exact HI.out.2.1 k hki hkh
                · rw [show k = i by omega, HQ.out] at hkh
                  cases hkh
          · have hbb' : ((rowAt t i).p.b == bt) = false := by simpa using hbb
            have HBB := Lib.hid hbb
            clear hbb
            repeat first | (refine wpO_step0 rfl rfl (fun K hK => ?_); go_simp; refine hK _ _ ?_; clear hK K) | (refine wpO_step2 rfl rfl (below_drew1 _) (fun K hK => ?_); go_simp; refine hK _ _ ⟨below_drew1 _, ?_⟩; clear hK K)
            refine wpO_nil ?_
            go_wp2_with fail
            go_roundw
            case measure => simp [intOf]; omega
            case rel =>
              refine ⟨i + 1, by go_num, by omega, fun k hk hkh => ?_, below_step HI.out.2.2 (below_drew1 _)⟩
              by_cases hki : k < i
              · exact HI.out.2.1 k hki hkh
              · rw [show k = i by omega]
                exact HBB.out
        · have hlt' : decide (i < n) = false := decide_eq_false hlt
          have HIN := Lib.hid (show ∀ x ∈ t, x.p.has v l = true → x.p.b ≤ bt - 1 by
            intro x hx hxh
            have h1 := HH.out.2.2.1 x hx hxh
            obtain ⟨k, hk, rfl⟩ := List.getElem_of_mem hx
            have h4 := rowAt_get hk
            rw [List.getElem?_eq_getElem hk] at h4
            rw [Option.some.inj h4] at hxh h1 ⊢
            have h2 := HI.out.2.1 k (by rw [HT.out.len] at hk; have := HI.out.1; omega) hxh
            omega)
          clear hlt
          go_wp2_with (first | ((with_reducible show wpList _ _ _ (Oper.mk _ (Op.load _ _) _ _ _ _ :: _) _ _); refine wpList_load_g hl1 _ rfl rfl (by go_simp) ?_))
          go_roundw
          case measure => simp [intOf]; omega
          case rel => exact ⟨bt - 1, by go_num, by omega, by omega, HIN.out, HI.out.2.2⟩
    · have hb0' : decide (0 ≤ bt) = false := decide_eq_false hb0
      have HE := Lib.hid (long_no (t := t) (v := v) (l := l) (fun x hx => by
        rw [Bool.eq_false_iff]
        intro h
        have h1 := HH.out.2.2.1 x hx h
        have h2 := has_bits h
        omega))
      have HZ3 := Lib.hid (blk_below HZ.out HH.out.2.2.2)
      have hbn := run_build_row_nil
      clear hb0
      go_wp2_with (first | (refine wpList_exec rfl (exec_build 38 #[] rfl #[] rfl (hbn _)) ?_) | ((with_reducible show wpList _ _ _ (Oper.mk _ (Op.store _ _ _) _ _ _ _ :: _) _ _); refine wpList_store_blk HZ3.out 38 0 (rowV rowZ) (store_row_fit rowZ_fits (rowV_size rowZ_fits)) (info_row rowZ_fits) (rowV_one _) _ _ rfl rfl rfl rfl ?_; intro w5 hg9 hs9 hb9; rw [splice_row rowZ_fits (rowV_size rowZ_fits)] at hb9; have H5 := Lib.hid (And.intro hg9 hb9); clear hg9 hs9 hb9))
      have hld := Shape.ld rowK w5 _ 0 rowZ rowZ_fits (cells_blk H5.out.2)
      refine bodyPost_ret (results_c2 rfl rfl hld) rfl ?_
      rw [HE.out.1, HE.out.2]
      exact ⟨rfl, below_grown (below_step HBE.out (below_step HB0.out HH.out.2.2.2)) H5.out.1 (by omega)⟩
end Go.Proofs.YtihfaknflfmohaaDoor

/- Layer 5 (prefix): Holds. -/
namespace Go.Proofs.YtihfaknflfmohaaDoor
open Go.RowKit
set_option linter.unusedVariables false
set_option linter.unusedSimpArgs false
set_option maxRecDepth 4000

end Go.Proofs.YtihfaknflfmohaaDoor

/- Layer 9 (table): Longest. -/
namespace Go.Proofs.YtihfaknflfmohaaDoor
open Go.RowKit
set_option linter.unusedVariables false
set_option linter.unusedSimpArgs false
set_option maxRecDepth 4000
def longE (t : List Row) (v : Int) (l : List Int) : Int := if tabB t then errA v l else 190
def longRE (t : List Row) (v : Int) (l : List Int) : Row := if longE t v l = 0 then longR t v l else rowZ
def longBE (t : List Row) (v : Int) (l : List Int) : Bool := if longE t v l = 0 then longB t v l else false
theorem long_nil (v : Int) (l : List Int) : longR [] v l = rowZ ∧ longB [] v l = false := ⟨rfl, rfl⟩
theorem long_skip {t : List Row} {v : Int} {l : List Int} {i : Nat} (hi : i < t.length) (h : (rowAt t i).p.has v l = false) : longR (t.take (i + 1)) v l = longR (t.take i) v l ∧ longB (t.take (i + 1)) v l = longB (t.take i) v l := by
  have e : t.take (i + 1) = t.take i ++ [rowAt t i] := Shape.take_succ (S := rowK) hi
  have e2 : longest (t.take (i + 1)) v l = longest (t.take i) v l := by rw [e, longest_snoc]; unfold bestStep; rw [h]; rfl
  unfold longR longB
  rw [e2]
  exact ⟨rfl, rfl⟩
theorem long_first {t : List Row} {v : Int} {l : List Int} {i : Nat} (hi : i < t.length) (h : (rowAt t i).p.has v l = true) (hb : longB (t.take i) v l = false) : longR (t.take (i + 1)) v l = rowAt t i ∧ longB (t.take (i + 1)) v l = true := by
  have e : t.take (i + 1) = t.take i ++ [rowAt t i] := Shape.take_succ (S := rowK) hi
  have hn : longest (t.take i) v l = none := by
    unfold longB at hb
    cases hx : longest (t.take i) v l with
    | none => rfl
    | some x => rw [hx] at hb; cases hb
  have e2 : longest (t.take (i + 1)) v l = some (rowAt t i) := by rw [e, longest_snoc]; unfold bestStep; rw [h, hn]; rfl
  unfold longR longB
  rw [e2]
  exact ⟨rfl, rfl⟩
theorem long_more {t : List Row} {v : Int} {l : List Int} {i : Nat} (hi : i < t.length) (h : (rowAt t i).p.has v l = true) (hb : longB (t.take i) v l = true) (hc : (longR (t.take i) v l).p.b < (rowAt t i).p.b) : longR (t.take (i + 1)) v l = rowAt t i ∧ longB (t.take (i + 1)) v l = true := by
  have e : t.take (i + 1) = t.take i ++ [rowAt t i] := Shape.take_succ (S := rowK) hi
  have e2 : longest (t.take (i + 1)) v l = some (rowAt t i) := by
    rw [e, longest_snoc]
    unfold bestStep
    rw [h]
    unfold longB at hb
    unfold longR at hc
    cases hx : longest (t.take i) v l with
    | none => rw [hx] at hb; cases hb
    | some x =>
      rw [hx] at hc
      simp only [Option.getD_some] at hc
      simp [hc]
  unfold longR longB
  rw [e2]
  exact ⟨rfl, rfl⟩
theorem long_less {t : List Row} {v : Int} {l : List Int} {i : Nat} (hi : i < t.length) (h : (rowAt t i).p.has v l = true) (hb : longB (t.take i) v l = true) (hc : ¬ (longR (t.take i) v l).p.b < (rowAt t i).p.b) : longR (t.take (i + 1)) v l = longR (t.take i) v l ∧ longB (t.take (i + 1)) v l = true := by
  have e : t.take (i + 1) = t.take i ++ [rowAt t i] := Shape.take_succ (S := rowK) hi
  have e2 : longest (t.take (i + 1)) v l = longest (t.take i) v l := by
    rw [e, longest_snoc]
    unfold bestStep
    rw [h]
    unfold longB at hb
    unfold longR at hc
    cases hx : longest (t.take i) v l with
    | none => rw [hx] at hb; cases hb
    | some x =>
      rw [hx] at hc
      simp only [Option.getD_some] at hc
      simp [hc]
  unfold longR longB at *
  rw [e2]
  exact ⟨rfl, hb⟩
theorem longR_fits {t : List Row} (h : Fits t) (v : Int) (l : List Int) : (longR t v l).fits := by
  unfold longR
  rcases longest_spec v l t with ⟨h1, _⟩ | ⟨i, r, h1, h2⟩
  · rw [h1]; exact zero16_B
  · rw [h1]
    exact h r (List.mem_of_getElem? h2.at_)
set_option maxHeartbeats 4000000 in
theorem tlongest_any (A : Option Addr) (n c : Nat) (t : List Row) (v : Int) (l : List Int) (w : World) (hL : Laid w) (ht : RT w A n c t) (hl : B16 l) (hn : n ≤ 100000) : Calls Tryd.prog 23 #[.agg (tabV A n c), .agg (adrV v l)] w fun e w' => e = .returned (.tuple #[.agg (rowV (longRE t v l)), .bool (longBE t v l), .int .i64 (longE t v l)]) ∧ Below w.heap.size w w' := by
  have hblk1 := blk_new w (.cells (tabV A n c) 28)
  have hbel1 : Below w.heap.size w (w.alloc (.cells (tabV A n c) 28)) := below_alloc (Below.refl _ _) _
  have hblk2 := blk_new (w.alloc (.cells (tabV A n c) 28)) (.cells (adrV v l) 31)
  have hbel2 : Below w.heap.size w ((w.alloc (.cells (tabV A n c) 28)).alloc (.cells (adrV v l) 31)) := below_alloc (hbel1) _
  rw [show (w.alloc (.cells (tabV A n c) 28)).heap.size = w.heap.size + 1 by simp] at hblk2
  replace hblk1 := blk_below hblk1 (below_alloc (Below.refl _ _) (.cells (adrV v l) 31))
  have HP1 := Lib.hid (tab_at hblk1)
  have HBK1 := Lib.hid hblk1
  have HP2 := Lib.hid (adr_at hl hblk2)
  have HBK2 := Lib.hid hblk2
  have HBE := Lib.hid hbel2
  have HL := Lib.hid (hL.below HBE.out)
  obtain ⟨cs1, hcs1⟩ : ∃ cs, tabV A n c = cs := ⟨_, rfl⟩
  obtain ⟨cs2, hcs2⟩ : ∃ cs, adrV v l = cs := ⟨_, rfl⟩
  simp only [hcs1, hcs2] at HBE HL HP1 HP2 HBK1 HBK2 ⊢
  have HC1 := Lib.hid hcs1
  have HC2 := Lib.hid hcs2
  clear hL hcs1 hblk1 hbel1 hcs2 hblk2 hbel2
  have HT := Lib.hid (ht.below HBE.out)
  have hsz2 : ((w.alloc (.cells cs1 28)).alloc (.cells cs2 31)).heap.size = w.heap.size + 2 := by simp
  have hz := blk_new ((w.alloc (.cells cs1 28)).alloc (.cells cs2 31)) (.cells (rowV rowZ) 38)
  rw [hsz2] at hz
  have HZ := Lib.hid hz
  have hl1 := (HP1.out.all _ (below_alloc (Below.refl _ _) (.cells (rowV rowZ) 38))).1
  rw [HC1.out] at hl1
  have hbn := run_build_row_nil
  clear ht hz hsz2
  go_enter Tryd.func23, Tryd.ntmps23
  go_wp2_with (first | ((with_reducible show wpList _ _ _ (Oper.mk _ (Op.load _ _) _ _ _ _ :: _) _ _); refine wpList_load_g hl1 _ rfl rfl (by go_simp) ?_))
  have hch := tcheck_any A n c t _ (HL.out.below (below_alloc (Below.refl _ _) (.cells (rowV rowZ) 38))) (HT.out.below (below_alloc (Below.refl _ _) _)) (by omega)
  rw [HC1.out] at hch
  refine hch.mono ?_
  clear hch
  rintro e w1 ⟨rfl, hbb1⟩
  have HZ1 := Lib.hid (blk_below HZ.out hbb1)
  have HB1 := Lib.hid (below_step (below_alloc (Below.refl _ _) (.cells (rowV rowZ) 38)) hbb1)
  clear hbb1 hl1 HZ
  cases hR : tabB t with
  | false =>
    have HE := Lib.hid (show longE t v l = 190 ∧ longRE t v l = rowZ ∧ longBE t v l = false by
      have h1 : longE t v l = 190 := by unfold longE; rw [hR]; rfl
      unfold longRE longBE
      rw [h1]
      exact ⟨rfl, rfl, rfl⟩)
    rw [errT_false hR]
    clear hR
    go_wp2_with (first | ((with_reducible show wpList _ _ _ (Oper.mk _ (Op.build _ _) _ _ _ _ :: _) _ _); refine wpList_exw rfl (exec_build 38 #[] rfl #[] rfl (hbn _)) ?_) | ((with_reducible show wpList _ _ _ (Oper.mk _ (Op.store _ _ _) _ _ _ _ :: _) _ _); refine wpList_store_blk HZ1.out 38 0 (rowV rowZ) (store_row_fit rowZ_fits (rowV_size rowZ_fits)) (info_row rowZ_fits) (rowV_one _) _ _ rfl rfl rfl rfl ?_; intro w5 hg9 hs9 hb9; rw [splice_row rowZ_fits (rowV_size rowZ_fits)] at hb9; have H5 := Lib.hid (And.intro hg9 hb9); clear hg9 hs9 hb9))
    have hld := Shape.ld rowK w5 _ 0 rowZ rowZ_fits (cells_blk H5.out.2)
    refine bodyPost_ret (results_c3 rfl rfl hld) rfl ?_
    rw [HE.out.1, HE.out.2.1, HE.out.2.2]
    exact ⟨rfl, below_grown (below_step HBE.out HB1.out) H5.out.1 (by omega)⟩
  | true =>
    have HR := Lib.hid hR
    rw [errT_true hR]
    clear hR
    have hl2 := (HP2.out.all w1 HB1.out).1
    rw [HC2.out] at hl2
    go_wp2_with (first | ((with_reducible show wpList _ _ _ (Oper.mk _ (Op.load _ _) _ _ _ _ :: _) _ _); refine wpList_load_g hl2 _ rfl rfl (by go_simp) ?_))
    have hch := checkAddr_any v l w1 (HL.out.below HB1.out) hl
    rw [HC2.out] at hch
    refine hch.mono ?_
    clear hch
    rintro e w2 ⟨rfl, hbb2⟩
    have HZ2 := Lib.hid (blk_below HZ1.out hbb2)
    have HB2 := Lib.hid (below_step HB1.out hbb2)
    have HLE : Hid (longE t v l = errA v l) := Lib.hid (by unfold longE; rw [HR.out]; rfl)
    clear hbb2 hl2 HZ1 HB1
    cases hra : rightA v l with
    | false =>
      have HE := Lib.hid (show longE t v l = 150 ∧ longRE t v l = rowZ ∧ longBE t v l = false by
        have h1 : longE t v l = 150 := by rw [HLE.out, errA_false hra]
        unfold longRE longBE
        rw [h1]
        exact ⟨rfl, rfl, rfl⟩)
      rw [errA_false hra]
      clear hra
      go_wp2_with (first | ((with_reducible show wpList _ _ _ (Oper.mk _ (Op.build _ _) _ _ _ _ :: _) _ _); refine wpList_exw rfl (exec_build 38 #[] rfl #[] rfl (hbn _)) ?_) | ((with_reducible show wpList _ _ _ (Oper.mk _ (Op.store _ _ _) _ _ _ _ :: _) _ _); refine wpList_store_blk HZ2.out 38 0 (rowV rowZ) (store_row_fit rowZ_fits (rowV_size rowZ_fits)) (info_row rowZ_fits) (rowV_one _) _ _ rfl rfl rfl rfl ?_; intro w5 hg9 hs9 hb9; rw [splice_row rowZ_fits (rowV_size rowZ_fits)] at hb9; have H5 := Lib.hid (And.intro hg9 hb9); clear hg9 hs9 hb9))
      have hld := Shape.ld rowK w5 _ 0 rowZ rowZ_fits (cells_blk H5.out.2)
      refine bodyPost_ret (results_c3 rfl rfl hld) rfl ?_
      rw [HE.out.1, HE.out.2.1, HE.out.2.2]
      exact ⟨rfl, below_grown (below_step HBE.out HB2.out) H5.out.1 (by omega)⟩
    | true =>
      have HE := Lib.hid (show longE t v l = 0 ∧ longRE t v l = longR t v l ∧ longBE t v l = longB t v l by
        have h1 : longE t v l = 0 := by rw [HLE.out, errA_true hra]
        unfold longRE longBE
        rw [h1]
        exact ⟨rfl, rfl, rfl⟩)
      rw [errA_true hra]
      clear hra
      have hl3 := (HP1.out.all (w2.alloc (.cells (rowV rowZ) 38)) (below_step HB2.out (below_alloc (Below.refl _ _) _))).2
      have HG := Lib.hid (blk_new w2 (.cells (rowV rowZ) 38))
      have HZ2L := Lib.hid (blk_lt HZ2.out)
      go_wp2_with (first | ((with_reducible show wpList _ _ _ (Oper.mk _ (Op.load _ _) _ _ _ _ :: _) _ _); refine wpList_load_g hl3 _ rfl rfl (by go_simp) ?_))
      clear hl3
      go_loopw [8, 24] (fun y x wr => ∃ (i : Nat) (th : Bool), x = .int .i64 i ∧ y = .bool th ∧ Hid (i ≤ n ∧ longB (t.take i) v l = th ∧ wr.heap[w2.heap.size]? = some (.cells (rowV (longR (t.take i) v l)) 38 (0, 0)) ∧ Below w2.heap.size w2 wr)) (fun _ x _ => n - (intOf x).toNat)
      case atStart => exact ⟨0, false, rfl, rfl, Nat.zero_le _, rfl, HG.out, below_alloc (Below.refl _ _) _⟩
      case round =>
        obtain ⟨i, th, rfl, rfl, HH⟩ := hrel
        have HBR := Lib.hid (below_step HB2.out HH.out.2.2.2)
        by_cases hlt : i < n
        · have hlt' : (i : Int) < n := by omega
          obtain ⟨b, o, rfl, hc⟩ := RT.at_ HT.out (by omega)
          have HC3 := Lib.hid (hc i hlt)
          have HF := Lib.hid (RT.fits_at HT.out hlt)
          have hrow := (rowLd_of HF.out (HC3.out.below HBR.out)).row
          have hilt : i < t.length := by rw [HT.out.len]; exact hlt
          have HIL := Lib.hid hilt
          have hg := blk_lt HH.out.2.2.1
          clear hc hilt
          go_wp2_with (first | ((with_reducible show wpList _ _ _ (Oper.mk _ (Op.load _ _) _ _ _ _ :: _) _ _); refine wpList_load_g hrow _ rfl rfl (by go_simp) ?_) | ((with_reducible show wpList _ _ _ (Oper.mk _ (Op.store _ _ _) _ _ _ _ :: _) _ _); refine wpList_store_blk (blk_new wr _) 38 0 (rowV (rowAt t i)) (store_row_fit HF.out rfl) (info_row HF.out) (rowV_one _) _ _ rfl rfl rfl rfl ?_; intro w3 hg9 hs9 hb9; rw [splice_row HF.out rfl] at hb9; have H3 := Lib.hid (And.intro hg9 hb9); clear hg9 hs9 hb9) | ((with_reducible show wpList _ _ _ (Oper.mk _ (Op.load _ _) _ _ _ _ :: _) _ _); refine wpList_load_g (((row_at HF.out H3.out.2).all _ (Below.refl _ _)).pfx) _ rfl rfl (by go_simp) ?_) | ((with_reducible show wpList _ _ _ (Oper.mk _ (Op.load _ _) _ _ _ _ :: _) _ _); refine wpList_load_g ((HP2.out.all w3 (below_grown (below_step HBR.out (below_alloc (Below.refl _ _) _)) H3.out.1 (HBR.out.size))).1) _ rfl rfl (by go_simp) ?_))
          have HB3 := Lib.hid (below_grown (below_alloc (Below.refl wr.heap.size wr) (.cells (rowV rowZ) 38)) H3.out.1 (Nat.le_refl _))
          refine (has_any (rowAt t i).p v l w3 (HL.out.below (below_step HBR.out HB3.out)) HF.out hl).mono ?_
          rintro e w4 ⟨rfl, hbb4⟩
          have HB4 := Lib.hid (below_step HB3.out hbb4)
          have H4 := Lib.hid (row_at HF.out (blk_below H3.out.2 hbb4))
          have HG4 := Lib.hid (blk_below HH.out.2.2.1 HB4.out)
          clear hbb4 hrow
          cases hh : (rowAt t i).p.has v l with
          | false =>
            have HQ := Lib.hid (long_skip HIL.out hh)
            clear hh
            go_wp2_with fail
            go_roundw
            case measure => simp [intOf]; omega
            case rel => exact ⟨i + 1, th, by go_num, rfl, by omega, by rw [HQ.out.2]; exact HH.out.2.1, by rw [HQ.out.1]; exact HG4.out, below_step HH.out.2.2.2 HB4.out⟩
          | true =>
            cases th with
            | false =>
              have HQ := Lib.hid (long_first HIL.out hh HH.out.2.1)
              have hl4 := (H4.out.all w4 (Below.refl _ _)).row
              clear hh
              go_wp2_with (first | ((with_reducible show wpList _ _ _ (Oper.mk _ (Op.load _ _) _ _ _ _ :: _) _ _); refine wpList_load_g hl4 _ rfl rfl (by go_simp) ?_) | ((with_reducible show wpList _ _ _ (Oper.mk _ (Op.store _ _ _) _ _ _ _ :: _) _ _); refine wpList_store_blk HG4.out 38 0 (rowV (rowAt t i)) (store_row_fit HF.out (rowV_size (longR_fits (HT.out.fits.take i) v l))) (info_row HF.out) (rowV_one _) _ _ rfl rfl rfl rfl ?_; intro w5 hg9 hs9 hb9; rw [splice_row HF.out (rowV_size (longR_fits (HT.out.fits.take i) v l))] at hb9; have H5 := Lib.hid (And.intro hg9 hb9); clear hg9 hs9 hb9))
              go_roundw
              case measure => simp [intOf]; omega
              case rel => exact ⟨i + 1, true, by go_num, rfl, by omega, HQ.out.2, by rw [HQ.out.1]; exact H5.out.2, below_grown (below_step HH.out.2.2.2 HB4.out) H5.out.1 (Nat.le_refl _)⟩
            | true =>
              have hlb := (H4.out.all w4 (Below.refl _ _)).bit
              have hlc := ((row_at (longR_fits (HT.out.fits.take i) v l) HG4.out).all w4 (Below.refl _ _)).bit
              by_cases hcb : (longR (t.take i) v l).p.b < (rowAt t i).p.b
              · have HQ := Lib.hid (long_more HIL.out hh HH.out.2.1 hcb)
                have hl4 := (H4.out.all w4 (Below.refl _ _)).row
                clear hh
                go_wp2_with (first | ((with_reducible show wpList _ _ _ (Oper.mk _ (Op.load _ _) _ _ _ _ :: _) _ _); refine wpList_load_g hlb _ rfl rfl (by go_simp) ?_) | ((with_reducible show wpList _ _ _ (Oper.mk _ (Op.load _ _) _ _ _ _ :: _) _ _); refine wpList_load_g hlc _ rfl rfl (by go_simp) ?_) | ((with_reducible show wpList _ _ _ (Oper.mk _ (Op.load _ _) _ _ _ _ :: _) _ _); refine wpList_load_g hl4 _ rfl rfl (by go_simp) ?_) | ((with_reducible show wpList _ _ _ (Oper.mk _ (Op.store _ _ _) _ _ _ _ :: _) _ _); refine wpList_store_blk HG4.out 38 0 (rowV (rowAt t i)) (store_row_fit HF.out (rowV_size (longR_fits (HT.out.fits.take i) v l))) (info_row HF.out) (rowV_one _) _ _ rfl rfl rfl rfl ?_; intro w5 hg9 hs9 hb9; rw [splice_row HF.out (rowV_size (longR_fits (HT.out.fits.take i) v l))] at hb9; have H5 := Lib.hid (And.intro hg9 hb9); clear hg9 hs9 hb9))
                go_roundw
                case measure => simp [intOf]; omega
                case rel => exact ⟨i + 1, true, by go_num, rfl, by omega, HQ.out.2, by rw [HQ.out.1]; exact H5.out.2, below_grown (below_step HH.out.2.2.2 HB4.out) H5.out.1 (Nat.le_refl _)⟩
              · have HQ := Lib.hid (long_less HIL.out hh HH.out.2.1 hcb)
                have hcb' : decide ((longR (t.take i) v l).p.b < (rowAt t i).p.b) = false := decide_eq_false hcb
                clear hh hcb
                go_wp2_with (first | ((with_reducible show wpList _ _ _ (Oper.mk _ (Op.load _ _) _ _ _ _ :: _) _ _); refine wpList_load_g hlb _ rfl rfl (by go_simp) ?_) | ((with_reducible show wpList _ _ _ (Oper.mk _ (Op.load _ _) _ _ _ _ :: _) _ _); refine wpList_load_g hlc _ rfl rfl (by go_simp) ?_))
                go_roundw
                case measure => simp [intOf]; omega
                case rel => exact ⟨i + 1, true, by go_num, rfl, by omega, HQ.out.2, by rw [HQ.out.1]; exact HG4.out, below_step HH.out.2.2.2 HB4.out⟩
        · have hlt' : decide (i < n) = false := decide_eq_false hlt
          have htk : t.take i = t := List.take_of_length_le (by rw [HT.out.len]; omega)
          have hth := HH.out.2.1
          have hgg := HH.out.2.2.1
          rw [htk] at hth hgg
          have HTH := Lib.hid hth
          have HZ3 := Lib.hid (blk_below HZ2.out HH.out.2.2.2)
          have hfl := longR_fits HT.out.fits v l
          have hl5 := ((row_at hfl hgg).all wr (Below.refl _ _)).row
          clear hlt htk hth
          go_wp2_with (first | ((with_reducible show wpList _ _ _ (Oper.mk _ (Op.load _ _) _ _ _ _ :: _) _ _); refine wpList_load_g hl5 _ rfl rfl (by go_simp) ?_) | ((with_reducible show wpList _ _ _ (Oper.mk _ (Op.store _ _ _) _ _ _ _ :: _) _ _); refine wpList_store_blk HZ3.out 38 0 (rowV (longR t v l)) (store_row_fit hfl (rowV_size rowZ_fits)) (info_row hfl) (rowV_one _) _ _ rfl rfl rfl rfl ?_; intro w5 hg9 hs9 hb9; rw [splice_row hfl (rowV_size rowZ_fits)] at hb9; have H5 := Lib.hid (And.intro hg9 hb9); clear hg9 hs9 hb9))
          have hld := Shape.ld rowK w5 _ 0 (longR t v l) hfl (cells_blk H5.out.2)
          refine bodyPost_ret (results_c3 rfl rfl hld) rfl ?_
          rw [HE.out.1, HE.out.2.1, HE.out.2.2, HTH.out]
          exact ⟨rfl, below_grown (below_step HBE.out HBR.out) H5.out.1 (by omega)⟩
end Go.Proofs.YtihfaknflfmohaaDoor
