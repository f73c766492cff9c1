/- Layer 11 (route): fits, update, the closures of CheckBatch and Best, order, better; the document's fits and ahead. -/
import Derived.Test.YtnpeedmicjeleaaDoorRouteBytesA
import Derived.Test.YtnpeedmicjeleaaDoorRouteBytesB
namespace Go.Proofs.YtnpeedmicjeleaaDoor
open Go.RowKit
set_option linter.unusedVariables false
set_option linter.unusedSimpArgs false
set_option maxRecDepth 4000
structure RibAt (w : World) (g : Nat) (A : Option Addr) (n c : Nat) : Prop where
  all : ∀ w0, Below w.heap.size w w0 → (Instr.loadAt 24 (.pointer (some ⟨g, 0, none⟩))).run Tryd.prog w0 = .ok (.agg (tabV A n c)) w0 ∧ (Instr.loadAt 22 (.pointer (some ⟨g, 0, none⟩))).run Tryd.prog w0 = .ok (.slice A n c) w0
theorem load_rtes {w : World} {ad : Addr} {v : Value} (h : w.cell? ad = some v) : (Instr.loadAt 22 (.pointer (some ad))).run Tryd.prog w = .ok v w := by
  go_simp
theorem load_upds {w : World} {ad : Addr} {v : Value} (h : w.cell? ad = some v) : (Instr.loadAt 25 (.pointer (some ad))).run Tryd.prog w = .ok v w := by
  go_simp
theorem rib_at {w : World} {g : Nat} {A : Option Addr} {n c : Nat} (h : w.heap[g]? = some (.cells (tabV A n c) 24 (0, 0))) : RibAt w g A n c := by
  refine ⟨fun w0 hb => ?_⟩
  have h0 := cells_blk (blk_below h hb)
  exact ⟨load_cells h0 Tryd.underlying24 rfl (by kernel_rfl), load_rtes (h0 0 _ rfl)⟩
structure BatAt (w : World) (g : Nat) (A : Option Addr) (n c : Nat) : Prop where
  all : ∀ w0, Below w.heap.size w w0 → (Instr.loadAt 27 (.pointer (some ⟨g, 0, none⟩))).run Tryd.prog w0 = .ok (.agg (tabV A n c)) w0 ∧ (Instr.loadAt 25 (.pointer (some ⟨g, 0, none⟩))).run Tryd.prog w0 = .ok (.slice A n c) w0
theorem bat_at {w : World} {g : Nat} {A : Option Addr} {n c : Nat} (h : w.heap[g]? = some (.cells (tabV A n c) 27 (0, 0))) : BatAt w g A n c := by
  refine ⟨fun w0 hb => ?_⟩
  have h0 := cells_blk (blk_below h hb)
  exact ⟨load_cells h0 Tryd.underlying27 rfl (by kernel_rfl), load_upds (h0 0 _ rfl)⟩
theorem built_rte (p : Pfx) (s f h : Int) (hl : p.l.length = 16) : Tryd.prog.built 51 [(0, .agg (pfxV p.v p.l p.b)), (1, .int .i64 s), (2, .int .i64 f), (3, .int .i64 h)] = some (rteV ⟨p, s, f, h⟩) := by
  obtain ⟨a, b, c, d, e, f, g, h1, i, j, k, m, n, o, q, r, hh⟩ := len16 hl
  obtain ⟨v, l, x⟩ := p
  simp only at hh
  subst hh
  kernel_rfl
theorem run_build_rte (w : World) (p : Pfx) (s f h : Int) (hl : p.l.length = 16) : (Instr.build 51 #[(0, .agg (pfxV p.v p.l p.b)), (1, .int .i64 s), (2, .int .i64 f), (3, .int .i64 h)]).run Tryd.prog w = .ok (.agg (rteV ⟨p, s, f, h⟩)) w := run_build w _ _ _ (built_rte p s f h hl)
/-! Two prefixes held equal: what the comparison yields. -/
theorem pfx_eq_hex {p q : Pfx} {b : Bool} (hp : p.ok) (hq : q.ok) (h : p.eqB q = b) (r : Operand → Value) (o : Oper) (x y : Operand) (ty : TypeId) (ho : o.op = .binOp .eql 49 x y ty) (hx : r x = .agg (pfxV p.v p.l p.b)) (hy : r y = .agg (pfxV q.v q.l q.b)) (w : World) : (execOp r o).run Tryd.prog w = .ok (.value (.bool b)) w := by
  rw [← h]
  exact pfx_eql_exec ho p q hx hy hp hq w
theorem pfx_ne_hex {p q : Pfx} {b : Bool} (hp : p.ok) (hq : q.ok) (h : (!p.eqB q) = b) (r : Operand → Value) (o : Oper) (x y : Operand) (ty : TypeId) (ho : o.op = .binOp .neq 49 x y ty) (hx : r x = .agg (pfxV p.v p.l p.b)) (hy : r y = .agg (pfxV q.v q.l q.b)) (w : World) : (execOp r o).run Tryd.prog w = .ok (.value (.bool b)) w := by
  rw [← h]
  exact pfx_neq_exec ho p q hx hy hp hq w
set_option maxHeartbeats 2000000 in
theorem rfits_any (p : Pfx) (s f h : Int) (w : World) (hL : Laid w) (hp : B16 p.l) : Calls Tryd.prog 53 #[.agg (pfxV p.v p.l p.b), .int .i64 s, .int .i64 f, .int .i64 h] w fun e w' => e = .returned (.bool (fitB p s f h)) ∧ Below w.heap.size w w' := by
  have hblk1 := blk_new w (.cells (pfxV p.v p.l p.b) 49)
  have hbel1 : Below w.heap.size w (w.alloc (.cells (pfxV p.v p.l p.b) 49)) := below_alloc (Below.refl _ _) _
  have HP1 := Lib.hid (pfx_at hp hblk1)
  have HBK1 := Lib.hid hblk1
  have HBE := Lib.hid hbel1
  have HL := Lib.hid (hL.below HBE.out)
  obtain ⟨cs1, hcs1⟩ : ∃ cs, pfxV p.v p.l p.b = cs := ⟨_, rfl⟩
  simp only [hcs1] at HBE HL HP1 HBK1 ⊢
  have HC1 := Lib.hid hcs1
  clear hL hcs1 hblk1 hbel1
  have hl0 := (HP1.out.all _ (Below.refl _ _)).2.2.2.2
  rw [HC1.out] at hl0
  go_enter Tryd.func53, Tryd.ntmps53
  go_wp2_with (first | ((with_reducible show wpList _ _ _ (Oper.mk _ (Op.load _ _) _ _ _ _ :: _) _ _); refine wpList_load_g hl0 _ rfl rfl (by go_simp) ?_))
  have hck := check_any p.v p.l p.b _ HL.out hp
  rw [HC1.out] at hck
  refine hck.mono ?_
  clear hck hl0
  rintro e w1 ⟨rfl, hb1⟩
  have HB1 := Lib.hid (below_step HBE.out hb1)
  clear hb1
  cases h0 : p.right with
  | false =>
    (rw [show errP p.v p.l p.b = 151 by unfold errP; rw [show rightP p.v p.l p.b = false from h0]; rfl])
    have HV : Hid (fitB p s f h = false) := Lib.hid (by unfold fitB; simp [*])
    go_wp2_with fail
    go_ret
    rw [HV.out]
    exact ⟨rfl, HB1.out⟩
  | true =>
    (rw [show errP p.v p.l p.b = 0 by unfold errP; rw [show rightP p.v p.l p.b = true from h0]; rfl])
    by_cases g1 : 1 ≤ s
    case neg =>
      have h1 : decide (1 ≤ s) = false := decide_eq_false g1
      clear g1
      have HV : Hid (fitB p s f h = false) := Lib.hid (by unfold fitB; simp [*])
      go_wp2_with fail
      go_ret
      rw [HV.out]
      exact ⟨rfl, HB1.out⟩
    case pos =>
      have h1 : decide (1 ≤ s) = true := decide_eq_true g1
      by_cases g2 : s ≤ 4
      case neg =>
        have h2 : decide (s ≤ 4) = false := decide_eq_false g2
        clear g1 g2
        have HV : Hid (fitB p s f h = false) := Lib.hid (by unfold fitB; simp [*])
        go_wp2_with fail
        go_ret
        rw [HV.out]
        exact ⟨rfl, HB1.out⟩
      case pos =>
        have h2 : decide (s ≤ 4) = true := decide_eq_true g2
        clear g1 g2
        by_cases g3 : 0 ≤ f
        case neg =>
          have h3 : decide (0 ≤ f) = false := decide_eq_false g3
          clear g3
          have HV : Hid (fitB p s f h = false) := Lib.hid (by unfold fitB; simp [*])
          go_wp2_with fail
          go_ret
          rw [HV.out]
          exact ⟨rfl, HB1.out⟩
        case pos =>
          have h3 : decide (0 ≤ f) = true := decide_eq_true g3
          by_cases g4 : f ≤ 255
          case neg =>
            have h4 : decide (f ≤ 255) = false := decide_eq_false g4
            clear g3 g4
            have HV : Hid (fitB p s f h = false) := Lib.hid (by unfold fitB; simp [*])
            go_wp2_with fail
            go_ret
            rw [HV.out]
            exact ⟨rfl, HB1.out⟩
          case pos =>
            have h4 : decide (f ≤ 255) = true := decide_eq_true g4
            clear g3 g4
            by_cases g5 : 1 ≤ h
            case neg =>
              have h5 : decide (1 ≤ h) = false := decide_eq_false g5
              clear g5
              have HV : Hid (fitB p s f h = false) := Lib.hid (by unfold fitB; simp [*])
              go_wp2_with fail
              go_ret
              rw [HV.out]
              exact ⟨rfl, HB1.out⟩
            case pos =>
              have h5 : decide (1 ≤ h) = true := decide_eq_true g5
              cases h6 : decide (h ≤ 255) with
              | false =>
                clear g5
                have HV : Hid (fitB p s f h = false) := Lib.hid (by unfold fitB; simp [*])
                go_wp2_with fail
                go_ret
                rw [HV.out]
                exact ⟨rfl, HB1.out⟩
              | true =>
                clear g5
                have HV : Hid (fitB p s f h = true) := Lib.hid (by unfold fitB; rw [h0, h1, h2, h3, h4, h5, h6]; rfl)
                go_wp2_with fail
                go_ret
                rw [HV.out]
                exact ⟨rfl, HB1.out⟩
theorem wf64 {x : Int} (h : (Lit.int .i64 x).wf = true) : -9223372036854775808 ≤ x ∧ x ≤ 9223372036854775807 := by
  simp [Lit.wf, IntKind.min, IntKind.max, IntKind.bits, IntKind.signed] at h
  omega
set_option maxHeartbeats 2000000 in
theorem reffits_any (r : Rte) (w : World) (ho : r.ok) : Calls Tryd.prog 60 #[.agg (rteV r)] w fun e w' => e = .returned (.bool r.fit) ∧ Below w.heap.size w w' := by
  have hr := ho.fits
  have hblk1 := blk_new w (.cells (rteV r) 51)
  have hbel1 : Below w.heap.size w (w.alloc (.cells (rteV r) 51)) := below_alloc (Below.refl _ _) _
  have HP1 := Lib.hid (rte_at hr hblk1)
  have HBK1 := Lib.hid hblk1
  have HBE := Lib.hid hbel1
  obtain ⟨cs1, hcs1⟩ : ∃ cs, rteV r = cs := ⟨_, rfl⟩
  simp only [hcs1] at HBE HP1 HBK1 ⊢
  have HC1 := Lib.hid hcs1
  clear hcs1 hblk1 hbel1
  obtain ⟨p, s, f, h⟩ := r
  have HLD := Lib.hid (fun (w0 : World) (hb : Below (w.alloc (.cells cs1 51)).heap.size (w.alloc (.cells cs1 51)) w0) => HP1.out.all w0 hb)
  show Calls _ _ _ _ fun e w' => e = .returned (.bool (fitB p s f h)) ∧ _
  go_enter Tryd.func60, Tryd.ntmps60
  go_wp2_with (first | ((with_reducible show wpList _ _ _ (Oper.mk _ (Op.load _ _) _ _ _ _ :: _) _ _); refine wpList_load_g ((HLD.out _ (Below.refl _ _)).pfx) _ rfl rfl (by go_simp) ?_))
  refine (right_any p.v p.l p.b _ hr (wf64 ho.p.b).2).mono ?_
  rintro e w1 ⟨rfl, hb1⟩
  have HB1 := Lib.hid hb1
  clear hb1
  rw [show rightP p.v p.l p.b = p.right from rfl]
  cases h0 : p.right with
  | false =>
    skip
    have HV : Hid (fitB p s f h = false) := Lib.hid (by unfold fitB; simp [*])
    go_wp2_with (first | ((with_reducible show wpList _ _ _ (Oper.mk _ (Op.load _ _) _ _ _ _ :: _) _ _); refine wpList_load_g ((HLD.out _ HB1.out).src) _ rfl rfl (by go_simp) ?_) | ((with_reducible show wpList _ _ _ (Oper.mk _ (Op.load _ _) _ _ _ _ :: _) _ _); refine wpList_load_g ((HLD.out _ HB1.out).prf) _ rfl rfl (by go_simp) ?_) | ((with_reducible show wpList _ _ _ (Oper.mk _ (Op.load _ _) _ _ _ _ :: _) _ _); refine wpList_load_g ((HLD.out _ HB1.out).hop) _ rfl rfl (by go_simp) ?_))
    go_ret
    rw [HV.out]
    exact ⟨rfl, (below_step HBE.out HB1.out)⟩
  | true =>
    skip
    by_cases g1 : 1 ≤ s
    case neg =>
      have h1 : decide (1 ≤ s) = false := decide_eq_false g1
      clear g1
      have HV : Hid (fitB p s f h = false) := Lib.hid (by unfold fitB; simp [*])
      go_wp2_with (first | ((with_reducible show wpList _ _ _ (Oper.mk _ (Op.load _ _) _ _ _ _ :: _) _ _); refine wpList_load_g ((HLD.out _ HB1.out).src) _ rfl rfl (by go_simp) ?_) | ((with_reducible show wpList _ _ _ (Oper.mk _ (Op.load _ _) _ _ _ _ :: _) _ _); refine wpList_load_g ((HLD.out _ HB1.out).prf) _ rfl rfl (by go_simp) ?_) | ((with_reducible show wpList _ _ _ (Oper.mk _ (Op.load _ _) _ _ _ _ :: _) _ _); refine wpList_load_g ((HLD.out _ HB1.out).hop) _ rfl rfl (by go_simp) ?_))
      go_ret
      rw [HV.out]
      exact ⟨rfl, (below_step HBE.out HB1.out)⟩
    case pos =>
      have h1 : decide (1 ≤ s) = true := decide_eq_true g1
      by_cases g2 : s ≤ 4
      case neg =>
        have h2 : decide (s ≤ 4) = false := decide_eq_false g2
        clear g1 g2
        have HV : Hid (fitB p s f h = false) := Lib.hid (by unfold fitB; simp [*])
        go_wp2_with (first | ((with_reducible show wpList _ _ _ (Oper.mk _ (Op.load _ _) _ _ _ _ :: _) _ _); refine wpList_load_g ((HLD.out _ HB1.out).src) _ rfl rfl (by go_simp) ?_) | ((with_reducible show wpList _ _ _ (Oper.mk _ (Op.load _ _) _ _ _ _ :: _) _ _); refine wpList_load_g ((HLD.out _ HB1.out).prf) _ rfl rfl (by go_simp) ?_) | ((with_reducible show wpList _ _ _ (Oper.mk _ (Op.load _ _) _ _ _ _ :: _) _ _); refine wpList_load_g ((HLD.out _ HB1.out).hop) _ rfl rfl (by go_simp) ?_))
        go_ret
        rw [HV.out]
        exact ⟨rfl, (below_step HBE.out HB1.out)⟩
      case pos =>
        have h2 : decide (s ≤ 4) = true := decide_eq_true g2
        clear g1 g2
        by_cases g3 : 0 ≤ f
        case neg =>
          have h3 : decide (0 ≤ f) = false := decide_eq_false g3
          clear g3
          have HV : Hid (fitB p s f h = false) := Lib.hid (by unfold fitB; simp [*])
          go_wp2_with (first | ((with_reducible show wpList _ _ _ (Oper.mk _ (Op.load _ _) _ _ _ _ :: _) _ _); refine wpList_load_g ((HLD.out _ HB1.out).src) _ rfl rfl (by go_simp) ?_) | ((with_reducible show wpList _ _ _ (Oper.mk _ (Op.load _ _) _ _ _ _ :: _) _ _); refine wpList_load_g ((HLD.out _ HB1.out).prf) _ rfl rfl (by go_simp) ?_) | ((with_reducible show wpList _ _ _ (Oper.mk _ (Op.load _ _) _ _ _ _ :: _) _ _); refine wpList_load_g ((HLD.out _ HB1.out).hop) _ rfl rfl (by go_simp) ?_))
          go_ret
          rw [HV.out]
          exact ⟨rfl, (below_step HBE.out HB1.out)⟩
        case pos =>
          have h3 : decide (0 ≤ f) = true := decide_eq_true g3
          by_cases g4 : f ≤ 255
          case neg =>
            have h4 : decide (f ≤ 255) = false := decide_eq_false g4
            clear g3 g4
            have HV : Hid (fitB p s f h = false) := Lib.hid (by unfold fitB; simp [*])
            go_wp2_with (first | ((with_reducible show wpList _ _ _ (Oper.mk _ (Op.load _ _) _ _ _ _ :: _) _ _); refine wpList_load_g ((HLD.out _ HB1.out).src) _ rfl rfl (by go_simp) ?_) | ((with_reducible show wpList _ _ _ (Oper.mk _ (Op.load _ _) _ _ _ _ :: _) _ _); refine wpList_load_g ((HLD.out _ HB1.out).prf) _ rfl rfl (by go_simp) ?_) | ((with_reducible show wpList _ _ _ (Oper.mk _ (Op.load _ _) _ _ _ _ :: _) _ _); refine wpList_load_g ((HLD.out _ HB1.out).hop) _ rfl rfl (by go_simp) ?_))
            go_ret
            rw [HV.out]
            exact ⟨rfl, (below_step HBE.out HB1.out)⟩
          case pos =>
            have h4 : decide (f ≤ 255) = true := decide_eq_true g4
            clear g3 g4
            by_cases g5 : 1 ≤ h
            case neg =>
              have h5 : decide (1 ≤ h) = false := decide_eq_false g5
              clear g5
              have HV : Hid (fitB p s f h = false) := Lib.hid (by unfold fitB; simp [*])
              go_wp2_with (first | ((with_reducible show wpList _ _ _ (Oper.mk _ (Op.load _ _) _ _ _ _ :: _) _ _); refine wpList_load_g ((HLD.out _ HB1.out).src) _ rfl rfl (by go_simp) ?_) | ((with_reducible show wpList _ _ _ (Oper.mk _ (Op.load _ _) _ _ _ _ :: _) _ _); refine wpList_load_g ((HLD.out _ HB1.out).prf) _ rfl rfl (by go_simp) ?_) | ((with_reducible show wpList _ _ _ (Oper.mk _ (Op.load _ _) _ _ _ _ :: _) _ _); refine wpList_load_g ((HLD.out _ HB1.out).hop) _ rfl rfl (by go_simp) ?_))
              go_ret
              rw [HV.out]
              exact ⟨rfl, (below_step HBE.out HB1.out)⟩
            case pos =>
              have h5 : decide (1 ≤ h) = true := decide_eq_true g5
              cases h6 : decide (h ≤ 255) with
              | false =>
                clear g5
                have HV : Hid (fitB p s f h = false) := Lib.hid (by unfold fitB; simp [*])
                go_wp2_with (first | ((with_reducible show wpList _ _ _ (Oper.mk _ (Op.load _ _) _ _ _ _ :: _) _ _); refine wpList_load_g ((HLD.out _ HB1.out).src) _ rfl rfl (by go_simp) ?_) | ((with_reducible show wpList _ _ _ (Oper.mk _ (Op.load _ _) _ _ _ _ :: _) _ _); refine wpList_load_g ((HLD.out _ HB1.out).prf) _ rfl rfl (by go_simp) ?_) | ((with_reducible show wpList _ _ _ (Oper.mk _ (Op.load _ _) _ _ _ _ :: _) _ _); refine wpList_load_g ((HLD.out _ HB1.out).hop) _ rfl rfl (by go_simp) ?_))
                go_ret
                rw [HV.out]
                exact ⟨rfl, (below_step HBE.out HB1.out)⟩
              | true =>
                clear g5
                have HV : Hid (fitB p s f h = true) := Lib.hid (by unfold fitB; rw [h0, h1, h2, h3, h4, h5, h6]; rfl)
                go_wp2_with (first | ((with_reducible show wpList _ _ _ (Oper.mk _ (Op.load _ _) _ _ _ _ :: _) _ _); refine wpList_load_g ((HLD.out _ HB1.out).src) _ rfl rfl (by go_simp) ?_) | ((with_reducible show wpList _ _ _ (Oper.mk _ (Op.load _ _) _ _ _ _ :: _) _ _); refine wpList_load_g ((HLD.out _ HB1.out).prf) _ rfl rfl (by go_simp) ?_) | ((with_reducible show wpList _ _ _ (Oper.mk _ (Op.load _ _) _ _ _ _ :: _) _ _); refine wpList_load_g ((HLD.out _ HB1.out).hop) _ rfl rfl (by go_simp) ?_))
                go_ret
                rw [HV.out]
                exact ⟨rfl, (below_step HBE.out HB1.out)⟩
set_option maxHeartbeats 2000000 in
theorem update_any (u : Upd) (w : World) (hL : Laid w) (hu : u.fits) : Calls Tryd.prog 63 #[.agg (updV u)] w fun e w' => e = .returned (.bool (updB u)) ∧ Below w.heap.size w w' := by
  have hblk1 := blk_new w (.cells (updV u) 75)
  have hbel1 : Below w.heap.size w (w.alloc (.cells (updV u) 75)) := below_alloc (Below.refl _ _) _
  have HP1 := Lib.hid (upd_at hu hblk1)
  have HBK1 := Lib.hid hblk1
  have HBE := Lib.hid hbel1
  have HL := Lib.hid (hL.below HBE.out)
  obtain ⟨cs1, hcs1⟩ : ∃ cs, updV u = cs := ⟨_, rfl⟩
  simp only [hcs1] at HBE HL HP1 HBK1 ⊢
  have HC1 := Lib.hid hcs1
  clear hL hcs1 hblk1 hbel1
  obtain ⟨p, s, g, f, h⟩ := u
  have hr := (HP1.out.all _ (Below.refl _ _))
  have HLD := Lib.hid hr
  clear hr
  go_enter Tryd.func63, Tryd.ntmps63
  cases g with
  | true =>
    by_cases g1 : f = 0
    case neg =>
      have h1 : (f == 0) = false := by simpa using g1
      have HV : Hid (updB ⟨p, s, true, f, h⟩ = false) := Lib.hid (by simp [updB, g1])
      clear g1
      go_wp2_with (first | ((with_reducible show wpList _ _ _ (Oper.mk _ (Op.load _ _) _ _ _ _ :: _) _ _); refine wpList_load_g (HLD.out.gon) _ rfl rfl (by go_simp) ?_) | ((with_reducible show wpList _ _ _ (Oper.mk _ (Op.load _ _) _ _ _ _ :: _) _ _); refine wpList_load_g (HLD.out.prf) _ rfl rfl (by go_simp) ?_) | ((with_reducible show wpList _ _ _ (Oper.mk _ (Op.load _ _) _ _ _ _ :: _) _ _); refine wpList_load_g (HLD.out.hop) _ rfl rfl (by go_simp) ?_) | ((with_reducible show wpList _ _ _ (Oper.mk _ (Op.load _ _) _ _ _ _ :: _) _ _); refine wpList_load_g (HLD.out.src) _ rfl rfl (by go_simp) ?_) | ((with_reducible show wpList _ _ _ (Oper.mk _ (Op.load _ _) _ _ _ _ :: _) _ _); refine wpList_load_g (HLD.out.pfx) _ rfl rfl (by go_simp) ?_))
      go_ret
      rw [HV.out]
      exact ⟨rfl, HBE.out⟩
    case pos =>
      subst g1
      by_cases g2 : h = 0
      case neg =>
        have h2 : (h == 0) = false := by simpa using g2
        have HV : Hid (updB ⟨p, s, true, 0, h⟩ = false) := Lib.hid (by simp [updB, g2])
        clear g2
        go_wp2_with (first | ((with_reducible show wpList _ _ _ (Oper.mk _ (Op.load _ _) _ _ _ _ :: _) _ _); refine wpList_load_g (HLD.out.gon) _ rfl rfl (by go_simp) ?_) | ((with_reducible show wpList _ _ _ (Oper.mk _ (Op.load _ _) _ _ _ _ :: _) _ _); refine wpList_load_g (HLD.out.prf) _ rfl rfl (by go_simp) ?_) | ((with_reducible show wpList _ _ _ (Oper.mk _ (Op.load _ _) _ _ _ _ :: _) _ _); refine wpList_load_g (HLD.out.hop) _ rfl rfl (by go_simp) ?_) | ((with_reducible show wpList _ _ _ (Oper.mk _ (Op.load _ _) _ _ _ _ :: _) _ _); refine wpList_load_g (HLD.out.src) _ rfl rfl (by go_simp) ?_) | ((with_reducible show wpList _ _ _ (Oper.mk _ (Op.load _ _) _ _ _ _ :: _) _ _); refine wpList_load_g (HLD.out.pfx) _ rfl rfl (by go_simp) ?_))
        go_ret
        rw [HV.out]
        exact ⟨rfl, HBE.out⟩
      case pos =>
        subst g2
        have HV : Hid (updB ⟨p, s, true, 0, 0⟩ = fitB p s 0 1) := Lib.hid (by simp [updB])
        go_wp2_with (first | ((with_reducible show wpList _ _ _ (Oper.mk _ (Op.load _ _) _ _ _ _ :: _) _ _); refine wpList_load_g (HLD.out.gon) _ rfl rfl (by go_simp) ?_) | ((with_reducible show wpList _ _ _ (Oper.mk _ (Op.load _ _) _ _ _ _ :: _) _ _); refine wpList_load_g (HLD.out.prf) _ rfl rfl (by go_simp) ?_) | ((with_reducible show wpList _ _ _ (Oper.mk _ (Op.load _ _) _ _ _ _ :: _) _ _); refine wpList_load_g (HLD.out.hop) _ rfl rfl (by go_simp) ?_) | ((with_reducible show wpList _ _ _ (Oper.mk _ (Op.load _ _) _ _ _ _ :: _) _ _); refine wpList_load_g (HLD.out.src) _ rfl rfl (by go_simp) ?_) | ((with_reducible show wpList _ _ _ (Oper.mk _ (Op.load _ _) _ _ _ _ :: _) _ _); refine wpList_load_g (HLD.out.pfx) _ rfl rfl (by go_simp) ?_))
        refine (rfits_any p s 0 1 _ HL.out hu).mono ?_
        rintro e w1 ⟨rfl, hb1⟩
        have HB1 := Lib.hid (below_step HBE.out hb1)
        clear hb1
        rw [← HV.out]
        go_wp2
        go_ret
        exact ⟨rfl, HB1.out⟩
  | false =>
    have HV : Hid (updB ⟨p, s, false, f, h⟩ = fitB p s f h) := Lib.hid (by simp [updB])
    go_wp2_with (first | ((with_reducible show wpList _ _ _ (Oper.mk _ (Op.load _ _) _ _ _ _ :: _) _ _); refine wpList_load_g (HLD.out.gon) _ rfl rfl (by go_simp) ?_) | ((with_reducible show wpList _ _ _ (Oper.mk _ (Op.load _ _) _ _ _ _ :: _) _ _); refine wpList_load_g (HLD.out.prf) _ rfl rfl (by go_simp) ?_) | ((with_reducible show wpList _ _ _ (Oper.mk _ (Op.load _ _) _ _ _ _ :: _) _ _); refine wpList_load_g (HLD.out.hop) _ rfl rfl (by go_simp) ?_) | ((with_reducible show wpList _ _ _ (Oper.mk _ (Op.load _ _) _ _ _ _ :: _) _ _); refine wpList_load_g (HLD.out.src) _ rfl rfl (by go_simp) ?_) | ((with_reducible show wpList _ _ _ (Oper.mk _ (Op.load _ _) _ _ _ _ :: _) _ _); refine wpList_load_g (HLD.out.pfx) _ rfl rfl (by go_simp) ?_))
    refine (rfits_any p s f h _ HL.out hu).mono ?_
    rintro e w1 ⟨rfl, hb1⟩
    have HB1 := Lib.hid (below_step HBE.out hb1)
    clear hb1
    rw [← HV.out]
    go_wp2
    go_ret
    exact ⟨rfl, HB1.out⟩
set_option maxHeartbeats 2000000 in
theorem twin1_any (x u : Upd) (g : Nat) (w : World) (hxo : x.ok) (huo : u.ok) (hg : UpdAt w g u) : Calls Tryd.prog 62 #[.agg (updV x), .pointer (some ⟨g, 0, none⟩)] w fun e w' => e = .returned (.bool (twin x u)) ∧ Below w.heap.size w w' := by
  have hx := hxo.fits
  have hblk1 := blk_new w (.cells (updV x) 75)
  have hbel1 : Below w.heap.size w (w.alloc (.cells (updV x) 75)) := below_alloc (Below.refl _ _) _
  have HP1 := Lib.hid (upd_at hx hblk1)
  have HBK1 := Lib.hid hblk1
  have HBE := Lib.hid hbel1
  obtain ⟨cs1, hcs1⟩ : ∃ cs, updV x = cs := ⟨_, rfl⟩
  simp only [hcs1] at HBE HP1 HBK1 ⊢
  have HC1 := Lib.hid hcs1
  clear hcs1 hblk1 hbel1
  have HG := Lib.hid (hg.all _ HBE.out)
  have HLD := Lib.hid (HP1.out.all _ (Below.refl _ _))
  clear hg
  go_enter Tryd.func62, Tryd.ntmps62
  cases h0 : x.p.eqB u.p with
  | false =>
    have HV : Hid (twin x u = false) := Lib.hid (by unfold twin; rw [h0]; rfl)
    have HEX := Lib.hid (pfx_eq_hex hxo.p huo.p h0)
    clear h0
    go_wp2_with (first | ((with_reducible show wpList _ _ _ (Oper.mk _ (Op.load _ _) _ _ _ _ :: _) _ _); refine wpList_load_g (HLD.out.pfx) _ rfl rfl (by go_simp) ?_) | ((with_reducible show wpList _ _ _ (Oper.mk _ (Op.load _ _) _ _ _ _ :: _) _ _); refine wpList_load_g (HG.out.pfx) _ rfl rfl (by go_simp) ?_) | ((with_reducible show wpList _ _ _ (Oper.mk _ (Op.binOp _ _ _ _ _) _ _ _ _ :: _) _ _); refine wpList_exw rfl (HEX.out _ _ _ _ _ rfl rfl rfl _) ?_))
    go_ret
    rw [HV.out]
    exact ⟨rfl, HBE.out⟩
  | true =>
    have HV : Hid (twin x u = decide (x.s = u.s)) := Lib.hid (by unfold twin; rw [h0]; rfl)
    have HEX := Lib.hid (pfx_eq_hex hxo.p huo.p h0)
    clear h0
    go_wp2_with (first | ((with_reducible show wpList _ _ _ (Oper.mk _ (Op.load _ _) _ _ _ _ :: _) _ _); refine wpList_load_g (HLD.out.pfx) _ rfl rfl (by go_simp) ?_) | ((with_reducible show wpList _ _ _ (Oper.mk _ (Op.load _ _) _ _ _ _ :: _) _ _); refine wpList_load_g (HG.out.pfx) _ rfl rfl (by go_simp) ?_) | ((with_reducible show wpList _ _ _ (Oper.mk _ (Op.load _ _) _ _ _ _ :: _) _ _); refine wpList_load_g (HLD.out.src) _ rfl rfl (by go_simp) ?_) | ((with_reducible show wpList _ _ _ (Oper.mk _ (Op.load _ _) _ _ _ _ :: _) _ _); refine wpList_load_g (HG.out.src) _ rfl rfl (by go_simp) ?_) | ((with_reducible show wpList _ _ _ (Oper.mk _ (Op.binOp _ _ _ _ _) _ _ _ _ :: _) _ _); refine wpList_exw rfl (HEX.out _ _ _ _ _ rfl rfl rfl _) ?_))
    go_ret
    rw [HV.out]
    exact ⟨rfl, HBE.out⟩
set_option maxHeartbeats 2000000 in
theorem order_any (a b : Rte) (w : World) (ha : a.fits) (hb : b.fits) : Calls Tryd.prog 43 #[.agg (rteV a), .agg (rteV b)] w fun e w' => e = .returned (.int .i64 (cR a b)) ∧ Below w.heap.size w w' := by
  have hblk1 := blk_new w (.cells (rteV a) 51)
  have hbel1 : Below w.heap.size w (w.alloc (.cells (rteV a) 51)) := below_alloc (Below.refl _ _) _
  have hblk2 := blk_new (w.alloc (.cells (rteV a) 51)) (.cells (rteV b) 51)
  have hbel2 : Below w.heap.size w ((w.alloc (.cells (rteV a) 51)).alloc (.cells (rteV b) 51)) := below_alloc (hbel1) _
  rw [show (w.alloc (.cells (rteV a) 51)).heap.size = w.heap.size + 1 by simp] at hblk2
  replace hblk1 := blk_below hblk1 (below_alloc (Below.refl _ _) (.cells (rteV b) 51))
  have HP1 := Lib.hid (rte_at ha hblk1)
  have HBK1 := Lib.hid hblk1
  have HP2 := Lib.hid (rte_at hb hblk2)
  have HBK2 := Lib.hid hblk2
  have HBE := Lib.hid hbel2
  obtain ⟨cs1, hcs1⟩ : ∃ cs, rteV a = cs := ⟨_, rfl⟩
  obtain ⟨cs2, hcs2⟩ : ∃ cs, rteV b = cs := ⟨_, rfl⟩
  simp only [hcs1, hcs2] at HBE HP1 HP2 HBK1 HBK2 ⊢
  have HC1 := Lib.hid hcs1
  have HC2 := Lib.hid hcs2
  clear hcs1 hblk1 hbel1 hcs2 hblk2 hbel2
  have HE := Lib.hid (cR_or a b ha hb)
  go_enter Tryd.func43, Tryd.ntmps43
  go_wp2_with fail
  refine wp_region_mix (fun w0 => Below ((w.alloc (.cells cs1 51)).alloc (.cells cs2 51)).heap.size ((w.alloc (.cells cs1 51)).alloc (.cells cs2 51)) w0) [(0, 0), (1, 0), (2, 0), (3, 0), (5, 0), (6, 0), (7, 0), (8, 0), (4, 2), (9, 2), (10, 2), (11, 2), (12, 0)] (by kernel_rfl) (by kernel_rfl) (below_drew1 _) ?_
  simp only [List.map_cons, List.map_nil]
  iterate 1 (refine wpO_step0 rfl rfl (fun K hK => ?_); go_simp; refine hK _ _ ?_; clear hK K)
  refine wpO_loadW (t := 49) (ad := ⟨w.heap.size, 0, none⟩) rfl rfl ?hw rfl rfl ((fun w0 hS => (HP1.out.all w0 hS).pfx)) ?_
  case hw => go_simp
  iterate 1 (refine wpO_step0 rfl rfl (fun K hK => ?_); go_simp; refine hK _ _ ?_; clear hK K)
  refine wpO_loadW (t := 49) (ad := ⟨(w.heap.size+1), 0, none⟩) rfl rfl ?hw rfl rfl ((fun w0 hS => (HP2.out.all w0 hS).pfx)) ?_
  case hw => go_simp
  iterate 1 (refine wpO_step0 rfl rfl (fun K hK => ?_); go_simp; refine hK _ _ ?_; clear hK K)
  refine wpO_loadW (t := 3) (ad := ⟨w.heap.size, 18, none⟩) rfl rfl ?hw rfl rfl ((fun w0 hS => (HP1.out.all w0 hS).src)) ?_
  case hw => go_simp
  iterate 1 (refine wpO_step0 rfl rfl (fun K hK => ?_); go_simp; refine hK _ _ ?_; clear hK K)
  refine wpO_loadW (t := 3) (ad := ⟨(w.heap.size+1), 18, none⟩) rfl rfl ?hw rfl rfl ((fun w0 hS => (HP2.out.all w0 hS).src)) ?_
  case hw => go_simp
  refine wpO_step2 rfl rfl (below_drew1 _) (fun K hK => ?_)
  go_simp
  refine (compare_any a.p b.p _ ha hb).mono ?_
  rintro e w1 ⟨rfl, hb1⟩
  have HB1 := Lib.hid (below_step (below_drew1 _) hb1)
  clear hb1
  refine hK _ _ ⟨HB1.out, ?_⟩
  clear hK K
  refine wpO_step2 rfl rfl (HB1.out) (fun K hK => ?_)
  go_simp
  refine (cmpint_any a.s b.s _).mono ?_
  rintro e w2 ⟨rfl, rfl⟩
  refine hK _ _ ⟨HB1.out, ?_⟩
  clear hK K
  obtain ⟨x0, h0⟩ : ∃ x, a.p.cmp b.p = x := ⟨_, rfl⟩
  obtain ⟨x1, h1⟩ : ∃ x, cmpN a.s b.s = x := ⟨_, rfl⟩
  rw [h0, h1] at HE
  rw [h0, h1]
  clear h0 h1
  refine wpO_step2 rfl rfl (HB1.out) (fun K hK => ?_)
  go_simp
  have HRI := Lib.hid (OI.new w1 0 [x0, x1] (by omega) (by simp)).reads
  have HB2 := Lib.hid (below_step HB1.out (below_alloc (Below.refl w1.heap.size w1) (.cells #[.int .i64 x0, .int .i64 x1] 3)))
  refine hK _ _ ⟨HB2.out, ?_⟩
  clear hK K
  refine wpO_step2 rfl rfl (HB2.out) (fun K hK => ?_)
  go_simp
  refine (or_any _ 2 2 [x0, x1] _ HRI.out).mono ?_
  rintro e w3 ⟨rfl, rfl⟩
  refine hK _ _ ⟨HB2.out, ?_⟩
  clear hK K
  iterate 1 (refine wpO_step0 rfl rfl (fun K hK => ?_); go_simp; refine hK _ _ ?_; clear hK K)
  refine wpO_nil ?_
  go_wp2
  go_ret
  rw [HE.out]
  exact ⟨rfl, below_step HBE.out HB2.out⟩
def betB (a b : Rte) : Bool := decide (0 < orI [cmpN a.f b.f, cmpN b.s a.s])
set_option maxHeartbeats 2000000 in
theorem better_any (a b : Rte) (w : World) (ha : a.fits) (hb : b.fits) : Calls Tryd.prog 51 #[.agg (rteV a), .agg (rteV b)] w fun e w' => e = .returned (.bool (betB a b)) ∧ Below w.heap.size w w' := by
  have hblk1 := blk_new w (.cells (rteV a) 51)
  have hbel1 : Below w.heap.size w (w.alloc (.cells (rteV a) 51)) := below_alloc (Below.refl _ _) _
  have hblk2 := blk_new (w.alloc (.cells (rteV a) 51)) (.cells (rteV b) 51)
  have hbel2 : Below w.heap.size w ((w.alloc (.cells (rteV a) 51)).alloc (.cells (rteV b) 51)) := below_alloc (hbel1) _
  rw [show (w.alloc (.cells (rteV a) 51)).heap.size = w.heap.size + 1 by simp] at hblk2
  replace hblk1 := blk_below hblk1 (below_alloc (Below.refl _ _) (.cells (rteV b) 51))
  have HP1 := Lib.hid (rte_at ha hblk1)
  have HBK1 := Lib.hid hblk1
  have HP2 := Lib.hid (rte_at hb hblk2)
  have HBK2 := Lib.hid hblk2
  have HBE := Lib.hid hbel2
  obtain ⟨cs1, hcs1⟩ : ∃ cs, rteV a = cs := ⟨_, rfl⟩
  obtain ⟨cs2, hcs2⟩ : ∃ cs, rteV b = cs := ⟨_, rfl⟩
  simp only [hcs1, hcs2] at HBE HP1 HP2 HBK1 HBK2 ⊢
  have HC1 := Lib.hid hcs1
  have HC2 := Lib.hid hcs2
  clear hcs1 hblk1 hbel1 hcs2 hblk2 hbel2
  have HE := Lib.hid (show betB a b = decide (0 < orI [cmpN a.f b.f, cmpN b.s a.s]) from rfl)
  go_enter Tryd.func51, Tryd.ntmps51
  go_wp2_with fail
  refine wp_region_mix (fun w0 => Below ((w.alloc (.cells cs1 51)).alloc (.cells cs2 51)).heap.size ((w.alloc (.cells cs1 51)).alloc (.cells cs2 51)) w0) [(0, 0), (1, 0), (2, 0), (3, 0), (5, 0), (6, 0), (7, 0), (8, 0), (4, 2), (9, 2), (10, 2), (11, 2), (12, 0), (13, 0)] (by kernel_rfl) (by kernel_rfl) (below_drew1 _) ?_
  simp only [List.map_cons, List.map_nil]
  iterate 1 (refine wpO_step0 rfl rfl (fun K hK => ?_); go_simp; refine hK _ _ ?_; clear hK K)
  refine wpO_loadW (t := 3) (ad := ⟨w.heap.size, 19, none⟩) rfl rfl ?hw rfl rfl ((fun w0 hS => (HP1.out.all w0 hS).prf)) ?_
  case hw => go_simp
  iterate 1 (refine wpO_step0 rfl rfl (fun K hK => ?_); go_simp; refine hK _ _ ?_; clear hK K)
  refine wpO_loadW (t := 3) (ad := ⟨(w.heap.size+1), 19, none⟩) rfl rfl ?hw rfl rfl ((fun w0 hS => (HP2.out.all w0 hS).prf)) ?_
  case hw => go_simp
  iterate 1 (refine wpO_step0 rfl rfl (fun K hK => ?_); go_simp; refine hK _ _ ?_; clear hK K)
  refine wpO_loadW (t := 3) (ad := ⟨(w.heap.size+1), 18, none⟩) rfl rfl ?hw rfl rfl ((fun w0 hS => (HP2.out.all w0 hS).src)) ?_
  case hw => go_simp
  iterate 1 (refine wpO_step0 rfl rfl (fun K hK => ?_); go_simp; refine hK _ _ ?_; clear hK K)
  refine wpO_loadW (t := 3) (ad := ⟨w.heap.size, 18, none⟩) rfl rfl ?hw rfl rfl ((fun w0 hS => (HP1.out.all w0 hS).src)) ?_
  case hw => go_simp
  refine wpO_step2 rfl rfl (below_drew1 _) (fun K hK => ?_)
  go_simp
  refine (cmpint_any a.f b.f _).mono ?_
  rintro e w2 ⟨rfl, rfl⟩
  refine hK _ _ ⟨below_drew1 _, ?_⟩
  clear hK K
  refine wpO_step2 rfl rfl (below_drew1 _) (fun K hK => ?_)
  go_simp
  refine (cmpint_any b.s a.s _).mono ?_
  rintro e w2 ⟨rfl, rfl⟩
  refine hK _ _ ⟨below_drew1 _, ?_⟩
  clear hK K
  obtain ⟨x0, h0⟩ : ∃ x, cmpN a.f b.f = x := ⟨_, rfl⟩
  obtain ⟨x1, h1⟩ : ∃ x, cmpN b.s a.s = x := ⟨_, rfl⟩
  rw [h0, h1] at HE
  rw [h0, h1]
  clear h0 h1
  obtain ⟨W1, hW1⟩ : ∃ W1, ((w.alloc (.cells cs1 51)).alloc (.cells cs2 51)).drew = W1 := ⟨_, rfl⟩
  have HB1 : Hid (Below ((w.alloc (.cells cs1 51)).alloc (.cells cs2 51)).heap.size ((w.alloc (.cells cs1 51)).alloc (.cells cs2 51)) W1) := Lib.hid (hW1 ▸ below_drew1 _)
  rw [hW1]
  clear hW1
  refine wpO_step2 rfl rfl (HB1.out) (fun K hK => ?_)
  go_simp
  have HRI := Lib.hid (OI.new W1 0 [x0, x1] (by omega) (by simp)).reads
  have HB2 := Lib.hid (below_step HB1.out (below_alloc (Below.refl W1.heap.size W1) (.cells #[.int .i64 x0, .int .i64 x1] 3)))
  refine hK _ _ ⟨HB2.out, ?_⟩
  clear hK K
  refine wpO_step2 rfl rfl (HB2.out) (fun K hK => ?_)
  go_simp
  refine (or_any _ 2 2 [x0, x1] _ HRI.out).mono ?_
  rintro e w3 ⟨rfl, rfl⟩
  refine hK _ _ ⟨HB2.out, ?_⟩
  clear hK K
  iterate 1 (refine wpO_step0 rfl rfl (fun K hK => ?_); go_simp; refine hK _ _ ?_; clear hK K)
  iterate 1 (refine wpO_step0 rfl rfl (fun K hK => ?_); go_simp; refine hK _ _ ?_; clear hK K)
  refine wpO_nil ?_
  go_wp2
  go_ret
  rw [HE.out]
  exact ⟨rfl, below_step HBE.out HB2.out⟩
def beats (y x : Rte) : Bool := y.p.eqB x.p && betB y x
set_option maxHeartbeats 2000000 in
theorem best1_any (y x : Rte) (g : Nat) (w : World) (hyo : y.ok) (hxo : x.ok) (hg : RteAt w g x) : Calls Tryd.prog 50 #[.agg (rteV y), .pointer (some ⟨g, 0, none⟩)] w fun e w' => e = .returned (.bool (beats y x)) ∧ Below w.heap.size w w' := by
  have hy := hyo.fits
  have hblk1 := blk_new w (.cells (rteV y) 51)
  have hbel1 : Below w.heap.size w (w.alloc (.cells (rteV y) 51)) := below_alloc (Below.refl _ _) _
  have HP1 := Lib.hid (rte_at hy hblk1)
  have HBK1 := Lib.hid hblk1
  have HBE := Lib.hid hbel1
  obtain ⟨cs1, hcs1⟩ : ∃ cs, rteV y = cs := ⟨_, rfl⟩
  simp only [hcs1] at HBE HP1 HBK1 ⊢
  have HC1 := Lib.hid hcs1
  clear hcs1 hblk1 hbel1
  have HG := Lib.hid (hg.all _ HBE.out)
  have HLD := Lib.hid (HP1.out.all _ (Below.refl _ _))
  clear hg
  go_enter Tryd.func50, Tryd.ntmps50
  cases h0 : y.p.eqB x.p with
  | false =>
    have HV : Hid (beats y x = false) := Lib.hid (by unfold beats; rw [h0]; rfl)
    have HEX := Lib.hid (pfx_eq_hex hyo.p hxo.p h0)
    clear h0
    go_wp2_with (first | ((with_reducible show wpList _ _ _ (Oper.mk _ (Op.load _ _) _ _ _ _ :: _) _ _); refine wpList_load_g (HLD.out.pfx) _ rfl rfl (by go_simp) ?_) | ((with_reducible show wpList _ _ _ (Oper.mk _ (Op.load _ _) _ _ _ _ :: _) _ _); refine wpList_load_g (HG.out.pfx) _ rfl rfl (by go_simp) ?_) | ((with_reducible show wpList _ _ _ (Oper.mk _ (Op.binOp _ _ _ _ _) _ _ _ _ :: _) _ _); refine wpList_exw rfl (HEX.out _ _ _ _ _ rfl rfl rfl _) ?_))
    go_ret
    rw [HV.out]
    exact ⟨rfl, HBE.out⟩
  | true =>
    have HV : Hid (beats y x = betB y x) := Lib.hid (by unfold beats; rw [h0]; rfl)
    have HEX := Lib.hid (pfx_eq_hex hyo.p hxo.p h0)
    clear h0
    go_wp2_with (first | ((with_reducible show wpList _ _ _ (Oper.mk _ (Op.load _ _) _ _ _ _ :: _) _ _); refine wpList_load_g (HLD.out.pfx) _ rfl rfl (by go_simp) ?_) | ((with_reducible show wpList _ _ _ (Oper.mk _ (Op.load _ _) _ _ _ _ :: _) _ _); refine wpList_load_g (HG.out.pfx) _ rfl rfl (by go_simp) ?_) | ((with_reducible show wpList _ _ _ (Oper.mk _ (Op.load _ _) _ _ _ _ :: _) _ _); refine wpList_load_g (HLD.out.all) _ rfl rfl (by go_simp) ?_) | ((with_reducible show wpList _ _ _ (Oper.mk _ (Op.load _ _) _ _ _ _ :: _) _ _); refine wpList_load_g (HG.out.all) _ rfl rfl (by go_simp) ?_) | ((with_reducible show wpList _ _ _ (Oper.mk _ (Op.binOp _ _ _ _ _) _ _ _ _ :: _) _ _); refine wpList_exw rfl (HEX.out _ _ _ _ _ rfl rfl rfl _) ?_))
    refine (better_any y x _ hy hxo.fits).mono ?_
    rintro e w1 ⟨rfl, hb1⟩
    have HB1 := Lib.hid (below_step HBE.out hb1)
    clear hb1
    go_wp2
    go_ret
    rw [HV.out]
    exact ⟨rfl, HB1.out⟩
set_option maxHeartbeats 2000000 in
theorem refahead_any (a b : Rte) (w : World) (ha : a.fits) (hb : b.fits) : Calls Tryd.prog 47 #[.agg (rteV a), .agg (rteV b)] w fun e w' => e = .returned (.bool (aheadB a b)) ∧ Below w.heap.size w w' := by
  have hblk1 := blk_new w (.cells (rteV a) 51)
  have hbel1 : Below w.heap.size w (w.alloc (.cells (rteV a) 51)) := below_alloc (Below.refl _ _) _
  have hblk2 := blk_new (w.alloc (.cells (rteV a) 51)) (.cells (rteV b) 51)
  have hbel2 : Below w.heap.size w ((w.alloc (.cells (rteV a) 51)).alloc (.cells (rteV b) 51)) := below_alloc (hbel1) _
  rw [show (w.alloc (.cells (rteV a) 51)).heap.size = w.heap.size + 1 by simp] at hblk2
  replace hblk1 := blk_below hblk1 (below_alloc (Below.refl _ _) (.cells (rteV b) 51))
  have HP1 := Lib.hid (rte_at ha hblk1)
  have HBK1 := Lib.hid hblk1
  have HP2 := Lib.hid (rte_at hb hblk2)
  have HBK2 := Lib.hid hblk2
  have HBE := Lib.hid hbel2
  obtain ⟨cs1, hcs1⟩ : ∃ cs, rteV a = cs := ⟨_, rfl⟩
  obtain ⟨cs2, hcs2⟩ : ∃ cs, rteV b = cs := ⟨_, rfl⟩
  simp only [hcs1, hcs2] at HBE HP1 HP2 HBK1 HBK2 ⊢
  have HC1 := Lib.hid hcs1
  have HC2 := Lib.hid hcs2
  clear hcs1 hblk1 hbel1 hcs2 hblk2 hbel2
  have HLA := Lib.hid (fun (w0 : World) (h : Below _ _ w0) => HP1.out.all w0 h)
  have HLB := Lib.hid (fun (w0 : World) (h : Below _ _ w0) => HP2.out.all w0 h)
  go_enter Tryd.func47, Tryd.ntmps47
  go_wp2_with (first | ((with_reducible show wpList _ _ _ (Oper.mk _ (Op.load _ _) _ _ _ _ :: _) _ _); refine wpList_load_g ((HLA.out _ (Below.refl _ _)).pfx) _ rfl rfl (by go_simp) ?_) | ((with_reducible show wpList _ _ _ (Oper.mk _ (Op.load _ _) _ _ _ _ :: _) _ _); refine wpList_load_g ((HLB.out _ (Below.refl _ _)).pfx) _ rfl rfl (by go_simp) ?_))
  refine (refcompare_any a.p b.p _ ha hb).mono ?_
  rintro e w1 ⟨rfl, hb1⟩
  have HB1 := Lib.hid hb1
  obtain ⟨N, hN⟩ : ∃ N, a.p.cmp b.p = N := ⟨_, rfl⟩
  rw [hN]
  have HE : Hid (aheadB a b = (decide (N < 0) || (decide (N = 0) && decide (a.s < b.s)))) := Lib.hid (by unfold aheadB; rw [hN])
  clear hb1 hN
  by_cases h1 : N < 0
  · have h1b : decide (N < 0) = true := decide_eq_true h1
    have HV : Hid (aheadB a b = true) := Lib.hid (by rw [HE.out, h1b]; rfl)
    clear h1
    go_wp2_with fail
    go_ret
    rw [HV.out]
    exact ⟨rfl, below_step HBE.out HB1.out⟩
  · have h1b : decide (N < 0) = false := decide_eq_false h1
    by_cases h2 : N = 0
    · have HV : Hid (aheadB a b = decide (a.s < b.s)) := Lib.hid (by rw [HE.out, h1b, decide_eq_true h2]; rfl)
      subst h2
      clear h1
      go_wp2_with (first | ((with_reducible show wpList _ _ _ (Oper.mk _ (Op.load _ _) _ _ _ _ :: _) _ _); refine wpList_load_g ((HLA.out _ HB1.out).src) _ rfl rfl (by go_simp) ?_) | ((with_reducible show wpList _ _ _ (Oper.mk _ (Op.load _ _) _ _ _ _ :: _) _ _); refine wpList_load_g ((HLB.out _ HB1.out).src) _ rfl rfl (by go_simp) ?_))
      go_ret
      rw [HV.out]
      exact ⟨rfl, below_step HBE.out HB1.out⟩
    · have h2b : (N == 0) = false := by simpa using h2
      have HV : Hid (aheadB a b = false) := Lib.hid (by rw [HE.out, h1b, decide_eq_false h2]; rfl)
      clear h1 h2
      go_wp2_with fail
      go_ret
      rw [HV.out]
      exact ⟨rfl, below_step HBE.out HB1.out⟩
end Go.Proofs.YtnpeedmicjeleaaDoor

/- Arguments that are RIBs and batches, opened. -/
namespace Go.Proofs.YtnpeedmicjeleaaDoor
open Go.ChangeShapes Go.WideShapes Go.ChangeAt Go.RowKit
set_option linter.unusedVariables false
set_option linter.unusedSimpArgs false
set_option maxRecDepth 4000
theorem parts4 {α : Type} (l : List α) (a : Nat) : l = l.take a ++ ((l.drop a).take 1 ++ ((l.drop (a + 1)).take 1 ++ l.drop (a + 2))) := by
  have h1 : l.drop a = (l.drop a).take 1 ++ l.drop (a + 1) := by
    conv => lhs; rw [← List.take_append_drop 1 (l.drop a)]
    rw [List.drop_drop]
  have h2 : l.drop (a + 1) = (l.drop (a + 1)).take 1 ++ l.drop (a + 2) := by
    conv => lhs; rw [← List.take_append_drop 1 (l.drop (a + 1))]
    rw [List.drop_drop]
  rw [← h2, ← h1, List.take_append_drop]
section
variable {H : Type} {enc : TypeId × Value → H} {W : World} {base : Nat} {spare : Nat → Bool} {held : Bool}
theorem open_rte_cells {fuel : Nat} {cs : List Value} {x : DataW H × List MemPlace} (h : DataW.trod enc Tryd.prog W base spare held fuel 51 cs = some x) : ∃ r : Rte, cs = rteC r ∧ r.ok := by
  obtain ⟨xs, m, -, -, hlen, hxl, hg⟩ := DataW.trod_struct Tryd.underlying51 h
  have c1 : Tryd.prog.cellsOf 3 = 1 := by kernel_rfl
  have c2 : Tryd.prog.cellsOf 49 = 18 := by kernel_rfl
  have c3 : Tryd.prog.cellsOf 51 = 21 := by kernel_rfl
  have h0 : DataW.trod enc Tryd.prog W base spare held m 49 ((cs.drop 0).take (Tryd.prog.cellsOf 49)) = xs[0]? := hg 0 _ rfl
  have h1 : DataW.trod enc Tryd.prog W base spare held m 3 ((cs.drop 18).take (Tryd.prog.cellsOf 3)) = xs[1]? := hg 1 _ rfl
  have h2 : DataW.trod enc Tryd.prog W base spare held m 3 ((cs.drop 19).take (Tryd.prog.cellsOf 3)) = xs[2]? := hg 2 _ rfl
  have h3 : DataW.trod enc Tryd.prog W base spare held m 3 ((cs.drop 20).take (Tryd.prog.cellsOf 3)) = xs[3]? := hg 3 _ rfl
  rw [c3] at hlen
  rw [c2, List.drop_zero] at h0
  rw [c1] at h1 h2 h3
  have hx4 : xs.length = 4 := hxl
  match xs, hx4 with
  | [x0, x1, x2, x3], _ =>
    obtain ⟨v, l, b, hvl, hb, hw, hwb⟩ := open_pfx_cells (show DataW.trod enc Tryd.prog W base spare held m 49 (cs.take 18) = some x0 from h0)
    obtain ⟨s1, hv1, -, hw1⟩ := DataW.trod_int Tryd.underlying3 (show DataW.trod enc Tryd.prog W base spare held m 3 ((cs.drop 18).take 1) = some x1 from h1)
    obtain ⟨s2, hv2, -, hw2⟩ := DataW.trod_int Tryd.underlying3 (show DataW.trod enc Tryd.prog W base spare held m 3 ((cs.drop 19).take 1) = some x2 from h2)
    obtain ⟨s3, hv3, -, hw3⟩ := DataW.trod_int Tryd.underlying3 (show DataW.trod enc Tryd.prog W base spare held m 3 ((cs.drop 20).take 1) = some x3 from h3)
    rw [List.take_of_length_le (by rw [List.length_drop]; omega)] at hv3
    refine ⟨⟨⟨v, l, b⟩, s1, s2, s3⟩, ?_, ⟨hb, hw, hwb⟩, hw1, hw2, hw3⟩
    rw [parts4 cs 18, hvl, hv1, hv2, hv3]
    rw [show rteC ⟨⟨v, l, b⟩, s1, s2, s3⟩ = (pfxV v l b).toList ++ [.int .i64 s1, .int .i64 s2, .int .i64 s3] from rfl, pfxV_list]
    simp
theorem open_upd_cells {fuel : Nat} {cs : List Value} {x : DataW H × List MemPlace} (h : DataW.trod enc Tryd.prog W base spare held fuel 75 cs = some x) : ∃ r : Upd, cs = updC r ∧ r.ok := by
  obtain ⟨xs, m, -, -, hlen, hxl, hg⟩ := DataW.trod_struct Tryd.underlying75 h
  have c1 : Tryd.prog.cellsOf 3 = 1 := by kernel_rfl
  have c4 : Tryd.prog.cellsOf 4 = 1 := by kernel_rfl
  have c2 : Tryd.prog.cellsOf 49 = 18 := by kernel_rfl
  have c3 : Tryd.prog.cellsOf 75 = 22 := by kernel_rfl
  have h0 : DataW.trod enc Tryd.prog W base spare held m 49 ((cs.drop 0).take (Tryd.prog.cellsOf 49)) = xs[0]? := hg 0 _ rfl
  have h1 : DataW.trod enc Tryd.prog W base spare held m 3 ((cs.drop 18).take (Tryd.prog.cellsOf 3)) = xs[1]? := hg 1 _ rfl
  have h2 : DataW.trod enc Tryd.prog W base spare held m 4 ((cs.drop 19).take (Tryd.prog.cellsOf 4)) = xs[2]? := hg 2 _ rfl
  have h3 : DataW.trod enc Tryd.prog W base spare held m 3 ((cs.drop 20).take (Tryd.prog.cellsOf 3)) = xs[3]? := hg 3 _ rfl
  have h4 : DataW.trod enc Tryd.prog W base spare held m 3 ((cs.drop 21).take (Tryd.prog.cellsOf 3)) = xs[4]? := hg 4 _ rfl
  rw [c3] at hlen
  rw [c2, List.drop_zero] at h0
  rw [c1] at h1 h3 h4
  rw [c4] at h2
  have hx5 : xs.length = 5 := hxl
  match xs, hx5 with
  | [x0, x1, x2, x3, x4], _ =>
    obtain ⟨v, l, b, hvl, hb, hw, hwb⟩ := open_pfx_cells (show DataW.trod enc Tryd.prog W base spare held m 49 (cs.take 18) = some x0 from h0)
    obtain ⟨s1, hv1, -, hw1⟩ := DataW.trod_int Tryd.underlying3 (show DataW.trod enc Tryd.prog W base spare held m 3 ((cs.drop 18).take 1) = some x1 from h1)
    obtain ⟨g, hv2, -⟩ := DataW.trod_bool Tryd.underlying4 (show DataW.trod enc Tryd.prog W base spare held m 4 ((cs.drop 19).take 1) = some x2 from h2)
    obtain ⟨s3, hv3, -, hw3⟩ := DataW.trod_int Tryd.underlying3 (show DataW.trod enc Tryd.prog W base spare held m 3 ((cs.drop 20).take 1) = some x3 from h3)
    obtain ⟨s4, hv4, -, hw4⟩ := DataW.trod_int Tryd.underlying3 (show DataW.trod enc Tryd.prog W base spare held m 3 ((cs.drop 21).take 1) = some x4 from h4)
    rw [List.take_of_length_le (by rw [List.length_drop]; omega)] at hv4
    refine ⟨⟨⟨v, l, b⟩, s1, g, s3, s4⟩, ?_, ⟨hb, hw, hwb⟩, hw1, hw3, hw4⟩
    have e2 : cs.drop 20 = (cs.drop 20).take 1 ++ cs.drop 21 := by
      conv => lhs; rw [← List.take_append_drop 1 (cs.drop 20)]
      rw [List.drop_drop]
    rw [parts4 cs 18, hvl, hv1, hv2, show 18 + 2 = 20 from rfl, e2, hv3, hv4]
    rw [show updC ⟨⟨v, l, b⟩, s1, g, s3, s4⟩ = (pfxV v l b).toList ++ [.int .i64 s1, .bool g, .int .i64 s3, .int .i64 s4] from rfl, pfxV_list]
    simp
theorem open_rib_cells {fuel : Nat} {cs : List Value} {x : DataW H × List MemPlace} (h : DataW.trod enc Tryd.prog W base spare held fuel 24 cs = some x) (hl : Light Tryd.prog 24 x.1) : ∃ A n c t, cs = [.slice A n c] ∧ RS rteK W A n c t ∧ (∀ a ∈ t, a.ok) ∧ n * 56 ≤ 140737488351232 := by
  obtain ⟨xs, m, -, hx, hlen, hxl, hg⟩ := DataW.trod_struct Tryd.underlying24 h
  have c1 : Tryd.prog.cellsOf 22 = 1 := by kernel_rfl
  have c3 : Tryd.prog.cellsOf 24 = 1 := by kernel_rfl
  have h0 : DataW.trod enc Tryd.prog W base spare held m 22 ((cs.drop 0).take (Tryd.prog.cellsOf 22)) = xs[0]? := hg 0 _ rfl
  rw [c3] at hlen
  rw [c1, List.drop_zero, List.take_of_length_le (by omega)] at h0
  have hx1 : xs.length = 1 := hxl
  subst hx
  match xs, hx1 with
  | [x0], _ =>
    have hl0 : Light Tryd.prog 22 x0.1 := light_field Tryd.underlying24 hl (i := 0) (f := _) rfl rfl
    obtain ⟨A, n, c, t, e1, e2, e3, e4⟩ := open_shp rteK Rte.ok (by show Tryd.prog.cellsOf 51 = 21; kernel_rfl) (by show 0 < Tryd.prog.bytesOf 51; exact of_decide_eq_true (by kernel_rfl)) (fun fuel cs y hy _ => by
      obtain ⟨r, e, hr⟩ := open_rte_cells hy
      exact ⟨r, e, hr.fits, hr⟩) (show DataW.trod enc Tryd.prog W base spare held m 22 cs = some x0 from h0) hl0
    refine ⟨A, n, c, t, e1, e2, e3, ?_⟩
    have hb : Tryd.prog.bytesOf (rteK).t = 56 := by show Tryd.prog.bytesOf 51 = 56; kernel_rfl
    rw [hb] at e4
    exact e4
theorem open_bat_cells {fuel : Nat} {cs : List Value} {x : DataW H × List MemPlace} (h : DataW.trod enc Tryd.prog W base spare held fuel 27 cs = some x) (hl : Light Tryd.prog 27 x.1) : ∃ A n c t, cs = [.slice A n c] ∧ RS updK W A n c t ∧ (∀ a ∈ t, a.ok) ∧ n * 64 ≤ 140737488351232 := by
  obtain ⟨xs, m, -, hx, hlen, hxl, hg⟩ := DataW.trod_struct Tryd.underlying27 h
  have c1 : Tryd.prog.cellsOf 25 = 1 := by kernel_rfl
  have c3 : Tryd.prog.cellsOf 27 = 1 := by kernel_rfl
  have h0 : DataW.trod enc Tryd.prog W base spare held m 25 ((cs.drop 0).take (Tryd.prog.cellsOf 25)) = xs[0]? := hg 0 _ rfl
  rw [c3] at hlen
  rw [c1, List.drop_zero, List.take_of_length_le (by omega)] at h0
  have hx1 : xs.length = 1 := hxl
  subst hx
  match xs, hx1 with
  | [x0], _ =>
    have hl0 : Light Tryd.prog 25 x0.1 := light_field Tryd.underlying27 hl (i := 0) (f := _) rfl rfl
    obtain ⟨A, n, c, t, e1, e2, e3, e4⟩ := open_shp updK Upd.ok (by show Tryd.prog.cellsOf 75 = 22; kernel_rfl) (by show 0 < Tryd.prog.bytesOf 75; exact of_decide_eq_true (by kernel_rfl)) (fun fuel cs y hy _ => by
      obtain ⟨r, e, hr⟩ := open_upd_cells hy
      exact ⟨r, e, hr.fits, hr⟩) (show DataW.trod enc Tryd.prog W base spare held m 25 cs = some x0 from h0) hl0
    refine ⟨A, n, c, t, e1, e2, e3, ?_⟩
    have hb : Tryd.prog.bytesOf (updK).t = 64 := by show Tryd.prog.bytesOf 75 = 64; kernel_rfl
    rw [hb] at e4
    exact e4
end
theorem open_rib {H : Type} {enc : TypeId × Value → H} {W : World} {base b0 : Nat} {spare : Nat → Bool} {held : Bool} {v : Value} {d : DataW H} {p : List MemPlace} (hv : Value.okWide Tryd.prog W .any b0 24 v)
    (h : DataW.Trod enc Tryd.prog W base spare held 24 v d p) (hl : Light Tryd.prog 24 d) : ∃ A n c t, v = .agg (tabV A n c) ∧ RS rteK W A n c t ∧ (∀ a ∈ t, a.ok) ∧ n * 56 ≤ 140737488351232 := by
  obtain ⟨cs, rfl, -⟩ := okWide_struct Tryd.underlying24 hv
  obtain ⟨fuel, hf⟩ := h
  obtain ⟨A, n, c, t, hc, h1, h2, h3⟩ := open_rib_cells hf hl
  refine ⟨A, n, c, t, ?_, h1, h2, h3⟩
  have : cs = tabV A n c := by
    apply Array.toList_inj.1
    exact hc
  rw [this]
theorem open_bat {H : Type} {enc : TypeId × Value → H} {W : World} {base b0 : Nat} {spare : Nat → Bool} {held : Bool} {v : Value} {d : DataW H} {p : List MemPlace} (hv : Value.okWide Tryd.prog W .any b0 27 v)
    (h : DataW.Trod enc Tryd.prog W base spare held 27 v d p) (hl : Light Tryd.prog 27 d) : ∃ A n c t, v = .agg (tabV A n c) ∧ RS updK W A n c t ∧ (∀ a ∈ t, a.ok) ∧ n * 64 ≤ 140737488351232 := by
  obtain ⟨cs, rfl, -⟩ := okWide_struct Tryd.underlying27 hv
  obtain ⟨fuel, hf⟩ := h
  obtain ⟨A, n, c, t, hc, h1, h2, h3⟩ := open_bat_cells hf hl
  refine ⟨A, n, c, t, ?_, h1, h2, h3⟩
  have : cs = tabV A n c := by
    apply Array.toList_inj.1
    exact hc
  rw [this]
end Go.Proofs.YtnpeedmicjeleaaDoor

/- Layer 9 (table): Get, Drop. -/
namespace Go.Proofs.YtnpeedmicjeleaaDoor
open Go.RowKit
set_option linter.unusedVariables false
set_option linter.unusedSimpArgs false
set_option maxRecDepth 4000
theorem load_tab {w : World} {g : Nat} {A : Option Addr} {n c : Nat} (h : w.heap[g]? = some (.cells (tabV A n c) 39 (0, 0))) : (Instr.loadAt 39 (.pointer (some ⟨g, 0, none⟩))).run Tryd.prog w = .ok (.agg (tabV A n c)) w := ((tab_at h).all w (Below.refl _ _)).1
theorem run_build_tab_nil (w : World) : (Instr.build 39 #[]).run Tryd.prog w = .ok (.agg (tabV none 0 0)) w := run_build w _ _ _ (by kernel_rfl)
theorem run_build_tab (w : World) (A : Option Addr) (n c : Nat) : (Instr.build 39 #[(0, .slice A n c)]).run Tryd.prog w = .ok (.agg (tabV A n c)) w := run_build w _ _ _ (by kernel_rfl)
theorem info_tab (A : Option Addr) (n c : Nat) : (Tryd.prog.info? 39).map (·.size) = some (tabV A n c).size := by show _ = some 1; kernel_rfl
theorem errT_true {t : List Row} (h : tabB t = true) : errT t = 0 := by unfold errT; rw [h]; rfl
theorem errT_false {t : List Row} (h : tabB t = false) : errT t = 190 := by unfold errT; rw [h]; rfl
theorem lowN_lt {t : List Row} {p : Pfx} (h : thereB t p = true) : lowN t p < t.length := by
  unfold thereB at h
  cases hx : t[lowN t p]? with
  | none => rw [hx] at h; cases h
  | some x => exact (List.getElem?_eq_some_iff.1 hx).1
end Go.Proofs.YtnpeedmicjeleaaDoor

/- Layer 9 (table): Drop, Same, Set. -/
namespace Go.Proofs.YtnpeedmicjeleaaDoor
open Go.RowKit
set_option linter.unusedVariables false
set_option linter.unusedSimpArgs false
set_option maxRecDepth 4000
theorem blk_own {w w1 : World} {g : Nat} {o : Obj} {A : Option Addr} {n c : Nat} (h : w.heap[g]? = some o) (hg : w.grownBy w1 ((Value.slice A n c).ownBlock)) (ha : ∀ ad, A = some ad → g < ad.block) : w1.heap[g]? = some o :=
  blk_grown h hg (fun e => by
    cases A with
    | none => cases e
    | some ad =>
      have := ha ad rfl
      injection e with e
      subst e
      exact Nat.lt_irrefl _ this)
theorem tab_one (A : Option Addr) (n c : Nat) : (tabV A n c).all (·.oneCell') = true := by simp [tabV, Value.oneCell']
theorem splice_tab (A A2 : Option Addr) (n c n2 c2 : Nat) : splice (tabV A n c) 0 (tabV A2 n2 c2).toList = tabV A2 n2 c2 := splice_all _ _ rfl
end Go.Proofs.YtnpeedmicjeleaaDoor

/- Layer 9 (table): Set. -/
namespace Go.Proofs.YtnpeedmicjeleaaDoor
open Go.RowKit
set_option linter.unusedVariables false
set_option linter.unusedSimpArgs false
set_option maxRecDepth 4000
def setE (t : List Row) (p : Pfx) (h : Int) : Int := if tabB t then (if p.right = true ∧ 1 ≤ h ∧ h ≤ 255 then (if thereB t p = false ∧ t.length = 40 then 6 else 0) else 2) else 190
def setL (t : List Row) (p : Pfx) (h : Int) : List Row := if setE t p h = 0 then setT t p h else []
theorem there_eq {t : List Row} {p : Pfx} (hf : Fits t) (hp : B16 p.l) (h : thereB t p = true) : (rowAt t (lowN t p)).p = p := by
  have hlt := lowN_lt h
  unfold thereB at h
  rw [rowAt_get hlt] at h
  exact (Pfx.cmp_zero _ _ (hf.at_ hlt) hp).1 (by simpa using h)
theorem setT_there {t : List Row} {p : Pfx} {h : Int} (hf : Fits t) (hp : B16 p.l) (hth : thereB t p = true) : setT t p h = t.take (lowN t p) ++ ⟨(rowAt t (lowN t p)).p, h⟩ :: t.drop (lowN t p + 1) := by
  rw [there_eq hf hp hth]
  unfold setT
  rw [hth]
  rfl
theorem setT_new {t : List Row} {p : Pfx} {h : Int} (hth : thereB t p = false) : setT t p h = t.take (lowN t p) ++ ⟨p, h⟩ :: t.drop (lowN t p) := by
  unfold setT
  rw [hth]
  rfl
theorem row_patch (r : Row) (hf : r.fits) (h : Int) : rowC ⟨r.p, h⟩ = (rowC r).take 18 ++ Value.int .i64 h :: (rowC r).drop 19 := by
  have h1 := rowC_len hf
  have e : rowC r = (.int .i64 r.p.v :: (nums .u8 r.p.l ++ [.int .i64 r.p.b])) ++ [.int .i64 r.h] := by simp [rowC]
  have e2 : (Value.int .i64 r.p.v :: (nums .u8 r.p.l ++ [.int .i64 r.p.b])).length = 18 := by simp [nums, hf.len]
  rw [List.drop_eq_nil_of_le (by omega), e, List.take_left' e2]
  simp [rowC]
theorem hopB_iff (h : Int) : hopB h = true ↔ 1 ≤ h ∧ h ≤ 255 := by simp [hopB]
set_option maxHeartbeats 4000000 in
theorem tset_any (A : Option Addr) (n c : Nat) (t : List Row) (p : Pfx) (hp9 : Int) (w : World) (hL : Laid w) (ht : RT w A n c t) (hp : B16 p.l) (hn : n ≤ 10000) : Calls Tryd.prog 52 #[.agg (tabV A n c), .agg (pfxV p.v p.l p.b), .int .i64 hp9] w fun e w' => ∃ A' n' c', e = .returned (.tuple #[.agg (tabV A' n' c'), .int .i64 (setE t p hp9)]) ∧ OT w' w.heap.size A' n' c' (setL t p hp9) ∧ Below w.heap.size w w' := by
  have hblk1 := blk_new w (.cells (tabV A n c) 39)
  have hbel1 : Below w.heap.size w (w.alloc (.cells (tabV A n c) 39)) := below_alloc (Below.refl _ _) _
  have hblk2 := blk_new (w.alloc (.cells (tabV A n c) 39)) (.cells (pfxV p.v p.l p.b) 49)
  have hbel2 : Below w.heap.size w ((w.alloc (.cells (tabV A n c) 39)).alloc (.cells (pfxV p.v p.l p.b) 49)) := below_alloc (hbel1) _
  rw [show (w.alloc (.cells (tabV A n c) 39)).heap.size = w.heap.size + 1 by simp] at hblk2
  replace hblk1 := blk_below hblk1 (below_alloc (Below.refl _ _) (.cells (pfxV p.v p.l p.b) 49))
  have HP1 := Lib.hid (tab_at hblk1)
  have HBK1 := Lib.hid hblk1
  have HP2 := Lib.hid (pfx_at hp hblk2)
  have HBK2 := Lib.hid hblk2
  have HBE := Lib.hid hbel2
  have HL := Lib.hid (hL.below HBE.out)
  obtain ⟨cs1, hcs1⟩ : ∃ cs, tabV A n c = cs := ⟨_, rfl⟩
  obtain ⟨cs2, hcs2⟩ : ∃ cs, pfxV p.v p.l p.b = cs := ⟨_, rfl⟩
  simp only [hcs1, hcs2] at HBE HL HP1 HP2 HBK1 HBK2 ⊢
  have HC1 := Lib.hid hcs1
  have HC2 := Lib.hid hcs2
  clear hL hcs1 hblk1 hbel1 hcs2 hblk2 hbel2
  have HT := Lib.hid (ht.below HBE.out)
  have hsz2 : ((w.alloc (.cells cs1 39)).alloc (.cells cs2 49)).heap.size = w.heap.size + 2 := by simp
  have hz := blk_new ((w.alloc (.cells cs1 39)).alloc (.cells cs2 49)) (.cells (tabV none 0 0) 39)
  rw [hsz2] at hz
  have HZ := Lib.hid hz
  have hl1 := (HP1.out.all _ (below_alloc (Below.refl _ _) (.cells (tabV none 0 0) 39))).1
  rw [HC1.out] at hl1
  have hbn := run_build_tab_nil
  clear ht hz hsz2
  go_enter Tryd.func52, Tryd.ntmps52
  go_wp2_with (first | ((with_reducible show wpList _ _ _ (Oper.mk _ (Op.load _ _) _ _ _ _ :: _) _ _); refine wpList_load_g hl1 _ rfl rfl (by go_simp) ?_))
  have hch := tcheck_any A n c t _ (HL.out.below (below_alloc (Below.refl _ _) (.cells (tabV none 0 0) 39))) (HT.out.below (below_alloc (Below.refl _ _) _)) (by omega)
  rw [HC1.out] at hch
  refine hch.mono ?_
  clear hch
  rintro e w1 ⟨rfl, hbb1⟩
  have HZ1 := Lib.hid (blk_below HZ.out hbb1)
  have HB1 := Lib.hid (below_step (below_alloc (Below.refl _ _) (.cells (tabV none 0 0) 39)) hbb1)
  clear hbb1 hl1 HZ
  cases hR : tabB t with
  | false =>
    have HE := Lib.hid (show setE t p hp9 = 190 ∧ setL t p hp9 = [] by unfold setL setE; rw [hR]; exact ⟨rfl, rfl⟩)
    rw [errT_false hR]
    clear hR
    go_wp2_with (first | ((with_reducible show wpList _ _ _ (Oper.mk _ (Op.store _ _ _) _ _ _ _ :: _) _ _); refine wpList_store_blk HZ1.out 39 0 (tabV none 0 0) (Nat.le_refl _) (info_tab _ _ _) (tab_one _ _ _) _ _ rfl rfl rfl rfl ?_; intro w2 hg9 hs9 hb9; rw [splice_tab] at hb9; have H2 := Lib.hid (And.intro hg9 hb9); clear hg9 hs9 hb9))
    have hld := load_tab H2.out.2
    refine bodyPost_ret (results_c2 rfl rfl hld) rfl ?_
    rw [HE.out.1, HE.out.2]
    exact ⟨_, _, _, rfl, OS.nil _ _ _, below_grown (below_step HBE.out HB1.out) H2.out.1 (by omega)⟩
  | true =>
    have HUP := Lib.hid (tabB_to hR)
    have HR := Lib.hid hR
    rw [errT_true hR]
    clear hR
    have hl2 := (HP2.out.all w1 HB1.out).2.2.2.2
    rw [HC2.out] at hl2
    go_wp2_with (first | ((with_reducible show wpList _ _ _ (Oper.mk _ (Op.load _ _) _ _ _ _ :: _) _ _); refine wpList_load_g hl2 _ rfl rfl (by go_simp) ?_))
    have hch := check_any p.v p.l p.b w1 (HL.out.below HB1.out) hp
    rw [HC2.out] at hch
    refine hch.mono ?_
    clear hch
    rintro e w2 ⟨rfl, hbb2⟩
    have HZ2 := Lib.hid (blk_below HZ1.out hbb2)
    have HB2 := Lib.hid (below_step HB1.out hbb2)
    clear hbb2 hl2 HZ1 HB1
    cases hpr : rightP p.v p.l p.b with
    | false =>
      have HE := Lib.hid (show setE t p hp9 = 2 ∧ setL t p hp9 = [] by
        have : p.right = false := hpr
        unfold setL setE
        rw [HR.out, this]
        exact ⟨rfl, rfl⟩)
      rw [errP_false hpr]
      clear hpr
      go_wp2_with (first | ((with_reducible show wpList _ _ _ (Oper.mk _ (Op.store _ _ _) _ _ _ _ :: _) _ _); refine wpList_store_blk HZ2.out 39 0 (tabV none 0 0) (Nat.le_refl _) (info_tab _ _ _) (tab_one _ _ _) _ _ rfl rfl rfl rfl ?_; intro w3 hg9 hs9 hb9; rw [splice_tab] at hb9; have H3 := Lib.hid (And.intro hg9 hb9); clear hg9 hs9 hb9))
      have hld := load_tab H3.out.2
      refine bodyPost_ret (results_c2 rfl rfl hld) rfl ?_
      rw [HE.out.1, HE.out.2]
      exact ⟨_, _, _, rfl, OS.nil _ _ _, below_grown (below_step HBE.out HB2.out) H3.out.1 (by omega)⟩
    | true =>
      have HPR := Lib.hid (show p.right = true from hpr)
      rw [errP_true hpr]
      clear hpr
      go_wp2_with fail
      refine (hop_any hp9 w2).mono ?_
      rintro e w2' ⟨rfl, rfl⟩
      cases hho : hopB hp9 with
      | false =>
        have HE := Lib.hid (show setE t p hp9 = 2 ∧ setL t p hp9 = [] by
          have h2 : ¬ (1 ≤ hp9 ∧ hp9 ≤ 255) := fun h => by rw [(hopB_iff hp9).2 h] at hho; cases hho
          have h3 : setE t p hp9 = 2 := by unfold setE; rw [HR.out, if_pos rfl, if_neg (fun h => h2 h.2)]
          unfold setL
          rw [h3]
          exact ⟨rfl, rfl⟩)
        clear hho
        go_wp2_with (first | ((with_reducible show wpList _ _ _ (Oper.mk _ (Op.store _ _ _) _ _ _ _ :: _) _ _); refine wpList_store_blk HZ2.out 39 0 (tabV none 0 0) (Nat.le_refl _) (info_tab _ _ _) (tab_one _ _ _) _ _ rfl rfl rfl rfl ?_; intro w3 hg9 hs9 hb9; rw [splice_tab] at hb9; have H3 := Lib.hid (And.intro hg9 hb9); clear hg9 hs9 hb9))
        have hld := load_tab H3.out.2
        refine bodyPost_ret (results_c2 rfl rfl hld) rfl ?_
        rw [HE.out.1, HE.out.2]
        exact ⟨_, _, _, rfl, OS.nil _ _ _, below_grown (below_step HBE.out HB2.out) H3.out.1 (by omega)⟩
      | true =>
        have HHO := Lib.hid ((hopB_iff hp9).1 hho)
        clear hho
        have hl1 := (HP1.out.all w2 HB2.out).1
        have hl2 := (HP2.out.all w2 HB2.out).2.2.2.2
        rw [HC1.out] at hl1
        rw [HC2.out] at hl2
        go_wp2_with (first | ((with_reducible show wpList _ _ _ (Oper.mk _ (Op.load _ _) _ _ _ _ :: _) _ _); refine wpList_load_g hl1 _ rfl rfl (by go_simp) ?_) | ((with_reducible show wpList _ _ _ (Oper.mk _ (Op.load _ _) _ _ _ _ :: _) _ _); refine wpList_load_g hl2 _ rfl rfl (by go_simp) ?_))
        have hpl := place_any A n c t p w2 (HT.out.below HB2.out) HUP.out.2.2 hp (by have := HUP.out.1; rw [HT.out.len] at this; omega)
        rw [HC1.out, HC2.out] at hpl
        refine hpl.mono ?_
        clear hpl
        rintro e w3 ⟨rfl, hbb3⟩
        have HZ3 := Lib.hid (blk_below HZ2.out hbb3)
        have HB3 := Lib.hid (below_step HB2.out hbb3)
        have hlow : lowN t p ≤ n := by rw [← HT.out.len]; exact lowN_le t p
        have HTH := Lib.hid (@setT_there t p hp9 HT.out.fits hp)
        have HNEW := Lib.hid (@setT_new t p hp9)
        have hst : setE t p hp9 = if thereB t p = false ∧ n = 40 then 6 else 0 := by
          unfold setE
          rw [HR.out, if_pos rfl, if_pos ⟨HPR.out, HHO.out⟩, HT.out.len]
        have HST := Lib.hid hst
        have HLT := Lib.hid (@lowN_lt t p)
        have hl3 := (HP1.out.all w3 HB3.out).2
        obtain ⟨i, hi⟩ : ∃ i, lowN t p = i := ⟨_, rfl⟩
        obtain ⟨th, hth⟩ : ∃ th, thereB t p = th := ⟨_, rfl⟩
        rw [hi] at hlow HTH HNEW HLT ⊢
        rw [hth] at HTH HNEW HST HLT ⊢
        clear hbb3 hl1 hl2 HZ2 HB2 hst hi hth
        go_wp2_with (first | ((with_reducible show wpList _ _ _ (Oper.mk _ (Op.load _ _) _ _ _ _ :: _) _ _); refine wpList_load_g hl3 _ rfl rfl (by go_simp) ?_))
        refine (cloneR_any A n c t w3 (HT.out.below HB3.out) (by omega)).mono ?_
        rintro e w4 ⟨A1, c1, rfl, hO4, hbb4⟩
        have HO4 := Lib.hid hO4
        have HZ4 := Lib.hid (blk_below HZ3.out hbb4)
        have HB4 := Lib.hid (below_step HB3.out hbb4)
        have hsz34 := hbb4.size
        have hzlt := blk_lt HZ3.out
        have hzn := blk_new w4 (.cells (tabV none 0 0) 39)
        have hbt := fun w => run_build_tab w A1 n c1
        clear hO4 hbb4 hl3 HZ3 HB3
        go_upto_if 45 with (first | ((with_reducible show wpList _ _ _ (Oper.mk _ (Op.store _ _ _) _ _ _ _ :: _) _ _); refine wpList_store_blk hzn 39 0 (tabV A1 n c1) (Nat.le_refl _) (info_tab _ _ _) (tab_one _ _ _) _ _ rfl rfl rfl rfl ?_; intro w5 hg9 hs9 hb9; rw [splice_tab] at hb9; have H5 := Lib.hid (And.intro hg9 hb9); clear hg9 hs9 hb9))
        have hsz5 := H5.out.1.size
        have hA1 := HO4.out.lt
        have hA1b := HO4.out.base_
        have hb4a : Below w4.heap.size w4 (w4.alloc (.cells (tabV none 0 0) 39)) := below_alloc (Below.refl _ _) _
        simp at hsz5
        have HO5 := Lib.hid ((HO4.out.below hb4a).grown H5.out.1 (fun ad e => by have := hA1 ad e; intro h; injection h with h; omega))
        have HZ5 := Lib.hid (blk_grown (blk_below HZ4.out hb4a) H5.out.1 (fun e => by injection e with e; omega))
        have HB5 := Lib.hid (below_grown (below_step HBE.out (below_step HB4.out hb4a)) H5.out.1 (by have := (below_step HBE.out HB4.out).size; omega))
        have hl5 := ((tab_at H5.out.2).all w5 (Below.refl _ _)).2
        clear hzn hbt
        cases th with
        | true =>
          have hlt := HLT.out rfl
          rw [HT.out.len] at hlt
          have hlt' : (i : Int) < n := by omega
          have HE := Lib.hid (show setE t p hp9 = 0 ∧ setL t p hp9 = t.take i ++ ⟨(rowAt t i).p, hp9⟩ :: t.drop (i + 1) by
            have h1 : setE t p hp9 = 0 := by rw [HST.out, if_neg (by simp)]
            unfold setL
            rw [h1, if_pos rfl]
            exact ⟨rfl, HTH.out rfl⟩)
          obtain ⟨ad1, rfl⟩ : ∃ ad, A1 = some ad := by
            cases A1 with
            | none => have := HO5.out.ov.bare rfl; have := HO5.out.cap; omega
            | some ad => exact ⟨ad, rfl⟩
          have hsp : ad1.spot = none := (HO5.out.ov.form _ rfl).2.1
          obtain ⟨b1, o1, s1⟩ := ad1
          simp only at hsp
          subst hsp
          obtain ⟨⟨u, hu⟩, hfz, hO6⟩ := HO5.out.patch hlt ⟨(rowAt t i).p, hp9⟩ (RS.fits_at HT.out hlt) 18 (.int .i64 hp9) (by show 18 < 19; omega) (row_patch _ (RS.fits_at HT.out hlt) hp9)
          have hbl := hA1 _ rfl
          have hbb := hA1b _ rfl
          simp only at hbl hbb
          have hof : o1 + (i * 19 + 18) = o1 + i * 19 + 18 := by omega
          have hu2 : w5.cell? ⟨b1, o1 + i * 19 + 18, none⟩ = some u := by rw [← hof]; exact hu
          have hfz2 : w5.frozen? ⟨b1, o1 + i * 19 + 18, none⟩ = false := by rw [← hof]; exact hfz
          replace hO6 : OS rowK (w5.setCell ⟨b1, o1 + i * 19 + 18, none⟩ (.int .i64 hp9)) w3.heap.size (some ⟨b1, o1, none⟩) n c1 (t.take i ++ ⟨(rowAt t i).p, hp9⟩ :: t.drop (i + 1)) := by rw [← hof]; exact hO6
          clear hu hfz hof
          have HU := Lib.hid hO6
          have hg6 := grown_setCell w5 ⟨b1, o1 + i * 19 + 18, none⟩ (.int .i64 hp9)
          have hl6 := load_tab (blk_grown H5.out.2 hg6 (fun e => by injection e with e; simp only at e; omega))
          have HZ6 := Lib.hid (blk_grown HZ5.out hg6 (fun e => by injection e with e; simp only at e; omega))
          have HB6 := Lib.hid (below_grown HB5.out hg6 (by simp only; have := (below_step HBE.out HB4.out).size; omega))
          clear hO6 hg6
          go_wp2_with (first | ((with_reducible show wpList _ _ _ (Oper.mk _ (Op.load _ _) _ _ _ _ :: _) _ _); refine wpList_load_g hl5 _ rfl rfl (by go_simp) ?_) | ((with_reducible show wpList _ _ _ (Oper.mk _ (Op.load _ _) _ _ _ _ :: _) _ _); refine wpList_load_g hl6 _ rfl rfl (by go_simp) ?_) | ((with_reducible show wpList _ _ _ (Oper.mk _ (Op.store _ _ _) _ _ _ _ :: _) _ _); refine wpList_store_blk HZ6.out 39 0 (tabV (some ⟨b1, o1, none⟩) n c1) (Nat.le_refl _) (info_tab _ _ _) (tab_one _ _ _) _ _ rfl rfl rfl rfl ?_; intro w7 hg9 hs9 hb9; rw [splice_tab] at hb9; have H7 := Lib.hid (And.intro hg9 hb9); clear hg9 hs9 hb9))
          have hld := load_tab H7.out.2
          refine bodyPost_ret (results_c2 rfl rfl hld) rfl ?_
          rw [HE.out.1, HE.out.2]
          refine ⟨_, _, _, rfl, (HU.out.grown H7.out.1 (fun ad e h => ?_)).lower (by omega), below_grown HB6.out H7.out.1 (by omega)⟩
          injection e with e
          subst e
          injection h with h
          simp only at h
          omega
        | false =>
          by_cases h40 : n = 40
          · have HE := Lib.hid (show setE t p hp9 = 6 ∧ setL t p hp9 = [] by
              have h1 : setE t p hp9 = 6 := by rw [HST.out, if_pos ⟨rfl, h40⟩]
              unfold setL
              rw [h1]
              exact ⟨rfl, rfl⟩)
            have h40' : ((n : Int) == 40) = true := by simp; omega
            have hl6 := (HP1.out.all w5 (below_grown (below_step HB4.out hb4a) H5.out.1 HB4.out.size)).2
            clear h40
            go_wp2_with (first | ((with_reducible show wpList _ _ _ (Oper.mk _ (Op.load _ _) _ _ _ _ :: _) _ _); refine wpList_load_g hl6 _ rfl rfl (by go_simp) ?_) | ((with_reducible show wpList _ _ _ (Oper.mk _ (Op.store _ _ _) _ _ _ _ :: _) _ _); refine wpList_store_blk HZ5.out 39 0 (tabV none 0 0) (Nat.le_refl _) (info_tab _ _ _) (tab_one _ _ _) _ _ rfl rfl rfl rfl ?_; intro w7 hg9 hs9 hb9; rw [splice_tab] at hb9; have H7 := Lib.hid (And.intro hg9 hb9); clear hg9 hs9 hb9))
            have hld := load_tab H7.out.2
            refine bodyPost_ret (results_c2 rfl rfl hld) rfl ?_
            rw [HE.out.1, HE.out.2]
            exact ⟨_, _, _, rfl, OS.nil _ _ _, below_grown HB5.out H7.out.1 (by omega)⟩
          · have HE := Lib.hid (show setE t p hp9 = 0 ∧ setL t p hp9 = t.take i ++ ⟨p, hp9⟩ :: t.drop i by
              have h1 : setE t p hp9 = 0 := by rw [HST.out, if_neg (fun h => h40 h.2)]
              unfold setL
              rw [h1, if_pos rfl]
              exact ⟨rfl, HNEW.out rfl⟩)
            have h40' : ((n : Int) == 40) = false := by simp; omega
            have hl6 := (HP1.out.all w5 (below_grown (below_step HB4.out hb4a) H5.out.1 HB4.out.size)).2
            have hl7 := (HP2.out.all w5 (below_grown (below_step HB4.out hb4a) H5.out.1 HB4.out.size)).2.2.2.2
            rw [HC2.out] at hl7
            have hbr := fun w => run_build_row w p hp9 hp.len
            rw [HC2.out] at hbr
            clear h40
            go_wp2_with (first | ((with_reducible show wpList _ _ _ (Oper.mk _ (Op.load _ _) _ _ _ _ :: _) _ _); refine wpList_load_g hl6 _ rfl rfl (by go_simp) ?_) | ((with_reducible show wpList _ _ _ (Oper.mk _ (Op.load _ _) _ _ _ _ :: _) _ _); refine wpList_load_g hl5 _ rfl rfl (by go_simp) ?_) | ((with_reducible show wpList _ _ _ (Oper.mk _ (Op.load _ _) _ _ _ _ :: _) _ _); refine wpList_load_g hl7 _ rfl rfl (by go_simp) ?_) | (refine wpList_exec rfl (exec_build2 (t := 79) (i0 := 0) (i1 := 1) (x0 := .tmp 39) (x1 := .tmp 40) (v0 := .agg cs2) (v1 := .int .i64 hp9) (v := .agg (rowV ⟨p, hp9⟩)) rfl rfl rfl (hbr _)) ?_) | (refine wpList_exec rfl (exec_lit1 rowK (x := .tmp 41) rfl ⟨p, hp9⟩ rfl hp (by show 19 ≤ _; omega) _) ?_))
            have hne1 : ∀ ad, A1 = some ad → ad.block ≠ w5.heap.size := fun ad e => by have := hA1 ad e; omega
            have hrow := blk_new w5 (.cells (rowV ⟨p, hp9⟩) 79)
            refine (insertR_any w3.heap.size A1 n c1 i w5.heap.size t ⟨p, hp9⟩ _ (HO5.out.below (below_alloc (Below.refl _ _) _)) hlow (by omega) (by simp; omega) hrow hp hne1).mono ?_
            rintro e w6 ⟨A2, c2, rfl, hO6, hg6, hA2⟩
            have hsz6 := hg6.size
            simp at hsz6
            have hb5a : Below w5.heap.size w5 (w5.alloc (.cells (rowV ⟨p, hp9⟩) 79)) := below_alloc (Below.refl _ _) _
            have HZ6 := Lib.hid (blk_own (blk_below HZ5.out hb5a) hg6 (fun ad e => by have := hA1b ad e; omega))
            have hz10 := blk_grown (blk_below H5.out.2 hb5a) hg6 (fun e => by
              obtain ⟨ad, e1, e2⟩ := own_of e.symm
              have := hA1 ad e1
              omega)
            have hsz0 := (below_step HBE.out HB4.out).size
            have HB6 := Lib.hid (below_own (below_step HB5.out hb5a) hg6 (fun ad e => by have := hA1b ad e; omega))
            have hc10 : w6.cell? ⟨w4.heap.size, 0, none⟩ = some (.slice A1 n c1) := by rw [blk_cell hz10]; rfl
            have hf10 : w6.frozen? ⟨w4.heap.size, 0, none⟩ = false := blk_frozen hz10 0
            have hz11 : (w6.setCell ⟨w4.heap.size, 0, none⟩ (.slice A2 (n + 1) c2)).heap[w4.heap.size]? = some (.cells (tabV A2 (n + 1) c2) 39 (0, 0)) := blk_set hz10 0 _
            have hl11 := load_tab hz11
            have hg7 := grown_setCell w6 ⟨w4.heap.size, 0, none⟩ (.slice A2 (n + 1) c2)
            have HZ7 := Lib.hid (blk_grown HZ6.out hg7 (fun e => by injection e with e; simp only at e; omega))
            have HB7 := Lib.hid (below_grown HB6.out hg7 (by simp only; omega))
            have hne2 : ∀ ad, A2 = some ad → ad.block ≠ w4.heap.size ∧ w3.heap.size ≤ ad.block := fun ad e => by
              refine ⟨?_, hO6.base_ ad e⟩
              rcases hA2 with h | h
              · have := hA1 ad (h ▸ e); omega
              · have := h ad e; simp at this; omega
            have HO7 := Lib.hid (hO6.grown hg7 (fun ad e h => by injection h with h; simp only at h; exact (hne2 ad e).1 h))
            clear hO6 hg6 hA2 hz10 hz11 hg7 hb5a hne1
            go_wp2_with (first | ((with_reducible show wpList _ _ _ (Oper.mk _ (Op.load _ _) _ _ _ _ :: _) _ _); refine wpList_load_g hl11 _ rfl rfl (by go_simp) ?_) | ((with_reducible show wpList _ _ _ (Oper.mk _ (Op.store _ _ _) _ _ _ _ :: _) _ _); refine wpList_store_blk HZ7.out 39 0 (tabV A2 (n + 1) c2) (Nat.le_refl _) (info_tab _ _ _) (tab_one _ _ _) _ _ rfl rfl rfl rfl ?_; intro w8 hg9 hs9 hb9; rw [splice_tab] at hb9; have H8 := Lib.hid (And.intro hg9 hb9); clear hg9 hs9 hb9))
            have hld := load_tab H8.out.2
            refine bodyPost_ret (results_c2 rfl rfl hld) rfl ?_
            rw [HE.out.1, HE.out.2]
            refine ⟨_, _, _, rfl, (HO7.out.grown H8.out.1 (fun ad e h => ?_)).lower (by omega), below_grown HB7.out H8.out.1 (by omega)⟩
            injection h with h
            have := (hne2 ad e).2
            omega
end Go.Proofs.YtnpeedmicjeleaaDoor

/- Plain laws of layer 11 (route): the best of each prefix. -/
namespace Go.Proofs.YtnpeedmicjeleaaDoor
set_option linter.unusedVariables false
set_option linter.unusedSimpArgs false
set_option maxRecDepth 4000
set_option maxRecDepth 4000
theorem betB_iff (a b : Rte) : betB a b = true ↔ b.f < a.f ∨ (a.f = b.f ∧ a.s < b.s) := by
  unfold betB orI orI orI cmpN
  rw [decide_eq_true_eq]
  rcases Int.lt_trichotomy a.f b.f with h | h | h
  · rw [if_pos h]; simp; omega
  · rw [if_neg (show ¬ a.f < b.f by omega), if_neg (show ¬ b.f < a.f by omega)]
    rcases Int.lt_trichotomy b.s a.s with k | k | k
    · rw [if_pos k]; simp; omega
    · rw [if_neg (show ¬ b.s < a.s by omega), if_neg (show ¬ a.s < b.s by omega)]; simp; omega
    · rw [if_neg (show ¬ b.s < a.s by omega), if_pos k]; simp; omega
  · rw [if_neg (show ¬ a.f < b.f by omega), if_pos h]; simp; omega
def unb (l : List Rte) (x : Rte) : Bool := !l.any (fun y => beats y x)
theorem unb_iff {l : List Rte} {x : Rte} : unb l x = true ↔ ∀ y ∈ l, y.p = x.p → betB y x = false := by
  unfold unb
  rw [Bool.not_eq_true', List.any_eq_false]
  constructor
  · intro h y hy he
    have := h y hy
    unfold beats at this
    rw [(Pfx.eqB_iff _ _).2 he, Bool.true_and] at this
    simpa using this
  · intro h y hy hb
    unfold beats at hb
    rw [Bool.and_eq_true, Pfx.eqB_iff] at hb
    rw [h y hy hb.1] at hb
    cases hb.2
def Rte.row (x : Rte) : Row := ⟨x.p, x.h⟩
/-- The table of the best, of the first k. -/
def bk (l : List Rte) (k : Nat) : List Row := ((l.take k).filter (unb l)).map Rte.row
def bestT (l : List Rte) : List Row := (l.filter (unb l)).map Rte.row
theorem bk_all (l : List Rte) : bk l l.length = bestT l := by unfold bk bestT; rw [List.take_length]
theorem bk_succ (l : List Rte) {k : Nat} (hk : k < l.length) : bk l (k + 1) = bk l k ++ if unb l (rteAt l k) then [(rteAt l k).row] else [] := by
  unfold bk
  have e : l.take (k + 1) = l.take k ++ [rteAt l k] := take_getD rteZ hk
  rw [e, List.filter_append, List.map_append]
  generalize rteAt l k = a
  congr 1
  cases h : unb l a <;> simp [h]
theorem best_lt0 {l : List Rte} (ho : ∀ r ∈ l, r.fits) {a b : Rte} (ha : a ∈ l) (hb : b ∈ l) (h : cR a b < 0) (hi : unb l a = true) (hu : unb l b = true) : a.p.cmp b.p < 0 := by
  have fi := ho _ ha
  have fj := ho _ hb
  have hle := cmp_of_cR fi fj h
  by_cases h0 : a.p.cmp b.p = 0
  · exfalso
    have hp := (a.p.cmp_zero _ fi fj).1 h0
    rw [cR_eq _ _ fi fj, if_neg (by omega)] at h
    have hs : a.s < b.s := by
      unfold cmpN at h
      split at h
      · assumption
      · split at h <;> omega
    have h1 := unb_iff.1 hi _ hb hp.symm
    have h2 := unb_iff.1 hu _ ha hp
    rw [Bool.eq_false_iff, ne_eq, betB_iff] at h1 h2
    omega
  · omega
theorem best_lt {l : List Rte} (ho : ∀ r ∈ l, r.fits) (hr : risK Rte.key l = true) {i j : Nat} (hij : i < j) (hj : j < l.length) (hi : unb l (rteAt l i) = true) (hu : unb l (rteAt l j) = true) : (rteAt l i).p.cmp (rteAt l j).p < 0 :=
  best_lt0 ho (getD_mem (by omega)) (getD_mem hj) (risK_lt hr hij hj) hi hu
theorem rising_pw : ∀ {t : List Row}, t.Pairwise (fun a b => a.p.cmp b.p < 0) → rising t = true
  | [], _ => rfl
  | a :: t, h => by
    rw [List.pairwise_cons] at h
    exact rising_of_head h.1 (rising_pw h.2)
theorem getElem_rteAt {l : List Rte} {i : Nat} (h : i < l.length) : l[i] = rteAt l i := by
  have := getD_get (z := rteZ) h
  rw [List.getElem?_eq_getElem h] at this
  exact Option.some.inj this
theorem best_pw {l : List Rte} (ho : ∀ r ∈ l, r.fits) (hr : risK Rte.key l = true) (k : Nat) : (bk l k).Pairwise (fun a b => a.p.cmp b.p < 0) := by
  unfold bk
  rw [List.pairwise_map]
  have h0 : l.Pairwise (fun a b => unb l a = true → unb l b = true → a.p.cmp b.p < 0) := by
    rw [List.pairwise_iff_getElem]
    intro i j hi hj hij
    rw [getElem_rteAt hi, getElem_rteAt hj]
    exact fun a b => best_lt ho hr hij hj a b
  have h1 := (h0.sublist (List.take_sublist k l)).filter (unb l)
  refine h1.imp_of_mem fun {a b} ha hb h => ?_
  exact h (List.mem_filter.1 ha).2 (List.mem_filter.1 hb).2
theorem bk_lt {l : List Rte} (ho : ∀ r ∈ l, r.fits) (hr : risK Rte.key l = true) {k : Nat} (hk : k < l.length) (hu : unb l (rteAt l k) = true) : ∀ r ∈ bk l k, r.p.cmp (rteAt l k).p < 0 := by
  intro r hm
  have h := best_pw ho hr (k + 1)
  rw [bk_succ l hk, if_pos hu, List.pairwise_append] at h
  exact h.2.2 r hm (rteAt l k).row (List.mem_singleton.2 rfl)
theorem setT_snoc {p : Pfx} {h : Int} : ∀ {t : List Row}, (∀ r ∈ t, r.p.cmp p < 0) → setT t p h = t ++ [⟨p, h⟩] ∧ thereB t p = false
  | [], _ => ⟨rfl, rfl⟩
  | a :: t, hh => by
    have ih := setT_snoc (h := h) (t := t) (fun r hr => hh r (by simp [hr]))
    rw [setT_cons, if_pos (hh a (by simp)), ih.1, thereB_cons, if_pos (hh a (by simp))]
    exact ⟨rfl, ih.2⟩
theorem new_of (l : List Rte) : ∀ i, i < l.length → ∃ j, j < l.length ∧ newP l j = true ∧ (rteAt l j).p = (rteAt l i).p
  | 0, h => ⟨0, h, by simp [newP], rfl⟩
  | i + 1, h => by
    cases hn : newP l (i + 1) with
    | true => exact ⟨i + 1, h, hn, rfl⟩
    | false =>
      obtain ⟨j, h1, h2, h3⟩ := new_of l i (by omega)
      refine ⟨j, h1, h2, h3.trans ?_⟩
      unfold newP at hn
      rw [Bool.or_eq_false_iff] at hn
      have := hn.2
      rw [show i + 1 - 1 = i from rfl, Bool.not_eq_false'] at this
      exact (Pfx.eqB_iff _ _).1 this
theorem len_sub {α : Type} : ∀ {s t : List α}, s.Nodup → (∀ a ∈ s, a ∈ t) → s.length ≤ t.length
  | [], t, _, _ => by simp
  | a :: s, t, hn, hs => by
    rw [List.nodup_cons] at hn
    obtain ⟨u, v, rfl⟩ := List.append_of_mem (hs a (by simp))
    have := len_sub (s := s) (t := u ++ v) hn.2 (fun b hb => by
      have h1 := hs b (by simp [hb])
      rw [List.mem_append, List.mem_cons] at h1
      rw [List.mem_append]
      rcases h1 with h1 | h1 | h1
      · exact .inl h1
      · exact absurd (h1 ▸ hb) hn.1
      · exact .inr h1)
    simp at this ⊢
    omega
theorem best_len {l : List Rte} (ho : ∀ r ∈ l, r.fits) (hr : risK Rte.key l = true) : (bestT l).length ≤ pfxsN l := by
  have h1 : ((bestT l).map (·.p)).Nodup := by
    rw [← bk_all, List.Nodup, List.pairwise_map]
    refine (best_pw ho hr l.length).imp fun {a b} h e => ?_
    rw [e] at h
    exact cmp_irrefl _ h
  have h2 := len_sub (t := ((List.range l.length).filter (newP l)).map fun j => (rteAt l j).p) h1 (fun p hp => by
    obtain ⟨r, hr2, rfl⟩ := List.mem_map.1 hp
    unfold bestT at hr2
    obtain ⟨x, hx, rfl⟩ := List.mem_map.1 hr2
    obtain ⟨i, hi, he⟩ := mem_getD (z := rteZ) (List.mem_filter.1 hx).1
    obtain ⟨j, h3, h4, h5⟩ := new_of l i hi
    rw [List.mem_map]
    refine ⟨j, List.mem_filter.2 ⟨List.mem_range.2 h3, h4⟩, ?_⟩
    rw [h5, show rteAt l i = x from he]
    rfl)
  rw [List.length_map, List.length_map] at h2
  exact h2
theorem bk_len (l : List Rte) (k : Nat) : (bk l k).length ≤ (bestT l).length := by
  unfold bk bestT
  rw [List.length_map, List.length_map]
  exact ((List.take_sublist k l).filter _).length_le
theorem fit_row {x : Rte} (h : x.fit = true) : x.row.okB = true := by
  unfold Rte.fit fitB at h
  simp only [Bool.and_eq_true, decide_eq_true_eq] at h
  rw [okB_iff]
  exact ⟨h.1.1.1.1.1.1, h.1.2, h.2⟩
theorem bk_mem {l : List Rte} {k : Nat} {r : Row} (h : r ∈ bk l k) : ∃ x ∈ l, x.row = r := by
  unfold bk at h
  obtain ⟨x, hx, rfl⟩ := List.mem_map.1 h
  exact ⟨x, List.mem_of_mem_take (List.mem_filter.1 hx).1, rfl⟩
theorem rib_fit {l : List Rte} (h : ribB l = true) {x : Rte} (hx : x ∈ l) : x.fit = true := by
  unfold ribB ribsB at h
  simp only [Bool.and_eq_true, List.all_eq_true] at h
  exact h.1.1.2 x hx
theorem rib_to {l : List Rte} (h : ribB l = true) : l.length ≤ 160 ∧ risK Rte.key l = true ∧ pfxsN l ≤ 40 := by
  unfold ribB ribsB at h
  simp only [Bool.and_eq_true, decide_eq_true_eq] at h
  exact ⟨h.1.1.1, h.1.2, h.2⟩
theorem tabB_bk {l : List Rte} (ho : ∀ r ∈ l, r.fits) (h : ribB l = true) (k : Nat) : tabB (bk l k) = true := by
  obtain ⟨_, h2, h3⟩ := rib_to h
  refine tabB_of (Nat.le_trans (bk_len l k) (Nat.le_trans (best_len ho h2) h3)) (fun r hr => ?_) (rising_pw (best_pw ho h2 k))
  obtain ⟨x, hx, rfl⟩ := bk_mem hr
  exact fit_row (rib_fit h hx)
/-- One candidate that is not beaten goes behind. -/
theorem set_bk {l : List Rte} (ho : ∀ r ∈ l, r.fits) (h : ribB l = true) {k : Nat} (hk : k < l.length) (hu : unb l (rteAt l k) = true) : setE (bk l k) (rteAt l k).p (rteAt l k).h = 0 ∧ setL (bk l k) (rteAt l k).p (rteAt l k).h = bk l (k + 1) := by
  obtain ⟨_, h2, h3⟩ := rib_to h
  have hs := setT_snoc (h := (rteAt l k).h) (bk_lt ho h2 hk hu)
  have hx : (rteAt l k).p.right = true ∧ 1 ≤ (rteAt l k).h ∧ (rteAt l k).h ≤ 255 := (okB_iff _).1 (fit_row (rib_fit h (getD_mem (z := rteZ) hk)))
  have hlen : (bk l k).length ≤ 39 := by
    have h4 := Nat.le_trans (bk_len l (k + 1)) (Nat.le_trans (best_len ho h2) h3)
    rw [bk_succ l hk, if_pos hu, List.length_append] at h4
    simp at h4
    omega
  have he : setE (bk l k) (rteAt l k).p (rteAt l k).h = 0 := by
    unfold setE
    rw [if_pos (tabB_bk ho h k), if_pos hx, if_neg (by omega)]
  refine ⟨he, ?_⟩
  unfold setL
  rw [if_pos he, hs.1, bk_succ l hk, if_pos hu]
  rfl
def bestR (l : List Rte) : List Row := if ribB l then bestT l else []
end Go.Proofs.YtnpeedmicjeleaaDoor

/- The first place where something holds. -/
namespace Go.Proofs.YtnpeedmicjeleaaDoor
open Go.RowKit
set_option linter.unusedVariables false
set_option linter.unusedSimpArgs false
set_option maxRecDepth 4000
def idxE {α : Type} (q : α → Bool) (t : List α) : Int := match t.findIdx? q with | some i => i | none => -1
theorem idxE_at {α : Type} {S : Shape α} {q : α → Bool} {t : List α} {i : Nat} (hi : i < t.length) (h : q (S.at_ t i) = true) (hl : ∀ k, k < i → q (S.at_ t k) = false) : idxE q t = (i : Int) := by
  have : t.findIdx? q = some i := by
    rw [List.findIdx?_eq_some_iff_getElem]
    have hg : ∀ k (hk : k < t.length), t[k] = S.at_ t k := fun k hk => by
      have := Shape.at_get (S := S) hk
      rw [List.getElem?_eq_getElem hk] at this
      exact Option.some.inj this
    refine ⟨hi, by rw [hg i hi]; exact h, fun k hk => ?_⟩
    rw [hg k (by omega), hl k hk]
    simp
  unfold idxE
  rw [this]
theorem idxE_none {α : Type} {S : Shape α} {q : α → Bool} {t : List α} (hl : ∀ k, k < t.length → q (S.at_ t k) = false) : idxE q t = -1 := by
  have : t.findIdx? q = none := by
    rw [List.findIdx?_eq_none_iff]
    intro x hx
    obtain ⟨k, hk, e⟩ := List.getElem_of_mem hx
    have := Shape.at_get (S := S) hk
    rw [List.getElem?_eq_getElem hk, e] at this
    rw [Option.some.inj this]
    exact hl k hk
  unfold idxE
  rw [this]
theorem idxE_any {α : Type} (q : α → Bool) (t : List α) : decide (0 ≤ idxE q t) = t.any q := by
  unfold idxE
  cases h : t.findIdx? q with
  | none =>
    rw [List.findIdx?_eq_none_iff] at h
    have : t.any q = false := by
      rw [List.any_eq_false]
      intro x hx
      rw [h x hx]
      decide
    rw [this]
    decide
  | some i =>
    rw [List.findIdx?_eq_some_iff_getElem] at h
    obtain ⟨hi, h1, _⟩ := h
    have : t.any q = true := by
      rw [List.any_eq_true]
      exact ⟨_, List.getElem_mem hi, h1⟩
    rw [this]
    exact decide_eq_true (Int.natCast_nonneg i)
end Go.Proofs.YtnpeedmicjeleaaDoor

/- Layer 11 (route): the library's functions over slices of candidates and of updates. -/
namespace Go.Proofs.YtnpeedmicjeleaaDoor
open Go.RowKit
set_option linter.unusedVariables false
set_option linter.unusedSimpArgs false
set_option maxRecDepth 4000
theorem cloneQ_any (A : Option Addr) (n c : Nat) (t : List Rte) (w : World) (hr : RS rteK w A n c t) (hn : n ≤ 1000000) :
    Calls Tryd.prog 41 #[.slice A n c] w fun e w' => ∃ A' c', e = .returned (.slice A' n c') ∧ OS rteK w' w.heap.size A' n c' t ∧ Below w.heap.size w w' := by
  have hnil := fun (w : World) (A : Option Addr) (n c : Nat) => Lib.run_eql_slice_nil (P := Tryd.prog) w 22 51 A n c 0 0 Tryd.underlying22
  cases A with
  | none =>
    have h0 : n = 0 := by
      rcases Nat.eq_zero_or_pos n with h | h
      · exact h
      · obtain ⟨ad, e, _⟩ := hr.rv.cells h
        cases e
    subst h0
    obtain rfl : t = [] := List.eq_nil_of_length_eq_zero hr.len
    go_enter Tryd.func41, Tryd.ntmps41
    go_wp2
    go_ret
    exact ⟨_, _, rfl, OS.nil _ _ _, Below.refl _ _⟩
  | some ad =>
    go_enter Tryd.func41, Tryd.ntmps41
    go_wp2_with (at_builtin; refine wpList_append_shp rteK rfl (.tmp 5) (.tmp 6) rfl rfl rfl (OS.empty rteK w w.heap.size (Nat.le_refl _)) (hr.below (below_alloc (Below.refl _ _) _)) (by simp) (by omega) ?_; intro A' c' w' h1 h2 h3; rw [Nat.zero_add, List.nil_append] at h1; rw [Nat.zero_add])
    go_ret
    exact ⟨_, _, rfl, h1, below_own (below_alloc (Below.refl _ _) _) h2 (fun ad h => by injection h with h; subst h; exact Nat.le_refl _)⟩
set_option maxHeartbeats 1000000 in
theorem deleteQ_any (base : Nat) (A : Option Addr) (n c j : Nat) (t : List Rte) (w : World) (ho : OS rteK w base A n c t) (hj : j < n) (hn : n ≤ 1000000) :
    Calls Tryd.prog 44 #[.slice A n c, .int .i64 j, .int .i64 ((j : Int) + 1)] w fun e w' => e = .returned (.slice A (n - 1) c) ∧ OS rteK w' base A (n - 1) c (t.take j ++ t.drop (j + 1)) ∧ w.grownBy w' ((Value.slice A n c).ownBlock) := by
  have hcap := ho.cap
  have hcmax : c ≤ 9223372036854775807 := ho.ov.capmax
  obtain ⟨ad, rfl⟩ : ∃ ad, A = some ad := by
    cases A with
    | none => have := ho.ov.bare rfl; omega
    | some ad => exact ⟨ad, rfl⟩
  have hj1 : (j : Int) + 1 = ((j + 1 : Nat) : Int) := by omega
  obtain ⟨v0, hv0⟩ : ∃ v, ∀ W : World, (Instr.slice 22 (.slice (some ad) n c) (some (.int .i64 (j : Int))) (some (.int .i64 ((j : Int) + 1))) (some (.int .i64 (n : Int)))).run Tryd.prog W = .ok v W := ⟨_, fun W => cutLHM rteK (some ad) n c _ _ _ j (j + 1) n rfl hj1 rfl (by omega) (by omega) hcap W⟩
  have hv1 : ∀ W : World, (Instr.slice 22 (.slice (some ad) n c) none (some (.int .i64 (j : Int))) none).run Tryd.prog W = .ok (.slice (some ad) j c) W := fun W => cutH rteK (some ad) n c _ j rfl (by omega) W
  obtain ⟨A2, hA2⟩ : ∃ A2, (if c = j + 1 then some ad else some (ad.add ((j + 1) * 21))) = A2 := ⟨_, rfl⟩
  have hv2 : ∀ W : World, (Instr.slice 22 (.slice (some ad) n c) (some (.int .i64 ((j : Int) + 1))) none none).run Tryd.prog W = .ok (.slice A2 (n - (j + 1)) (c - (j + 1))) W := fun W => by
    rw [← hA2]
    exact cutL rteK (some ad) n c _ (j + 1) hj1 (by omega) W
  have hsum : j + (n - (j + 1)) = n - 1 := by omega
  obtain ⟨A3, hA3⟩ : ∃ A3, (if c = n - 1 then some ad else some (ad.add ((n - 1) * 21))) = A3 := ⟨_, rfl⟩
  have hv3 : ∀ W : World, (Instr.slice 22 (.slice (some ad) (n - 1) c) (some (.int .i64 ((n - 1 : Nat) : Int))) (some (.int .i64 (n : Int))) none).run Tryd.prog W = .ok (.slice A3 (n - (n - 1)) (c - (n - 1))) W := fun W => by
    rw [← hA3]
    exact cutLH rteK (some ad) (n - 1) c _ _ (n - 1) n rfl rfl (by omega) hcap W
  have HT := Lib.hid (ho.take j c (by omega) (by omega) (Nat.le_refl _))
  have HR : Hid (RS rteK w A2 (n - (j + 1)) (c - (j + 1)) (t.drop (j + 1))) := Lib.hid (by rw [← hA2]; exact ho.reads.drop (j + 1) (by omega))
  have HA3 := Lib.hid hA3
  have HS := Lib.hid hsum
  have hjn0 : ((j : Int) == (j : Int) + 1) = false := by simpa using (by omega : ¬ ((j : Int) = (j : Int) + 1))
  have hjn1 : decide ((j : Int) = (j : Int) + 1) = false := decide_eq_false (by omega)
  have HJ := Lib.hid hj
  have HCAP := Lib.hid hcap
  clear hA2 hA3 hj1 ho hsum
  go_enter Tryd.func44, Tryd.ntmps44
  go_wp2_with fail
  refine wp_region_mix ((fun _ => True)) [(0, 0), (1, 0), (2, 0), (3, 0), (4, 0), (5, 0), (6, 2), (7, 0)] (by kernel_rfl) (by kernel_rfl) (trivial) ?_
  simp only [List.map_cons, List.map_nil]
  iterate 6 (refine wpO_step0 rfl rfl (fun K hK => ?_); go_simp; refine hK _ _ ?_; clear hK K)
  refine wpO_step2 rfl rfl (trivial) (fun K hK => ?_)
  rw [if_pos (show Region.wanted _ _ = true from rfl)]
  obtain ⟨w1, hr1, hO1, hg1⟩ := run_append_room_shp rteK w.drew 22 ad j c (t.take j) A2 (n - (j + 1)) (c - (j + 1)) (t.drop (j + 1)) (HT.out.below (below_drew1 _)) (HR.out.below (below_drew1 _)) (by have := HS.out; have := HCAP.out; omega) (by have := HS.out; omega)
  rw [HS.out] at hr1 hO1
  obtain ⟨w2, hr2, hO2, hg2⟩ := run_clear_shp rteK w1 0 ad (n - 1) c (n - (n - 1)) _ hO1 (by have := HCAP.out; have := HJ.out; omega) (d := A3) HA3.out.symm (c - (n - 1))
  have H2 := Lib.hid (And.intro hO2 (grown_trans (grown_trans (grown_drewN w 1 _) hg1) hg2))
  refine oper_exec (exec_append (.tmp 22) (.tmp 25) _ rfl rfl rfl hr1) ?_
  clear hr1 hO1 hg1 hO2 hg2
  refine hK _ _ ⟨trivial, ?_⟩
  clear hK K
  iterate 1 (refine wpO_step0 rfl rfl (fun K hK => ?_); go_simp; refine hK _ _ ?_; clear hK K)
  refine wpO_nil ?_
  go_wp2_with (refine wpList_exec rfl (exec_clear (.tmp 31) _ rfl rfl hr2) ?_)
  go_ret
  exact ⟨rfl, H2.out.1, H2.out.2⟩
set_option maxHeartbeats 4000000 in
set_option maxRecDepth 100000 in
theorem insertQ_any (base : Nat) (A : Option Addr) (n c j vb : Nat) (t : List Rte) (r : Rte) (w : World) (ho : OS rteK w base A n c t) (hj : j ≤ n) (hn : n ≤ 100000) (hb : base ≤ w.heap.size)
    (hv : w.heap[vb]? = some (.cells (Shape.enc rteK r).toArray 51 (0, 0))) (hrk : Shape.ok rteK r) (hne : ∀ ad, A = some ad → ad.block ≠ vb) :
    Calls Tryd.prog 45 #[.slice A n c, .int .i64 j, .slice (some ⟨vb, 0, none⟩) 1 1] w fun e w' => ∃ A' c', e = .returned (.slice A' (n + 1) c') ∧ OS rteK w' base A' (n + 1) c' (t.take j ++ r :: t.drop j) ∧ w.grownBy w' ((Value.slice A n c).ownBlock) ∧ (A' = A ∨ ∀ ad, A' = some ad → w.heap.size ≤ ad.block) := by
  have hcap := ho.cap
  have hcmax : c ≤ 9223372036854775807 := ho.ov.capmax
  have hRV : RS rteK w (some ⟨vb, 0, none⟩) 1 1 [r] := ⟨⟨by rw [Shape.cells_one, rteK.len r hrk]; simp, by omega, by omega, fun _ => ⟨_, rfl, fun q u hq => by
    rw [Shape.cells_one] at hq
    rw [add_plain, blk_cell hv]
    simpa using hq⟩⟩, Shape.all_one hrk⟩
  have HRV := Lib.hid hRV
  have HN := Lib.hid hne
  have hjn' : (j : Int) ≤ n := by omega
  have hj1 : (j : Int) + 1 = ((j + 1 : Nat) : Int) := by omega
  have hn1 : (n : Int) + 1 = ((n + 1 : Nat) : Int) := by omega
  obtain ⟨A0, hA0⟩ : ∃ A0, (if c = j then A else A.map (·.add (j * 21))) = A0 := ⟨_, rfl⟩
  have hv0 : ∀ W : World, (Instr.slice 22 (.slice A n c) (some (.int .i64 (j : Int))) none none).run Tryd.prog W = .ok (.slice A0 (n - j) (c - j)) W := fun W => by
    rw [← hA0]
    exact cutL rteK A n c _ j rfl hj W
  have HA0 := Lib.hid hA0
  clear hA0
  by_cases hjn : j = n
  · subst hjn
    have htk : t.take j = t := List.take_of_length_le (by rw [ho.len]; exact Nat.le_refl _)
    have htd : t.drop j = [] := List.drop_eq_nil_of_le (by rw [ho.len]; exact Nat.le_refl _)
    rw [htk, htd]
    have HO := Lib.hid ho
    clear ho htk htd hRV hj1 hn1
    go_enter Tryd.func45, Tryd.ntmps45
    go_wp2_with (at_builtin; refine wpList_append_shp rteK rfl (.tmp 23) (.tmp 24) rfl rfl rfl HO.out HRV.out hb (by omega) ?_; intro A' c' w' h1 h2 h3)
    go_ret
    exact ⟨_, _, rfl, h1, h2, h3⟩
  · have hlt : j < n := by omega
    have hjnb : (j == n) = false := by simpa using hjn
    obtain ⟨ad, rfl⟩ : ∃ ad, A = some ad := by
      cases A with
      | none => have := ho.ov.bare rfl; omega
      | some ad => exact ⟨ad, rfl⟩
    have hadlt := ho.lt ad rfl
    have hsub : n + 1 - (j + 1) = n - j := by omega
    have HT := Lib.hid ho.len
    have HO := Lib.hid ho
    have HAL := Lib.hid hadlt
    clear hjn ho hRV hadlt
    by_cases hroom : n + 1 ≤ c
    · have hr1 : decide (c < n + 1) = false := decide_eq_false (by omega)
      have hr2 : decide ((c : Int) < n + 1) = false := decide_eq_false (by omega)
      have hw1 : IntKind.i64.wrap ((n : Int) + 1) = n + 1 := IntWalk.i64_in _ (by omega)
      have hw2 : IntKind.i64.wrap ((j : Int) + 1) = j + 1 := IntWalk.i64_in _ (by omega)
      have hv1 : ∀ W : World, (Instr.slice 22 (.slice (some ad) n c) none (some (.int .i64 ((n : Int) + 1))) none).run Tryd.prog W = .ok (.slice (some ad) (n + 1) c) W := fun W => cutH rteK (some ad) n c _ (n + 1) hn1 hroom W
      obtain ⟨A6, hA6⟩ : ∃ A6, (if c = j + 1 then some ad else some (ad.add ((j + 1) * 21))) = A6 := ⟨_, rfl⟩
      have hv6 : ∀ W : World, (Instr.slice 22 (.slice (some ad) (n + 1) c) (some (.int .i64 ((j : Int) + 1))) none none).run Tryd.prog W = .ok (.slice A6 (n - j) (c - (j + 1))) W := fun W => by
        rw [← hA6, ← hsub]
        exact cutL rteK (some ad) (n + 1) c _ (j + 1) hj1 (by omega) W
      have hv7 : ∀ W : World, (Instr.slice 22 (.slice (some ad) (n + 1) c) (some (.int .i64 (j : Int))) none none).run Tryd.prog W = .ok (.slice A0 (n + 1 - j) (c - j)) W := fun W => by
        rw [← HA0.out]
        exact cutL rteK (some ad) (n + 1) c _ j rfl (by omega) W
      obtain ⟨q1, q2, cur, q3, q4, q5⟩ := HO.out.ov.form _ rfl
      have hcur : cur.size ≠ 0 := by
        have h2 : 1 * 21 ≤ c * 21 := Nat.mul_le_mul_right _ (by omega)
        have h3 : ad.off + c * 21 ≤ cur.size := q4
        omega
      have hvne : vb ≠ ad.block := fun h => HN.out ad rfl h.symm
      obtain ⟨ad6, hA6b⟩ : ∃ ad6, A6 = some ad6 ∧ ad6.block = ad.block := by
        rw [← hA6]
        split
        · exact ⟨_, rfl, rfl⟩
        · exact ⟨_, rfl, add_block _ _⟩
      have hov : ∀ lb cb W, W = w → (callFunc 83 #[.slice (some ⟨vb, 0, none⟩) 1 1, .slice A6 lb cb]).run Tryd.prog W = .ok (.value (.bool false)) W := fun lb cb W hW => by
        subst hW
        obtain ⟨e6, e7⟩ := hA6b
        rw [e6, run_callFunc_extern Tryd.func83 (by kernel_rfl) (by kernel_rfl) (by kernel_rfl) (e := Extern.SlicesOverlaps.overlaps #[22, 22] #[4]) (by kernel_rfl),
          Lib.run_overlaps_apart W 22 4 51 (Shape.und rteK) 21 (Shape.run_size rteK) ⟨vb, 0, none⟩ ad6 1 1 lb cb (by rw [e7]; exact hvne) 51 51 _ cur.size (by simp only [World.shape?, hv]; rfl) (by rw [e7]; simp only [World.shape?, q3]; rfl) hcur (blk_frozen hv 0) (blk_frozen hv _)]
        rfl
      have hov1 := hov (n - j) (c - (j + 1)) w rfl
      clear hov hA6b hcur q1 q2 q3 q4 q5 hvne
      obtain ⟨more, hE⟩ := HO.out.ov.extendTo (n + 1) (by omega) hroom (by omega)
      have hml := hE.len
      have hcl := HO.out.ov.len
      have hEd := hE.below (below_drew1 w)
      have hRd := hEd.reads.drop j (by omega)
      rw [show (if c = j then some ad else Option.map (fun x => x.add (j * rteK.sz)) (some ad)) = A0 from HA0.out] at hRd
      have hdt : ∀ x : List Value, (x.drop (j * rteK.sz)).take ((n - j) * rteK.sz) = (x.drop (j * rteK.sz)).take ((n - j) * rteK.sz) := fun _ => rfl
      have hmin : min (n + 1 - j) (n + 1 - (j + 1)) = n - j := by omega
      have hone1 : ∀ u ∈ ((rteK.cells t ++ more).drop (j * rteK.sz)).take (min (n + 1 - j) (n + 1 - (j + 1)) * rteK.sz), u.oneCell' = true := by
        rw [hmin]
        intro u hu
        have hjs : j * rteK.sz ≤ n * rteK.sz := Nat.mul_le_mul_right _ (by omega)
        rw [List.drop_append_of_le_length (by rw [hcl]; exact hjs), List.take_append_of_le_length (by rw [List.length_drop, hcl, ← Nat.sub_mul]; exact Nat.le_refl _)] at hu
        exact Shape.cells_cell t u (List.mem_of_mem_drop (List.mem_of_mem_take hu))
      obtain ⟨w1, hc1, hO1, hg1⟩ := run_copy_rows (P := Tryd.prog) w.drew 22 3 51 rteK.sz (Shape.und rteK) (Shape.size rteK) ad (n + 1) c (j + 1) _ A0 (n + 1 - j) (c - j) _ hEd hRd (by omega) hone1 (d := A6) hA6.symm (c - (j + 1))
      rw [hmin] at hO1 hc1
      rw [hsub] at hc1
      have hRV1 := ((HRV.out.below (below_drew1 w)).grown hg1 (fun ad' e => by injection e with e; subst e; intro h; injection h with h; exact HN.out ad rfl h.symm)).rv
      rw [Shape.cells_one] at hRV1
      have hmin2 : min 1 (n + 1 - j) = 1 := by omega
      obtain ⟨w2, hc2, hO2, hg2⟩ := run_copy_rows (P := Tryd.prog) w1 22 3 51 rteK.sz (Shape.und rteK) (Shape.size rteK) ad (n + 1) c j _ (some ⟨vb, 0, none⟩) 1 1 _ hO1 hRV1 (by omega) (by rw [hmin2]; intro u hu; exact rteK.one r u (List.mem_of_mem_take hu)) (d := A0) HA0.out.symm (c - j)
      rw [hmin2] at hO2 hc2
      rw [shift_list (rteK.cells t) more (rteK.enc r) rteK.sz j n hcl hml (rteK.len r hrk) (by omega), Shape.cells_take HO.out.fits j (by rw [HT.out]; omega), Shape.cells_drop HO.out.fits j (by rw [HT.out]; omega)] at hO2
      have hO3 : OS rteK w2 base (some ad) (n + 1) c (t.take j ++ r :: t.drop j) := ⟨by
        have : rteK.cells (t.take j ++ r :: t.drop j) = rteK.cells (t.take j) ++ rteK.enc r ++ rteK.cells (t.drop j) := by rw [Shape.cells_append, Shape.cells_cons, List.append_assoc]
        rw [this]
        exact hO2, (HO.out.fits.take j).append (fun x hx => by
        rcases List.mem_cons.1 hx with rfl | hx
        · exact hrk
        · exact HO.out.fits.drop j x hx)⟩
      have H3 := Lib.hid (And.intro hO3 (grown_trans (grown_trans (grown_drewN w 1 _) hg1) hg2))
      clear hO3 hO2 hO1 hg1 hg2 hE hEd hRd hone1 hmin hmin2 hRV1 hdt hml hcl hn1 hj1 hA6 hsub
      go_enter Tryd.func45, Tryd.ntmps45
      go_wp2_with fail
      refine wp_region_mix ((fun _ => True)) [(0, 0), (1, 0), (2, 0), (3, 0), (4, 0), (5, 0), (6, 0), (7, 0), (8, 2)] (by kernel_rfl) (by kernel_rfl) (trivial) ?_
      simp only [List.map_cons, List.map_nil]
      iterate 8 (refine wpO_step0 rfl rfl (fun K hK => ?_); go_simp; refine hK _ _ ?_; clear hK K)
      refine wpO_step2 rfl rfl (trivial) (fun K hK => ?_)
      rw [if_pos (show Region.wanted _ _ = true from rfl)]
      refine oper_exec (exec_copy (.tmp 73) (.tmp 76) _ rfl rfl rfl hc1) ?_
      refine hK _ _ ⟨trivial, ?_⟩
      clear hK K
      refine wpO_nil ?_
      go_wp2_with (refine wpList_exec rfl (exec_copy (.tmp 80) (.tmp 81) _ rfl rfl rfl hc2) ?_)
      go_ret
      exact ⟨_, _, rfl, H3.out.1, H3.out.2, .inl rfl⟩
    · have hr1 : c < n + 1 := by omega
      have hr2 : (c : Int) < n + 1 := by omega
      have hw1 : IntKind.i64.wrap ((n : Int) + 1) = n + 1 := IntWalk.i64_in _ (by omega)
      have hw2 : IntKind.i64.wrap ((j : Int) + 1) = j + 1 := IntWalk.i64_in _ (by omega)
      have hw3 : IntKind.i64.wrap ((n : Int) + 1 - j) = n + 1 - j := IntWalk.i64_in _ (by omega)
      have hv1 : ∀ W : World, (Instr.slice 22 (.slice (some ad) n c) none (some (.int .i64 (j : Int))) none).run Tryd.prog W = .ok (.slice (some ad) j c) W := fun W => cutH rteK (some ad) n c _ j rfl (by omega) W
      have hk : (n : Int) + 1 - j = ((n + 1 - j : Nat) : Int) := by omega
      obtain ⟨ad1, c1, w1, hc1, hO1, hb1, hblk⟩ := run_growz_shp (base := w.heap.size) rteK w 3 22 .i64 .i64 Tryd.underlying3 (some ad) j c (n + 1 - j) _ (HO.out.reads.take j (by omega)) (by omega) (by omega) (by omega) (Nat.le_refl _)
      rw [← hk] at hc1
      rw [show j + (n + 1 - j) = n + 1 by omega] at hc1 hO1
      have hcap1 := hO1.cap
      have hc1max : c1 ≤ 9223372036854775807 := hO1.ov.capmax
      obtain ⟨A4, hA4⟩ : ∃ A4, (if c1 = j then some ad1 else some (ad1.add (j * 21))) = A4 := ⟨_, rfl⟩
      have hv4 : ∀ W : World, (Instr.slice 22 (.slice (some ad1) (n + 1) c1) (some (.int .i64 (j : Int))) none none).run Tryd.prog W = .ok (.slice A4 (n + 1 - j) (c1 - j)) W := fun W => by
        rw [← hA4]
        exact cutL rteK (some ad1) (n + 1) c1 _ j rfl (by omega) W
      obtain ⟨A5, hA5⟩ : ∃ A5, (if c1 = j + 1 then some ad1 else some (ad1.add ((j + 1) * 21))) = A5 := ⟨_, rfl⟩
      have hv5 : ∀ W : World, (Instr.slice 22 (.slice (some ad1) (n + 1) c1) (some (.int .i64 ((j : Int) + 1))) none none).run Tryd.prog W = .ok (.slice A5 (n - j) (c1 - (j + 1))) W := fun W => by
        rw [← hA5, ← hsub]
        exact cutL rteK (some ad1) (n + 1) c1 _ (j + 1) hj1 (by omega) W
      have hvlt := blk_lt hv
      obtain ⟨w2, hc2, hO2, hg2⟩ := run_copy_shp rteK w1 3 ad1 (n + 1) c1 j _ (some ⟨vb, 0, none⟩) 1 1 [r] hO1 (HRV.out.below hb1) (by omega) (d := A4) hA4.symm (c1 - j)
      have hRD := ((((HO.out.reads.drop j (by omega)).below hb1).grown hg2 (fun ad' e => by
        intro h
        injection h with h
        have hb : ad'.block = ad.block := by
          split at e
          · injection e with e; rw [← e]
          · simp only [Option.map_some, Option.some.injEq] at e; rw [← e, add_block]
        have := HAL.out
        omega)).below (below_drew1 w2))
      rw [show (if c = j then some ad else Option.map (fun x => x.add (j * rteK.sz)) (some ad)) = A0 from HA0.out] at hRD
      obtain ⟨w3, hc3, hO3, hg3⟩ := run_copy_shp rteK w2.drew 3 ad1 (n + 1) c1 (j + 1) _ A0 (n - j) (c - j) (t.drop j) (hO2.below (below_drew1 w2)) hRD (by omega) (d := A5) hA5.symm (c1 - (j + 1))
      rw [grow_list t r _ j n HT.out (by omega)] at hO3
      rw [hsub] at hc3
      have hbz : Below w.heap.size w w3 := below_grown (below_step (below_grown hb1 hg2 (by omega)) (below_drew1 w2)) hg3 (by omega)
      have H3 := Lib.hid (And.intro (hO3.lower hb) (And.intro (grown_of_below hbz ((Value.slice (some ad) n c).ownBlock)) (show ∀ ad', some ad1 = some ad' → w.heap.size ≤ ad'.block from fun ad' e => by injection e with e; rw [← e]; omega)))
      clear hO3 hO2 hO1 hg2 hg3 hRD hbz hA4 hA5 hk hblk hn1 hj1 hvlt hb1 hsub
      go_enter Tryd.func45, Tryd.ntmps45
      go_wp2_with (first | (refine wpList_exec rfl (exec_append (.tmp 34) (.tmp 39) _ rfl rfl rfl hc1) ?_) | (refine wpList_exec rfl (exec_copy (.tmp 43) (.tmp 44) _ rfl rfl rfl hc2) ?_))
      refine wp_region_mix ((fun _ => True)) [(0, 0), (1, 0), (2, 0), (3, 0), (4, 0), (5, 0), (6, 0), (7, 0), (8, 2)] (by kernel_rfl) (by kernel_rfl) (trivial) ?_
      simp only [List.map_cons, List.map_nil]
      iterate 8 (refine wpO_step0 rfl rfl (fun K hK => ?_); go_simp; refine hK _ _ ?_; clear hK K)
      refine wpO_step2 rfl rfl (trivial) (fun K hK => ?_)
      rw [if_pos (show Region.wanted _ _ = true from rfl)]
      refine oper_exec (exec_copy (.tmp 50) (.tmp 53) _ rfl rfl rfl hc3) ?_
      refine hK _ _ ⟨trivial, ?_⟩
      clear hK K
      refine wpO_nil ?_
      go_wp2
      go_ret
      exact ⟨_, _, rfl, H3.out.1, H3.out.2.1, .inr H3.out.2.2⟩
set_option maxHeartbeats 1000000 in
theorem indexfU_any (A : Option Addr) (n c : Nat) (t : List Upd) (w : World) (g : Nat) (hr : RS updK w A n c t) (hn : n ≤ 1000000) (q : Upd → Bool)
    (hq : ∀ i, i < n → ∀ w1, Below w.heap.size w w1 → Calls Tryd.prog 62 #[updK.val (updK.at_ t i), .pointer (some ⟨g, 0, none⟩)] w1 fun e w2 => e = .returned (.bool (q (updK.at_ t i))) ∧ Below w1.heap.size w1 w2) :
    Calls Tryd.prog 95 #[.slice A n c, .func (Fn.func 62) #[] #[.pointer (some ⟨g, 0, none⟩)]] w fun e w' => e = .returned (.int .i64 (idxE q t)) ∧ Below w.heap.size w w' := by
  have HR := Lib.hid hr
  have HQ := Lib.hid hq
  clear hr hq
  go_enter Tryd.func95, Tryd.ntmps95
  go_wp2_with fail
  go_loopw [8] (fun x wr => ∃ i : Nat, x = .int .i64 i ∧ Hid (i ≤ n ∧ (∀ k, k < i → q (updK.at_ t k) = false) ∧ Below w.heap.size w wr)) (fun x _ => n - (intOf x).toNat)
  case atStart => exact ⟨0, rfl, Nat.zero_le _, fun k h => by omega, Below.refl _ _⟩
  case round =>
    obtain ⟨i, rfl, HH⟩ := hrel
    by_cases hlt : i < n
    · have hlt' : (i : Int) < n := by omega
      obtain ⟨b, o, rfl, hc⟩ := RS.at_ HR.out (by omega)
      have hld := Shape.ld updK wr b _ _ (RS.fits_at HR.out hlt) ((hc i hlt).below HH.out.2.2)
      have HIL := Lib.hid (show i < t.length by rw [HR.out.len]; exact hlt)
      clear hc
      go_wp2_with (first | ((with_reducible show wpList _ _ _ (Oper.mk _ (Op.load _ _) _ _ _ _ :: _) _ _); refine wpList_load_g hld _ rfl rfl (by go_simp) ?_))
      refine (HQ.out i hlt wr HH.out.2.2).mono ?_
      rintro e w2 ⟨rfl, hb2⟩
      have HB2 := Lib.hid (below_step HH.out.2.2 hb2)
      clear hb2 hld
      cases hqq : q (updK.at_ t i) with
      | true =>
        have HE : Hid (idxE q t = (i : Int)) := Lib.hid (idxE_at (S := updK) HIL.out hqq HH.out.2.1)
        clear hqq
        go_wp2
        go_ret
        rw [HE.out]
        exact ⟨rfl, HB2.out⟩
      | false =>
        have HN := Lib.hid hqq
        clear hqq
        go_wp2_with fail
        go_roundw
        case measure => simp [intOf]; omega
        case rel =>
          refine ⟨i + 1, by go_num, by omega, fun k hk => ?_, HB2.out⟩
          by_cases hki : k < i
          · exact HH.out.2.1 k hki
          · rw [show k = i by omega]; exact HN.out
    · have hlt' : decide (i < n) = false := decide_eq_false hlt
      have HE : Hid (idxE q t = -1) := Lib.hid (idxE_none (S := updK) (fun k hk => HH.out.2.1 k (by rw [HR.out.len] at hk; omega)))
      clear hlt
      go_wp2
      go_ret
      rw [HE.out]
      exact ⟨rfl, HH.out.2.2⟩
theorem containsU_any (A : Option Addr) (n c : Nat) (t : List Upd) (w : World) (g : Nat) (hr : RS updK w A n c t) (hn : n ≤ 1000000) (q : Upd → Bool)
    (hq : ∀ i, i < n → ∀ w1, Below w.heap.size w w1 → Calls Tryd.prog 62 #[updK.val (updK.at_ t i), .pointer (some ⟨g, 0, none⟩)] w1 fun e w2 => e = .returned (.bool (q (updK.at_ t i))) ∧ Below w1.heap.size w1 w2) :
    Calls Tryd.prog 61 #[.slice A n c, .func (Fn.func 62) #[] #[.pointer (some ⟨g, 0, none⟩)]] w fun e w' => e = .returned (.bool (t.any q)) ∧ Below w.heap.size w w' := by
  have HI := Lib.hid (indexfU_any A n c t w g hr hn q hq)
  clear hq hr
  go_enter Tryd.func61, Tryd.ntmps61
  go_wp2_with fail
  refine HI.out.mono ?_
  rintro e w1 ⟨rfl, hb1⟩
  have HB1 := Lib.hid hb1
  clear hb1
  go_wp2
  go_ret
  rw [idxE_any]
  exact ⟨rfl, HB1.out⟩
set_option maxHeartbeats 1000000 in
theorem indexfQ_any (A : Option Addr) (n c : Nat) (t : List Rte) (w : World) (g : Nat) (hr : RS rteK w A n c t) (hn : n ≤ 1000000) (q : Rte → Bool)
    (hq : ∀ i, i < n → ∀ w1, Below w.heap.size w w1 → Calls Tryd.prog 50 #[rteK.val (rteK.at_ t i), .pointer (some ⟨g, 0, none⟩)] w1 fun e w2 => e = .returned (.bool (q (rteK.at_ t i))) ∧ Below w1.heap.size w1 w2) :
    Calls Tryd.prog 86 #[.slice A n c, .func (Fn.func 50) #[] #[.pointer (some ⟨g, 0, none⟩)]] w fun e w' => e = .returned (.int .i64 (idxE q t)) ∧ Below w.heap.size w w' := by
  have HR := Lib.hid hr
  have HQ := Lib.hid hq
  clear hr hq
  go_enter Tryd.func86, Tryd.ntmps86
  go_wp2_with fail
  go_loopw [8] (fun x wr => ∃ i : Nat, x = .int .i64 i ∧ Hid (i ≤ n ∧ (∀ k, k < i → q (rteK.at_ t k) = false) ∧ Below w.heap.size w wr)) (fun x _ => n - (intOf x).toNat)
  case atStart => exact ⟨0, rfl, Nat.zero_le _, fun k h => by omega, Below.refl _ _⟩
  case round =>
    obtain ⟨i, rfl, HH⟩ := hrel
    by_cases hlt : i < n
    · have hlt' : (i : Int) < n := by omega
      obtain ⟨b, o, rfl, hc⟩ := RS.at_ HR.out (by omega)
      have hld := Shape.ld rteK wr b _ _ (RS.fits_at HR.out hlt) ((hc i hlt).below HH.out.2.2)
      have HIL := Lib.hid (show i < t.length by rw [HR.out.len]; exact hlt)
      clear hc
      go_wp2_with (first | ((with_reducible show wpList _ _ _ (Oper.mk _ (Op.load _ _) _ _ _ _ :: _) _ _); refine wpList_load_g hld _ rfl rfl (by go_simp) ?_))
      refine (HQ.out i hlt wr HH.out.2.2).mono ?_
      rintro e w2 ⟨rfl, hb2⟩
      have HB2 := Lib.hid (below_step HH.out.2.2 hb2)
      clear hb2 hld
      cases hqq : q (rteK.at_ t i) with
      | true =>
        have HE : Hid (idxE q t = (i : Int)) := Lib.hid (idxE_at (S := rteK) HIL.out hqq HH.out.2.1)
        clear hqq
        go_wp2
        go_ret
        rw [HE.out]
        exact ⟨rfl, HB2.out⟩
      | false =>
        have HN := Lib.hid hqq
        clear hqq
        go_wp2_with fail
        go_roundw
        case measure => simp [intOf]; omega
        case rel =>
          refine ⟨i + 1, by go_num, by omega, fun k hk => ?_, HB2.out⟩
          by_cases hki : k < i
          · exact HH.out.2.1 k hki
          · rw [show k = i by omega]; exact HN.out
    · have hlt' : decide (i < n) = false := decide_eq_false hlt
      have HE : Hid (idxE q t = -1) := Lib.hid (idxE_none (S := rteK) (fun k hk => HH.out.2.1 k (by rw [HR.out.len] at hk; omega)))
      clear hlt
      go_wp2
      go_ret
      rw [HE.out]
      exact ⟨rfl, HH.out.2.2⟩
theorem containsQ_any (A : Option Addr) (n c : Nat) (t : List Rte) (w : World) (g : Nat) (hr : RS rteK w A n c t) (hn : n ≤ 1000000) (q : Rte → Bool)
    (hq : ∀ i, i < n → ∀ w1, Below w.heap.size w w1 → Calls Tryd.prog 50 #[rteK.val (rteK.at_ t i), .pointer (some ⟨g, 0, none⟩)] w1 fun e w2 => e = .returned (.bool (q (rteK.at_ t i))) ∧ Below w1.heap.size w1 w2) :
    Calls Tryd.prog 49 #[.slice A n c, .func (Fn.func 50) #[] #[.pointer (some ⟨g, 0, none⟩)]] w fun e w' => e = .returned (.bool (t.any q)) ∧ Below w.heap.size w w' := by
  have HI := Lib.hid (indexfQ_any A n c t w g hr hn q hq)
  clear hq hr
  go_enter Tryd.func49, Tryd.ntmps49
  go_wp2_with fail
  refine HI.out.mono ?_
  rintro e w1 ⟨rfl, hb1⟩
  have HB1 := Lib.hid hb1
  clear hb1
  go_wp2
  go_ret
  rw [idxE_any]
  exact ⟨rfl, HB1.out⟩
def lowR (l : List Rte) (x : Rte) : Nat := lowK Rte.key l x
def thereR (l : List Rte) (x : Rte) : Bool := thereK Rte.key l x
set_option maxHeartbeats 2000000 in
theorem bsearchQ_any (A : Option Addr) (n c : Nat) (t : List Rte) (x : Rte) (w : World) (ht : RS rteK w A n c t) (hu : risK Rte.key t = true) (hx : x.fits) (hn : n ≤ 100000) :
    Calls Tryd.prog 42 #[.slice A n c, .agg (rteV x), .func (Fn.func 43) #[] #[]] w fun e w' => e = .returned (.tuple #[.int .i64 (lowR t x), .bool (thereR t x)]) ∧ Below w.heap.size w w' := by
  have hblk1 := blk_new w (.cells (rteV x) 51)
  have hbel1 : Below w.heap.size w (w.alloc (.cells (rteV x) 51)) := below_alloc (Below.refl _ _) _
  have HP1 := Lib.hid (rte_at hx hblk1)
  have HBK1 := Lib.hid hblk1
  have HBE := Lib.hid hbel1
  obtain ⟨cs1, hcs1⟩ : ∃ cs, rteV x = cs := ⟨_, rfl⟩
  simp only [hcs1] at HBE HP1 HBK1 ⊢
  have HC1 := Lib.hid hcs1
  clear hcs1 hblk1 hbel1
  have HT := Lib.hid ht
  have HU := Lib.hid hu
  have HLE := Lib.hid (show lowR t x ≤ n by rw [← ht.len]; exact lowK_le t x)
  clear ht hu
  go_enter Tryd.func42, Tryd.ntmps42
  go_wp2_with fail
  go_loopw [9, 10] (fun s9 s10 wr => ∃ i j : Nat, s9 = .int .i64 i ∧ s10 = .int .i64 j ∧ Hid (i ≤ lowR t x ∧ lowR t x ≤ j ∧ j ≤ n ∧ Below (w.alloc (.cells cs1 51)).heap.size (w.alloc (.cells cs1 51)) wr)) (fun x y _ => (intOf y).toNat - (intOf x).toNat)
  case atStart => exact ⟨0, n, rfl, rfl, Nat.zero_le _, HLE.out, Nat.le_refl _, Below.refl _ _⟩
  case round =>
    obtain ⟨i, j, rfl, rfl, HH⟩ := hrel
    have hij := Nat.le_trans HH.out.1 HH.out.2.1
    have hjn := HH.out.2.2.1
    by_cases hlt : i < j
    · have hlt' : (i : Int) < j := by omega
      have hw1 : IntKind.i64.wrap ((i : Int) + j) = i + j := by simp only [IntKind.wrap, IntKind.bits, IntKind.signed]; simp; omega
      have hw2 : IntKind.u64.wrap ((i : Int) + j) = i + j := by simp only [IntKind.wrap, IntKind.bits, IntKind.signed]; simp; omega
      obtain ⟨h, hh⟩ : ∃ h : Nat, ((i : Int) + j) / 2 = h := ⟨(i + j) / 2, by omega⟩
      have hih : i ≤ h := by omega
      have hhj : h < j := by omega
      have HI := Lib.hid (And.intro hih hhj)
      obtain ⟨b, o, rfl, hc⟩ := RS.at_ HT.out (by omega)
      have hhn : h < n := by omega
      have hhn' : (h : Int) < n := by omega
      have HC := Lib.hid (hc h hhn)
      have HF := Lib.hid (RS.fits_at HT.out hhn)
      have HSP := Lib.hid (lowK_spec rteZ x HU.out h (by rw [HT.out.len]; exact hhn))
      obtain ⟨a, ha⟩ : ∃ a, rteK.at_ t h = a := ⟨_, rfl⟩
      rw [ha] at HC HF
      have ha : t.getD h rteZ = a := ha
      rw [ha] at HSP
      clear hih hhj hc ha
      go_wp2_with fail
      refine wp_region_mix (fun w0 => Below (wr).heap.size (wr) w0) [(0, 0), (1, 0), (2, 0), (3, 0), (4, 0), (5, 0), (6, 2), (7, 0)] (by kernel_rfl) (by kernel_rfl) (below_drew1 _) ?_
      simp only [List.map_cons, List.map_nil]
      iterate 4 (refine wpO_step0 rfl rfl (fun K hK => ?_); go_simp; refine hK _ _ ?_; clear hK K)
      refine wpO_loadW (t := 51) (ad := ⟨b, (o+h*21), none⟩) rfl rfl ?hw rfl rfl ((fun w0 hS => Shape.ld rteK w0 b _ a HF.out (HC.out.below (below_step HBE.out (below_step HH.out.2.2.2 hS))))) ?_
      case hw => go_simp
      refine wpO_loadW (t := 51) (ad := ⟨w.heap.size, 0, none⟩) rfl rfl ?hw rfl rfl ((fun w0 hS => (HP1.out.all w0 (below_step HH.out.2.2.2 hS)).all)) ?_
      case hw => go_simp
      refine wpO_step2 rfl rfl (below_drew1 _) (fun K hK => ?_)
      go_simp
      refine (order_any a x _ HF.out hx).mono ?_
      rintro e w3 ⟨rfl, hbb3⟩
      have HB3 := Lib.hid (below_step (below_drew1 _) hbb3)
      clear hbb3
      refine hK _ _ ⟨HB3.out, ?_⟩
      clear hK K
      cases hcm : decide (cR a x < 0) with
      | true =>
        iterate 1 (refine wpO_step0 rfl rfl (fun K hK => ?_); go_simp; refine hK _ _ ?_; clear hK K)
        refine wpO_nil ?_
        have HQ := Lib.hid (of_decide_eq_true hcm)
        go_wp2_with fail
        go_roundw
        case measure => simp [intOf]; have := HI.out; omega
        case rel =>
          refine ⟨h + 1, j, by go_num, rfl, ?_, HH.out.2.1, hjn, below_step HH.out.2.2.2 HB3.out⟩
          rcases Nat.lt_or_ge h (lowR t x) with hl | hl
          · exact hl
          · have h1 := HSP.out.2 hl
            have h2 : cK Rte.key a x < 0 := HQ.out
            omega
      | false =>
        iterate 1 (refine wpO_step0 rfl rfl (fun K hK => ?_); go_simp; refine hK _ _ ?_; clear hK K)
        refine wpO_nil ?_
        have HQ := Lib.hid (of_decide_eq_false hcm)
        go_wp2_with fail
        go_roundw
        case measure => simp [intOf]; have := HI.out; omega
        case rel =>
          refine ⟨i, h, rfl, rfl, HH.out.1, ?_, by omega, below_step HH.out.2.2.2 HB3.out⟩
          rcases Nat.lt_or_ge h (lowR t x) with hl | hl
          · have h1 := HSP.out.1 hl
            have h2 : ¬ cK Rte.key a x < 0 := by have := HQ.out; exact fun h => absurd h (by simpa [cR] using this)
            omega
          · exact hl
    · have hlt' : decide (i < j) = false := decide_eq_false hlt
      have hlow : i = lowR t x := by have h1 := HH.out.1; have h2 := HH.out.2.1; omega
      have HLO := Lib.hid hlow
      clear hlow hlt
      by_cases hin : i < n
      · obtain ⟨b, o, rfl, hc⟩ := RS.at_ HT.out (by omega)
        have hin' : (i : Int) < n := by omega
        have HC := Lib.hid (hc i hin)
        have HF := Lib.hid (RS.fits_at HT.out hin)
        have HTH : Hid (thereR t x = (cR (rteK.at_ t i) x == 0)) := Lib.hid (by
          unfold thereR thereK
          rw [show lowK Rte.key t x = i from HLO.out.symm, Shape.at_get (S := rteK) (by rw [HT.out.len]; exact hin)]
          rfl)
        obtain ⟨a, ha⟩ : ∃ a, rteK.at_ t i = a := ⟨_, rfl⟩
        rw [ha] at HC HF HTH
        clear hc ha
        go_wp2_with fail
        refine wp_region_mix (fun w0 => Below (wr).heap.size (wr) w0) [(0, 0), (1, 0), (2, 0), (3, 0), (4, 0), (5, 0), (6, 0), (7, 0), (8, 0), (9, 0), (10, 0), (11, 2), (12, 0), (13, 0), (14, 0), (15, 0)] (by kernel_rfl) (by kernel_rfl) (below_drew1 _) ?_
        simp only [List.map_cons, List.map_nil]
        iterate 9 (refine wpO_step0 rfl rfl (fun K hK => ?_); go_simp; refine hK _ _ ?_; clear hK K)
        refine wpO_loadW (t := 51) (ad := ⟨b, (o+i*21), none⟩) rfl rfl ?hw rfl rfl ((fun w0 hS => Shape.ld rteK w0 b _ a HF.out (HC.out.below (below_step HBE.out (below_step HH.out.2.2.2 hS))))) ?_
        case hw => go_simp
        refine wpO_loadW (t := 51) (ad := ⟨w.heap.size, 0, none⟩) rfl rfl ?hw rfl rfl ((fun w0 hS => (HP1.out.all w0 (below_step HH.out.2.2.2 hS)).all)) ?_
        case hw => go_simp
        refine wpO_step2 rfl rfl (below_drew1 _) (fun K hK => ?_)
        go_simp
        refine (order_any a x _ HF.out hx).mono ?_
        rintro e w3 ⟨rfl, hbb3⟩
        have HB3 := Lib.hid (below_step (below_drew1 _) hbb3)
        clear hbb3
        refine hK _ _ ⟨HB3.out, ?_⟩
        clear hK K
        iterate 4 (refine wpO_step0 rfl rfl (fun K hK => ?_); go_simp; refine hK _ _ ?_; clear hK K)
        refine wpO_nil ?_
        go_wp2
        refine bodyPost_ret (results_tmp2 rfl _ _ _) rfl ?_
        rw [← HLO.out, HTH.out]
        exact ⟨rfl, below_step HBE.out (below_step HH.out.2.2.2 HB3.out)⟩
      · have hin' : decide (i < n) = false := decide_eq_false hin
        have HTH : Hid (thereR t x = false) := Lib.hid (by
          unfold thereR thereK
          rw [show lowK Rte.key t x = i from HLO.out.symm, List.getElem?_eq_none_iff.2 (by rw [HT.out.len]; omega)])
        clear hin
        go_wp2_with fail
        refine wp_region_mix (fun w0 => Below (wr).heap.size (wr) w0) [(0, 0), (1, 0), (2, 0), (3, 0), (4, 0), (5, 0), (6, 0), (7, 0), (8, 0), (9, 0), (10, 0), (11, 2), (12, 0), (13, 0), (14, 0), (15, 0)] (by kernel_rfl) (by kernel_rfl) (below_drew1 _) ?_
        simp only [List.map_cons, List.map_nil]
        repeat first | (refine wpO_step0 rfl rfl (fun K hK => ?_); go_simp; refine hK _ _ ?_; clear hK K) | (refine wpO_step2 rfl rfl (below_drew1 _) (fun K hK => ?_); go_simp; refine hK _ _ ⟨below_drew1 _, ?_⟩; clear hK K)
        refine wpO_nil ?_
        go_wp2
        refine bodyPost_ret (results_tmp2 rfl _ _ _) rfl ?_
        rw [← HLO.out, HTH.out]
        exact ⟨rfl, below_step HBE.out (below_step HH.out.2.2.2 (below_drew1 _))⟩
end Go.Proofs.YtnpeedmicjeleaaDoor

/- Layer 11 (route): prefixes, Check, CheckBatch; the document's prefixes, Right, RightBatch. -/
namespace Go.Proofs.YtnpeedmicjeleaaDoor
open Go.RowKit
set_option linter.unusedVariables false
set_option linter.unusedSimpArgs false
set_option maxRecDepth 4000
set_option maxHeartbeats 2000000 in
theorem rprefixes_any (A : Option Addr) (n c : Nat) (l : List Rte) (w : World) (hr : RS rteK w A n c l) (ok : Okr l) (hn : n ≤ 100000) : Calls Tryd.prog 46 #[.slice A n c] w fun e w' => e = .returned (.int .i64 (pfxsN l)) ∧ Below w.heap.size w w' := by
  have HR := Lib.hid hr
  have OK := Lib.hid ok
  clear hr ok
  go_enter Tryd.func46, Tryd.ntmps46
  go_wp2_with fail
  go_loopw [3, 8] (fun s3 s8 wr => ∃ i q : Nat, s8 = .int .i64 i ∧ s3 = .int .i64 q ∧ Hid (q = cntP l i ∧ i ≤ n ∧ Below w.heap.size w wr)) (fun _ y _ => n - (intOf y).toNat)
  case atStart => exact ⟨0, 0, rfl, rfl, rfl, Nat.zero_le _, Below.refl _ _⟩
  case round =>
    obtain ⟨i, q, rfl, rfl, HI⟩ := hrel
    have hqi : q ≤ i := by rw [HI.out.1]; exact cntP_le l i
    by_cases hlt : i < n
    · have hlt' : (i : Int) < n := by omega
      have hin : i ≤ n := HI.out.2.1
      obtain ⟨b, o, rfl, hc⟩ := RS.at_ HR.out (by omega)
      have hil : i < l.length := by rw [HR.out.len]; exact hlt
      have HC := Lib.hid (fun (k : Nat) (hk : k < n) => (hc k hk).below HI.out.2.2)
      have HXO := Lib.hid (OK.out.at_ hil)
      have HSU := Lib.hid (cntP_succ l i)
      have hla := Shape.ld rteK wr b _ _ HXO.out.fits (HC.out i hlt)
      have hla : (Instr.loadAt 51 (.pointer (some ⟨b, o + i * 21, none⟩))).run Tryd.prog wr = .ok (.agg (rteV (rteAt l i))) wr := hla
      obtain ⟨x, hx⟩ : ∃ x, rteAt l i = x := ⟨_, rfl⟩
      rw [hx] at hla HXO
      have HX := Lib.hid hx
      have HB2f := Lib.hid (fun (W : World) (h : (wr.alloc (.cells (rteV rteZ) 51)).grownBy W (some wr.heap.size)) => below_grown (below_alloc (Below.refl wr.heap.size wr) (.cells (rteV rteZ) 51)) h (Nat.le_refl _))
      clear hc hx
      go_upto_region 5 with (first | ((with_reducible show wpList _ _ _ (Oper.mk _ (Op.load _ _) _ _ _ _ :: _) _ _); refine wpList_load_g hla _ rfl rfl (by go_simp) ?_) | ((with_reducible show wpList _ _ _ (Oper.mk _ (Op.store _ _ _) _ _ _ _ :: _) _ _); refine wpList_store_blk (blk_new wr _) 51 0 (rteV x) (store_rte_fit HXO.out.fits rfl) (info_rte HXO.out.fits) (rteV_one _) _ _ rfl rfl rfl rfl ?_; intro w2 hg9 hs9 hb9; rw [splice_rte HXO.out.fits rfl] at hb9; have H2 := Lib.hid (And.intro hg9 hb9); clear hg9 hs9 hb9))
      have HB2 := Lib.hid (HB2f.out _ H2.out.1)
      have HX2 := Lib.hid (rte_at HXO.out.fits H2.out.2)
      clear HB2f H2 hla
      dsimp only [Act.put]
      cases i with
      | zero =>
        have HN : Hid (q + 1 = cntP l (0 + 1)) := Lib.hid (by rw [HSU.out, HI.out.1]; rfl)
        refine wp_region_mix (fun w0 => Below (w2).heap.size (w2) w0) [(0, 0), (1, 0), (2, 0), (3, 0), (4, 0), (5, 0), (6, 0), (7, 0), (8, 0), (9, 0), (10, 0), (11, 0), (12, 0)] (by kernel_rfl) (by kernel_rfl) (below_drew1 _) ?_
        simp only [List.map_cons, List.map_nil]
        repeat first | (refine wpO_step0 rfl rfl (fun K hK => ?_); go_simp; refine hK _ _ ?_; clear hK K) | (refine wpO_step2 rfl rfl (below_drew1 _) (fun K hK => ?_); go_simp; refine hK _ _ ⟨below_drew1 _, ?_⟩; clear hK K)
        refine wpO_nil ?_
        go_wp2_with fail
        go_roundw
        case measure => simp [intOf]; omega
        case rel => exact ⟨0 + 1, q + 1, by go_num, by go_num, HN.out, by omega, below_step HI.out.2.2 (below_step HB2.out (below_drew1 _))⟩
      | succ k =>
        have hk1 : ((k + 1 : Nat) : Int) - 1 = k := by omega
        have hkn : k < n := by omega
        have hkn' : (k : Int) < n := by omega
        have hk0 : ((k : Int) + 1 == 0) = false := by simp; omega
        have hwk : IntKind.i64.wrap (k : Int) = k := by simp only [IntKind.wrap, IntKind.bits, IntKind.signed]; simp; omega
        have HYO := Lib.hid (OK.out.at_ (show k < l.length by omega))
        have HCK := Lib.hid (HC.out k hkn)
        obtain ⟨y, hy⟩ : ∃ y, rteAt l k = y := ⟨_, rfl⟩
        have HCK2 : Hid (CellsAt wr b (o + k * 21) (rteC y)) := Lib.hid (by have := HCK.out; rwa [show rteK.at_ l k = y from hy] at this)
        rw [hy] at HYO
        cases he : y.p.eqB x.p with
        | true =>
          have HN : Hid (q = cntP l (k + 1 + 1)) := Lib.hid (by
            rw [HSU.out, HI.out.1, if_neg]
            rfl
            unfold newP
            rw [show k + 1 - 1 = k from rfl, show rteAt l k = y from hy, HX.out, he]
            simp)
          have HEX := Lib.hid (pfx_ne_hex HYO.out.p HXO.out.p (b := false) (by rw [he]; rfl))
          clear he hy HCK
          refine wp_region_mix (fun w0 => Below (w2).heap.size (w2) w0) [(0, 0), (1, 0), (2, 0), (3, 0), (4, 0), (5, 0), (6, 0), (7, 0), (8, 0), (9, 0), (10, 0), (11, 0), (12, 0)] (by kernel_rfl) (by kernel_rfl) (below_drew1 _) ?_
          simp only [List.map_cons, List.map_nil]
          iterate 8 (refine wpO_step0 rfl rfl (fun K hK => ?_); go_simp; refine hK _ _ ?_; clear hK K)
          refine wpO_loadW (t := 49) (ad := ⟨b, (o+k*21), none⟩) rfl rfl ?hw rfl rfl ((fun w0 hS => (rteLd_of HYO.out.fits (HCK2.out.below (below_step HB2.out hS))).pfx)) ?_
          case hw => go_simp
          iterate 1 (refine wpO_step0 rfl rfl (fun K hK => ?_); go_simp; refine hK _ _ ?_; clear hK K)
          refine wpO_loadW (t := 49) (ad := ⟨wr.heap.size, 0, none⟩) rfl rfl ?hw rfl rfl ((fun w0 hS => (HX2.out.all w0 hS).pfx)) ?_
          case hw => go_simp
          refine wpO_step0 rfl rfl (fun K hK => ?_)
          rw [if_pos (show Region.wanted _ _ = true from rfl)]
          refine ⟨_, fun w0 => HEX.out _ _ _ _ _ rfl rfl rfl w0, hK _ _ ?_⟩
          clear hK K
          iterate 1 (refine wpO_step0 rfl rfl (fun K hK => ?_); go_simp; refine hK _ _ ?_; clear hK K)
          refine wpO_nil ?_
          go_wp2_with fail
          go_roundw
          case measure => simp [intOf]; omega
          case rel => exact ⟨k + 1 + 1, q, by go_num, rfl, HN.out, by omega, below_step HI.out.2.2 (below_step HB2.out (below_drew1 _))⟩
        | false =>
          have HN : Hid (q + 1 = cntP l (k + 1 + 1)) := Lib.hid (by
            rw [HSU.out, HI.out.1, if_pos]
            unfold newP
            rw [show k + 1 - 1 = k from rfl, show rteAt l k = y from hy, HX.out, he]
            simp)
          have HEX := Lib.hid (pfx_ne_hex HYO.out.p HXO.out.p (b := true) (by rw [he]; rfl))
          clear he hy HCK
          refine wp_region_mix (fun w0 => Below (w2).heap.size (w2) w0) [(0, 0), (1, 0), (2, 0), (3, 0), (4, 0), (5, 0), (6, 0), (7, 0), (8, 0), (9, 0), (10, 0), (11, 0), (12, 0)] (by kernel_rfl) (by kernel_rfl) (below_drew1 _) ?_
          simp only [List.map_cons, List.map_nil]
          iterate 8 (refine wpO_step0 rfl rfl (fun K hK => ?_); go_simp; refine hK _ _ ?_; clear hK K)
          refine wpO_loadW (t := 49) (ad := ⟨b, (o+k*21), none⟩) rfl rfl ?hw rfl rfl ((fun w0 hS => (rteLd_of HYO.out.fits (HCK2.out.below (below_step HB2.out hS))).pfx)) ?_
          case hw => go_simp
          iterate 1 (refine wpO_step0 rfl rfl (fun K hK => ?_); go_simp; refine hK _ _ ?_; clear hK K)
          refine wpO_loadW (t := 49) (ad := ⟨wr.heap.size, 0, none⟩) rfl rfl ?hw rfl rfl ((fun w0 hS => (HX2.out.all w0 hS).pfx)) ?_
          case hw => go_simp
          refine wpO_step0 rfl rfl (fun K hK => ?_)
          rw [if_pos (show Region.wanted _ _ = true from rfl)]
          refine ⟨_, fun w0 => HEX.out _ _ _ _ _ rfl rfl rfl w0, hK _ _ ?_⟩
          clear hK K
          iterate 1 (refine wpO_step0 rfl rfl (fun K hK => ?_); go_simp; refine hK _ _ ?_; clear hK K)
          refine wpO_nil ?_
          go_wp2_with fail
          go_roundw
          case measure => simp [intOf]; omega
          case rel => exact ⟨k + 1 + 1, q + 1, by go_num, by go_num, HN.out, by omega, below_step HI.out.2.2 (below_step HB2.out (below_drew1 _))⟩
    · have hlt' : decide (i < n) = false := decide_eq_false hlt
      have hin : i = n := by have := HI.out.2.1; omega
      have HE : Hid (pfxsN l = q) := Lib.hid (by unfold pfxsN; rw [HR.out.len, ← hin, HI.out.1])
      clear hlt hin
      go_wp2
      go_ret
      rw [HE.out]
      exact ⟨rfl, HI.out.2.2⟩
def ribE (l : List Rte) : Int := if ribB l then 0 else 211
theorem ribE_no {l : List Rte} {i : Nat} (hi : i < l.length) (h : i = 160 ∨ (rteAt l i).fit = false ∨ (0 < i ∧ ¬ cR (rteAt l (i - 1)) (rteAt l i) < 0)) : ribE l = 211 := by
  unfold ribE
  rw [if_neg]
  intro hb
  unfold ribB at hb
  rw [Bool.and_eq_true, ribsB_iff] at hb
  obtain ⟨⟨h1, h2, h3⟩, _⟩ := hb
  rcases h with h | h | ⟨h, k⟩
  · omega
  · rw [h2 i hi] at h; cases h
  · have := h3 (i - 1) (by omega)
    rw [show i - 1 + 1 = i by omega] at this
    exact k this
set_option maxHeartbeats 4000000 in
theorem rcheck_any (A : Option Addr) (n c : Nat) (l : List Rte) (w : World) (hL : Laid w) (hr : RS rteK w A n c l) (ok : Okr l) (hn : n ≤ 100000) : Calls Tryd.prog 18 #[.agg (tabV A n c)] w fun e w' => e = .returned (.int .i64 (ribE l)) ∧ Below w.heap.size w w' := by
  have hblk1 := blk_new w (.cells (tabV A n c) 24)
  have hbel1 : Below w.heap.size w (w.alloc (.cells (tabV A n c) 24)) := below_alloc (Below.refl _ _) _
  have HP1 := Lib.hid (rib_at hblk1)
  have HBK1 := Lib.hid hblk1
  have HBE := Lib.hid hbel1
  have HL := Lib.hid (hL.below HBE.out)
  obtain ⟨cs1, hcs1⟩ : ∃ cs, tabV A n c = cs := ⟨_, rfl⟩
  simp only [hcs1] at HBE HL HP1 HBK1 ⊢
  have HC1 := Lib.hid hcs1
  clear hL hcs1 hblk1 hbel1
  have HR := Lib.hid (hr.below HBE.out)
  have OK := Lib.hid ok
  clear hr ok
  go_enter Tryd.func18, Tryd.ntmps18
  go_wp2_with (first | ((with_reducible show wpList _ _ _ (Oper.mk _ (Op.load _ _) _ _ _ _ :: _) _ _); refine wpList_load_g ((HP1.out.all _ (Below.refl _ _)).2) _ rfl rfl (by go_simp) ?_))
  go_loopw [8] (fun s8 wr => ∃ i : Nat, s8 = .int .i64 i ∧ Hid (i ≤ n ∧ i ≤ 160 ∧ (∀ j, j < i → (rteAt l j).fit = true) ∧ (∀ j, j + 1 < i → cR (rteAt l j) (rteAt l (j + 1)) < 0) ∧ Below (w.alloc (.cells cs1 24)).heap.size (w.alloc (.cells cs1 24)) wr)) (fun x _ => n - (intOf x).toNat)
  case atStart => exact ⟨0, rfl, Nat.zero_le _, by omega, fun j h => by omega, fun j h => by omega, Below.refl _ _⟩
  case round =>
    obtain ⟨i, rfl, HI⟩ := hrel
    have hi160 : i ≤ 160 := HI.out.2.1
    by_cases hlt : i < n
    · have hlt' : (i : Int) < n := by omega
      obtain ⟨b, o, rfl, hc⟩ := RS.at_ HR.out (by omega)
      have hil : i < l.length := by rw [HR.out.len]; exact hlt
      have HIL := Lib.hid hil
      have HC := Lib.hid (fun (k : Nat) (hk : k < n) => (hc k hk).below HI.out.2.2.2.2)
      have HXO := Lib.hid (OK.out.at_ hil)
      have hla := Shape.ld rteK wr b _ _ HXO.out.fits (HC.out i hlt)
      have hla : (Instr.loadAt 51 (.pointer (some ⟨b, o + i * 21, none⟩))).run Tryd.prog wr = .ok (.agg (rteV (rteAt l i))) wr := hla
      obtain ⟨x, hx⟩ : ∃ x, rteAt l i = x := ⟨_, rfl⟩
      rw [hx] at hla HXO
      have HX := Lib.hid hx
      have HBI := Lib.hid HI.out.2.2.2.2
      have HB2f := Lib.hid (fun (W : World) (h : (wr.alloc (.cells (rteV rteZ) 51)).grownBy W (some wr.heap.size)) => below_grown (below_alloc (Below.refl wr.heap.size wr) (.cells (rteV rteZ) 51)) h (Nat.le_refl _))
      clear hc hx hil
      go_upto_region 4 with (first | ((with_reducible show wpList _ _ _ (Oper.mk _ (Op.load _ _) _ _ _ _ :: _) _ _); refine wpList_load_g hla _ rfl rfl (by go_simp) ?_) | ((with_reducible show wpList _ _ _ (Oper.mk _ (Op.store _ _ _) _ _ _ _ :: _) _ _); refine wpList_store_blk (blk_new wr _) 51 0 (rteV x) (store_rte_fit HXO.out.fits rfl) (info_rte HXO.out.fits) (rteV_one _) _ _ rfl rfl rfl rfl ?_; intro w2 hg9 hs9 hb9; rw [splice_rte HXO.out.fits rfl] at hb9; have H2 := Lib.hid (And.intro hg9 hb9); clear hg9 hs9 hb9))
      have HBR := Lib.hid (HB2f.out _ H2.out.1)
      have HB2 := Lib.hid (below_step HBI.out HBR.out)
      have HX2 := Lib.hid (rte_at HXO.out.fits H2.out.2)
      clear HB2f H2 hla
      dsimp only [Act.put]
      by_cases h160 : i = 160
      · have HE := Lib.hid (ribE_no HIL.out (.inl h160))
        subst h160
        refine wp_region_mix (fun w0 => Below (w2).heap.size (w2) w0) [(0, 0), (1, 0), (2, 0), (3, 0), (4, 0), (5, 0), (6, 0), (7, 0), (8, 0), (9, 0), (10, 0), (11, 2), (12, 0), (13, 0), (14, 0), (15, 0), (16, 0), (17, 0), (18, 0), (19, 0), (20, 0), (21, 0), (22, 0), (23, 0), (24, 0), (25, 2), (26, 0), (27, 0), (28, 0)] (by kernel_rfl) (by kernel_rfl) (below_drew1 _) ?_
        simp only [List.map_cons, List.map_nil]
        repeat first | (refine wpO_step0 rfl rfl (fun K hK => ?_); go_simp; refine hK _ _ ?_; clear hK K) | (refine wpO_step2 rfl rfl (below_drew1 _) (fun K hK => ?_); go_simp; refine hK _ _ ⟨below_drew1 _, ?_⟩; clear hK K)
        refine wpO_nil ?_
        go_wp2_with fail
        go_ret
        rw [HE.out]
        exact ⟨rfl, below_step HBE.out (below_step HB2.out (below_drew1 _))⟩
      · have h160b : ((i : Int) == 160) = false := by simp; omega
        obtain ⟨F, hF⟩ : ∃ F, x.fit = F := ⟨_, rfl⟩
        have HF := Lib.hid hF
        have h161 : i + 1 ≤ 160 := by omega
        clear h160 hF
        refine wp_region_mix (fun w0 => Below (w2).heap.size (w2) w0) [(0, 0), (1, 0), (2, 0), (3, 0), (4, 0), (5, 0), (6, 0), (7, 0), (8, 0), (9, 0), (10, 0), (11, 2), (12, 0), (13, 0), (14, 0), (15, 0), (16, 0), (17, 0), (18, 0), (19, 0), (20, 0), (21, 0), (22, 0), (23, 0), (24, 0), (25, 2), (26, 0), (27, 0), (28, 0)] (by kernel_rfl) (by kernel_rfl) (below_drew1 _) ?_
        simp only [List.map_cons, List.map_nil]
        iterate 4 (refine wpO_step0 rfl rfl (fun K hK => ?_); go_simp; refine hK _ _ ?_; clear hK K)
        refine wpO_loadW (t := 49) (ad := ⟨wr.heap.size, 0, none⟩) rfl rfl ?hw rfl rfl ((fun w0 hS => (HX2.out.all w0 hS).pfx)) ?_
        case hw => go_simp
        iterate 1 (refine wpO_step0 rfl rfl (fun K hK => ?_); go_simp; refine hK _ _ ?_; clear hK K)
        refine wpO_loadW (t := 3) (ad := ⟨wr.heap.size, 18, none⟩) rfl rfl ?hw rfl rfl ((fun w0 hS => (HX2.out.all w0 hS).src)) ?_
        case hw => go_simp
        iterate 1 (refine wpO_step0 rfl rfl (fun K hK => ?_); go_simp; refine hK _ _ ?_; clear hK K)
        refine wpO_loadW (t := 3) (ad := ⟨wr.heap.size, 19, none⟩) rfl rfl ?hw rfl rfl ((fun w0 hS => (HX2.out.all w0 hS).prf)) ?_
        case hw => go_simp
        iterate 1 (refine wpO_step0 rfl rfl (fun K hK => ?_); go_simp; refine hK _ _ ?_; clear hK K)
        refine wpO_loadW (t := 3) (ad := ⟨wr.heap.size, 20, none⟩) rfl rfl ?hw rfl rfl ((fun w0 hS => (HX2.out.all w0 hS).hop)) ?_
        case hw => go_simp
        refine wpO_step2 rfl rfl (below_drew1 _) (fun K hK => ?_)
        go_simp
        refine (rfits_any x.p x.s x.f x.h _ (HL.out.below (below_step HB2.out (below_drew1 _))) HXO.out.fits).mono ?_
        rintro e w3 ⟨rfl, hb3⟩
        rw [show fitB x.p x.s x.f x.h = F from HF.out]
        have HB3 := Lib.hid (below_step (below_drew1 w2) hb3)
        clear hb3
        refine hK _ _ ⟨HB3.out, ?_⟩
        clear hK K
        cases F with
        | false =>
          have HE := Lib.hid (ribE_no HIL.out (.inr (.inl (by rw [show rteAt l i = x from HX.out, HF.out]))))
          repeat first | (refine wpO_step0 rfl rfl (fun K hK => ?_); go_simp; refine hK _ _ ?_; clear hK K) | (refine wpO_step2 rfl rfl (HB3.out) (fun K hK => ?_); go_simp; refine hK _ _ ⟨HB3.out, ?_⟩; clear hK K)
          refine wpO_nil ?_
          go_wp2_with fail
          go_ret
          rw [HE.out]
          exact ⟨rfl, below_step HBE.out (below_step HB2.out HB3.out)⟩
        | true =>
          have HFI : Hid (∀ j, j < i + 1 → (rteAt l j).fit = true) := Lib.hid (fun j hj => by
            rcases Nat.lt_or_ge j i with h | h
            · exact HI.out.2.2.1 j h
            · obtain rfl : j = i := by omega
              rw [show rteAt l j = x from HX.out, HF.out])
          cases i with
          | zero =>
            repeat first | (refine wpO_step0 rfl rfl (fun K hK => ?_); go_simp; refine hK _ _ ?_; clear hK K) | (refine wpO_step2 rfl rfl (HB3.out) (fun K hK => ?_); go_simp; refine hK _ _ ⟨HB3.out, ?_⟩; clear hK K)
            refine wpO_nil ?_
            go_wp2_with fail
            go_roundw
            case measure => simp [intOf]; omega
            case rel => exact ⟨0 + 1, by go_num, by omega, by omega, HFI.out, fun j h => by omega, below_step HB2.out HB3.out⟩
          | succ k =>
            have hk1 : ((k + 1 : Nat) : Int) - 1 = k := by omega
            have hkn : k < n := by omega
            have hkn' : (k : Int) < n := by omega
            have hk0 : decide ((0 : Int) < (k : Int) + 1) = true := decide_eq_true (by omega)
            have hwk : IntKind.i64.wrap (k : Int) = k := by simp only [IntKind.wrap, IntKind.bits, IntKind.signed]; simp; omega
            have HYO := Lib.hid (OK.out.at_ (show k < l.length by have := HIL.out; omega))
            have HCK := Lib.hid (HC.out k hkn)
            obtain ⟨y, hy⟩ : ∃ y, rteAt l k = y := ⟨_, rfl⟩
            have HCK2 : Hid (CellsAt wr b (o + k * 21) (rteC y)) := Lib.hid (by have := HCK.out; rwa [show rteK.at_ l k = y from hy] at this)
            rw [hy] at HYO
            have HY := Lib.hid hy
            clear hy HCK
            iterate 7 (refine wpO_step0 rfl rfl (fun K hK => ?_); go_simp; refine hK _ _ ?_; clear hK K)
            refine wpO_loadW (t := 22) (ad := ⟨w.heap.size, 0, none⟩) rfl rfl ?hw rfl rfl ((fun w0 hS => (HP1.out.all w0 (below_step HB2.out hS)).2)) ?_
            case hw => go_simp
            iterate 3 (refine wpO_step0 rfl rfl (fun K hK => ?_); go_simp; refine hK _ _ ?_; clear hK K)
            refine wpO_loadW (t := 51) (ad := ⟨b, (o+k*21), none⟩) rfl rfl ?hw rfl rfl ((fun w0 hS => (rteLd_of HYO.out.fits (HCK2.out.below (below_step HBR.out hS))).all)) ?_
            case hw => go_simp
            refine wpO_loadW (t := 51) (ad := ⟨wr.heap.size, 0, none⟩) rfl rfl ?hw rfl rfl ((fun w0 hS => (HX2.out.all w0 hS).all)) ?_
            case hw => go_simp
            refine wpO_step2 rfl rfl (HB3.out) (fun K hK => ?_)
            go_simp
            refine (order_any y x _ HYO.out.fits HXO.out.fits).mono ?_
            rintro e w4 ⟨rfl, hb4⟩
            obtain ⟨N, hN⟩ : ∃ N, cR y x = N := ⟨_, rfl⟩
            rw [hN]
            have HN := Lib.hid hN
            have HB4 := Lib.hid (below_step HB3.out hb4)
            clear hb4 hN
            refine hK _ _ ⟨HB4.out, ?_⟩
            clear hK K
            by_cases hneg : N < 0
            · have hnb : decide (0 ≤ N) = false := decide_eq_false (by omega)
              have HRI : Hid (∀ j, j + 1 < k + 1 + 1 → cR (rteAt l j) (rteAt l (j + 1)) < 0) := Lib.hid (fun j hj => by
                rcases Nat.lt_or_ge (j + 1) (k + 1) with h | h
                · exact HI.out.2.2.2.1 j h
                · obtain rfl : j = k := by omega
                  rw [show rteAt l j = y from HY.out, show rteAt l (j + 1) = x from HX.out, HN.out]
                  exact hneg)
              clear hneg
              iterate 3 (refine wpO_step0 rfl rfl (fun K hK => ?_); go_simp; refine hK _ _ ?_; clear hK K)
              refine wpO_nil ?_
              go_wp2_with fail
              go_roundw
              case measure => simp [intOf]; omega
              case rel => exact ⟨k + 1 + 1, by go_num, by omega, by omega, HFI.out, HRI.out, below_step HB2.out HB4.out⟩
            · have hnb : decide (0 ≤ N) = true := decide_eq_true (by omega)
              have HE := Lib.hid (ribE_no HIL.out (.inr (.inr ⟨by omega, by rw [show k + 1 - 1 = k from rfl, show rteAt l k = y from HY.out, show rteAt l (k + 1) = x from HX.out, HN.out]; exact hneg⟩)))
              clear hneg
              iterate 3 (refine wpO_step0 rfl rfl (fun K hK => ?_); go_simp; refine hK _ _ ?_; clear hK K)
              refine wpO_nil ?_
              go_wp2_with fail
              go_ret
              rw [HE.out]
              exact ⟨rfl, below_step HBE.out (below_step HB2.out HB4.out)⟩
    · have hlt' : decide (i < n) = false := decide_eq_false hlt
      have hin : i = n := by have := HI.out.1; omega
      have HS : Hid (ribsB l = true) := Lib.hid (by
        rw [ribsB_iff, HR.out.len, ← hin]
        exact ⟨hi160, HI.out.2.2.1, HI.out.2.2.2.1⟩)
      have HBI := Lib.hid HI.out.2.2.2.2
      clear hlt hin
      go_wp2_with (first | ((with_reducible show wpList _ _ _ (Oper.mk _ (Op.load _ _) _ _ _ _ :: _) _ _); refine wpList_load_g ((HP1.out.all _ HBI.out).2) _ rfl rfl (by go_simp) ?_))
      refine (rprefixes_any A n c l wr (HR.out.below HBI.out) OK.out hn).mono ?_
      rintro e w3 ⟨rfl, hb3⟩
      have HB3 := Lib.hid (below_step HBI.out hb3)
      obtain ⟨q, hq⟩ : ∃ q, pfxsN l = q := ⟨_, rfl⟩
      have HQ := Lib.hid hq
      rw [hq]
      clear hb3 hq
      by_cases h40 : 40 < q
      · have h40b : decide ((40 : Int) < q) = true := decide_eq_true (by omega)
        have HE : Hid (ribE l = 211) := Lib.hid (by unfold ribE ribB; rw [HS.out, HQ.out, decide_eq_false (by omega)]; rfl)
        clear h40
        go_wp2
        go_ret
        rw [HE.out]
        exact ⟨rfl, below_step HBE.out HB3.out⟩
      · have h40b : decide ((40 : Int) < q) = false := decide_eq_false (by omega)
        have HE : Hid (ribE l = 0) := Lib.hid (by unfold ribE ribB; rw [HS.out, HQ.out, decide_eq_true (by omega)]; rfl)
        clear h40
        go_wp2
        go_ret
        rw [HE.out]
        exact ⟨rfl, below_step HBE.out HB3.out⟩
def batE (l : List Upd) : Int := if batB l then 0 else 210
theorem any_twin (l : List Upd) {i : Nat} (hi : i < l.length) : (l.take i).any (fun x => twin x (updAt l i)) = false ↔ ∀ k, k < i → twin (updAt l k) (updAt l i) = false := by
  rw [List.any_eq_false]
  constructor
  · intro h k hk
    rw [Bool.eq_false_iff]
    refine h _ ?_
    refine List.mem_of_getElem? (i := k) ?_
    rw [List.getElem?_take, if_pos hk]
    exact getD_get (by omega)
  · intro h x hx
    obtain ⟨k, hk, he⟩ := List.getElem_of_mem hx
    rw [List.length_take] at hk
    have h1 := h k (by omega)
    have : updAt l k = x := by
      rw [← he, List.getElem_take]
      have h2 := getD_get (z := updZ) (show k < l.length by omega)
      rw [List.getElem?_eq_getElem (by omega)] at h2
      exact (Option.some.inj h2).symm
    rw [this] at h1
    rw [h1]
    decide
theorem batsB_iff (l : List Upd) : batsB l = true ↔ ∀ j, j < l.length → updB (updAt l j) = true ∧ ∀ k, k < j → twin (updAt l k) (updAt l j) = false := by
  unfold batsB
  rw [decide_eq_true_eq]
theorem batE_no {l : List Upd} {i : Nat} (hi : i < l.length) (h : updB (updAt l i) = false ∨ (l.take i).any (fun x => twin x (updAt l i)) = true) : batE l = 210 := by
  unfold batE
  rw [if_neg]
  intro hb
  unfold batB at hb
  rw [Bool.and_eq_true, batsB_iff] at hb
  rcases h with h | h
  · rw [(hb.2 i hi).1] at h; cases h
  · rw [(any_twin l hi).2 (hb.2 i hi).2] at h; cases h
set_option maxHeartbeats 4000000 in
theorem rcheckb_any (A : Option Addr) (n c : Nat) (l : List Upd) (w : World) (hL : Laid w) (hr : RS updK w A n c l) (ok : Oku l) (hn : n ≤ 100000) : Calls Tryd.prog 26 #[.agg (tabV A n c)] w fun e w' => e = .returned (.int .i64 (batE l)) ∧ Below w.heap.size w w' := by
  have hblk1 := blk_new w (.cells (tabV A n c) 27)
  have hbel1 : Below w.heap.size w (w.alloc (.cells (tabV A n c) 27)) := below_alloc (Below.refl _ _) _
  have HP1 := Lib.hid (bat_at hblk1)
  have HBK1 := Lib.hid hblk1
  have HBE := Lib.hid hbel1
  have HL := Lib.hid (hL.below HBE.out)
  obtain ⟨cs1, hcs1⟩ : ∃ cs, tabV A n c = cs := ⟨_, rfl⟩
  simp only [hcs1] at HBE HL HP1 HBK1 ⊢
  have HC1 := Lib.hid hcs1
  clear hL hcs1 hblk1 hbel1
  have HR := Lib.hid (hr.below HBE.out)
  have OK := Lib.hid ok
  clear hr ok
  go_enter Tryd.func26, Tryd.ntmps26
  by_cases h1 : n < 1
  · have h1b : decide ((n : Int) < 1) = true := decide_eq_true (by omega)
    have HE : Hid (batE l = 210) := Lib.hid (by unfold batE batB; rw [HR.out.len, decide_eq_false (show ¬ 1 ≤ n by omega)]; rfl)
    go_wp2_with (first | ((with_reducible show wpList _ _ _ (Oper.mk _ (Op.load _ _) _ _ _ _ :: _) _ _); refine wpList_load_g ((HP1.out.all _ (Below.refl _ _)).2) _ rfl rfl (by go_simp) ?_))
    go_ret
    rw [HE.out]
    exact ⟨rfl, HBE.out⟩
  · have h1b : decide ((n : Int) < 1) = false := decide_eq_false (by omega)
    by_cases h8 : 8 < n
    · have h8b : decide ((8 : Int) < n) = true := decide_eq_true (by omega)
      have HE : Hid (batE l = 210) := Lib.hid (by unfold batE batB; rw [HR.out.len, decide_eq_false (show ¬ n ≤ 8 by omega), Bool.and_false]; rfl)
      go_wp2_with (first | ((with_reducible show wpList _ _ _ (Oper.mk _ (Op.load _ _) _ _ _ _ :: _) _ _); refine wpList_load_g ((HP1.out.all _ (Below.refl _ _)).2) _ rfl rfl (by go_simp) ?_))
      go_ret
      rw [HE.out]
      exact ⟨rfl, HBE.out⟩
    · have h8b : decide ((8 : Int) < n) = false := decide_eq_false (by omega)
      go_wp2_with (first | ((with_reducible show wpList _ _ _ (Oper.mk _ (Op.load _ _) _ _ _ _ :: _) _ _); refine wpList_load_g ((HP1.out.all _ (Below.refl _ _)).2) _ rfl rfl (by go_simp) ?_))
      go_loopw [19] (fun s19 wr => ∃ i : Nat, s19 = .int .i64 i ∧ Hid (i ≤ n ∧ (∀ j, j < i → updB (updAt l j) = true ∧ ∀ k, k < j → twin (updAt l k) (updAt l j) = false) ∧ Below (w.alloc (.cells cs1 27)).heap.size (w.alloc (.cells cs1 27)) wr)) (fun x _ => n - (intOf x).toNat)
      case atStart => exact ⟨0, rfl, Nat.zero_le _, fun j h => by omega, Below.refl _ _⟩
      case round =>
        obtain ⟨i, rfl, HI⟩ := hrel
        have hcap := HR.out.cap
        by_cases hlt : i < n
        · have hlt' : (i : Int) < n := by omega
          obtain ⟨b, o, hA, hc⟩ := RS.at_ HR.out (by omega)
          have hil : i < l.length := by rw [HR.out.len]; exact hlt
          have HIL := Lib.hid hil
          have HXO := Lib.hid (OK.out.at_ hil)
          have hla := Shape.ld updK wr b _ _ HXO.out.fits ((hc i hlt).below HI.out.2.2)
          have hla : (Instr.loadAt 75 (.pointer (some ⟨b, o + i * 22, none⟩))).run Tryd.prog wr = .ok (.agg (updV (updAt l i))) wr := hla
          obtain ⟨x, hx⟩ : ∃ x, updAt l i = x := ⟨_, rfl⟩
          rw [hx] at hla HXO
          have HX := Lib.hid hx
          have HBI := Lib.hid HI.out.2.2
          have HB2f := Lib.hid (fun (W : World) (h : (wr.alloc (.cells (updV updZ) 75)).grownBy W (some wr.heap.size)) => below_grown (below_alloc (Below.refl wr.heap.size wr) (.cells (updV updZ) 75)) h (Nat.le_refl _))
          subst hA
          clear hc hx hil
          have hile : i ≤ c := by omega
          have HRI := Lib.hid (RS.take HR.out i (by omega))
          go_wp2_with (first | ((with_reducible show wpList _ _ _ (Oper.mk _ (Op.load _ _) _ _ _ _ :: _) _ _); refine wpList_load_g hla _ rfl rfl (by go_simp) ?_) | ((with_reducible show wpList _ _ _ (Oper.mk _ (Op.store _ _ _) _ _ _ _ :: _) _ _); refine wpList_store_blk (blk_new wr _) 75 0 (updV x) (store_upd_fit HXO.out.fits rfl) (info_upd HXO.out.fits) (updV_one _) _ _ rfl rfl rfl rfl ?_; intro w2 hg9 hs9 hb9; rw [splice_upd HXO.out.fits rfl] at hb9; have H2 := Lib.hid (And.intro hg9 hb9); clear hg9 hs9 hb9) | ((with_reducible show wpList _ _ _ (Oper.mk _ (Op.load _ _) _ _ _ _ :: _) _ _); refine wpList_load_g ((HP1.out.all _ (below_step HBI.out (HB2f.out _ H2.out.1))).2) _ rfl rfl (by go_simp) ?_))
          have HBR := Lib.hid (HB2f.out _ H2.out.1)
          have HB2 := Lib.hid (below_step HBI.out HBR.out)
          have HG2 := Lib.hid H2.out.2
          have OKT : Hid (Oku (l.take i)) := Lib.hid (fun u hu => OK.out u (List.mem_of_mem_take hu))
          have HTL : Hid ((l.take i).length = i) := Lib.hid (by rw [List.length_take]; have := HIL.out; omega)
          clear HB2f H2 hla
          refine (containsU_any (some ⟨b, o, none⟩) i c (l.take i) w2 wr.heap.size (HRI.out.below HB2.out) (by omega) (fun z => twin z x) (fun k hk w1 hb => twin1_any (updK.at_ (l.take i) k) x wr.heap.size w1 (OKT.out.at_ (by rw [HTL.out]; exact hk)) HXO.out (upd_at HXO.out.fits (blk_below HG2.out hb)))).mono ?_
          rintro e w3 ⟨rfl, hb3⟩
          obtain ⟨T, hT⟩ : ∃ T, (l.take i).any (fun z => twin z x) = T := ⟨_, rfl⟩
          rw [hT]
          have HT := Lib.hid hT
          have HB3 := Lib.hid (below_step HB2.out hb3)
          have HG3 := Lib.hid (blk_below HG2.out hb3)
          clear hb3 hT HG2 hile
          go_wp2_with (first | ((with_reducible show wpList _ _ _ (Oper.mk _ (Op.load _ _) _ _ _ _ :: _) _ _); refine wpList_load_g (((upd_at HXO.out.fits HG3.out).all _ (Below.refl _ _)).all) _ rfl rfl (by go_simp) ?_))
          refine (update_any x w3 (HL.out.below HB3.out) HXO.out.fits).mono ?_
          rintro e w4 ⟨rfl, hb4⟩
          have HB4 := Lib.hid (below_step HB3.out hb4)
          clear hb4
          cases hU : updB x with
          | false =>
            have HE := Lib.hid (batE_no HIL.out (.inl (by rw [show updAt l i = x from HX.out, hU])))
            clear hU
            go_wp2_with fail
            go_ret
            rw [HE.out]
            exact ⟨rfl, below_step HBE.out HB4.out⟩
          | true =>
            cases T with
            | true =>
              have HE := Lib.hid (batE_no HIL.out (.inr (by rw [show updAt l i = x from HX.out]; exact HT.out)))
              clear hU
              go_wp2_with fail
              go_ret
              rw [HE.out]
              exact ⟨rfl, below_step HBE.out HB4.out⟩
            | false =>
              have HN : Hid (∀ j, j < i + 1 → updB (updAt l j) = true ∧ ∀ k, k < j → twin (updAt l k) (updAt l j) = false) := Lib.hid (fun j hj => by
                rcases Nat.lt_or_ge j i with h | h
                · exact HI.out.2.1 j h
                · obtain rfl : j = i := by omega
                  have ht := HT.out
                  rw [← show updAt l j = x from HX.out] at ht hU
                  exact ⟨hU, (any_twin l HIL.out).1 ht⟩)
              clear hU
              go_wp2_with fail
              go_roundw
              case measure => simp [intOf]; omega
              case rel => exact ⟨i + 1, by go_num, by omega, HN.out, HB4.out⟩
        · have hlt' : decide (i < n) = false := decide_eq_false hlt
          have hin : i = n := by have := HI.out.1; omega
          have HE : Hid (batE l = 0) := Lib.hid (by
            unfold batE batB
            rw [(batsB_iff l).2 (by rw [HR.out.len, ← hin]; exact HI.out.2.1), HR.out.len, decide_eq_true (show 1 ≤ n by omega), decide_eq_true (show n ≤ 8 by omega)]
            rfl)
          clear hlt hin
          go_wp2
          go_ret
          rw [HE.out]
          exact ⟨rfl, below_step HBE.out HI.out.2.2⟩
end Go.Proofs.YtnpeedmicjeleaaDoor

/- Layer 11 (route): Same, SameBatch; the document's Same, SameBatch, prefixes, Right, RightBatch. -/
namespace Go.Proofs.YtnpeedmicjeleaaDoor
open Go.RowKit
set_option linter.unusedVariables false
set_option linter.unusedSimpArgs false
set_option maxRecDepth 4000
/-! The document's prefixes. -/
def nots (l : List Rte) (i j : Nat) : Bool := decide (∀ k, k < j → (rteAt l k).p.eqB (rteAt l i).p = false)
theorem nots_succ (l : List Rte) (i j : Nat) : nots l i (j + 1) = (nots l i j && !(rteAt l j).p.eqB (rteAt l i).p) := by
  unfold nots
  rw [Bool.eq_iff_iff, Bool.and_eq_true, decide_eq_true_eq, decide_eq_true_eq, Bool.not_eq_true']
  constructor
  · exact fun h => ⟨fun k hk => h k (by omega), h j (by omega)⟩
  · rintro ⟨h1, h2⟩ k hk
    rcases Nat.lt_or_ge k j with h | h
    · exact h1 k h
    · rw [show k = j by omega]; exact h2
set_option maxHeartbeats 2000000 in
theorem refprefixes_any (A : Option Addr) (n c : Nat) (l : List Rte) (w : World) (hr : RS rteK w A n c l) (ok : Okr l) (hn : n ≤ 100000) : Calls Tryd.prog 48 #[.slice A n c] w fun e w' => e = .returned (.int .i64 (pfxsF l)) ∧ Below w.heap.size w w' := by
  have HR := Lib.hid hr
  have OK := Lib.hid ok
  clear hr ok
  go_enter Tryd.func48, Tryd.ntmps48
  go_wp2_with fail
  go_loopw [3, 4] (fun s3 s4 wr => ∃ i q : Nat, s4 = .int .i64 i ∧ s3 = .int .i64 q ∧ Hid (q = cntF l i ∧ i ≤ n ∧ Below w.heap.size w wr)) (fun _ y _ => n - (intOf y).toNat)
  case atStart => exact ⟨0, 0, rfl, rfl, rfl, Nat.zero_le _, Below.refl _ _⟩
  case round =>
    obtain ⟨i, q, rfl, rfl, HI⟩ := hrel
    obtain ⟨wi, rfl⟩ : ∃ wi, wi = wr := ⟨wr, rfl⟩
    have hqi : q ≤ i := by rw [HI.out.1]; exact cntF_le l i
    by_cases hlt : i < n
    · have hlt' : (i : Int) < n := by omega
      obtain ⟨b, o, rfl, hc⟩ := RS.at_ HR.out (by omega)
      have hil : i < l.length := by rw [HR.out.len]; exact hlt
      have HC := Lib.hid (fun (k : Nat) (hk : k < n) => (hc k hk).below HI.out.2.2)
      have HXO := Lib.hid (OK.out.at_ hil)
      have HSU := Lib.hid (cntF_succ l i)
      clear hc hil
      go_wp2_with fail
      go_loopw [5, 6] (fun s5 s6 wr => ∃ (k : Nat) (U : Bool), s6 = .int .i64 k ∧ s5 = .bool U ∧ Hid (U = nots l i k ∧ k ≤ i ∧ Below wi.heap.size wi wr)) (fun _ y _ => i - (intOf y).toNat)
      case atStart => exact ⟨0, true, rfl, rfl, by simp [nots], Nat.zero_le _, Below.refl _ _⟩
      case round =>
        obtain ⟨k, U, rfl, rfl, HK⟩ := hrel
        by_cases hki : k < i
        · have hki' : (k : Int) < i := by omega
          have hkn' : (k : Int) < n := by omega
          have hkn : k < n := by omega
          have HYO := Lib.hid (OK.out.at_ (show k < l.length by rw [HR.out.len]; exact hkn))
          have HCX : Hid (CellsAt wi b (o + i * 21) (rteC (rteAt l i))) := Lib.hid (HC.out i hlt)
          have HCY : Hid (CellsAt wi b (o + k * 21) (rteC (rteAt l k))) := Lib.hid (HC.out k hkn)
          have HNS := Lib.hid (nots_succ l i k)
          obtain ⟨x, hx⟩ : ∃ x, rteAt l i = x := ⟨_, rfl⟩
          obtain ⟨y, hy⟩ : ∃ y, rteAt l k = y := ⟨_, rfl⟩
          have HXO2 : Hid x.ok := Lib.hid (by rw [← hx]; exact HXO.out)
          rw [hx] at HCX HNS
          rw [hy] at HCY HNS HYO
          clear hx hy
          go_wp2_with fail
          cases he : y.p.eqB x.p with
          | true =>
            have HN : Hid (false = nots l i (k + 1)) := Lib.hid (by rw [HNS.out, he, Bool.not_true, Bool.and_false])
            have HEX := Lib.hid (pfx_eq_hex HYO.out.p HXO2.out.p he)
            clear he
            refine wp_region_mix (fun w0 => Below (wr).heap.size (wr) w0) [(0, 0), (1, 0), (2, 0), (3, 0), (4, 0), (5, 0), (6, 0), (7, 0), (8, 0), (9, 0), (10, 0)] (by kernel_rfl) (by kernel_rfl) (below_drew1 _) ?_
            simp only [List.map_cons, List.map_nil]
            iterate 4 (refine wpO_step0 rfl rfl (fun K hK => ?_); go_simp; refine hK _ _ ?_; clear hK K)
            refine wpO_loadW (t := 49) (ad := ⟨b, (o+k*21), none⟩) rfl rfl ?hw rfl rfl ((fun w0 hS => (rteLd_of HYO.out.fits (HCY.out.below (below_step HK.out.2.2 hS))).pfx)) ?_
            case hw => go_simp
            iterate 4 (refine wpO_step0 rfl rfl (fun K hK => ?_); go_simp; refine hK _ _ ?_; clear hK K)
            refine wpO_loadW (t := 49) (ad := ⟨b, (o+i*21), none⟩) rfl rfl ?hw rfl rfl ((fun w0 hS => (rteLd_of HXO2.out.fits (HCX.out.below (below_step HK.out.2.2 hS))).pfx)) ?_
            case hw => go_simp
            refine wpO_step0 rfl rfl (fun K hK => ?_)
            rw [if_pos (show Region.wanted _ _ = true from rfl)]
            refine ⟨_, fun w0 => HEX.out _ _ _ _ _ rfl rfl rfl w0, hK _ _ ?_⟩
            clear hK K
            refine wpO_nil ?_
            go_wp2_with fail
            go_roundw
            case measure => simp [intOf]; omega
            case rel => exact ⟨k + 1, false, by go_num, rfl, HN.out, by omega, below_step HK.out.2.2 (below_drew1 _)⟩
          | false =>
            have HN : Hid (U = nots l i (k + 1)) := Lib.hid (by rw [HNS.out, he, HK.out.1, Bool.not_false, Bool.and_true])
            have HEX := Lib.hid (pfx_eq_hex HYO.out.p HXO2.out.p he)
            clear he
            refine wp_region_mix (fun w0 => Below (wr).heap.size (wr) w0) [(0, 0), (1, 0), (2, 0), (3, 0), (4, 0), (5, 0), (6, 0), (7, 0), (8, 0), (9, 0), (10, 0)] (by kernel_rfl) (by kernel_rfl) (below_drew1 _) ?_
            simp only [List.map_cons, List.map_nil]
            iterate 4 (refine wpO_step0 rfl rfl (fun K hK => ?_); go_simp; refine hK _ _ ?_; clear hK K)
            refine wpO_loadW (t := 49) (ad := ⟨b, (o+k*21), none⟩) rfl rfl ?hw rfl rfl ((fun w0 hS => (rteLd_of HYO.out.fits (HCY.out.below (below_step HK.out.2.2 hS))).pfx)) ?_
            case hw => go_simp
            iterate 4 (refine wpO_step0 rfl rfl (fun K hK => ?_); go_simp; refine hK _ _ ?_; clear hK K)
            refine wpO_loadW (t := 49) (ad := ⟨b, (o+i*21), none⟩) rfl rfl ?hw rfl rfl ((fun w0 hS => (rteLd_of HXO2.out.fits (HCX.out.below (below_step HK.out.2.2 hS))).pfx)) ?_
            case hw => go_simp
            refine wpO_step0 rfl rfl (fun K hK => ?_)
            rw [if_pos (show Region.wanted _ _ = true from rfl)]
            refine ⟨_, fun w0 => HEX.out _ _ _ _ _ rfl rfl rfl w0, hK _ _ ?_⟩
            clear hK K
            refine wpO_nil ?_
            go_wp2_with fail
            go_roundw
            case measure => simp [intOf]; omega
            case rel => exact ⟨k + 1, U, by go_num, rfl, HN.out, by omega, below_step HK.out.2.2 (below_drew1 _)⟩
        · have hki' : decide (k < i) = false := decide_eq_false hki
          have hk : k = i := by have := HK.out.2.1; omega
          have HU : Hid (U = newF l i) := Lib.hid (by rw [HK.out.1, hk]; rfl)
          clear hki hk
          cases U with
          | true =>
            have HN : Hid (q + 1 = cntF l (i + 1)) := Lib.hid (by rw [HSU.out, HI.out.1, ← HU.out]; rfl)
            go_wp2_with fail
            go_roundw
            case measure => simp [intOf]; omega
            case rel => exact ⟨i + 1, q + 1, by go_num, by go_num, HN.out, by omega, below_step HI.out.2.2 HK.out.2.2⟩
          | false =>
            have HN : Hid (q = cntF l (i + 1)) := Lib.hid (by rw [HSU.out, HI.out.1, ← HU.out]; rfl)
            go_wp2_with fail
            go_roundw
            case measure => simp [intOf]; omega
            case rel => exact ⟨i + 1, q, by go_num, rfl, HN.out, by omega, below_step HI.out.2.2 HK.out.2.2⟩
    · have hlt' : decide (i < n) = false := decide_eq_false hlt
      have hin : i = n := by have := HI.out.2.1; omega
      have HE : Hid (pfxsF l = q) := Lib.hid (by unfold pfxsF; rw [HR.out.len, ← hin, HI.out.1])
      clear hlt hin
      go_wp2
      go_ret
      rw [HE.out]
      exact ⟨rfl, HI.out.2.2⟩
theorem ribB_no {l : List Rte} {i : Nat} (hi : i < l.length) (h : (rteAt l i).fit = false ∨ (0 < i ∧ ¬ cR (rteAt l (i - 1)) (rteAt l i) < 0)) : ribB l = false := by
  have := ribE_no hi (.inr h)
  unfold ribE at this
  split at this
  · cases this
  · simpa using ‹¬ ribB l = true›
theorem Okr.fits {l : List Rte} (h : Okr l) : ∀ r ∈ l, r.fits := fun r hr => (h r hr).fits
set_option maxHeartbeats 4000000 in
theorem refrib_any (A : Option Addr) (n c : Nat) (l : List Rte) (w : World) (hr : RS rteK w A n c l) (ok : Okr l) (hn : n ≤ 100000) : Calls Tryd.prog 27 #[.agg (tabV A n c)] w fun e w' => e = .returned (.bool (ribB l)) ∧ Below w.heap.size w w' := by
  have hblk1 := blk_new w (.cells (tabV A n c) 24)
  have hbel1 : Below w.heap.size w (w.alloc (.cells (tabV A n c) 24)) := below_alloc (Below.refl _ _) _
  have HP1 := Lib.hid (rib_at hblk1)
  have HBK1 := Lib.hid hblk1
  have HBE := Lib.hid hbel1
  obtain ⟨cs1, hcs1⟩ : ∃ cs, tabV A n c = cs := ⟨_, rfl⟩
  simp only [hcs1] at HBE HP1 HBK1 ⊢
  have HC1 := Lib.hid hcs1
  clear hcs1 hblk1 hbel1
  have HR := Lib.hid (hr.below HBE.out)
  have OK := Lib.hid ok
  clear hr ok
  go_enter Tryd.func27, Tryd.ntmps27
  by_cases h160 : 160 < n
  · have h160b : decide ((160 : Int) < n) = true := decide_eq_true (by omega)
    have HE : Hid (ribB l = false) := Lib.hid (by unfold ribB ribsB; rw [HR.out.len, decide_eq_false (show ¬ n ≤ 160 by omega)]; rfl)
    go_wp2_with (first | ((with_reducible show wpList _ _ _ (Oper.mk _ (Op.load _ _) _ _ _ _ :: _) _ _); refine wpList_load_g ((HP1.out.all _ (Below.refl _ _)).2) _ rfl rfl (by go_simp) ?_))
    go_ret
    rw [HE.out]
    exact ⟨rfl, HBE.out⟩
  · have h160b : decide ((160 : Int) < n) = false := decide_eq_false (by omega)
    have hn160 : n ≤ 160 := by omega
    go_wp2_with (first | ((with_reducible show wpList _ _ _ (Oper.mk _ (Op.load _ _) _ _ _ _ :: _) _ _); refine wpList_load_g ((HP1.out.all _ (Below.refl _ _)).2) _ rfl rfl (by go_simp) ?_))
    go_loopw [3] (fun s3 wr => ∃ i : Nat, s3 = .int .i64 i ∧ Hid (i ≤ n ∧ (∀ j, j < i → (rteAt l j).fit = true) ∧ (∀ j, j + 1 < i → cR (rteAt l j) (rteAt l (j + 1)) < 0) ∧ Below (w.alloc (.cells cs1 24)).heap.size (w.alloc (.cells cs1 24)) wr)) (fun x _ => n - (intOf x).toNat)
    case atStart => exact ⟨0, rfl, Nat.zero_le _, fun j h => by omega, fun j h => by omega, Below.refl _ _⟩
    case round =>
      obtain ⟨i, rfl, HI⟩ := hrel
      have HBI := Lib.hid HI.out.2.2.2
      by_cases hlt : i < n
      · have hlt' : (i : Int) < n := by omega
        obtain ⟨b, o, rfl, hc⟩ := RS.at_ HR.out (by omega)
        have hil : i < l.length := by rw [HR.out.len]; exact hlt
        have HIL := Lib.hid hil
        have HC := Lib.hid (fun (k : Nat) (hk : k < n) => (hc k hk).below HI.out.2.2.2)
        have HXO := Lib.hid (OK.out.at_ hil)
        have HCX : Hid (CellsAt wr b (o + i * 21) (rteC (rteAt l i))) := Lib.hid (HC.out i hlt)
        obtain ⟨x, hx⟩ : ∃ x, rteAt l i = x := ⟨_, rfl⟩
        rw [hx] at HCX HXO
        have HX := Lib.hid hx
        clear hc hx hil
        obtain ⟨F, hF⟩ : ∃ F, x.fit = F := ⟨_, rfl⟩
        have HF := Lib.hid hF
        go_wp2_with (first | ((with_reducible show wpList _ _ _ (Oper.mk _ (Op.load _ _) _ _ _ _ :: _) _ _); refine wpList_load_g ((HP1.out.all _ HBI.out).2) _ rfl rfl (by go_simp) ?_))
        clear hF
        refine wp_region_mix (fun w0 => Below (wr).heap.size (wr) w0) [(0, 0), (1, 0), (2, 0), (3, 0), (4, 0), (5, 2), (6, 0), (7, 0), (8, 0), (9, 0), (10, 0), (11, 0), (12, 0), (13, 0), (14, 0), (15, 0), (16, 0), (17, 0), (18, 0), (19, 0), (20, 0), (21, 0), (22, 2), (23, 0), (24, 0), (25, 0)] (by kernel_rfl) (by kernel_rfl) (below_drew1 _) ?_
        simp only [List.map_cons, List.map_nil]
        iterate 1 (refine wpO_step0 rfl rfl (fun K hK => ?_); go_simp; refine hK _ _ ?_; clear hK K)
        refine wpO_loadW (t := 22) (ad := ⟨w.heap.size, 0, none⟩) rfl rfl ?hw rfl rfl ((fun w0 hS => (HP1.out.all w0 (below_step HBI.out hS)).2)) ?_
        case hw => go_simp
        iterate 2 (refine wpO_step0 rfl rfl (fun K hK => ?_); go_simp; refine hK _ _ ?_; clear hK K)
        refine wpO_loadW (t := 51) (ad := ⟨b, (o+i*21), none⟩) rfl rfl ?hw rfl rfl ((fun w0 hS => (rteLd_of HXO.out.fits (HCX.out.below hS)).all)) ?_
        case hw => go_simp
        refine wpO_step2 rfl rfl (below_drew1 _) (fun K hK => ?_)
        go_simp
        refine (reffits_any x _ HXO.out).mono ?_
        rintro e w3 ⟨rfl, hb3⟩
        rw [HF.out]
        have HB3 := Lib.hid (below_step (below_drew1 wr) hb3)
        clear hb3
        refine hK _ _ ⟨HB3.out, ?_⟩
        clear hK K
        cases F with
        | false =>
          have HE := Lib.hid (ribB_no HIL.out (.inl (by rw [show rteAt l i = x from HX.out, HF.out])))
          repeat first | (refine wpO_step0 rfl rfl (fun K hK => ?_); go_simp; refine hK _ _ ?_; clear hK K) | (refine wpO_step2 rfl rfl (HB3.out) (fun K hK => ?_); go_simp; refine hK _ _ ⟨HB3.out, ?_⟩; clear hK K)
          refine wpO_nil ?_
          go_wp2_with fail
          go_ret
          rw [HE.out]
          exact ⟨rfl, below_step HBE.out (below_step HBI.out HB3.out)⟩
        | true =>
          have HFI : Hid (∀ j, j < i + 1 → (rteAt l j).fit = true) := Lib.hid (fun j hj => by
            rcases Nat.lt_or_ge j i with h | h
            · exact HI.out.2.1 j h
            · obtain rfl : j = i := by omega
              rw [show rteAt l j = x from HX.out, HF.out])
          cases i with
          | zero =>
            repeat first | (refine wpO_step0 rfl rfl (fun K hK => ?_); go_simp; refine hK _ _ ?_; clear hK K) | (refine wpO_step2 rfl rfl (HB3.out) (fun K hK => ?_); go_simp; refine hK _ _ ⟨HB3.out, ?_⟩; clear hK K)
            refine wpO_nil ?_
            go_wp2_with fail
            go_roundw
            case measure => simp [intOf]; omega
            case rel => exact ⟨0 + 1, by go_num, by omega, HFI.out, fun j h => by omega, below_step HBI.out HB3.out⟩
          | succ k =>
            have hk1 : ((k + 1 : Nat) : Int) - 1 = k := by omega
            have hkn : k < n := by omega
            have hkn' : (k : Int) < n := by omega
            have hk0 : decide ((0 : Int) < (k : Int) + 1) = true := decide_eq_true (by omega)
            have hwk : IntKind.i64.wrap (k : Int) = k := by simp only [IntKind.wrap, IntKind.bits, IntKind.signed]; simp; omega
            have hlt2 : (k : Int) + 1 < n := by omega
            have hge2 : (0 : Int) ≤ (k : Int) + 1 := by omega
            have HYO := Lib.hid (OK.out.at_ (show k < l.length by have := HIL.out; omega))
            have HCY : Hid (CellsAt wr b (o + k * 21) (rteC (rteAt l k))) := Lib.hid (HC.out k hkn)
            obtain ⟨y, hy⟩ : ∃ y, rteAt l k = y := ⟨_, rfl⟩
            rw [hy] at HYO HCY
            have HY := Lib.hid hy
            clear hy
            iterate 6 (refine wpO_step0 rfl rfl (fun K hK => ?_); go_simp; refine hK _ _ ?_; clear hK K)
            refine wpO_loadW (t := 22) (ad := ⟨w.heap.size, 0, none⟩) rfl rfl ?hw rfl rfl ((fun w0 hS => (HP1.out.all w0 (below_step HBI.out hS)).2)) ?_
            case hw => go_simp
            iterate 3 (refine wpO_step0 rfl rfl (fun K hK => ?_); go_simp; refine hK _ _ ?_; clear hK K)
            refine wpO_loadW (t := 51) (ad := ⟨b, (o+k*21), none⟩) rfl rfl ?hw rfl rfl ((fun w0 hS => (rteLd_of HYO.out.fits (HCY.out.below hS)).all)) ?_
            case hw => go_simp
            iterate 1 (refine wpO_step0 rfl rfl (fun K hK => ?_); go_simp; refine hK _ _ ?_; clear hK K)
            refine wpO_loadW (t := 22) (ad := ⟨w.heap.size, 0, none⟩) rfl rfl ?hw rfl rfl ((fun w0 hS => (HP1.out.all w0 (below_step HBI.out hS)).2)) ?_
            case hw => go_simp
            iterate 2 (refine wpO_step0 rfl rfl (fun K hK => ?_); go_simp; refine hK _ _ ?_; clear hK K)
            refine wpO_loadW (t := 51) (ad := ⟨b, (o+(k+1)*21), none⟩) rfl rfl ?hw rfl rfl ((fun w0 hS => (rteLd_of HXO.out.fits (HCX.out.below hS)).all)) ?_
            case hw => go_simp
            refine wpO_step2 rfl rfl (HB3.out) (fun K hK => ?_)
            go_simp
            refine (refahead_any y x _ HYO.out.fits HXO.out.fits).mono ?_
            rintro e w4 ⟨rfl, hb4⟩
            rw [ahead_iff y x HYO.out.fits HXO.out.fits]
            obtain ⟨N, hN⟩ : ∃ N, cR y x = N := ⟨_, rfl⟩
            rw [hN]
            have HN := Lib.hid hN
            have HB4 := Lib.hid (below_step HB3.out hb4)
            clear hb4 hN
            refine hK _ _ ⟨HB4.out, ?_⟩
            clear hK K
            by_cases hneg : N < 0
            · have hnb : decide (N < 0) = true := decide_eq_true hneg
              have HRI : Hid (∀ j, j + 1 < k + 1 + 1 → cR (rteAt l j) (rteAt l (j + 1)) < 0) := Lib.hid (fun j hj => by
                rcases Nat.lt_or_ge (j + 1) (k + 1) with h | h
                · exact HI.out.2.2.1 j h
                · obtain rfl : j = k := by omega
                  rw [show rteAt l j = y from HY.out, show rteAt l (j + 1) = x from HX.out, HN.out]
                  exact hneg)
              clear hneg
              iterate 3 (refine wpO_step0 rfl rfl (fun K hK => ?_); go_simp; refine hK _ _ ?_; clear hK K)
              refine wpO_nil ?_
              go_wp2_with fail
              go_roundw
              case measure => simp [intOf]; omega
              case rel => exact ⟨k + 1 + 1, by go_num, by omega, HFI.out, HRI.out, below_step HBI.out HB4.out⟩
            · have hnb : decide (N < 0) = false := decide_eq_false hneg
              have HE := Lib.hid (ribB_no HIL.out (.inr ⟨by omega, by rw [show k + 1 - 1 = k from rfl, show rteAt l k = y from HY.out, show rteAt l (k + 1) = x from HX.out, HN.out]; exact hneg⟩))
              clear hneg
              iterate 3 (refine wpO_step0 rfl rfl (fun K hK => ?_); go_simp; refine hK _ _ ?_; clear hK K)
              refine wpO_nil ?_
              go_wp2_with fail
              go_ret
              rw [HE.out]
              exact ⟨rfl, below_step HBE.out (below_step HBI.out HB4.out)⟩
      · have hlt' : decide (i < n) = false := decide_eq_false hlt
        have hin : i = n := by have := HI.out.1; omega
        have HS : Hid (ribsB l = true) := Lib.hid (by
          rw [ribsB_iff, HR.out.len]
          refine ⟨hn160, ?_, ?_⟩
          · rw [← hin]; exact HI.out.2.1
          · rw [← hin]; exact HI.out.2.2.1)
        clear hlt hin
        go_wp2_with (first | ((with_reducible show wpList _ _ _ (Oper.mk _ (Op.load _ _) _ _ _ _ :: _) _ _); refine wpList_load_g ((HP1.out.all _ HBI.out).2) _ rfl rfl (by go_simp) ?_))
        refine (refprefixes_any A n c l wr (HR.out.below HBI.out) OK.out hn).mono ?_
        rintro e w3 ⟨rfl, hb3⟩
        rw [pfxs_eq OK.out.fits (ribs_ris HS.out)]
        have HB3 := Lib.hid (below_step HBI.out hb3)
        have HE : Hid (ribB l = decide ((pfxsN l : Int) ≤ 40)) := Lib.hid (by unfold ribB; rw [HS.out, Bool.true_and]; congr 1; rw [eq_iff_iff]; omega)
        clear hb3
        go_wp2
        go_ret
        rw [HE.out]
        exact ⟨rfl, below_step HBE.out HB3.out⟩
theorem rte_set_hop (r : Rte) (h : Int) (hl : r.p.l.length = 16) : (rteV r).setIfInBounds 20 (.int .i64 h) = rteV ⟨r.p, r.s, r.f, h⟩ := by
  obtain ⟨p, s, f, h0⟩ := r
  obtain ⟨v, l, x⟩ := p
  obtain ⟨a, b, c, d, e, f1, g, h1, i, j, k, m, n, o, q, r, hh⟩ := len16 hl
  simp only at hh
  subst hh
  rfl
theorem batB_no {l : List Upd} {i : Nat} (hi : i < l.length) (h : updB (updAt l i) = false ∨ ∃ k, k < i ∧ twin (updAt l k) (updAt l i) = true) : batB l = false := by
  unfold batB
  rw [show batsB l = false from by
    rw [Bool.eq_false_iff]
    intro hb
    rw [batsB_iff] at hb
    rcases h with h | ⟨k, hk, h⟩
    · rw [(hb i hi).1] at h
      cases h
    · rw [(hb i hi).2 k hk] at h
      cases h]
  rw [Bool.and_false]
set_option maxHeartbeats 4000000 in
set_option maxRecDepth 100000 in
theorem refbatch_any (A : Option Addr) (n c : Nat) (l : List Upd) (w : World) (hr : RS updK w A n c l) (ok : Oku l) (hn : n ≤ 100000) : Calls Tryd.prog 25 #[.agg (tabV A n c)] w fun e w' => e = .returned (.bool (batB l)) ∧ Below w.heap.size w w' := by
  have hblk1 := blk_new w (.cells (tabV A n c) 27)
  have hbel1 : Below w.heap.size w (w.alloc (.cells (tabV A n c) 27)) := below_alloc (Below.refl _ _) _
  have HP1 := Lib.hid (bat_at hblk1)
  have HBK1 := Lib.hid hblk1
  have HBE := Lib.hid hbel1
  obtain ⟨cs1, hcs1⟩ : ∃ cs, tabV A n c = cs := ⟨_, rfl⟩
  simp only [hcs1] at HBE HP1 HBK1 ⊢
  have HC1 := Lib.hid hcs1
  clear hcs1 hblk1 hbel1
  have HR := Lib.hid (hr.below HBE.out)
  have OK := Lib.hid ok
  clear hr ok
  go_enter Tryd.func25, Tryd.ntmps25
  by_cases h1 : n < 1
  · have h1b : decide ((n : Int) < 1) = true := decide_eq_true (by omega)
    have HE : Hid (batB l = false) := Lib.hid (by unfold batB; rw [HR.out.len, decide_eq_false (show ¬ 1 ≤ n by omega)]; rfl)
    go_wp2_with (first | ((with_reducible show wpList _ _ _ (Oper.mk _ (Op.load _ _) _ _ _ _ :: _) _ _); refine wpList_load_g ((HP1.out.all _ (Below.refl _ _)).2) _ rfl rfl (by go_simp) ?_))
    go_ret
    rw [HE.out]
    exact ⟨rfl, HBE.out⟩
  · have h1b : decide ((n : Int) < 1) = false := decide_eq_false (by omega)
    by_cases h8 : 8 < n
    · have h8b : decide ((8 : Int) < n) = true := decide_eq_true (by omega)
      have HE : Hid (batB l = false) := Lib.hid (by unfold batB; rw [HR.out.len, decide_eq_false (show ¬ n ≤ 8 by omega), Bool.and_false]; rfl)
      go_wp2_with (first | ((with_reducible show wpList _ _ _ (Oper.mk _ (Op.load _ _) _ _ _ _ :: _) _ _); refine wpList_load_g ((HP1.out.all _ (Below.refl _ _)).2) _ rfl rfl (by go_simp) ?_))
      go_ret
      rw [HE.out]
      exact ⟨rfl, HBE.out⟩
    · have h8b : decide ((8 : Int) < n) = false := decide_eq_false (by omega)
      go_wp2_with (first | ((with_reducible show wpList _ _ _ (Oper.mk _ (Op.load _ _) _ _ _ _ :: _) _ _); refine wpList_load_g ((HP1.out.all _ (Below.refl _ _)).2) _ rfl rfl (by go_simp) ?_))
      go_loopw [3] (fun s3 wr => ∃ i : Nat, s3 = .int .i64 i ∧ Hid (i ≤ n ∧ (∀ j, j < i → updB (updAt l j) = true ∧ ∀ k, k < j → twin (updAt l k) (updAt l j) = false) ∧ Below (w.alloc (.cells cs1 27)).heap.size (w.alloc (.cells cs1 27)) wr)) (fun x _ => n - (intOf x).toNat)
      case atStart => exact ⟨0, rfl, Nat.zero_le _, fun j h => by omega, Below.refl _ _⟩
      case round =>
        obtain ⟨i, rfl, HI⟩ := hrel
        obtain ⟨wi, rfl⟩ : ∃ wi, wi = wr := ⟨wr, rfl⟩
        have HBI := Lib.hid HI.out.2.2
        by_cases hlt : i < n
        · have hlt' : (i : Int) < n := by omega
          obtain ⟨b, o, hA, hc⟩ := RS.at_ HR.out (by omega)
          have hil : i < l.length := by rw [HR.out.len]; exact hlt
          have HIL := Lib.hid hil
          have HC := Lib.hid (fun (k : Nat) (hk : k < n) => (hc k hk).below HI.out.2.2)
          have HXO := Lib.hid (OK.out.at_ hil)
          have hla := Shape.ld updK wi b _ _ HXO.out.fits (HC.out i hlt)
          have hla : (Instr.loadAt 75 (.pointer (some ⟨b, o + i * 22, none⟩))).run Tryd.prog wi = .ok (.agg (updV (updAt l i))) wi := hla
          obtain ⟨x, hx⟩ : ∃ x, updAt l i = x := ⟨_, rfl⟩
          rw [hx] at hla HXO
          have HX := Lib.hid hx
          have HB2f := Lib.hid (fun (W : World) (h : (wi.alloc (.cells (updV updZ) 75)).grownBy W (some wi.heap.size)) => below_grown (below_alloc (Below.refl wi.heap.size wi) (.cells (updV updZ) 75)) h (Nat.le_refl _))
          subst hA
          clear hc hx hil
          go_upto_region 8 with (first | ((with_reducible show wpList _ _ _ (Oper.mk _ (Op.load _ _) _ _ _ _ :: _) _ _); refine wpList_load_g hla _ rfl rfl (by go_simp) ?_) | ((with_reducible show wpList _ _ _ (Oper.mk _ (Op.load _ _) _ _ _ _ :: _) _ _); refine wpList_load_g ((HP1.out.all _ HBI.out).2) _ rfl rfl (by go_simp) ?_) | ((with_reducible show wpList _ _ _ (Oper.mk _ (Op.store _ _ _) _ _ _ _ :: _) _ _); refine wpList_store_blk (blk_new wi _) 75 0 (updV x) (store_upd_fit HXO.out.fits rfl) (info_upd HXO.out.fits) (updV_one _) _ _ rfl rfl rfl rfl ?_; intro w2 hg9 hs9 hb9; rw [splice_upd HXO.out.fits rfl] at hb9; have H2 := Lib.hid (And.intro hg9 hb9); clear hg9 hs9 hb9) | ((with_reducible show wpList _ _ _ (Oper.mk _ (Op.load _ _) _ _ _ _ :: _) _ _); refine wpList_load_g (((upd_at HXO.out.fits H2.out.2).all _ (Below.refl _ _)).pfx) _ rfl rfl (by go_simp) ?_) | ((with_reducible show wpList _ _ _ (Oper.mk _ (Op.load _ _) _ _ _ _ :: _) _ _); refine wpList_load_g (((upd_at HXO.out.fits H2.out.2).all _ (Below.refl _ _)).src) _ rfl rfl (by go_simp) ?_) | ((with_reducible show wpList _ _ _ (Oper.mk _ (Op.load _ _) _ _ _ _ :: _) _ _); refine wpList_load_g (((upd_at HXO.out.fits H2.out.2).all _ (Below.refl _ _)).prf) _ rfl rfl (by go_simp) ?_) | ((with_reducible show wpList _ _ _ (Oper.mk _ (Op.load _ _) _ _ _ _ :: _) _ _); refine wpList_load_g (((upd_at HXO.out.fits H2.out.2).all _ (Below.refl _ _)).hop) _ rfl rfl (by go_simp) ?_) | ((with_reducible show wpList _ _ _ (Oper.mk _ (Op.build _ _) _ _ _ _ :: _) _ _); refine wpList_exw rfl (exec_build4 rfl rfl rfl rfl rfl (run_build_rte _ x.p x.s x.f x.h HXO.out.fits.len)) ?_) | ((with_reducible show wpList _ _ _ (Oper.mk _ (Op.store _ _ _) _ _ _ _ :: _) _ _); refine wpList_store_blk (blk_new w2 _) 51 0 (rteV (Upd.rte x)) (store_rte_fit (show (Upd.rte x).fits from HXO.out.fits) rfl) (info_rte (show (Upd.rte x).fits from HXO.out.fits)) (rteV_one _) _ _ rfl rfl rfl rfl ?_; intro w3 hg9 hs9 hb9; rw [splice_rte (show (Upd.rte x).fits from HXO.out.fits) rfl] at hb9; have H3 := Lib.hid (And.intro hg9 hb9); clear hg9 hs9 hb9))
          dsimp only [Act.put]
          have HB23f := Lib.hid (fun (W : World) (h : (w2.alloc (.cells (rteV rteZ) 51)).grownBy W (some w2.heap.size)) => below_grown (below_alloc (Below.refl w2.heap.size w2) (.cells (rteV rteZ) 51)) h (Nat.le_refl _))
          have HB2 := Lib.hid (HB2f.out _ H2.out.1)
          have HB23 := Lib.hid (HB23f.out _ H3.out.1)
          have HG2 := Lib.hid (blk_below H2.out.2 HB23.out)
          have HG3 := Lib.hid H3.out.2
          have HB3 := Lib.hid (below_step HB2.out HB23.out)
          have HSZ := Lib.hid (And.intro (blk_lt H2.out.2) HB2.out.size)
          obtain ⟨gu, hgu⟩ : ∃ g, wi.heap.size = g := ⟨_, rfl⟩
          obtain ⟨gr, hgr⟩ : ∃ g, w2.heap.size = g := ⟨_, rfl⟩
          have HGE : Hid (wi.heap.size ≤ gr ∧ gu ≠ gr) := Lib.hid (by have := HSZ.out; omega)
          rw [hgu] at HG2 ⊢
          rw [hgr] at HG3 ⊢
          clear HB2f HB23f H2 H3 hla hgu hgr HSZ
          obtain ⟨R, hR⟩ : ∃ R : Rte, R = ⟨x.p, x.s, x.f, if x.g then 1 else x.h⟩ := ⟨_, rfl⟩
          have HRR := Lib.hid hR
          have HRO : Hid R.ok := Lib.hid (by
            rw [hR]
            refine ⟨HXO.out.p, HXO.out.s, HXO.out.f, ?_⟩
            show (Lit.int .i64 (if x.g then 1 else x.h)).wf = true
            split
            · decide
            · exact HXO.out.h)
          clear hR
          go_upto_if 39 with (first | ((with_reducible show wpList _ _ _ (Oper.mk _ (Op.load _ _) _ _ _ _ :: _) _ _); refine wpList_load_g (((upd_at HXO.out.fits HG2.out).all _ (Below.refl _ _)).gon) _ rfl rfl (by go_simp) ?_))
          go_simp
          go_cut [5] (fun s5 wx => s5 = .pointer (some ⟨gr, 0, none⟩) ∧ Hid (wx.heap[gr]? = some (.cells (rteV R) 51 (0, 0)) ∧ wx.heap[gu]? = some (.cells (updV x) 75 (0, 0)) ∧ updB x = R.fit ∧ Below wi.heap.size wi wx))
          case first =>
            cases hg : x.g with
            | false =>
              have hre : R = x.rte := by rw [HRR.out, hg]; rfl
              have HRE := Lib.hid hre
              have HUB : Hid (updB x = R.fit) := Lib.hid (by rw [hre]; unfold updB; rw [hg]; rfl)
              clear hg hre
              go_wp2_with fail
              go_meet
              exact ⟨rfl, by rw [HRE.out]; exact HG3.out, HG2.out, HUB.out, HB3.out⟩
            | true =>
              by_cases hf0 : x.f = 0
              case neg =>
                have hfb : (x.f != 0) = true := by simpa using hf0
                have HE := Lib.hid (batB_no HIL.out (.inl (by rw [show updAt l i = x from HX.out]; unfold updB; rw [hg, if_pos rfl, decide_eq_false hf0]; rfl)))
                clear hg hf0
                go_wp2_with (first | ((with_reducible show wpList _ _ _ (Oper.mk _ (Op.load _ _) _ _ _ _ :: _) _ _); refine wpList_load_g (((upd_at HXO.out.fits HG2.out).all _ (Below.refl _ _)).prf) _ rfl rfl (by go_simp) ?_))
                go_ret
                rw [HE.out]
                exact ⟨rfl, below_step HBE.out (below_step HBI.out HB3.out)⟩
              case pos =>
                have hfb : (x.f != 0) = false := by simpa using hf0
                by_cases hh0 : x.h = 0
                case neg =>
                  have hhb : (x.h != 0) = true := by simpa using hh0
                  have HE := Lib.hid (batB_no HIL.out (.inl (by rw [show updAt l i = x from HX.out]; unfold updB; rw [hg, if_pos rfl, decide_eq_false hh0, Bool.and_false]; rfl)))
                  clear hg hf0 hh0
                  go_wp2_with (first | ((with_reducible show wpList _ _ _ (Oper.mk _ (Op.load _ _) _ _ _ _ :: _) _ _); refine wpList_load_g (((upd_at HXO.out.fits HG2.out).all _ (Below.refl _ _)).prf) _ rfl rfl (by go_simp) ?_) | ((with_reducible show wpList _ _ _ (Oper.mk _ (Op.load _ _) _ _ _ _ :: _) _ _); refine wpList_load_g (((upd_at HXO.out.fits HG2.out).all _ (Below.refl _ _)).hop) _ rfl rfl (by go_simp) ?_))
                  go_ret
                  rw [HE.out]
                  exact ⟨rfl, below_step HBE.out (below_step HBI.out HB3.out)⟩
                case pos =>
                  have hhb : (x.h != 0) = false := by simpa using hh0
                  have hre : R = ⟨x.rte.p, x.rte.s, x.rte.f, 1⟩ := by rw [HRR.out, hg]; rfl
                  have HRE := Lib.hid hre
                  have HUB : Hid (updB x = R.fit) := Lib.hid (by
                    rw [hre]
                    unfold updB Rte.fit
                    rw [hg, if_pos rfl, decide_eq_true hf0, decide_eq_true hh0]
                    show fitB x.p x.s 0 1 = fitB x.p x.s x.f 1
                    rw [hf0])
                  clear hg hre hf0 hh0
                  go_wp2_with (first | ((with_reducible show wpList _ _ _ (Oper.mk _ (Op.load _ _) _ _ _ _ :: _) _ _); refine wpList_load_g (((upd_at HXO.out.fits HG2.out).all _ (Below.refl _ _)).prf) _ rfl rfl (by go_simp) ?_) | ((with_reducible show wpList _ _ _ (Oper.mk _ (Op.load _ _) _ _ _ _ :: _) _ _); refine wpList_load_g (((upd_at HXO.out.fits HG2.out).all _ (Below.refl _ _)).hop) _ rfl rfl (by go_simp) ?_) | ((with_reducible show wpList _ _ _ (Oper.mk _ (Op.store _ _ _) _ _ _ _ :: _) _ _); refine wpList_store_cell HG3.out 3 20 (.int .i64 1) (by rw [rteV_size (show (Upd.rte x).fits from HXO.out.fits)]; decide) (by kernel_rfl) rfl rfl _ _ rfl rfl rfl rfl ?_; intro w4 hg9 hs9 hb9; rw [rte_set_hop (Upd.rte x) 1 HXO.out.fits.len] at hb9; have H4 := Lib.hid (And.intro hg9 hb9); clear hg9 hs9 hb9))
                  go_meet
                  exact ⟨rfl, by rw [HRE.out]; exact H4.out.2, blk_grown HG2.out H4.out.1 (fun e => by injection e with e; exact HGE.out.2 e), HUB.out, below_grown HB3.out H4.out.1 HGE.out.1⟩
          case rest =>
            obtain ⟨rfl, HCC⟩ := hcut
            obtain ⟨w5, rfl⟩ : ∃ w5, w5 = wc := ⟨wc, rfl⟩
            have HB5 := Lib.hid (below_step HBI.out HCC.out.2.2.2)
            have HBL5 := Lib.hid HCC.out.2.2.2
            have HU5 := Lib.hid HCC.out.2.1
            have HFF := Lib.hid HCC.out.2.2.1
            have HR5 := Lib.hid HCC.out.1
            clear HCC HG2 HG3
            go_wp2_with (first | ((with_reducible show wpList _ _ _ (Oper.mk _ (Op.load _ _) _ _ _ _ :: _) _ _); refine wpList_load_g (((rte_at HRO.out.fits HR5.out).all _ (Below.refl _ _)).all) _ rfl rfl (by go_simp) ?_))
            refine (reffits_any R w5 HRO.out).mono ?_
            rintro e w6 ⟨rfl, hb6⟩
            rw [← HFF.out]
            have HB6 := Lib.hid (below_step HB5.out hb6)
            have HBL6 := Lib.hid (below_step HBL5.out hb6)
            have HU6 := Lib.hid (blk_below HU5.out hb6)
            clear hb6 HU5 HR5 HB5 HBL5
            cases hub : updB x with
            | false =>
              have HE := Lib.hid (batB_no HIL.out (.inl (by rw [show updAt l i = x from HX.out, hub])))
              clear hub
              go_wp2_with fail
              go_ret
              rw [HE.out]
              exact ⟨rfl, below_step HBE.out HB6.out⟩
            | true =>
              have HUB := Lib.hid hub
              clear hub
              go_wp2_with fail
              go_loopw [6] (fun s6 wr => ∃ k : Nat, s6 = .int .i64 k ∧ Hid (k ≤ i ∧ (∀ j, j < k → twin (updAt l j) x = false) ∧ Below w6.heap.size w6 wr)) (fun y _ => i - (intOf y).toNat)
              case atStart => exact ⟨0, rfl, Nat.zero_le _, fun j h => by omega, Below.refl _ _⟩
              case round =>
                obtain ⟨k, rfl, HK⟩ := hrel
                obtain ⟨wk, rfl⟩ : ∃ wk, wk = wr := ⟨wr, rfl⟩
                have HBK := Lib.hid (below_step HB6.out HK.out.2.2)
                by_cases hki : k < i
                · have hki' : (k : Int) < i := by omega
                  have hkn : k < n := by omega
                  have hkn' : (k : Int) < n := by omega
                  have HYO := Lib.hid (OK.out.at_ (show k < l.length by have := HIL.out; omega))
                  have HCY : Hid (CellsAt wi b (o + k * 22) (updC (updAt l k))) := Lib.hid (HC.out k hkn)
                  obtain ⟨y, hy⟩ : ∃ y, updAt l k = y := ⟨_, rfl⟩
                  have HY := Lib.hid hy
                  rw [hy] at HYO HCY
                  clear hy
                  go_wp2_with fail
                  refine wp_region_mix (fun w0 => Below (wk).heap.size (wk) w0) [(0, 0), (1, 0), (2, 0), (3, 0), (4, 0), (5, 0), (6, 0), (7, 0), (8, 0), (9, 0), (10, 0), (11, 0), (12, 0), (13, 0), (14, 0), (15, 0), (16, 0), (17, 0), (18, 0), (19, 0)] (by kernel_rfl) (by kernel_rfl) (below_drew1 _) ?_
                  simp only [List.map_cons, List.map_nil]
                  iterate 1 (refine wpO_step0 rfl rfl (fun K hK => ?_); go_simp; refine hK _ _ ?_; clear hK K)
                  refine wpO_loadW (t := 25) (ad := ⟨w.heap.size, 0, none⟩) rfl rfl ?hw rfl rfl ((fun w0 hS => (HP1.out.all w0 (below_step HBK.out hS)).2)) ?_
                  case hw => go_simp
                  iterate 3 (refine wpO_step0 rfl rfl (fun K hK => ?_); go_simp; refine hK _ _ ?_; clear hK K)
                  refine wpO_loadW (t := 49) (ad := ⟨b, (o+k*22), none⟩) rfl rfl ?hw rfl rfl ((fun w0 hS => (updLd_of HYO.out.fits (HCY.out.below (below_step HBL6.out (below_step HK.out.2.2 hS)))).pfx)) ?_
                  case hw => go_simp
                  iterate 1 (refine wpO_step0 rfl rfl (fun K hK => ?_); go_simp; refine hK _ _ ?_; clear hK K)
                  refine wpO_loadW (t := 49) (ad := ⟨gu, 0, none⟩) rfl rfl ?hw rfl rfl ((fun w0 hS => ((upd_at HXO.out.fits HU6.out).all _ (below_step HK.out.2.2 hS)).pfx)) ?_
                  case hw => go_simp
                  cases he : y.p.eqB x.p with
                  | false =>
                    have HEX := Lib.hid (pfx_eq_hex HYO.out.p HXO.out.p he)
                    have HTW : Hid (twin y x = false) := Lib.hid (by unfold twin; rw [he]; rfl)
                    clear he
                    refine wpO_step0 rfl rfl (fun K hK => ?_)
                    rw [if_pos (show Region.wanted _ _ = true from rfl)]
                    refine ⟨_, fun w0 => HEX.out _ _ _ _ _ rfl rfl rfl w0, hK _ _ ?_⟩
                    clear hK K
                    repeat first | (refine wpO_step0 rfl rfl (fun K hK => ?_); go_simp; refine hK _ _ ?_; clear hK K) | (refine wpO_step2 rfl rfl (below_drew1 _) (fun K hK => ?_); go_simp; refine hK _ _ ⟨below_drew1 _, ?_⟩; clear hK K)
                    refine wpO_nil ?_
                    go_wp2_with fail
                    go_roundw
                    case measure => simp [intOf]; omega
                    case rel => exact ⟨k + 1, by go_num, by omega, fun j hj => by
                      rcases Nat.lt_or_ge j k with h | h
                      · exact HK.out.2.1 j h
                      · obtain rfl : j = k := by omega
                        rw [show updAt l j = y from HY.out]
                        exact HTW.out, below_step HK.out.2.2 (below_drew1 _)⟩
                  | true =>
                    have HEX := Lib.hid (pfx_eq_hex HYO.out.p HXO.out.p he)
                    have HTW : Hid (twin y x = decide (y.s = x.s)) := Lib.hid (by unfold twin; rw [he]; rfl)
                    clear he
                    refine wpO_step0 rfl rfl (fun K hK => ?_)
                    rw [if_pos (show Region.wanted _ _ = true from rfl)]
                    refine ⟨_, fun w0 => HEX.out _ _ _ _ _ rfl rfl rfl w0, hK _ _ ?_⟩
                    clear hK K
                    iterate 2 (refine wpO_step0 rfl rfl (fun K hK => ?_); go_simp; refine hK _ _ ?_; clear hK K)
                    refine wpO_loadW (t := 25) (ad := ⟨w.heap.size, 0, none⟩) rfl rfl ?hw rfl rfl ((fun w0 hS => (HP1.out.all w0 (below_step HBK.out hS)).2)) ?_
                    case hw => go_simp
                    iterate 3 (refine wpO_step0 rfl rfl (fun K hK => ?_); go_simp; refine hK _ _ ?_; clear hK K)
                    refine wpO_loadW (t := 3) (ad := ⟨b, (o+k*22+18), none⟩) rfl rfl ?hw rfl rfl ((fun w0 hS => (updLd_of HYO.out.fits (HCY.out.below (below_step HBL6.out (below_step HK.out.2.2 hS)))).src)) ?_
                    case hw => go_simp
                    iterate 1 (refine wpO_step0 rfl rfl (fun K hK => ?_); go_simp; refine hK _ _ ?_; clear hK K)
                    refine wpO_loadW (t := 3) (ad := ⟨gu, 18, none⟩) rfl rfl ?hw rfl rfl ((fun w0 hS => ((upd_at HXO.out.fits HU6.out).all _ (below_step HK.out.2.2 hS)).src)) ?_
                    case hw => go_simp
                    iterate 2 (refine wpO_step0 rfl rfl (fun K hK => ?_); go_simp; refine hK _ _ ?_; clear hK K)
                    refine wpO_nil ?_
                    by_cases hss : y.s = x.s
                    · have hsb : (y.s == x.s) = true := by simpa using hss
                      have HE := Lib.hid (batB_no HIL.out (.inr ⟨k, hki, by rw [show updAt l i = x from HX.out, show updAt l k = y from HY.out, HTW.out, decide_eq_true hss]⟩))
                      clear hss
                      go_wp2_with fail
                      go_ret
                      rw [HE.out]
                      exact ⟨rfl, below_step HBE.out (below_step HBK.out (below_drew1 _))⟩
                    · have hsb : (y.s == x.s) = false := by simpa using hss
                      have HTF : Hid (twin y x = false) := Lib.hid (by rw [HTW.out, decide_eq_false hss])
                      clear hss
                      go_wp2_with fail
                      go_roundw
                      case measure => simp [intOf]; omega
                      case rel => exact ⟨k + 1, by go_num, by omega, fun j hj => by
                        rcases Nat.lt_or_ge j k with h | h
                        · exact HK.out.2.1 j h
                        · obtain rfl : j = k := by omega
                          rw [show updAt l j = y from HY.out]
                          exact HTF.out, below_step HK.out.2.2 (below_drew1 _)⟩
                · have hki' : decide (k < i) = false := decide_eq_false hki
                  have HN : Hid (∀ j, j < i + 1 → updB (updAt l j) = true ∧ ∀ k, k < j → twin (updAt l k) (updAt l j) = false) := Lib.hid (fun j hj => by
                    rcases Nat.lt_or_ge j i with h | h
                    · exact HI.out.2.1 j h
                    · obtain rfl : j = i := by omega
                      rw [show updAt l j = x from HX.out]
                      exact ⟨HUB.out, fun k' hk' => HK.out.2.1 k' (by have := HK.out.1; omega)⟩)
                  clear hki
                  go_wp2_with fail
                  go_roundw
                  case measure => simp [intOf]; omega
                  case rel => exact ⟨i + 1, by go_num, by omega, HN.out, below_step HBI.out (below_step HBL6.out HK.out.2.2)⟩
        · have hlt' : decide (i < n) = false := decide_eq_false hlt
          have hin : i = n := by have := HI.out.1; omega
          have HE : Hid (batB l = true) := Lib.hid (by
            unfold batB
            rw [(batsB_iff l).2 (by rw [HR.out.len, ← hin]; exact HI.out.2.1), HR.out.len, decide_eq_true (show 1 ≤ n by omega), decide_eq_true (show n ≤ 8 by omega)]
            rfl)
          clear hlt hin
          go_wp2_with (first | ((with_reducible show wpList _ _ _ (Oper.mk _ (Op.load _ _) _ _ _ _ :: _) _ _); refine wpList_load_g ((HP1.out.all _ HBI.out).2) _ rfl rfl (by go_simp) ?_))
          go_ret
          rw [HE.out]
          exact ⟨rfl, below_step HBE.out HBI.out⟩
end Go.Proofs.YtnpeedmicjeleaaDoor
