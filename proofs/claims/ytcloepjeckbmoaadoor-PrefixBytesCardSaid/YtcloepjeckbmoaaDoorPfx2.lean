/- Layer 5 (prefix): whole arrays and structs out of a block; CheckAddr, Check. -/
import Derived.Test.YtcloepjeckbmoaaDoorPfx1
import Derived.Deep.MidRow
namespace Go.Proofs.YtcloepjeckbmoaaDoor
open Go.RowKit
set_option linter.unusedVariables false
set_option linter.unusedSimpArgs false

theorem adr_v {w : World} {g : Nat} {t : TypeId} {v : Int} {l : List Int} (h : w.heap[g]? = some (.cells (adrV v l) t (0, 0))) : w.cell? ⟨g, 0, none⟩ = some (.int .i64 v) := by
  rw [blk_cell h]; rfl
theorem adr_b {w : World} {g : Nat} {t : TypeId} {v : Int} {l : List Int} (h : w.heap[g]? = some (.cells (adrV v l) t (0, 0))) (i : Nat) (hi : i < l.length) : w.cell? ⟨g, 1 + i, none⟩ = some (.int .u8 (rd l (i : Int))) := by
  rw [blk_cell h, Nat.add_comm]
  unfold adrV
  rw [List.getElem?_toArray, List.getElem?_cons_succ]
  exact nums_get .u8 l i hi
theorem load_arr {w : World} {b o : Nat} {l : List Int} (hl : B16 l) (hc : ∀ i, i < 16 → w.cell? ⟨b, o + i, none⟩ = some (.int .u8 (rd l (i : Int)))) :
    (Instr.loadAt 22 (.pointer (some ⟨b, o, none⟩))).run Tryd.prog w = .ok (.agg (arrV l)) w := by
  refine run_loadAt_mid w b o 22 (nums .u8 l) (.array 16 5) (fun j v hv => ?_) Tryd.underlying22 rfl ?_
  · have hj : j < l.length := by
      have := (List.getElem?_eq_some_iff.1 hv).1
      simpa [nums] using this
    rw [nums_get .u8 l j hj] at hv
    rw [hc j (by rw [← hl.len]; exact hj), ← hv]
    rfl
  · rw [show (nums .u8 l).length = 16 by simp [nums, hl.len]]
    kernel_rfl
theorem load_adr {w : World} {b o : Nat} {v : Int} {l : List Int} (hl : B16 l) (h0 : w.cell? ⟨b, o, none⟩ = some (.int .i64 v)) (hc : ∀ i, i < 16 → w.cell? ⟨b, o + 1 + i, none⟩ = some (.int .u8 (rd l (i : Int)))) :
    (Instr.loadAt 24 (.pointer (some ⟨b, o, none⟩))).run Tryd.prog w = .ok (.agg (adrV v l)) w := by
  refine run_loadAt_mid w b o 24 (.int .i64 v :: nums .u8 l) _ (fun j u hv => ?_) Tryd.underlying24 rfl ?_
  · cases j with
    | zero =>
      simp only [List.getElem?_cons_zero, Option.some.injEq] at hv
      rw [← hv]
      exact h0
    | succ j =>
      rw [List.getElem?_cons_succ] at hv
      have hj : j < l.length := by
        have := (List.getElem?_eq_some_iff.1 hv).1
        simpa [nums] using this
      rw [nums_get .u8 l j hj] at hv
      rw [show o + (j + 1) = o + 1 + j by omega, hc j (by rw [← hl.len]; exact hj), ← hv]
      rfl
  · rw [show (Value.int IntKind.i64 v :: nums .u8 l).length = 17 by simp [nums, hl.len]]
    kernel_rfl

/-- A load of several cells at once, told; a guard that lets it. -/
theorem wpList_load_g {P : Program} {ops : Array Oper} {rest : List Oper} {o : Oper} {a : Act} {Q : Exit → Act → World → Prop} {w : World} {t : TypeId} {ad : Addr} {v : Value} (hrun : (Instr.loadAt t (.pointer (some ad))).run P w = .ok v w)
    (x : Operand) (ho : o.op = .load t x) (hx : a.eval x = .pointer (some ad)) (hw : Region.wanted o (yielded ops a.tmps) = true) (h : wpList P ops Q rest (a.put o.dst v) w) : wpList P ops Q (o :: rest) a w := by
  refine wpList_step (fun K hK => ?_)
  rw [if_pos hw]
  unfold Oper.wp execOp
  simp only [ho, hx, Sem.run_bind, hrun, Result.andThen_ok, Sem.run_pure]
  exact hK _ _ h
theorem checkAddr_any (v : Int) (l : List Int) (w : World) (hL : Laid w) (hl : B16 l) : Calls Tryd.prog 11 #[.agg (adrV v l)] w fun e w' => e = .returned (.int .i64 (errA v l)) ∧ Below w.heap.size w w' := by
  have hb := blk_new w (.cells (adrV v l) 24)
  have hv := adr_v hb
  have hld := load_arr (b := w.heap.size) (o := 1) hl (fun i hi => adr_b hb i (by rw [hl.len]; exact hi))
  have hbe : Below w.heap.size w (w.alloc (.cells (adrV v l) 24)) := below_alloc (Below.refl _ _) _
  have HL := Lib.hid (hL.below hbe)
  have HBE := Lib.hid hbe
  obtain ⟨cs, hcs⟩ : ∃ cs, adrV v l = cs := ⟨_, rfl⟩
  rw [hcs] at hv hld HL HBE ⊢
  clear hb hcs hbe hL
  go_enter Tryd.func11, Tryd.ntmps11
  go_wp2_with fail
  refine (width_any v _ HL.out).mono ?_
  rintro e w1 ⟨rfl, rfl⟩
  by_cases hw : widthA v = 0
  · have hr : rightA v l = false := by unfold rightA; simp [hw]
    have HR : Hid (errA v l = 150) := by unfold errA; rw [hr]; rfl
    rw [hw]
    clear hr hw
    go_wp2
    go_ret
    rw [HR.out]
    exact ⟨rfl, HBE.out⟩
  · have hw0 : ((widthA v : Int) == 0) = false := by simp; omega
    have hw1 : ((widthA v) == 0) = false := by simp; omega
    have hr : rightA v l = clearA l (widthA v) := by unfold rightA; simp [hw]
    have HR := Lib.hid hr
    clear hr hw
    go_wp2_with (refine wpList_load_g hld _ rfl rfl (by go_simp) ?_)
    refine (clear_any l (widthA v) _ hl).mono ?_
    rintro e w2 ⟨rfl, hb2⟩
    have HB2 := Lib.hid (below_step HBE.out hb2)
    clear hb2 hv hld
    cases hc : clearA l (widthA v) with
    | false =>
      have HE : Hid (errA v l = 150) := by unfold errA; rw [HR.out, hc]; rfl
      go_wp2
      go_ret
      rw [HE.out]
      exact ⟨rfl, HB2.out⟩
    | true =>
      have HE : Hid (errA v l = 0) := by unfold errA; rw [HR.out, hc]; rfl
      go_wp2
      go_ret
      rw [HE.out]
      exact ⟨rfl, HB2.out⟩
end Go.Proofs.YtcloepjeckbmoaaDoor
