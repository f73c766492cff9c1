/- Two arrays of sixteen bytes, held equal. -/
import Derived.Test.YtcloepjeckbmoaaDoorPfx2
import Derived.ChangeKeysEq
namespace Go.Proofs.YtcloepjeckbmoaaDoor
open Go.RowKit
set_option linter.unusedVariables false
set_option linter.unusedSimpArgs false

theorem mapM_all {α β : Type} (f : α → Option β) (g : α → β) : ∀ is : List α, (∀ i ∈ is, f i = some (g i)) → is.mapM f = some (is.map g)
  | [], _ => rfl
  | i :: is, h => by
    rw [List.mapM_cons, h i (by simp), mapM_all f g is (fun j hj => h j (by simp [hj]))]
    rfl
theorem flat1 {α β : Type} (f : α → β) : ∀ is : List α, (is.map fun i => [f i]).flatten = is.map f
  | [] => rfl
  | i :: is => by
    have := flat1 f is
    simp only [List.map_cons, List.flatten_cons, this]
    rfl
theorem key_u8 (x : Int) (h0 : 0 ≤ x) (h1 : x < 256) : Tryd.prog.keyLits 1 5 [.int .u8 x] = some [Lit.int .u8 x] := by
  unfold Program.keyLits
  rw [Tryd.underlying5]
  simp [Lit.wf, IntKind.min, IntKind.max, IntKind.bits, IntKind.signed]
  omega
theorem keys_arr (l : List Int) (hl : B16 l) : (List.range 16).mapM (fun i => Tryd.prog.keyLits 1 5 (((arrV l).toList.drop (i * Tryd.prog.cellsOf 5)).take (Tryd.prog.cellsOf 5))) = some ((List.range 16).map fun i => [Lit.int .u8 (rd l ((i : Nat) : Int))]) := by
  have hc : Tryd.prog.cellsOf 5 = 1 := by kernel_rfl
  rw [hc]
  refine mapM_all _ _ _ (fun i hi => ?_)
  have hi' : i < l.length := by rw [hl.len]; exact List.mem_range.1 hi
  have hr := hl.rd (i : Int)
  have e : ((arrV l).toList.drop (i * 1)).take 1 = [.int .u8 (rd l (i : Int))] := by
    apply List.ext_getElem?
    intro j
    cases j with
    | zero =>
      rw [List.getElem?_take]
      simp only [Nat.mul_one, List.getElem?_drop, arrV, Nat.add_zero, if_pos (show 0 < 1 by omega), List.getElem?_cons_zero]
      exact nums_get .u8 l i hi'
    | succ j =>
      rw [List.getElem?_take, if_neg (by omega)]
      rfl
  rw [e, key_u8 _ hr.1 hr.2]
theorem arr_equal (l m : List Int) (hl : B16 l) (hm : B16 m) (w : World) : (Op.equal 22 (.agg (arrV l)) (.agg (arrV m))).run Tryd.prog w = .ok (decide (l = m)) w := by
  obtain ⟨i, hi, -⟩ : ∃ i, Tryd.prog.info? 5 = some i ∧ True := by
    obtain ⟨i0, hi, -⟩ := Option.map_eq_some_iff.1 info_u8
    exact ⟨i0, hi, trivial⟩
  have h1 := run_equalIn_array (P := Tryd.prog) w 9999 (arrV l) (arrV m) Tryd.underlying22 hi
  obtain ⟨r, hr, hiff⟩ := run_eqItems_plain (P := Tryd.prog) w 9998 (e := 5) (by kernel_rfl) (arrV l) (arrV m) (List.range 16) _ _ (keys_arr l hl) (keys_arr m hm)
  have h2 : (Op.equal 22 (.agg (arrV l)) (.agg (arrV m))).run Tryd.prog w = .ok r w := h1.trans hr
  rw [h2]
  congr 1
  have hf : ∀ l : List Int, ((List.range 16).map fun i => [Lit.int .u8 (rd l ((i : Nat) : Int))]).flatten = (List.range 16).map fun i => Lit.int .u8 (rd l ((i : Nat) : Int)) := fun l => flat1 _ _
  rw [hf, hf] at hiff
  by_cases h : l = m
  · subst h
    rw [decide_eq_true rfl]
    exact hiff.2 rfl
  · rw [decide_eq_false h, Bool.eq_false_iff]
    intro hr
    apply h
    have h3 := hiff.1 hr
    apply List.ext_getElem (by rw [hl.len, hm.len])
    intro j h4 h5
    have hj : j < 16 := by rw [← hl.len]; exact h4
    have h6 := congrArg (fun x => x[j]?) h3
    simp [hj, rd, List.getD_eq_getElem?_getD, h4, h5] at h6
    exact h6
end Go.Proofs.YtcloepjeckbmoaaDoor
