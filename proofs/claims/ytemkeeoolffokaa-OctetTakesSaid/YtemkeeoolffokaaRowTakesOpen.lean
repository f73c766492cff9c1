/- OctetTakes: its second argument, opened. -/
import Derived.Test.YtemkeeoolffokaaOpenRows
import Derived.Test.YtemkeeoolffokaaTakesWalk
namespace Go.Proofs.Ytemkeeoolffokaa
open Go.ChangeShapes Go.WideShapes Go.ChangeAt Go.RowKit
set_option linter.unusedVariables false
theorem list2 {α : Type} {l : List α} (h : l.length = 2) : ∃ a b, l = [a, b] := by
  match l, h with
  | [a, b], _ => exact ⟨a, b, rfl⟩
theorem open_take {H : Type} {enc : TypeId × Value → H} {W : World} {base : Nat} {spare : Nat → Bool} {held : Bool} {fuel : Nat} {cs : List Value} {y : DataW H × List MemPlace} (hl : cs.length = 2)
    (h : DataW.trod enc Try.prog W base spare held fuel 51 cs = some y) : ∃ a b, cs = [.int .i64 a, .int .i64 b] ∧ (Lit.int .i64 a).wf = true ∧ (Lit.int .i64 b).wf = true := by
  obtain ⟨u, v, rfl⟩ := list2 hl
  obtain ⟨y0, y1, n, -, -, h0, h1⟩ := trod_struct2 Try.underlying51 h
  obtain ⟨a, e0, -, w0⟩ := DataW.trod_int Try.underlying3 h0
  obtain ⟨b, e1, -, w1⟩ := DataW.trod_int Try.underlying3 h1
  have hc : Try.prog.cellsOf 3 = 1 := by kernel_rfl
  rw [hc] at e0 e1
  simp at e0 e1
  subst e0
  subst e1
  exact ⟨a, b, rfl, w0, w1⟩
theorem row_takes {H : Type} {enc : TypeId × Value → H} {W : World} {A : Option Addr} {len cap : Nat} {d : DataW H} {ps : List MemPlace}
    (h : DataW.Trod enc Try.prog W 0 (fun _ => true) true 47 (.slice A len cap) d ps) (hs : len ≤ 281474976710656) : ∃ ks ns, R2 W A len cap ks ns := by
  obtain ⟨fuel, hf⟩ := h
  have hf' : DataW.trod enc Try.prog W 0 (fun _ => true) true fuel 47 [.slice A len cap] = some (d, ps) := hf
  obtain ⟨hlc, h0 | ⟨ad, rows, n, rfl, hr⟩⟩ := open_rows Try.underlying47 (show Try.prog.cellsOf 51 = 2 by kernel_rfl) hf'
  · subst h0
    exact ⟨[], [], rfl, rfl, hlc, hs, fun i hi => absurd hi (by omega), fun hi => absurd hi (by omega)⟩
  · have hrow : ∀ i, i < len → ∃ ab : Int × Int, rows i = [.int .i64 ab.1, .int .i64 ab.2] ∧ (Lit.int .i64 ab.1).wf = true ∧ (Lit.int .i64 ab.2).wf = true := fun i hi => by
      obtain ⟨hl, -, y, hy⟩ := hr i hi
      obtain ⟨a, b, e, w0, w1⟩ := open_take hl hy
      exact ⟨(a, b), e, w0, w1⟩
    obtain ⟨f, hfun⟩ : ∃ f : Nat → Int × Int, ∀ i, i < len → rows i = [.int .i64 (f i).1, .int .i64 (f i).2] ∧ (Lit.int .i64 (f i).1).wf = true ∧ (Lit.int .i64 (f i).2).wf = true :=
      ⟨fun i => if hi : i < len then Classical.choose (hrow i hi) else (0, 0), fun i hi => by
        have := Classical.choose_spec (hrow i hi)
        simp only [hi, dif_pos]
        exact this⟩
    have hk : ∀ i, i < len → rd ((List.range len).map fun i => (f i).1) i = (f i).1 := fun i hi => by simp [rd, List.getD_eq_getElem?_getD, hi]
    have hn : ∀ i, i < len → rd ((List.range len).map fun i => (f i).2) i = (f i).2 := fun i hi => by simp [rd, List.getD_eq_getElem?_getD, hi]
    refine ⟨(List.range len).map fun i => (f i).1, (List.range len).map fun i => (f i).2, by simp, by simp, hlc, hs, fun i hi => ?_, fun hpos => ?_⟩
    · rw [hk i hi, hn i hi]
      exact (hfun i hi).2
    · have hsp : ad.spot = none := by
        have hc0 := (hr 0 hpos).2.1 0 (by omega)
        rw [(hfun 0 hpos).1] at hc0
        have : (ad.add (0 * 2)).add 0 = ad := by simp [Addr.add]
        rw [this] at hc0
        exact cell_spot hc0
      have hform := addr_form hsp
      refine ⟨ad.block, ad.off, by rw [← hform], fun i hi => ?_⟩
      have hc0 := (hr i hi).2.1 0 (by omega)
      have hc1 := (hr i hi).2.1 1 (by omega)
      rw [(hfun i hi).1] at hc0 hc1
      rw [hform] at hc0 hc1
      rw [hk i hi, hn i hi]
      have e0 : (Addr.add ⟨ad.block, ad.off, none⟩ (i * 2)).add 0 = ⟨ad.block, ad.off + i * 2, none⟩ := by rw [add_mid, add_mid]; rfl
      have e1 : (Addr.add ⟨ad.block, ad.off, none⟩ (i * 2)).add 1 = ⟨ad.block, ad.off + i * 2 + 1, none⟩ := by rw [add_mid, add_mid]
      rw [e0] at hc0
      rw [e1] at hc1
      exact ⟨hc0, hc1⟩
end Go.Proofs.Ytemkeeoolffokaa
