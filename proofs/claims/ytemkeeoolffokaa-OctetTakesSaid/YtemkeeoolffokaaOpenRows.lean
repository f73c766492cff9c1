/- Opening an argument: a slice whose elements take several cells; small numbers and truth values by their cells. -/
import Derived.Test.YtemkeeoolffokaaRowKit
namespace Go.Proofs.Ytemkeeoolffokaa
open Go.ChangeShapes Go.WideShapes Go.ChangeAt Go.RowKit
set_option linter.unusedVariables false
variable {H : Type} {enc : TypeId × Value → H} {P : Program} {W : World} {base : Nat} {spare : Nat → Bool} {held : Bool}

theorem cell_spot {w : World} {a : Addr} {v : Value} (h : w.cell? a = some v) : a.spot = none := by
  unfold World.cell? at h
  split at h
  · split at h
    · simp at h
    · rename_i hs
      cases hsp : a.spot with
      | none => rfl
      | some x => simp [hsp] at hs
  · simp at h
theorem addr_form {a : Addr} (h : a.spot = none) : a = ⟨a.block, a.off, none⟩ := by
  cases a
  simp at h
  subst h
  rfl
theorem add_mid (b o j : Nat) : (⟨b, o, none⟩ : Addr).add j = ⟨b, o + j, none⟩ := by unfold Addr.add; split <;> simp_all
/-- A row's slice of whatever elements is no longer than its weight allows. -/
theorem sized_rows {t e : TypeId} {a : Option Addr} {len cap : Nat} {d : DataW H} {ps : List MemPlace} {ts : List TypeId} {ds : List (DataW H)} {j : Nat}
    (hsz : (DataW.weightsEach P ts ds).all (· ≤ reachBytes) = true) (ht : ts[j]? = some t) (hd : ds[j]? = some d) (hu : P.underlying t = some (.slice e)) {B : Nat} (hB : P.bytesOf e = B)
    (h : DataW.Trod enc P W base spare held t (.slice a len cap) d ps) : len * B ≤ 140737488351232 := by
  obtain ⟨fuel, hf⟩ := h
  rcases DataW.trod_slice hu hf with ⟨hcs, -⟩ | ⟨a', l, c, elems, rest, n, -, hcs, hx, -, -, -, hel, -, -, -⟩
  · simp [Value.cells] at hcs
    obtain ⟨rfl, rfl, rfl⟩ := hcs
    simp
  · simp [Value.cells] at hcs
    obtain ⟨rfl, rfl, rfl⟩ := hcs
    obtain ⟨hx, -⟩ := Prod.mk.inj hx
    subst hx
    have z := sized_slice hsz ht hd hu
    rw [hB, List.length_map, List.length_map, hel] at z
    exact Nat.le_trans (Nat.mul_le_mul_right _ (Nat.le_add_right _ _)) z
/-- A slice of elements of m cells each: the rows of cells, each of which reads as an element. -/
theorem open_rows {t e : TypeId} {m : Nat} (hu : P.underlying t = some (.slice e)) (hm : P.cellsOf e = m) {A : Option Addr} {len cap fuel : Nat} {x : DataW H × List MemPlace}
    (h : DataW.trod enc P W base spare held fuel t [.slice A len cap] = some x) :
    len ≤ cap ∧ (len = 0 ∨ ∃ (ad : Addr) (rows : Nat → List Value) (n : Nat), A = some ad ∧ ∀ i, i < len → (rows i).length = m ∧ (∀ j, j < m → W.cell? ((ad.add (i * m)).add j) = (rows i)[j]?) ∧ ∃ y, DataW.trod enc P W base spare held n e (rows i) = some y) := by
  rcases DataW.trod_slice hu h with ⟨hcs, -⟩ | ⟨a, l, c, elems, rest, n, -, hcs, -, -, hlc, -, hel, hc, -, -⟩
  · simp at hcs
    obtain ⟨rfl, rfl, rfl⟩ := hcs
    exact ⟨Nat.le_refl _, .inl rfl⟩
  · simp at hcs
    obtain ⟨rfl, rfl, rfl⟩ := hcs
    refine ⟨hlc, ?_⟩
    rcases Nat.eq_zero_or_pos len with h0 | h0
    · exact .inl h0
    · right
      rw [hm] at hc
      refine ⟨a, fun i => (W.cells? base (a.add (i * m)) m).getD [], n, rfl, fun i hi => ?_⟩
      have h1 := hc i hi
      cases hcs : W.cells? base (a.add (i * m)) m with
      | none =>
        rw [hcs] at h1
        simp at h1
        omega
      | some cs =>
        obtain ⟨-, hl, hcell⟩ := World.cells?_some hcs
        rw [hcs] at h1
        simp only [Option.bind_some] at h1
        simp only [hcs, Option.getD_some]
        refine ⟨hl, hcell, elems[i]'(by omega), ?_⟩
        rw [h1, List.getElem?_eq_getElem (by omega)]
end Go.Proofs.Ytemkeeoolffokaa
