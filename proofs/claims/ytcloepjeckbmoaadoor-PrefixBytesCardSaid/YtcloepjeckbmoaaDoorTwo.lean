/- Two rows of the call's own, appended to by turns. -/
import Derived.Test.YtcloepjeckbmoaaDoorLib
namespace Go.Proofs.YtcloepjeckbmoaaDoor
open Go.RowKit
set_option linter.unusedVariables false
set_option linter.unusedSimpArgs false
def Apart (A1 A2 : Option Addr) : Prop := ∀ a b, A1 = some a → A2 = some b → a.block ≠ b.block
theorem Apart.symm {A1 A2 : Option Addr} (h : Apart A1 A2) : Apart A2 A1 := fun a b ha hb e => h b a hb ha e.symm
theorem own_of {A : Option Addr} {n c k : Nat} (h : (Value.slice A n c).ownBlock = some k) : ∃ ad, A = some ad ∧ ad.block = k := by
  cases A with
  | none => cases h
  | some ad =>
    injection h with h
    exact ⟨ad, rfl, h⟩
theorem two_app {W wr w3 : World} {B : Nat} {o : Obj} {e1 e2 : TypeId} {s1 s2 : Nat} {A1 A2 A3 : Option Addr} {n m c1 c2 : Nat} {xs ys : List Value} (hB : W.heap.size ≤ B) (h1 : OV wr B e1 s1 A1 n c1 xs) (h2 : OV wr B e2 s2 A2 m c2 ys)
    (hd : Apart A1 A2) (hb : Below W.heap.size W wr) (k2 : (wr.alloc o).grownBy w3 ((Value.slice A1 n c1).ownBlock)) (k3 : A3 = A1 ∨ ∀ ad, A3 = some ad → (wr.alloc o).heap.size ≤ ad.block) :
    OV w3 B e2 s2 A2 m c2 ys ∧ Apart A3 A2 ∧ Below W.heap.size W w3 := by
  refine ⟨(h2.below (below_alloc (Below.refl _ _) o)).grown k2 (fun ad ha hk => ?_), ?_, (hb.alloc hb.size o).grown k2 (by have := hb.size; simp; omega) (fun k hk => ?_)⟩
  · obtain ⟨a1, e1, e2⟩ := own_of hk.symm
    exact hd a1 ad e1 ha e2
  · rcases k3 with rfl | k3
    · exact hd
    · intro a b ha hb' e
      have h4 := k3 a ha
      have h5 := h2.lt b hb'
      simp at h4
      omega
  · obtain ⟨a1, e1, e2⟩ := own_of hk
    have := h1.base_ a1 e1
    omega
end Go.Proofs.YtcloepjeckbmoaaDoor
