/- bytes.Compare and cmp.Compare. -/
import Derived.Test.YtcloepjeckbmoaaDoorRef1
import Derived.Lib.Bytealg
namespace Go.Proofs.YtcloepjeckbmoaaDoor
open Go.RowKit
set_option linter.unusedVariables false
set_option linter.unusedSimpArgs false

def cmpN (x y : Int) : Int := if x < y then -1 else if y < x then 1 else 0
/-- Which list comes first, number by number. -/
def cmpI : List Int → List Int → Int
  | [], [] => 0
  | [], _ :: _ => -1
  | _ :: _, [] => 1
  | a :: u, b :: v => if a < b then -1 else if b < a then 1 else cmpI u v
theorem cmpI_bytes : ∀ (xs ys : List Int), Bytes xs → Bytes ys → Lib.compareBytes (Lib.bytesOf xs) (Lib.bytesOf ys) = cmpI xs ys
  | [], [], _, _ => rfl
  | [], _ :: _, _, _ => rfl
  | _ :: _, [], _, _ => rfl
  | a :: u, b :: v, hx, hy => by
    have ha := hx a (by simp)
    have hb := hy b (by simp)
    have ih := cmpI_bytes u v (fun x h => hx x (List.mem_cons_of_mem _ h)) (fun x h => hy x (List.mem_cons_of_mem _ h))
    have key : ∀ p q : Int, 0 ≤ p → p < 256 → 0 ≤ q → q < 256 → (UInt8.ofNat p.toNat < UInt8.ofNat q.toNat ↔ p < q) := by
      intro p q h1 h2 h3 h4
      rw [UInt8.lt_iff_toNat_lt]
      simp only [UInt8.toNat_ofNat']
      omega
    show Lib.compareBytes (UInt8.ofNat a.toNat :: Lib.bytesOf u) (UInt8.ofNat b.toNat :: Lib.bytesOf v) = _
    simp only [Lib.compareBytes, cmpI, key a b ha.1 ha.2 hb.1 hb.2, key b a hb.1 hb.2 ha.1 ha.2, ih]

theorem loadBytes_run {P : Program} (w : World) : ∀ (n : Nat) (ad : Addr) (acc : ByteArray) (xs : List Int), xs.length = n → (∀ j, j < n → w.cell? (ad.add j) = some (.int .u8 (xs.getD j 0))) →
    (Extern.Bytes.loadBytes ad n acc).run P w = .ok ⟨acc.data ++ (Lib.bytesOf xs).toArray⟩ w
  | 0, ad, acc, xs, hl, _ => by
    obtain rfl : xs = [] := List.eq_nil_of_length_eq_zero hl
    simp [Extern.Bytes.loadBytes, Lib.bytesOf]
  | n + 1, ad, acc, x :: xs, hl, hc => by
    have h0 := hc 0 (by omega)
    have e0 : ad.add 0 = ad := by simp [Addr.add]
    rw [e0] at h0
    simp only [List.getD_cons_zero] at h0
    have ih := loadBytes_run (P := P) w n (ad.add 1) (acc.push x.toNat.toUInt8) xs (by simpa using hl) (fun j hj => by
      rw [add_add, hc (1 + j) (by omega), Nat.add_comm 1 j, List.getD_cons_succ])
    simp [Extern.Bytes.loadBytes, load, Sem.run, h0, ih, Lib.bytesOf]
  | n + 1, _, _, [], hl, _ => by simp at hl
theorem bytesOf_run {P : Program} (w : World) (A : Option Addr) (n c : Nat) (xs : List Int) (h : RB w A n c xs) : (Extern.Bytes.bytesOf (.slice A n c)).run P w = .ok ⟨(Lib.bytesOf xs).toArray⟩ w := by
  have hl := h.len
  cases A with
  | none =>
    have h0 : n = 0 := by
      rcases Nat.eq_zero_or_pos n with h' | h'
      · exact h'
      · obtain ⟨ad, e, _⟩ := h.rv.cells h'
        cases e
    subst h0
    obtain rfl : xs = [] := List.eq_nil_of_length_eq_zero hl
    rfl
  | some ad =>
    have := loadBytes_run (P := P) w n ad .empty xs hl (fun j hj => by
      obtain ⟨ad', e, hc⟩ := h.rv.cells (by omega)
      injection e with e
      subst e
      exact hc j _ (nums_get _ _ _ (by omega)))
    simpa [Extern.Bytes.bytesOf] using this
theorem xcompare {w : World} {A : Option Addr} {n c : Nat} {xs : List Int} {A2 : Option Addr} {m c2 : Nat} {ys : List Int} (h1 : RB w A n c xs) (h2 : RB w A2 m c2 ys) :
    (callFunc 57 #[.slice A n c, .slice A2 m c2]).run Tryd.prog w = .ok (.value (.int .i64 (cmpI xs ys))) w := by
  rw [run_callFunc_extern Tryd.func57 (by kernel_rfl) (by kernel_rfl) (by kernel_rfl) (show Extern.find Tryd.f57 = some Extern.BytealgCompare.compare by kernel_rfl)]
  have hr : (Extern.BytealgCompare.compare #[.slice A n c, .slice A2 m c2]).run Tryd.prog w = .ok (.int .i64 (cmpI xs ys)) w := by
    change Sem.run Tryd.prog (do pure (goInt (Extern.BytealgCompare.cmp (← Extern.Bytes.bytesOf (.slice A n c)) (← Extern.Bytes.bytesOf (.slice A2 m c2))))) w = _
    simp only [Sem.run_bind, bytesOf_run w A n c xs h1, bytesOf_run w A2 m c2 ys h2, Result.andThen, Sem.run_pure]
    rw [Lib.cmp_eq]
    simp only [cmpI_bytes xs ys h1.range h2.range]
    rfl
  rw [hr]
  rfl
theorem bcompare_any (A : Option Addr) (n c : Nat) (xs : List Int) (A2 : Option Addr) (m c2 : Nat) (ys : List Int) (w : World) (h1 : RB w A n c xs) (h2 : RB w A2 m c2 ys) :
    Calls Tryd.prog 53 #[.slice A n c, .slice A2 m c2] w fun e w' => e = .returned (.int .i64 (cmpI xs ys)) ∧ w = w' := by
  have hx := xcompare h1 h2
  clear h1 h2
  go_enter Tryd.func53, Tryd.ntmps53
  go_wp2
  go_ret
  exact ⟨rfl, rfl⟩

/-! What lists of numbers of the same length do, one behind the other. -/
theorem cmpI_refl : ∀ xs : List Int, cmpI xs xs = 0
  | [] => rfl
  | a :: u => by simp [cmpI, cmpI_refl u]
theorem cmpI_zero : ∀ xs ys : List Int, cmpI xs ys = 0 → xs = ys
  | [], [], _ => rfl
  | [], _ :: _, h => by simp [cmpI] at h
  | _ :: _, [], h => by simp [cmpI] at h
  | a :: u, b :: v, h => by
    simp only [cmpI] at h
    split at h
    · omega
    · split at h
      · omega
      · rw [cmpI_zero u v h, show a = b by omega]
theorem cmpI_append : ∀ xs ys u v : List Int, xs.length = ys.length → cmpI (xs ++ u) (ys ++ v) = if cmpI xs ys ≠ 0 then cmpI xs ys else cmpI u v
  | [], [], u, v, _ => by simp [cmpI]
  | [], _ :: _, _, _, h => by simp at h
  | _ :: _, [], _, _, h => by simp at h
  | a :: p, b :: q, u, v, h => by
    have ih := cmpI_append p q u v (by simpa using h)
    simp only [List.cons_append, cmpI]
    split
    · simp
    · split
      · simp
      · exact ih
theorem cmpN_zero {x y : Int} (h : cmpN x y = 0) : x = y := by
  unfold cmpN at h
  split at h
  · omega
  · split at h <;> omega
theorem cmpI_high (n : Nat) : ∀ x y : Int, 0 ≤ x → 0 ≤ y → x < 256 ^ n → y < 256 ^ n → cmpI (highB x n) (highB y n) = cmpN x y := by
  induction n with
  | zero =>
    intro x y h0 h1 h2 h3
    simp at h2 h3
    obtain rfl : x = 0 := by omega
    obtain rfl : y = 0 := by omega
    rfl
  | succ n ih =>
    intro x y h0 h1 h2 h3
    rw [Int.pow_succ] at h2 h3
    rw [highB_succ x n h0, highB_succ y n h1, cmpI_append _ _ _ _ (by rw [highB_length, highB_length])]
    rw [ih (x / 256) (y / 256) (Int.ediv_nonneg h0 (by omega)) (Int.ediv_nonneg h1 (by omega)) (Int.ediv_lt_of_lt_mul (by omega) h2) (Int.ediv_lt_of_lt_mul (by omega) h3)]
    have e : cmpI [x % 256] [y % 256] = cmpN (x % 256) (y % 256) := by simp [cmpI, cmpN]
    rw [e]
    unfold cmpN
    by_cases c1 : x / 256 < y / 256
    · rw [if_pos c1, if_pos (by omega), if_pos (by omega)]
    · rw [if_neg c1]
      by_cases c2 : y / 256 < x / 256
      · rw [if_pos c2, if_pos (by omega), if_neg (by omega), if_pos (by omega)]
      · rw [if_neg c2, if_neg (by omega)]
        by_cases c3 : x < y
        · rw [if_pos (by omega), if_pos c3]
        · rw [if_neg (by omega), if_neg c3]
          by_cases c4 : y < x
          · rw [if_pos (by omega), if_pos c4]
          · rw [if_neg (by omega), if_neg c4]

end Go.Proofs.YtcloepjeckbmoaaDoor
