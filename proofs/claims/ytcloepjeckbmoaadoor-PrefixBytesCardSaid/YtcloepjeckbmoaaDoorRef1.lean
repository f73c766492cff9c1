/- The references of layer 1, and equality of bytes. -/
import Derived.Test.YtcloepjeckbmoaaDoorL01
import Derived.Test.YtcloepjeckbmoaaDoorPureA
import Derived.Deep.OwnRows
import Derived.Lib.Bytes
namespace Go.Proofs.YtcloepjeckbmoaaDoor
open Go.RowKit
set_option linter.unusedVariables false
set_option linter.unusedSimpArgs false

/-- A block of bytes. -/
def Blk (w : World) (b : Nat) (xs : List Int) : Prop := w.heap[b]? = some (.cells (nums .u8 xs).toArray 5 (0, 0))
theorem Blk.cell {w : World} {b : Nat} {xs : List Int} (h : Blk w b xs) (i : Int) (h0 : 0 ≤ i) (h1 : i < xs.length) : w.cell? ⟨b, i.toNat, none⟩ = some (.int .u8 (rd xs i)) ∧ w.frozen? ⟨b, i.toNat, none⟩ = false := by
  refine ⟨?_, blk_frozen h _⟩
  rw [blk_cell h, List.getElem?_toArray]
  exact nums_get _ _ _ (by omega)
theorem nums_set (k : IntKind) (xs : List Int) (i : Nat) (y : Int) : (nums k xs).set i (.int k y) = nums k (xs.set i y) := by simp [nums, List.map_set]
theorem Blk.set {w : World} {b : Nat} {xs : List Int} (h : Blk w b xs) (i : Nat) (y : Int) : Blk (w.setCell ⟨b, i, none⟩ (.int .u8 y)) b (xs.set i y) := by
  have := blk_set h i (.int .u8 y)
  rw [List.setIfInBounds_toArray, nums_set] at this
  exact this
theorem Blk.ob {w : World} {b base : Nat} {xs : List Int} (h : Blk w b xs) (hb : base ≤ b) (hr : Bytes xs) (hn : xs.length ≤ 281474976710656) : OB w base (some ⟨b, 0, none⟩) xs.length xs.length xs :=
  ⟨⟨by simp [nums], Nat.le_refl _, hn, by simp only [maxLen]; omega, (fun ad ha => by
    injection ha with ha
    subst ha
    exact ⟨hb, rfl, _, h, by simp [nums], fun j v hj => by simpa using hj⟩), fun ha => by cases ha⟩, hr⟩
theorem Blk.below {w w1 : World} {b : Nat} {xs : List Int} (h : Blk w b xs) (hb : Below w.heap.size w w1) : Blk w1 b xs := blk_below h hb
theorem Blk.new (W : World) (m : Nat) : Blk (W.alloc (.cells (madeCells #[.int .u8 0] m) 5)) W.heap.size (List.replicate m 0) := by
  unfold Blk
  rw [blk_new]
  congr 2
  apply Array.ext
  · simp [madeCells, nums]
  · intro i h1 h2
    simp [madeCells, nums, Nat.mod_one]
theorem make_bytes (m : Nat) (hm : m ≤ 281474976710656) : ∀ W : World, (Instr.makeSlice 35 (.int .i64 (m : Int)) (.int .i64 (m : Int))).run Tryd.prog W = .ok (.slice (some ⟨W.heap.size, 0, none⟩) m m) (W.alloc (.cells (madeCells #[.int .u8 0] m) 5)) :=
  fun W => run_make_row' 35 5 (.int .u8 0) 1 Tryd.underlying35 info_u8 rfl .i64 .i64 m (by omega) (by omega) W

theorem same_any (A : Option Addr) (n c : Nat) (xs : List Int) (A2 : Option Addr) (m c2 : Nat) (ys : List Int) (w : World) (h1 : RB w A n c xs) (h2 : RB w A2 m c2 ys) :
    Calls Tryd.prog 32 #[.slice A n c, .slice A2 m c2] w fun e w' => e = .returned (.bool (decide (xs = ys))) ∧ Below w.heap.size w w' := by
  have hn := h1.small
  have hm := h2.small
  have HL1 := Lib.hid h1.len
  have HL2 := Lib.hid h2.len
  have H1 := Lib.hid h1
  have H2 := Lib.hid h2
  clear h1 h2
  by_cases hne : n = m
  · subst hne
    go_enter Tryd.func32, Tryd.ntmps32
    go_wp2
    go_loopw [5] (fun i wr => ∃ k : Nat, i = .int .i64 k ∧ Hid (k ≤ n ∧ xs.take k = ys.take k ∧ Below w.heap.size w wr)) (fun i _ => n - (intOf i).toNat)
    case atStart => exact ⟨0, rfl, Nat.zero_le _, by simp, Below.refl _ _⟩
    case round =>
      obtain ⟨k, rfl, HH⟩ := hrel
      have hkn := HH.out.1
      by_cases hlt : k < n
      · have HLT := Lib.hid hlt
        obtain ⟨ad1, rfl, hc1⟩ := (H1.out.below HH.out.2.2).at_ k (by omega) (by omega)
        obtain ⟨ad2, rfl, hc2⟩ := (H2.out.below HH.out.2.2).at_ k (by omega) (by omega)
        have hd1 : wr.cell? (ad1.add k) = some (.int .u8 (rd xs k)) := hc1
        have hd2 : wr.cell? (ad2.add k) = some (.int .u8 (rd ys k)) := hc2
        clear hc1 hc2
        have q0 : 0 ≤ (k : Int) := by omega
        have q1 : (k : Int) < (n : Int) := by omega
        by_cases heq : rd xs k = rd ys k
        · have hb0 : (rd xs k != rd ys k) = false := by simp [heq]
          have HE := Lib.hid heq
          clear heq
          go_wp2
          go_quiet (fail)
          go_wp2
          go_roundw
          case measure => simp [intOf]; omega
          case rel =>
            refine ⟨k + 1, by go_num, by omega, ?_, below_drewN HH.out.2.2 _⟩
            rw [take_rd xs k (by rw [HL1.out]; exact HLT.out), take_rd ys k (by rw [HL2.out]; exact HLT.out), HH.out.2.1, HE.out]
        · have hb0 : (rd xs k != rd ys k) = true := by simp [heq]
          have HE := Lib.hid heq
          clear heq
          go_wp2
          go_quiet (fail)
          go_wp2
          go_ret
          refine ⟨?_, below_drewN HH.out.2.2 _⟩
          rw [decide_eq_false (fun h => by subst h; exact absurd rfl HE.out)]
          rfl
      · obtain rfl : k = n := by omega
        clear hlt
        go_wp2
        go_ret
        refine ⟨?_, HH.out.2.2⟩
        have h3 := HH.out.2.1
        rw [List.take_of_length_le (by rw [HL1.out]; exact Nat.le_refl _), List.take_of_length_le (by rw [HL2.out]; exact Nat.le_refl _)] at h3
        rw [decide_eq_true h3]
        rfl
  · have hb0 : ((n : Int) != (m : Int)) = true := by simp; omega
    have hb1 : (n == m) = false := by simp; omega
    have hb2 : (n != m) = true := by simp; omega
    have HN := Lib.hid hne
    clear hne
    go_enter Tryd.func32, Tryd.ntmps32
    go_wp2
    go_ret
    refine ⟨?_, Below.refl _ _⟩
    rw [decide_eq_false (fun h => by have := HL1.out; have := HL2.out; have := HN.out; subst h; omega)]
    rfl

theorem conv_bytes (A : Option Addr) (n c : Nat) (xs : List Int) (w : World) (h : RB w A n c xs) : (convert 35 9 (.slice A n c)).run Tryd.prog w = .ok (.string (strOfNums xs)) w := by
  have hl := h.len
  cases A with
  | none =>
    have h0 : n = 0 := by
      rcases Nat.eq_zero_or_pos n with h' | h'
      · exact h'
      · obtain ⟨ad, e, _⟩ := h.rv.cells h'
        cases e
    subst h0
    obtain rfl : xs = [] := List.eq_nil_of_length_eq_zero hl
    exact run_convert_bytes_nil w 35 5 Tryd.underlying35 Tryd.underlying5 0 c 9 Tryd.underlying9
  | some ad =>
    rcases Nat.eq_zero_or_pos n with h0 | h0
    · subst h0
      obtain rfl : xs = [] := List.eq_nil_of_length_eq_zero hl
      have := run_convert_bytes_arg (P := Tryd.prog) w 35 5 Tryd.underlying35 Tryd.underlying5 ad.block ad.off 0 c [] rfl (fun i hi => by omega) 9 Tryd.underlying9
      rw [run_convert_bytes_string w 35 9 5 _ 0 c Tryd.underlying35 Tryd.underlying5 Tryd.underlying9] at this ⊢
      rw [run_bytesToString w _ 0 c [] (by rfl)] at this ⊢
      exact this
    · obtain ⟨ad', e, hc⟩ := h.rv.cells h0
      injection e with e
      subst e
      have hs : ad.spot = none := by
        have h1 := hc 0 _ (nums_get .u8 xs 0 (by omega))
        have h2 : ad.add 0 = ad := by simp [Addr.add]
        rw [h2] at h1
        cases hsp : ad.spot with
        | none => rfl
        | some sp =>
          unfold World.cell? at h1
          rw [hsp] at h1
          split at h1 <;> simp at h1
      obtain ⟨b, o, sp⟩ := ad
      simp only at hs
      subst hs
      exact run_convert_bytes_arg (P := Tryd.prog) w 35 5 Tryd.underlying35 Tryd.underlying5 b o n c xs hl (fun i hi => by
        have := hc i _ (nums_get .u8 xs i (by omega))
        rwa [add_spot _ rfl] at this) 9 Tryd.underlying9
theorem strOfNums_eq (xs ys : List Int) (hx : Bytes xs) (hy : Bytes ys) : ((strOfNums xs).toList == (strOfNums ys).toList) = decide (xs = ys) := by
  rw [Lib.strOfNums_toList, Lib.strOfNums_toList]
  have back : ∀ l : List Int, Bytes l → (Lib.bytesOf l).map (fun b => (b.toNat : Int)) = l := by
    intro l hl
    unfold Lib.bytesOf
    rw [List.map_map]
    have : l.map ((fun b : UInt8 => (b.toNat : Int)) ∘ fun n => UInt8.ofNat n.toNat) = l.map id := by
      apply List.map_congr_left
      intro z hz
      have := hl z hz
      simp only [Function.comp, id, UInt8.toNat_ofNat']
      omega
    rw [this, List.map_id]
  by_cases h : xs = ys
  · subst h
    simp
  · have hne : Lib.bytesOf xs ≠ Lib.bytesOf ys := fun e => h (by rw [← back xs hx, ← back ys hy, e])
    rw [decide_eq_false h]
    exact beq_eq_false_iff_ne.2 hne
theorem bequal_any (A : Option Addr) (n c : Nat) (xs : List Int) (A2 : Option Addr) (m c2 : Nat) (ys : List Int) (w : World) (h1 : RB w A n c xs) (h2 : RB w A2 m c2 ys) :
    Calls Tryd.prog 19 #[.slice A n c, .slice A2 m c2] w fun e w' => e = .returned (.bool (decide (xs = ys))) ∧ w = w' := by
  have hc1 := conv_bytes A n c xs w h1
  have hc2 := conv_bytes A2 m c2 ys w h2
  have HE := Lib.hid (strOfNums_eq xs ys h1.range h2.range)
  clear h1 h2
  go_enter Tryd.func19, Tryd.ntmps19
  go_wp2
  go_ret
  rw [← HE.out]
  exact ⟨rfl, rfl⟩

theorem OB.cellf {w : World} {base n c : Nat} {ad : Addr} {xs : List Int} (h : OB w base (some ad) n c xs) (i : Nat) (hi : i < n) : w.cell? (ad.add i) = some (.int .u8 (rd xs i)) ∧ w.frozen? (ad.add i) = false := by
  obtain ⟨_, hs, cur, hh, hfit, hcs⟩ := h.ov.form ad rfl
  have hl := h.len
  rw [add_spot ad hs]
  exact ⟨by rw [blk_cell hh]; exact hcs i _ (nums_get _ _ _ (by omega)), blk_frozen hh _⟩
theorem Bytes.set {xs : List Int} (h : Bytes xs) (i : Nat) (y : Int) (h0 : 0 ≤ y) (h1 : y < 256) : Bytes (xs.set i y) := fun x hx => by
  rcases List.mem_or_eq_of_mem_set hx with h' | h'
  · exact h x h'
  · subst h'; exact ⟨h0, h1⟩
theorem OB.store {w : World} {base n c : Nat} {ad : Addr} {xs : List Int} (h : OB w base (some ad) n c xs) (i : Nat) (hi : i < n) (y : Int) (h0 : 0 ≤ y) (h1 : y < 256) : OB (w.setCell (ad.add i) (.int .u8 y)) base (some ad) n c (xs.set i y) := by
  obtain ⟨hb, hs, cur, hh, hfit, hcs⟩ := h.ov.form ad rfl
  have hl := h.len
  have hcap := h.cap
  refine ⟨⟨by simp [nums]; omega, hcap, h.small, h.ov.capmax, (fun ad' ha => ?_), fun ha => by cases ha⟩, h.range.set i y h0 h1⟩
  injection ha with ha
  subst ha
  rw [add_spot ad hs]
  refine ⟨hb, hs, _, blk_set hh _ _, by simpa using hfit, fun j v hj => ?_⟩
  rw [← nums_set, List.getElem?_set] at hj
  split at hj
  · rename_i hij
    subst hij
    split at hj
    · injection hj with hj
      subst hj
      rw [Array.getElem?_setIfInBounds_self_of_lt (by omega)]
    · cases hj
  · rename_i hij
    rw [Array.getElem?_setIfInBounds_ne (by omega)]
    exact hcs j v hj
theorem OB.far {w : World} {base n c : Nat} {A : Option Addr} {xs : List Int} (h : OB w base A n c xs) {p : Addr} (hp : ∀ ad, A = some ad → ad.block ≠ p.block) (v : Value) : OB (w.setCell p v) base A n c xs :=
  h.grown (grown_setCell w p v) (fun ad e h' => hp ad e (by injection h'))
theorem lit_marked (W : World) (b : Nat) (xs : List Int) (fr : Nat × Nat) (hb : b = W.heap.size) (hn : xs.length ≤ 281474976710656) (hr : Bytes xs) : RB (W.alloc (.cells (nums .u8 xs).toArray 5 fr)) (some ⟨b, 0, none⟩) xs.length xs.length xs := by
  subst hb
  refine ⟨⟨by simp [nums], Nat.le_refl _, hn, fun _ => ⟨_, rfl, fun j v hj => ?_⟩⟩, hr⟩
  rw [add_plain, cell_of_row _ _ _ _ _ _ (blk_new _ _)]
  simpa using hj

end Go.Proofs.YtcloepjeckbmoaaDoor
