/- Slices of elements of whatever shape: copy into one's own, clear behind the end, grow. -/
import Derived.ChangeKeysEq
import Derived.DeepKeys
import Derived.Great.BuildSlice
import Derived.IntWalk
import Derived.Lib.Overlaps
import Derived.Test.YtnpeedmicjeleaaDoorRouteBackA
namespace Go.Proofs.YtnpeedmicjeleaaDoor
open Go.RowKit
set_option linter.unusedVariables false
set_option linter.unusedSimpArgs false
set_option maxRecDepth 4000

theorem OV.run_put {P : Program} {w : World} {base : Nat} {e : TypeId} {sz : Nat} {ad : Addr} {n c : Nat} {xs : List Value} (h : OV w base e sz (some ad) n c xs) (o : Nat) (vs : List Value) (ho : o + vs.length ≤ c * sz) (h1 : ∀ v ∈ vs, v.oneCell' = true) :
    (storeCells (ad.add o) vs).run P w = .ok () (w.setCells ad.block (ad.off + o) vs) := by
  obtain ⟨hb, hs, cur, hh, hfit, hcs⟩ := h.form ad rfl
  obtain ⟨g, off, s⟩ := ad
  simp only at hs hb hh hfit hcs
  subst hs
  rw [add_plain2]
  have := run_storeCells_cells (P := P) g (off + o) vs 0 w (fun j hj => by
    rw [Nat.add_zero, blk_cell hh, Array.getElem?_eq_getElem (by omega)]
    rfl) (fun j hj => blk_frozen hh _) h1
  rw [Nat.add_zero] at this
  exact this
theorem OV.put_in {w : World} {base : Nat} {e : TypeId} {sz : Nat} {ad : Addr} {n c : Nat} {xs : List Value} (h : OV w base e sz (some ad) n c xs) (o : Nat) (vs : List Value) (ho : o + vs.length ≤ n * sz) :
    OV (w.setCells ad.block (ad.off + o) vs) base e sz (some ad) n c (xs.take o ++ vs ++ xs.drop (o + vs.length)) := by
  obtain ⟨hb, hs, cur, hh, hfit, hcs⟩ := h.form ad rfl
  have hlen := h.len
  have hcap : n * sz ≤ c * sz := Nat.mul_le_mul_right _ h.cap
  obtain ⟨cur', h3, h4, h5⟩ := setCells_row vs (ad.off + o) w cur hh (by omega)
  refine ⟨by simp [hlen]; omega, h.cap, h.small, h.capmax, fun ad' ha => ?_, fun ha => by cases ha⟩
  injection ha with ha
  subst ha
  refine ⟨hb, hs, cur', h3, by rw [h4]; exact hfit, fun j v hj => ?_⟩
  have hsp := splice_get xs.toArray o vs (by rw [List.size_toArray]; omega) j
  have e1 : (splice xs.toArray o vs)[j]? = (xs.take o ++ vs ++ xs.drop (o + vs.length))[j]? := by simp [splice]
  rw [← e1, hsp] at hj
  rw [h5]
  by_cases hc : o ≤ j ∧ j < o + vs.length
  · rw [if_pos hc] at hj
    rw [if_pos (by omega), show ad.off + j - (ad.off + o) = j - o by omega]
    exact hj
  · rw [if_neg hc] at hj
    rw [if_neg (by omega)]
    exact hcs j v (by simpa using hj)
theorem OV.put_beyond {w : World} {base : Nat} {e : TypeId} {sz : Nat} {ad : Addr} {n c : Nat} {xs : List Value} (h : OV w base e sz (some ad) n c xs) (o : Nat) (vs : List Value) (ho : n * sz ≤ o) (h2 : o + vs.length ≤ c * sz) :
    OV (w.setCells ad.block (ad.off + o) vs) base e sz (some ad) n c xs := by
  obtain ⟨hb, hs, cur, hh, hfit, hcs⟩ := h.form ad rfl
  have hlen := h.len
  obtain ⟨cur', h3, h4, h5⟩ := setCells_row vs (ad.off + o) w cur hh (by omega)
  refine ⟨hlen, h.cap, h.small, h.capmax, fun ad' ha => ?_, fun ha => by cases ha⟩
  injection ha with ha
  subst ha
  refine ⟨hb, hs, cur', h3, by rw [h4]; exact hfit, fun j v hj => ?_⟩
  have hlt := (List.getElem?_eq_some_iff.1 hj).1
  rw [h5, if_neg (by omega)]
  exact hcs j v hj
theorem zero_cells (e : List Value) (h : 0 < e.length) : ∀ k : Nat, (Builtin.zeroCells e.toArray k).toList = (List.replicate k e).flatten
  | 0 => by simp [Builtin.zeroCells]
  | k + 1 => by
    have ih := zero_cells e h k
    simp only [Builtin.zeroCells, List.size_toArray, Array.toList_map, Array.toList_range] at ih ⊢
    rw [Nat.add_mul, Nat.one_mul, List.range_add, List.map_append, ih, List.replicate_succ', List.flatten_append]
    congr 1
    simp only [List.map_map, List.flatten_cons, List.flatten_nil, List.append_nil]
    apply List.ext_getElem (by simp)
    intro i h1 h2
    simp only [List.length_map, List.length_range] at h1
    simp only [List.getElem_map, List.getElem_range, Function.comp]
    rw [Nat.add_comm, Nat.add_mul_mod_self_right, Nat.mod_eq_of_lt h1]
    simp [h1]
theorem shp_replicate {α : Type} {S : Shape α} (k : Nat) : S.cells (List.replicate k S.z) = (List.replicate k (S.enc S.z)).flatten := by simp [Shape.cells, List.flatMap]
section
variable {α : Type} {S : Shape α} {w w1 : World} {base : Nat} {A : Option Addr} {n c : Nat} {l : List α}
theorem OS.put {ad : Addr} (h : OS S w base (some ad) n c l) (j : Nat) (u : List α) (hu : S.all u) (hj : j + u.length ≤ n) :
    OS S (w.setCells ad.block (ad.off + j * S.sz) (S.cells u)) base (some ad) n c (l.take j ++ u ++ l.drop (j + u.length)) := by
  have hul := Shape.cells_len hu
  have h2 : (j + u.length) * S.sz ≤ n * S.sz := Nat.mul_le_mul_right _ hj
  have hln := h.len
  refine ⟨?_, ((h.fits.take j).append hu).append (h.fits.drop _)⟩
  have h3 := h.ov.put_in (j * S.sz) (S.cells u) (by rw [hul, ← Nat.add_mul]; exact h2)
  rw [hul, ← Nat.add_mul, Shape.cells_take h.fits j (by omega), Shape.cells_drop h.fits (j + u.length) (by omega), ← Shape.cells_append, ← Shape.cells_append] at h3
  exact h3
/-- copy(s[j:], u) into a slice of one's own; u is read ahead of all writing. -/
theorem run_copy_rows {P : Program} {base : Nat} (W : World) (t ty e : TypeId) (sz : Nat) (ht : P.underlying t = some (.slice e)) (hinfo : (P.info? e).map (·.size) = some sz) (ad : Addr) (n c j : Nat) (xs : List Value) (A2 : Option Addr) (m c2 : Nat) (ys : List Value) (HO : OV W base e sz (some ad) n c xs) (HR : RV W sz A2 m c2 ys) (hj : j ≤ n)
    (hone : ∀ u ∈ ys.take (min m (n - j) * sz), u.oneCell' = true) {d : Option Addr} (hd : d = if c = j then some ad else some (ad.add (j * sz))) (dc : Nat) :
    ∃ w', (Builtin.copy_ #[t, t] ty #[.slice d (n - j) dc, .slice A2 m c2]).run P W = .ok (goInt ((min m (n - j) : Nat) : Int)) w' ∧ OV w' base e sz (some ad) n c (xs.take (j * sz) ++ ys.take (min m (n - j) * sz) ++ xs.drop ((j + min m (n - j)) * sz)) ∧ W.grownBy w' (some ad.block) := by
  obtain ⟨i0, hi, hz1⟩ := Option.map_eq_some_iff.1 hinfo
  have hcap := HO.cap
  have htl := HO.len
  obtain ⟨k, hk⟩ : ∃ k, min m (n - j) = k := ⟨_, rfl⟩
  have hkn : Nat.min m (n - j) = k := hk
  rw [hk] at hone ⊢
  have hRk := HR.take k (by omega)
  have hlk := hRk.len
  have hcells : (Builtin.firstCells i0.size k (.slice A2 m c2)).run P W = .ok (ys.take (k * sz)).toArray W := by
    cases A2 with
    | none =>
      have h0 : k = 0 := by
        rcases Nat.eq_zero_or_pos k with h0 | h0
        · exact h0
        · obtain ⟨ad, e, _⟩ := hRk.cells h0
          cases e
      subst h0
      simp [Builtin.firstCells]
    | some a2 =>
      have := run_loadCells_list (P := P) W a2 (ys.take (k * sz)) (fun q v hq => by
        rcases Nat.eq_zero_or_pos k with h0 | h0
        · subst h0
          simp at hq
        · obtain ⟨ad', e', hc'⟩ := hRk.cells h0
          injection e' with e'
          subst e'
          exact hc' q v hq)
      rw [hlk] at this
      simp only [Builtin.firstCells, hz1]
      exact this
  rcases Nat.eq_zero_or_pos k with h0 | h0
  · subst h0
    refine ⟨W, ?_, by simpa using HO, grown_refl _ _⟩
    have h2 : (Builtin.firstCells i0.size 0 (.slice A2 m c2)).run P W = .ok #[] W := by simpa using hcells
    cases d <;> simp [Builtin.copy_, run_underlying ht, sizeOf, typeInfo, hi, Builtin.lenOf, hkn, h2, storeCells]
  · have hcj : c ≠ j := by omega
    rw [if_neg hcj] at hd
    subst hd
    have hjk : (j + k) * sz ≤ c * sz := Nat.mul_le_mul_right _ (by omega)
    have hjn : (j + k) * sz ≤ n * sz := Nat.mul_le_mul_right _ (by omega)
    rw [Nat.add_mul] at hjk hjn
    have hrun := HO.run_put (P := P) (j * sz) (ys.take (k * sz)) (by rw [hlk]; exact hjk) hone
    refine ⟨W.setCells ad.block (ad.off + j * sz) (ys.take (k * sz)), ?_, ?_, setCells_grown _ _ _ _⟩
    · simp [Builtin.copy_, run_underlying ht, sizeOf, typeInfo, hi, Builtin.lenOf, hkn, hcells, hrun]
    · have := HO.put_in (j * sz) (ys.take (k * sz)) (by rw [hlk]; exact hjn)
      rw [hlk, ← Nat.add_mul] at this
      exact this
theorem Shape.size {α : Type} (S : Shape α) : (Tryd.prog.info? S.t).map (·.size) = some S.sz := by
  obtain ⟨i0, hi, hzz⟩ := Option.map_eq_some_iff.1 S.info
  simp only [Prod.mk.injEq] at hzz
  rw [hi]
  exact congrArg some hzz.2.1
theorem run_copy_shp (S : Shape α) (W : World) (ty : TypeId) (ad : Addr) (n c j : Nat) (t : List α) (A2 : Option Addr) (m c2 : Nat) (u : List α) (HO : OS S W base (some ad) n c t) (HR : RS S W A2 m c2 u) (hj : j ≤ n) {d : Option Addr} (hd : d = if c = j then some ad else some (ad.add (j * S.sz))) (dc : Nat) :
    ∃ w', (Builtin.copy_ #[S.ts, S.ts] ty #[.slice d (n - j) dc, .slice A2 m c2]).run Tryd.prog W = .ok (goInt ((min m (n - j) : Nat) : Int)) w' ∧ OS S w' base (some ad) n c (t.take j ++ u.take (min m (n - j)) ++ t.drop (j + min m (n - j))) ∧ W.grownBy w' (some ad.block) := by
  have htl := HO.len
  have hul := HR.len
  have e1 := Shape.cells_take HR.fits (min m (n - j)) (by omega)
  obtain ⟨w', h1, h2, h3⟩ := run_copy_rows (P := Tryd.prog) W S.ts ty S.t S.sz S.und S.size ad n c j (S.cells t) A2 m c2 (S.cells u) HO.ov HR.rv hj (by rw [e1]; exact Shape.cells_cell _) hd dc
  refine ⟨w', h1, ⟨?_, ((HO.fits.take j).append (HR.fits.take _)).append (HO.fits.drop _)⟩, h3⟩
  rw [e1, Shape.cells_take HO.fits j (by omega), Shape.cells_drop HO.fits _ (by omega), ← Shape.cells_append, ← Shape.cells_append] at h2
  exact h2
/-- What stands behind the end, turned to noughts. -/
theorem run_clear_shp (S : Shape α) (W : World) (ty : TypeId) (ad : Addr) (n c q : Nat) (t : List α) (HO : OS S W base (some ad) n c t) (hq : n + q ≤ c) {d : Option Addr} (hd : d = if c = n then some ad else some (ad.add (n * S.sz))) (dc : Nat) :
    ∃ w', (Builtin.clear_ #[S.ts] ty #[.slice d q dc]).run Tryd.prog W = .ok (.tuple #[]) w' ∧ OS S w' base (some ad) n c t ∧ W.grownBy w' (some ad.block) := by
  obtain ⟨i0, hi, hzz⟩ := Option.map_eq_some_iff.1 S.info
  simp only [Prod.mk.injEq] at hzz
  obtain ⟨hz0, hz1, hz2⟩ := hzz
  have hcap := HO.cap
  rcases Nat.eq_zero_or_pos q with h0 | h0
  · subst h0
    refine ⟨W, ?_, HO, grown_refl _ _⟩
    cases d <;> simp [Builtin.clear_, run_underlying S.und]
  · have hcj : c ≠ n := by omega
    rw [if_neg hcj] at hd
    subst hd
    have hqq : (n + q) * S.sz ≤ c * S.sz := Nat.mul_le_mul_right _ hq
    rw [Nat.add_mul] at hqq
    have hzl : (Builtin.zeroCells (S.val S.z).cells q).toList.length = q * S.sz := by
      rw [Array.length_toList]
      simp [Builtin.zeroCells, S.zc]
    have hz1c : ∀ v ∈ (Builtin.zeroCells (S.val S.z).cells q).toList, v.oneCell' = true := by
      rw [S.zenc, zero_cells _ (by rw [S.len _ S.okz]; exact S.pos), ← shp_replicate]
      exact Shape.cells_cell _
    have hrun := HO.ov.run_put (P := Tryd.prog) (n * S.sz) _ (by rw [hzl]; exact hqq) hz1c
    refine ⟨_, ?_, ⟨HO.ov.put_beyond (n * S.sz) _ (Nat.le_refl _) (by rw [hzl]; exact hqq), HO.fits⟩, setCells_grown _ _ _ _⟩
    obtain ⟨q', rfl⟩ : ∃ q', q = q' + 1 := ⟨q - 1, by omega⟩
    simp [Builtin.clear_, run_underlying S.und, zeroValue, typeInfo, hi, hz0, hrun]
/-- append(s[:i], make([]T, k)...) where there is no room: the first i elements at the begin of a new row, noughts behind them. -/
theorem run_growz_shp (S : Shape α) (W : World) (tn ty : TypeId) (kn kq : IntKind) (htn : Tryd.prog.underlying tn = some (.int kn)) (A : Option Addr) (i c k : Nat) (t : List α) (HR : RS S W A i c t) (h0 : 0 < k) (hg : c < i + k) (hl : i + k ≤ 1000000) (hbase : base ≤ W.heap.size) :
    ∃ ad' c' w', (Builtin.append_ #[S.ts, tn] ty #[.slice A i c, .int kq k]).run Tryd.prog W = .ok (.slice (some ad') (i + k) c') w' ∧ OS S w' base (some ad') (i + k) c' (t ++ List.replicate k S.z) ∧ Below W.heap.size W w' ∧ ad'.block = W.heap.size := by
  obtain ⟨i0, hi, hzz⟩ := Option.map_eq_some_iff.1 S.info
  simp only [Prod.mk.injEq] at hzz
  obtain ⟨hz0, hz1, hz2⟩ := hzz
  have hb1 := S.blt
  have hb2 : (i + k) * S.bytes ≤ 1000000 * 10000 := Nat.mul_le_mul hl hb1
  have hb3 : k * S.bytes ≤ (i + k) * S.bytes := Nat.mul_le_mul_right _ (by omega)
  have hpos := S.pos
  have hrv := HR.rv
  have hold : (Builtin.firstCells i0.size i (.slice A i c)).run Tryd.prog W.drew = .ok (S.cells t).toArray W.drew := by
    cases A with
    | none =>
      have h0 : i = 0 := by
        rcases Nat.eq_zero_or_pos i with h0 | h0
        · exact h0
        · obtain ⟨ad, e, _⟩ := hrv.cells h0
          cases e
      subst h0
      obtain rfl : t = [] := List.eq_nil_of_length_eq_zero HR.len
      rfl
    | some ad =>
      refine run_firstCells_some (P := Tryd.prog) W.drew i0.size i ad i c (S.cells t) (by rw [hz1]; exact hrv.len) (fun j u hu => ?_)
      rcases Nat.eq_zero_or_pos i with h0 | h0
      · subst h0
        have := hrv.len
        have hlt := (List.getElem?_eq_some_iff.1 hu).1
        omega
      · obtain ⟨ad', e', hc'⟩ := hrv.cells h0
        injection e' with e'
        subst e'
        exact hc' j u hu
  have hrun := Lib.run_append_grow_zeros (P := Tryd.prog) W S.ts tn ty S.t i0 (S.val S.z) kq kn S.und htn hi hz0 A i c (S.cells t) hold k h0 (by omega) hg (by omega) (by rw [hz2]; omega) (growslice_fits (by omega) (by rw [hz2]; omega))
  have hge := grownCap_ge W (i + k) c S.t
  have hmx := grownCap_le_maxLen W (i + k) c S.t (by simp only [maxLen]; omega)
  refine ⟨_, _, _, hrun, ⟨?_, HR.fits.append (fun a ha => by rw [List.eq_of_mem_replicate ha]; exact S.okz)⟩, ⟨rfl, rfl, rfl, by simp, fun q hq => Below.heap_alloc W.drew _ q hq⟩, rfl⟩
  have hcl : S.cells (t ++ List.replicate k S.z) = S.cells t ++ (Builtin.zeroCells (S.val S.z).cells k).toList := by
    rw [Shape.cells_append, shp_replicate, S.zenc, zero_cells _ (by rw [S.len _ S.okz]; exact hpos)]
  have hll : (S.cells t ++ (Builtin.zeroCells (S.val S.z).cells k).toList).length = (i + k) * S.sz := by
    rw [List.length_append, hrv.len, Array.length_toList, size_zeroCells, S.zc, ← Nat.add_mul]
  rw [hcl]
  refine ⟨hll, hge, by omega, hmx, fun ad ha => ?_, fun ha => by cases ha⟩
  injection ha with ha
  subst ha
  refine ⟨hbase, rfl, _, heap_alloc_new W.drew _, ?_, fun j v hj => ?_⟩
  · rw [Array.size_append, Array.size_append, show (S.cells t).toArray.size = i * S.sz by rw [List.size_toArray, hrv.len], size_zeroCells, size_zeroCells, S.zc, ← Nat.add_mul, ← Nat.add_mul]
    simp only [Nat.zero_add]
    exact Nat.mul_le_mul_right _ (by omega)
  · have hlt := (List.getElem?_eq_some_iff.1 hj).1
    show _[0 + j]? = some v
    rw [Nat.zero_add, Array.getElem?_append_left (by rw [Array.size_append, List.size_toArray]; rw [List.length_append, Array.length_toList] at hlt; exact hlt), ← Array.getElem?_toList, Array.toList_append]
    exact hj
end
/-- append(v, ys...) where there is room. -/
theorem run_append_room_rows {P : Program} {base : Nat} (W : World) (t ty e : TypeId) (sz : Nat) (ht : P.underlying t = some (.slice e)) (hinfo : (P.info? e).map (·.size) = some sz) (ad : Addr) (n c : Nat) (xs : List Value) (A2 : Option Addr) (m c2 : Nat) (ys : List Value)
    (HO : OV W base e sz (some ad) n c xs) (HR : RV W sz A2 m c2 ys) (hone : ∀ u ∈ ys, u.oneCell' = true) (hroom : n + m ≤ c) (hl : n + m ≤ 140737488355328) :
    ∃ w', (Builtin.append_ #[t, t] ty #[.slice (some ad) n c, .slice A2 m c2]).run P W = .ok (.slice (some ad) (n + m) c) w' ∧ OV w' base e sz (some ad) (n + m) c (xs ++ ys) ∧ W.grownBy w' (some ad.block) := by
  have hm : ys.length = m * sz := HR.len
  obtain ⟨i0, hi, hz1⟩ := Option.map_eq_some_iff.1 hinfo
  rcases A2 with _ | ad2
  · have h0 : m = 0 := by
      rcases Nat.eq_zero_or_pos m with h0 | h0
      · exact h0
      · obtain ⟨ad, e, _⟩ := HR.cells h0
        cases e
    subst h0
    obtain rfl : ys = [] := List.eq_nil_of_length_eq_zero (by simpa using hm)
    refine ⟨W, ?_, by simpa using HO, grown_refl _ _⟩
    have hcap := HO.cap
    simp [Builtin.append_, run_underlying ht, sizeOf, typeInfo, hi, Builtin.lenOf, Builtin.firstCells, hcap, storeCells]
  · have hcells : ∀ j u, ys[j]? = some u → W.cell? (ad2.add j) = some u := by
      intro j u hu
      have hj : j < ys.length := (List.getElem?_eq_some_iff.1 hu).1
      obtain ⟨ad', h', hc⟩ := HR.cells (by rcases Nat.eq_zero_or_pos m with h0 | h0; (subst h0; omega); exact h0)
      injection h' with h'
      subst h'
      exact hc j u hu
    obtain ⟨hb, hs, cur, hh, hfit, hcs⟩ := HO.form ad rfl
    obtain ⟨g, off, spot⟩ := ad
    simp only at hs hb hh hfit hcs
    subst hs
    have hns : (n + m) * sz ≤ c * sz := Nat.mul_le_mul_right _ hroom
    rw [Nat.add_mul] at hns
    subst hz1
    have hr := run_append_room_cells (P := P) W t ty e i0 ht hi g off n c ad2 m c2 ys hm hcells hone hroom
      (fun j hj => by rw [blk_cell hh, Array.getElem?_eq_getElem (by omega)]; rfl) (fun j _ => blk_frozen hh _)
    obtain ⟨cur', h3, h4, h5⟩ := setCells_row ys (off + n * i0.size) W cur hh (by omega)
    refine ⟨_, hr, ⟨by rw [List.length_append, HO.len, hm, Nat.add_mul], hroom, by omega, HO.capmax, fun ad' ha => ?_, fun ha => by cases ha⟩, setCells_grown _ _ _ _⟩
    injection ha with ha
    subst ha
    refine ⟨hb, rfl, cur', h3, by rw [h4]; exact hfit, fun j v hj => ?_⟩
    have hxl := HO.len
    show cur'[off + j]? = some v
    rw [h5]
    by_cases hjx : j < xs.length
    · rw [List.getElem?_append_left hjx] at hj
      rw [if_neg (by omega)]
      exact hcs j v hj
    · rw [List.getElem?_append_right (by omega)] at hj
      have hlt := (List.getElem?_eq_some_iff.1 hj).1
      rw [if_pos (by omega), show off + j - (off + n * i0.size) = j - xs.length by omega]
      exact hj
section
variable {α : Type} {base : Nat}
theorem run_append_room_shp (S : Shape α) (W : World) (ty : TypeId) (ad : Addr) (n c : Nat) (t : List α) (A2 : Option Addr) (m c2 : Nat) (u : List α) (HO : OS S W base (some ad) n c t) (HR : RS S W A2 m c2 u) (hroom : n + m ≤ c) (hl : n + m ≤ 10000000) :
    ∃ w', (Builtin.append_ #[S.ts, S.ts] ty #[.slice (some ad) n c, .slice A2 m c2]).run Tryd.prog W = .ok (.slice (some ad) (n + m) c) w' ∧ OS S w' base (some ad) (n + m) c (t ++ u) ∧ W.grownBy w' (some ad.block) := by
  obtain ⟨w', h1, h2, h3⟩ := run_append_room_rows (P := Tryd.prog) W S.ts ty S.t S.sz S.und S.size ad n c (S.cells t) A2 m c2 (S.cells u) HO.ov HR.rv (Shape.cells_cell _) hroom (by omega)
  exact ⟨w', h1, ⟨by rw [Shape.cells_append]; exact h2, HO.fits.append HR.fits⟩, h3⟩
end
section
variable {o : Oper} {a : Act}
theorem exec_copy {W w' : World} (d s : Operand) (ts : Array TypeId) (ho : o.op = .call { callee := .builtin .copy, args := #[d, s], argTypes := ts }) {vd vs v : Value} (hd : a.eval d = vd) (hs : a.eval s = vs)
    (hr : (Builtin.copy_ ts o.type #[vd, vs]).run Tryd.prog W = .ok v w') : (execOp a.eval o).run Tryd.prog W = .ok (.value v) w' := by
  unfold execOp
  simp only [ho, resolve, invoke, builtin, Sem.run_bind, Sem.run_pure, Result.andThen_ok, List.map_toArray, List.map_cons, List.map_nil, hd, hs, hr]
theorem exec_clear {W w' : World} (d : Operand) (ts : Array TypeId) (ho : o.op = .call { callee := .builtin .clear, args := #[d], argTypes := ts }) {vd v : Value} (hd : a.eval d = vd)
    (hr : (Builtin.clear_ ts o.type #[vd]).run Tryd.prog W = .ok v w') : (execOp a.eval o).run Tryd.prog W = .ok (.value v) w' := by
  unfold execOp
  simp only [ho, resolve, invoke, builtin, Sem.run_bind, Sem.run_pure, Result.andThen_ok, List.map_toArray, List.map_cons, List.map_nil, hd, hr]
end
section
variable {α : Type} (S : Shape α) (A : Option Addr) (n c : Nat)
theorem Shape.elem : Tryd.prog.elem S.ts = S.t := by
  have h := S.und
  simp [Program.elem, h]
theorem Shape.undE : Tryd.prog.underlying S.ts = some (.slice (Tryd.prog.elem S.ts)) := by rw [S.elem]; exact S.und
theorem Shape.run_size (W : World) : (sizeOf S.t).run Tryd.prog W = .ok S.sz W := by
  obtain ⟨i0, hi, hz1⟩ := Option.map_eq_some_iff.1 S.size
  simp [sizeOf, typeInfo, hi, hz1]
theorem cutL (q : Int) (j : Nat) (hq : q = j) (hj : j ≤ n) (W : World) : (Instr.slice S.ts (.slice A n c) (some (.int .i64 q)) none none).run Tryd.prog W = .ok (.slice (if c = j then A else A.map (·.add (j * S.sz))) (n - j) (c - j)) W := by
  subst hq
  rw [run_slice_l W S.ts A n c S.undE .i64 j (by omega) (by omega), S.elem, S.run_size]
  simp [sliced, Result.andThen]
theorem cutH (r : Int) (k : Nat) (hr : r = k) (hk : k ≤ c) (W : World) : (Instr.slice S.ts (.slice A n c) none (some (.int .i64 r)) none).run Tryd.prog W = .ok (.slice A k c) W := by
  subst hr
  rw [run_slice_h W S.ts A n c S.undE .i64 k (by omega) (by omega), S.elem, S.run_size]
  have h0 : (fun x : Addr => x.add 0) = id := by funext x; simp [Addr.add]
  simp [sliced, Result.andThen, h0]
theorem cutLH (q r : Int) (j k : Nat) (hq : q = j) (hr : r = k) (hj : j ≤ k) (hk : k ≤ c) (W : World) : (Instr.slice S.ts (.slice A n c) (some (.int .i64 q)) (some (.int .i64 r)) none).run Tryd.prog W = .ok (.slice (if c = j then A else A.map (·.add (j * S.sz))) (k - j) (c - j)) W := by
  subst hq; subst hr
  rw [run_slice_lh W S.ts A n c S.undE .i64 .i64 j k (by omega) (by omega) (by omega), S.elem, S.run_size]
  simp [sliced, Result.andThen]
theorem cutLHM (q r m : Int) (j k l : Nat) (hq : q = j) (hr : r = k) (hm : m = l) (hj : j ≤ k) (hk : k ≤ l) (hl : l ≤ c) (W : World) : (Instr.slice S.ts (.slice A n c) (some (.int .i64 q)) (some (.int .i64 r)) (some (.int .i64 m))).run Tryd.prog W = .ok (.slice (if l = j then A else A.map (·.add (j * S.sz))) (k - j) (l - j)) W := by
  subst hq; subst hr; subst hm
  rw [run_slice_lhm W S.ts A n c S.undE .i64 .i64 .i64 j k l (by omega) (by omega) (by omega) (by omega), S.elem, S.run_size]
  simp [sliced, Result.andThen]
end
theorem OV.extendTo {w : World} {base : Nat} {e : TypeId} {sz : Nat} {ad : Addr} {n c : Nat} {cs : List Value} (h : OV w base e sz (some ad) n c cs) (k : Nat) (hn : n ≤ k) (hk : k ≤ c) (hm : k ≤ 281474976710656) : ∃ more, OV w base e sz (some ad) k c (cs ++ more) := by
  have h1 := h.take n k (Nat.le_refl _) hn hk
  rw [List.take_of_length_le (by rw [h.len]; exact Nat.le_refl _)] at h1
  obtain ⟨more, h2⟩ := h1.extend hm
  refine ⟨more, h2.len, hk, hm, h.capmax, fun ad' ha => ?_, fun ha => by cases ha⟩
  injection ha with ha
  subst ha
  obtain ⟨a1, a2, cur, a3, a4, a5⟩ := h.form _ rfl
  obtain ⟨b1, b2, cur2, b3, b4, b5⟩ := h2.form _ rfl
  rw [a3] at b3
  injection b3 with b3
  injection b3 with b3
  subst b3
  exact ⟨a1, a2, cur, a3, a4, b5⟩
theorem shift_list {β : Type} (cs more er : List β) (sz j n : Nat) (hcs : cs.length = n * sz) (hm : (cs ++ more).length = (n + 1) * sz) (her : er.length = sz) (hj : j ≤ n) :
    (((cs ++ more).take ((j + 1) * sz) ++ ((cs ++ more).drop (j * sz)).take ((n - j) * sz) ++ (cs ++ more).drop ((j + 1 + (n - j)) * sz)).take (j * sz) ++ er.take (1 * sz) ++
      ((cs ++ more).take ((j + 1) * sz) ++ ((cs ++ more).drop (j * sz)).take ((n - j) * sz) ++ (cs ++ more).drop ((j + 1 + (n - j)) * sz)).drop ((j + 1) * sz)) = cs.take (j * sz) ++ er ++ cs.drop (j * sz) := by
  have h1 : j * sz ≤ n * sz := Nat.mul_le_mul_right _ hj
  have h2 : (j + 1) * sz = j * sz + sz := by rw [Nat.add_mul, Nat.one_mul]
  have h3 : (n + 1) * sz = n * sz + sz := by rw [Nat.add_mul, Nat.one_mul]
  have h4 : (n - j) * sz = n * sz - j * sz := Nat.sub_mul _ _ _
  have h5 : (j + 1 + (n - j)) * sz = n * sz + sz := by rw [show j + 1 + (n - j) = n + 1 by omega, h3]
  rw [h3] at hm
  rw [h5, List.drop_eq_nil_of_le (by omega : (cs ++ more).length ≤ n * sz + sz), List.append_nil]
  have e1 : ((cs ++ more).drop (j * sz)).take ((n - j) * sz) = cs.drop (j * sz) := by
    rw [List.drop_append_of_le_length (by omega), List.take_append_of_le_length (by rw [List.length_drop]; omega), List.take_of_length_le (by rw [List.length_drop]; omega)]
  rw [e1, Nat.one_mul, List.take_of_length_le (by omega : er.length ≤ sz)]
  have l1 : ((cs ++ more).take ((j + 1) * sz)).length = (j + 1) * sz := by rw [List.length_take]; omega
  congr 1
  · congr 1
    rw [List.take_append_of_le_length (by omega), List.take_take, Nat.min_eq_left (by omega), List.take_append_of_le_length (by omega)]
  · exact List.drop_left' l1
theorem grow_list {β : Type} (t : List β) (r z : β) (j n : Nat) (ht : t.length = n) (hj : j ≤ n) :
    ((t.take j ++ List.replicate (n + 1 - j) z).take j ++ [r].take (min 1 (n + 1 - j)) ++ (t.take j ++ List.replicate (n + 1 - j) z).drop (j + min 1 (n + 1 - j))).take (j + 1) ++ (t.drop j).take (min (n - j) (n + 1 - (j + 1))) ++
      ((t.take j ++ List.replicate (n + 1 - j) z).take j ++ [r].take (min 1 (n + 1 - j)) ++ (t.take j ++ List.replicate (n + 1 - j) z).drop (j + min 1 (n + 1 - j))).drop (j + 1 + min (n - j) (n + 1 - (j + 1))) = t.take j ++ r :: t.drop j := by
  have l1 : (t.take j).length = j := by rw [List.length_take]; omega
  rw [Nat.min_eq_left (by omega : 1 ≤ n + 1 - j), Nat.min_eq_left (by omega : n - j ≤ n + 1 - (j + 1)), List.take_left' l1]
  have l2 : (t.take j ++ [r].take 1).length = j + 1 := by simp [l1]
  have l3 : (t.take j ++ [r].take 1 ++ (t.take j ++ List.replicate (n + 1 - j) z).drop (j + 1)).length = n + 1 := by
    simp only [List.length_append, List.length_drop, l1, List.length_replicate, List.take_succ_cons, List.take_nil, List.length_cons, List.length_nil]
    omega
  rw [List.take_left' l2, List.take_of_length_le (by rw [List.length_drop]; omega : (t.drop j).length ≤ n - j), show (t.take j ++ [r].take 1 ++ (t.take j ++ List.replicate (n + 1 - j) z).drop (j + 1)).drop (j + 1 + (n - j)) = [] from List.drop_eq_nil_of_le (by rw [l3]; omega)]
  simp
/-- One cell of one element, written. -/
theorem OS.patch {α : Type} {S : Shape α} {w : World} {base n c : Nat} {ad : Addr} {l : List α} (h : OS S w base (some ad) n c l) {i : Nat} (hi : i < n) (b : α) (hb : S.ok b) (k : Nat) (v : Value) (hk : k < S.sz) (he : S.enc b = (S.enc (S.at_ l i)).take k ++ v :: (S.enc (S.at_ l i)).drop (k + 1)) :
    (∃ u, w.cell? ⟨ad.block, ad.off + (i * S.sz + k), none⟩ = some u) ∧ w.frozen? ⟨ad.block, ad.off + (i * S.sz + k), none⟩ = false ∧ OS S (w.setCell ⟨ad.block, ad.off + (i * S.sz + k), none⟩ v) base (some ad) n c (l.take i ++ b :: l.drop (i + 1)) := by
  have hln := h.len
  have hcap := h.cap
  obtain ⟨q1, q2, cur, q3, q4, q5⟩ := h.ov.form _ rfl
  have h1 : (i + 1) * S.sz ≤ n * S.sz := Nat.mul_le_mul_right _ hi
  have h2 : n * S.sz ≤ c * S.sz := Nat.mul_le_mul_right _ hcap
  rw [Nat.add_mul, Nat.one_mul] at h1
  refine ⟨?_, blk_frozen q3 _, ?_, ?_⟩
  · rw [blk_cell q3, Array.getElem?_eq_getElem (by omega)]
    exact ⟨_, rfl⟩
  · have h3 := h.ov.put_in (i * S.sz + k) [v] (by simp; omega)
    have hE := S.len _ (h.fits.at_ (by rw [hln]; exact hi))
    have e1 : S.cells l = S.cells (l.take i) ++ (S.enc (S.at_ l i) ++ S.cells (l.drop (i + 1))) := by
      conv => lhs; rw [Shape.split_at (S := S) (l := l) (i := i) (by omega)]
      rw [Shape.cells_append]
      rfl
    have l1 : (S.cells (l.take i)).length = i * S.sz := by rw [Shape.cells_len (h.fits.take i), List.length_take, Nat.min_eq_left (by omega)]
    have e2 : (S.cells l).take (i * S.sz + k) = S.cells (l.take i) ++ (S.enc (S.at_ l i)).take k := by
      rw [e1, List.take_append, l1, List.take_of_length_le (by omega), Nat.add_sub_cancel_left, List.take_append_of_le_length (by omega)]
    have e3 : (S.cells l).drop (i * S.sz + k + 1) = (S.enc (S.at_ l i)).drop (k + 1) ++ S.cells (l.drop (i + 1)) := by
      rw [e1, List.drop_append, l1, List.drop_eq_nil_of_le (by omega), List.nil_append, show i * S.sz + k + 1 - i * S.sz = k + 1 by omega, List.drop_append_of_le_length (by omega)]
    have e4 : S.cells (l.take i ++ b :: l.drop (i + 1)) = (S.cells l).take (i * S.sz + k) ++ [v] ++ (S.cells l).drop (i * S.sz + k + [v].length) := by
      rw [Shape.cells_append, Shape.cells_cons, he, e2, show i * S.sz + k + [v].length = i * S.sz + k + 1 from rfl, e3]
      simp
    rw [e4]
    exact h3
  · refine (h.fits.take i).append (fun x hx => ?_)
    rcases List.mem_cons.1 hx with rfl | hx
    · exact hb
    · exact h.fits.drop _ x hx
/-- A slice literal. -/
theorem run_lit_shp {α : Type} (S : Shape α) (W : World) (l : List α) (hf : S.all l) (hn : 0 < l.length) (hs : l.length * S.sz ≤ 16777216) (parts : Array (Nat × Value)) (hp : parts.toList = ((l.map S.val).zipIdx 0).map fun x => (x.2, x.1)) :
    (Instr.buildSlice S.ts l.length parts).run Tryd.prog W = .ok (.slice (some ⟨W.heap.size, 0, none⟩) l.length l.length) (W.alloc (.cells (S.cells l).toArray S.t)) := by
  obtain ⟨i0, hi, hzz⟩ := Option.map_eq_some_iff.1 S.info
  simp only [Prod.mk.injEq] at hzz
  obtain ⟨hz0, hz1, hz2⟩ := hzz
  have hpos := S.pos
  have hmul : 0 < l.length * S.sz := Nat.mul_pos hn hpos
  refine run_buildSlice W S.ts S.t l.length parts (S.cells l).toArray i0 (S.val S.z) S.und hi hz0 (by rw [hz1]; omega) (by rw [hz1]; omega) ?_
  rw [hp, hz1]
  have h1 : ∀ v ∈ l.map S.val, v.cells.size = S.sz := by
    intro v hv
    obtain ⟨a, ha, rfl⟩ := List.mem_map.1 hv
    rw [S.venc, List.size_toArray, S.len a (hf a ha)]
  rw [Great.fill_whole hpos _ _ h1 (by simp)]
  congr 2
  rw [List.flatMap_map]
  unfold Shape.cells
  congr 1
  funext a
  rw [S.venc]
theorem exec_lit1 {α : Type} (S : Shape α) {r : Operand → Value} {o : Oper} {x : Operand} (ho : o.op = .buildSlice S.ts 1 #[(0, x)]) (b : α) (hx : r x = S.val b) (hb : S.ok b) (hs : S.sz ≤ 16777216) (W : World) :
    (execOp r o).run Tryd.prog W = .ok (.value (.slice (some ⟨W.heap.size, 0, none⟩) 1 1)) (W.alloc (.cells (S.enc b).toArray S.t)) := by
  have h := run_lit_shp S W [b] (Shape.all_one hb) (by simp) (by simpa using hs) #[(0, S.val b)] rfl
  rw [Shape.cells_one] at h
  unfold execOp
  have e : (#[(0, x)].map fun (p : Nat × Operand) => (p.1, r p.2)) = #[(0, S.val b)] := by simp [hx]
  simp only [ho, Sem.run_bind]
  have h2 : (Instr.buildSlice S.ts 1 (#[(0, x)].map fun (p : Nat × Operand) => (p.1, r p.2))).run Tryd.prog W = .ok (.slice (some ⟨W.heap.size, 0, none⟩) 1 1) (W.alloc (.cells (S.enc b).toArray S.t)) := by rw [e]; exact h
  rw [h2]
  rfl
/-- One cell of a block, stored. -/
theorem run_store_cell {P : Program} {w : World} {g : Nat} {cs : Array Value} {t : TypeId} (h : w.heap[g]? = some (.cells cs t (0, 0))) (ty : TypeId) (o : Nat) (v : Value) (hfit : o < cs.size) (hi : (P.info? ty).map (·.size) = some 1) (h1 : v.cells = #[v]) (h2 : v.oneCell' = true) :
    ∃ w', (Instr.storeAt ty (.pointer (some ⟨g, o, none⟩)) v).run P w = .ok () w' ∧ w.grownBy w' (some g) ∧ w'.heap.size = w.heap.size ∧ w'.heap[g]? = some (.cells (cs.setIfInBounds o v) t (0, 0)) := by
  obtain ⟨w', hr, h3, h4, h5⟩ := run_store_blk (P := P) h ty o #[v] (by simp; omega) hi (by simp [h2])
  refine ⟨w', ?_, h3, h4, ?_⟩
  · rw [← hr]
    have e : (Value.agg #[v]).cells = v.cells := by rw [h1]; rfl
    simp only [Instr.storeAt, storeVar, e]
  · rw [h5]
    congr 2
    apply Array.ext_getElem?
    intro j
    rw [splice_get cs o _ (by simp; omega)]
    by_cases hj : o = j
    · subst hj
      simp [hfit]
    · rw [if_neg (by simp; omega), Array.getElem?_setIfInBounds_ne hj]
theorem wpList_store_cell {P : Program} {w : World} {g : Nat} {cs : Array Value} {t : TypeId} {ops : Array Oper} {rest : List Oper} {op : Oper} {a : Act} {Q : Exit → Act → World → Prop} (hb : w.heap[g]? = some (.cells cs t (0, 0))) (ty : TypeId) (o : Nat) (v : Value)
    (hfit : o < cs.size) (hi : (P.info? ty).map (·.size) = some 1) (h1 : v.cells = #[v]) (h2 : v.oneCell' = true)
    (x y : Operand) (ho : op.op = .store ty x y) (hx : a.eval x = .pointer (some ⟨g, o, none⟩)) (hy : a.eval y = v) (hw : Region.wanted op (yielded ops a.tmps) = true)
    (h : ∀ w', w.grownBy w' (some g) → w'.heap.size = w.heap.size → w'.heap[g]? = some (.cells (cs.setIfInBounds o v) t (0, 0)) → wpList P ops Q rest (a.put op.dst undef) w') : wpList P ops Q (op :: rest) a w := by
  obtain ⟨w', hr, h3, h4, h5⟩ := run_store_cell (P := P) hb ty o v hfit hi h1 h2
  refine wpList_step (fun K hK => ?_)
  rw [if_pos hw]
  unfold Oper.wp execOp
  simp only [ho, hx, hy, Sem.run_bind, hr, Result.andThen_ok, Sem.run_pure]
  exact hK _ _ (h w' h3 h4 h5)
theorem oper_store_cell {P : Program} {w : World} {g : Nat} {cs : Array Value} {t : TypeId} {op : Oper} {a : Act} {K : Act → World → Prop} {Q : Exit → Act → World → Prop} (hb : w.heap[g]? = some (.cells cs t (0, 0))) (ty : TypeId) (o : Nat) (v : Value)
    (hfit : o < cs.size) (hi : (P.info? ty).map (·.size) = some 1) (h1 : v.cells = #[v]) (h2 : v.oneCell' = true)
    (x y : Operand) (ho : op.op = .store ty x y) (hx : a.eval x = .pointer (some ⟨g, o, none⟩)) (hy : a.eval y = v)
    (h : ∀ w', w.grownBy w' (some g) → w'.heap.size = w.heap.size → w'.heap[g]? = some (.cells (cs.setIfInBounds o v) t (0, 0)) → K (a.put op.dst undef) w') : op.wp P a w K Q := by
  obtain ⟨w', hr, h3, h4, h5⟩ := run_store_cell (P := P) hb ty o v hfit hi h1 h2
  unfold Oper.wp execOp
  simp only [ho, hx, hy, Sem.run_bind, hr, Result.andThen_ok, Sem.run_pure]
  exact h w' h3 h4 h5
/-- Equality of elements. -/
structure ShapeEq {α : Type} (S : Shape α) where
  okE : α → Prop
  eqB : α → α → Bool
  iff : ∀ a b, eqB a b = true ↔ a = b
  eql : ∀ {r : Operand → Value} {o : Oper} {x y : Operand} {ty : TypeId}, o.op = .binOp .eql S.t x y ty → ∀ a b, r x = S.val a → r y = S.val b → okE a → okE b → ∀ w, (execOp r o).run Tryd.prog w = .ok (.value (.bool (eqB a b))) w
  neq : ∀ {r : Operand → Value} {o : Oper} {x y : Operand} {ty : TypeId}, o.op = .binOp .neq S.t x y ty → ∀ a b, r x = S.val a → r y = S.val b → okE a → okE b → ∀ w, (execOp r o).run Tryd.prog w = .ok (.value (.bool (!eqB a b))) w
section
variable {α : Type} {S : Shape α} (E : ShapeEq S)
def ShapeEq.eqL : List α → List α → Bool
  | [], [] => true
  | a :: s, b :: t => E.eqB a b && ShapeEq.eqL s t
  | _, _ => false
theorem ShapeEq.eqL_iff : ∀ s t : List α, E.eqL s t = true ↔ s = t
  | [], [] => by simp [ShapeEq.eqL]
  | [], _ :: _ => by simp [ShapeEq.eqL]
  | _ :: _, [] => by simp [ShapeEq.eqL]
  | a :: s, b :: t => by simp [ShapeEq.eqL, E.iff, ShapeEq.eqL_iff s t]
def ShapeEq.all (l : List α) : Prop := ∀ a ∈ l, E.okE a
theorem ShapeEq.all_at {E : ShapeEq S} {l : List α} (h : E.all l) {i : Nat} (hi : i < l.length) : E.okE (S.at_ l i) := h _ (List.mem_of_getElem? (Shape.at_get hi))
theorem ShapeEq.eqL_no {E : ShapeEq S} {s t : List α} {i : Nat} (hs : i < s.length) (ht : i < t.length) (h : E.eqB (S.at_ s i) (S.at_ t i) = false) : E.eqL s t = false := by
  rw [Bool.eq_false_iff]
  intro k
  rw [E.eqL_iff] at k
  subst k
  rw [Bool.eq_false_iff] at h
  exact h ((E.iff _ _).2 rfl)
theorem ShapeEq.eqL_len {E : ShapeEq S} {s t : List α} (h : s.length ≠ t.length) : E.eqL s t = false := by
  rw [Bool.eq_false_iff]
  intro k
  rw [E.eqL_iff] at k
  exact h (by rw [k])
theorem ShapeEq.eqL_yes {E : ShapeEq S} {s t : List α} (hl : s.length = t.length) (h : ∀ i, i < s.length → E.eqB (S.at_ s i) (S.at_ t i) = true) : E.eqL s t = true := by
  rw [E.eqL_iff]
  apply List.ext_getElem? 
  intro i
  by_cases hi : i < s.length
  · rw [Shape.at_get (S := S) hi, Shape.at_get (S := S) (by omega)]
    exact congrArg some ((E.iff _ _).1 (h i hi))
  · rw [List.getElem?_eq_none_iff.2 (by omega), List.getElem?_eq_none_iff.2 (by omega)]
end
end Go.Proofs.YtnpeedmicjeleaaDoor

/- Arguments that are slices of elements of whatever shape, opened; nested ones too. -/
namespace Go.Proofs.YtnpeedmicjeleaaDoor
open Go.ChangeShapes Go.WideShapes Go.ChangeAt Go.RowKit
set_option linter.unusedVariables false
set_option linter.unusedSimpArgs false
set_option maxRecDepth 4000
section
variable {H : Type} {enc : TypeId × Value → H} {P : Program} {W : World} {base : Nat} {spare : Nat → Bool} {held : Bool}
/-- All that lies in a datum has its weight. -/
def Light (P : Program) (t : TypeId) (d : DataW H) : Prop := ∀ n ∈ d.weights P t, n ≤ reachBytes
theorem light_of {ts : List TypeId} {ds : List (DataW H)} {j : Nat} {t : TypeId} {d : DataW H} (hsz : (DataW.weightsEach P ts ds).all (· ≤ reachBytes) = true) (ht : ts[j]? = some t) (hd : ds[j]? = some d) : Light P t d := fun n hn => by
  have := List.all_eq_true.1 hsz _ (DataW.weights_mem_each ht hd n hn)
  simpa using this
theorem light_field {t : TypeId} {fs : Array Field} (hu : P.underlying t = some (.struct fs)) {xs : List (DataW H)} (h : Light P t (.agg xs)) {i : Nat} {f : Field} {d : DataW H} (hf : fs[i]? = some f) (hx : xs[i]? = some d) : Light P f.type d := fun n hn => by
  refine h n ?_
  simp only [DataW.weights, hu]
  refine DataW.weights_mem_each (j := i) (t := f.type) ?_ hx n hn
  rw [List.getElem?_map, Array.getElem?_toList, hf]
  rfl
theorem weights_mem_all {e : TypeId} : ∀ {ds : List (DataW H)} {i : Nat} {d : DataW H}, ds[i]? = some d → ∀ n ∈ d.weights P e, n ∈ DataW.weightsAll P e ds
  | d0 :: ds, 0, d, hd, n, hn => by
    simp only [List.getElem?_cons_zero, Option.some.injEq] at hd
    subst hd
    simp only [DataW.weightsAll, List.mem_append]
    exact .inl hn
  | d0 :: ds, i + 1, d, hd, n, hn => by
    simp only [List.getElem?_cons_succ] at hd
    simp only [DataW.weightsAll, List.mem_append]
    exact .inr (weights_mem_all hd n hn)
  | [], _, _, hd, _, _ => by simp at hd
theorem light_elem {t e : TypeId} (hu : P.underlying t = some (.slice e)) {es sp : List (DataW H)} (h : Light P t (.slice es sp)) {i : Nat} {d : DataW H} (hx : es[i]? = some d) : Light P e d := fun n hn => by
  refine h n ?_
  simp only [DataW.weights, hu, List.mem_cons, List.mem_append]
  exact .inr (.inl (weights_mem_all hx n hn))
theorem light_len {t e : TypeId} (hu : P.underlying t = some (.slice e)) {es sp : List (DataW H)} (h : Light P t (.slice es sp)) : es.length * P.bytesOf e ≤ reachBytes := by
  have h1 : (es.length + sp.length) * P.bytesOf e ≤ reachBytes := h _ (by simp only [DataW.weights, hu, List.mem_cons, true_or])
  exact Nat.le_trans (Nat.mul_le_mul_right _ (Nat.le_add_right _ _)) h1
/-- A slice, its elements one by one. -/
theorem open_elems {t e : TypeId} {m : Nat} (hu : P.underlying t = some (.slice e)) (hm : P.cellsOf e = m) {cs : List Value} {fuel : Nat} {x : DataW H × List MemPlace}
    (h : DataW.trod enc P W base spare held fuel t cs = some x) (hl : Light P t x.1) :
    ∃ A len cap, cs = [.slice A len cap] ∧ len ≤ cap ∧ len * P.bytesOf e ≤ reachBytes ∧ (len = 0 ∨ ∃ (ad : Addr) (rows : Nat → List Value), A = some ad ∧ ∀ i, i < len → (rows i).length = m ∧ (∀ j, j < m → W.cell? ((ad.add (i * m)).add j) = (rows i)[j]?) ∧ ∃ n y, DataW.trod enc P W base spare held n e (rows i) = some y ∧ Light P e y.1) := by
  rcases DataW.trod_slice hu h with ⟨hcs, -⟩ | ⟨a, l, c, elems, rest, n, -, hcs, hx, -, hlc, -, hel, hc, -, -⟩
  · exact ⟨none, 0, 0, hcs, Nat.le_refl _, by simp, .inl rfl⟩
  · subst hx
    have hll := light_len hu hl
    rw [List.length_map, hel] at hll
    refine ⟨some a, l, c, hcs, hlc, hll, ?_⟩
    rcases Nat.eq_zero_or_pos l with h0 | h0
    · exact .inl h0
    · right
      rw [hm] at hc
      refine ⟨a, fun i => (W.cells? base (a.add (i * m)) m).getD [], rfl, fun i hi => ?_⟩
      have h1 := hc i hi
      cases hcs : W.cells? base (a.add (i * m)) m with
      | none =>
        rw [hcs] at h1
        simp at h1
        omega
      | some cs =>
        obtain ⟨-, hl2, hcell⟩ := World.cells?_some hcs
        rw [hcs] at h1
        simp only [Option.bind_some] at h1
        simp only [hcs, Option.getD_some]
        refine ⟨hl2, hcell, n, elems[i]'(by omega), ?_, light_elem hu hl (i := i) ?_⟩
        · rw [h1, List.getElem?_eq_getElem (by omega)]
        · simp [List.getElem?_eq_getElem (show i < elems.length by omega)]
end
theorem Shape.cells_get {α : Type} {S : Shape α} {l : List α} (hf : S.all l) (k : Nat) : (S.cells l)[k]? = (l[k / S.sz]?).bind (fun a => (S.enc a)[k % S.sz]?) := by
  have h1 : ∀ v ∈ l.map S.val, v.cells.size = S.sz := by
    intro v hv
    obtain ⟨a, ha, rfl⟩ := List.mem_map.1 hv
    rw [S.venc, List.size_toArray, S.len a (hf a ha)]
  have h2 := Great.flat_get S.pos (l.map S.val) h1 k
  have e : ((l.map S.val).flatMap fun v => v.cells.toList) = S.cells l := by
    rw [List.flatMap_map]
    unfold Shape.cells
    congr 1
    funext a
    rw [S.venc]
  rw [e] at h2
  rw [h2, List.getElem?_map]
  cases l[k / S.sz]? with
  | none => rfl
  | some a =>
    simp only [Option.map_some, Option.bind_some, S.venc]
    simp
theorem open_shp {H : Type} {enc : TypeId × Value → H} {W : World} {base : Nat} {spare : Nat → Bool} {held : Bool} {α : Type} (S : Shape α) (X : α → Prop) (hm : Tryd.prog.cellsOf S.t = S.sz) (hB : 0 < Tryd.prog.bytesOf S.t)
    (helem : ∀ fuel cs y, DataW.trod enc Tryd.prog W base spare held fuel S.t cs = some y → Light Tryd.prog S.t y.1 → ∃ a, cs = S.enc a ∧ S.ok a ∧ X a) {cs : List Value} {fuel : Nat} {x : DataW H × List MemPlace}
    (h : DataW.trod enc Tryd.prog W base spare held fuel S.ts cs = some x) (hl : Light Tryd.prog S.ts x.1) :
    ∃ A len cap l, cs = [.slice A len cap] ∧ RS S W A len cap l ∧ (∀ a ∈ l, X a) ∧ len * Tryd.prog.bytesOf S.t ≤ reachBytes := by
  obtain ⟨A, len, cap, hcs, hlc, hll, h0 | ⟨ad, rows, rfl, hr⟩⟩ := open_elems S.und hm h hl
  · subst h0
    exact ⟨A, 0, cap, [], hcs, RS.nil S W A cap, fun a ha => (by cases ha), hll⟩
  · have hrow : ∀ i, i < len → ∃ a, rows i = S.enc a ∧ S.ok a ∧ X a := fun i hi => by
      obtain ⟨-, -, n, y, hy, hly⟩ := hr i hi
      exact helem n _ y hy hly
    obtain ⟨f, hfun⟩ : ∃ f : Nat → α, ∀ i, i < len → rows i = S.enc (f i) ∧ S.ok (f i) ∧ X (f i) :=
      ⟨fun i => if hi : i < len then Classical.choose (hrow i hi) else S.z, fun i hi => by
        have := Classical.choose_spec (hrow i hi)
        simp only [hi, dif_pos]
        exact this⟩
    have hmem : ∀ a ∈ (List.range len).map f, ∃ i, i < len ∧ a = f i := fun a ha => by
      obtain ⟨i, hi, rfl⟩ := List.mem_map.1 ha
      exact ⟨i, by simpa using hi, rfl⟩
    have hall : S.all ((List.range len).map f) := fun a ha => by
      obtain ⟨i, hi, rfl⟩ := hmem a ha
      exact (hfun i hi).2.1
    have hsm : len ≤ 281474976710656 := by
      have h2 : len ≤ len * Tryd.prog.bytesOf S.t := Nat.le_mul_of_pos_right _ hB
      have h3 := reachBytes_lt
      omega
    refine ⟨some ad, len, cap, (List.range len).map f, hcs, ⟨⟨by rw [Shape.cells_len hall]; simp, hlc, hsm, fun hp => ⟨ad, rfl, fun j v hj => ?_⟩⟩, hall⟩, fun a ha => ?_, hll⟩
    · rw [Shape.cells_get hall] at hj
      have hpos := S.pos
      have hdm := Nat.div_add_mod' j S.sz
      cases hq : ((List.range len).map f)[j / S.sz]? with
      | none => rw [hq] at hj; cases hj
      | some a =>
        rw [hq] at hj
        simp only [Option.bind_some] at hj
        have hlt : j / S.sz < len := by
          have := (List.getElem?_eq_some_iff.1 hq).1
          simpa using this
        have hfa : a = f (j / S.sz) := by
          rw [List.getElem?_map, List.getElem?_range hlt] at hq
          simpa using hq.symm
        have h1 := (hr _ hlt).2.1 (j % S.sz) (Nat.mod_lt _ hpos)
        rw [add_add, hdm, (hfun _ hlt).1, ← hfa, hj] at h1
        exact h1
    · obtain ⟨i, hi, rfl⟩ := hmem a ha
      exact (hfun i hi).2.2
end Go.Proofs.YtnpeedmicjeleaaDoor

/- Two arrays of sixteen bytes, held equal. -/
namespace Go.Proofs.YtnpeedmicjeleaaDoor
open Go.RowKit
set_option linter.unusedVariables false
set_option linter.unusedSimpArgs false
set_option maxRecDepth 4000

theorem mapM_all {α β : Type} (f : α → Option β) (g : α → β) : ∀ is : List α, (∀ i ∈ is, f i = some (g i)) → is.mapM f = some (is.map g)
  | [], _ => rfl
  | i :: is, h => by
    rw [List.mapM_cons, h i (by simp), mapM_all f g is (fun j hj => h j (by simp [hj]))]
    rfl
theorem flat1 {α β : Type} (f : α → β) : ∀ is : List α, (is.map fun i => [f i]).flatten = is.map f
  | [] => rfl
  | i :: is => by
    have := flat1 f is
    simp only [List.map_cons, List.flatten_cons, this]
    rfl
theorem key_u8 (x : Int) (h0 : 0 ≤ x) (h1 : x < 256) : Tryd.prog.keyLits 1 5 [.int .u8 x] = some [Lit.int .u8 x] := by
  unfold Program.keyLits
  rw [Tryd.underlying5]
  simp [Lit.wf, IntKind.min, IntKind.max, IntKind.bits, IntKind.signed]
  omega
theorem keys_arr (l : List Int) (hl : B16 l) : (List.range 16).mapM (fun i => Tryd.prog.keyLits 1 5 (((arrV l).toList.drop (i * Tryd.prog.cellsOf 5)).take (Tryd.prog.cellsOf 5))) = some ((List.range 16).map fun i => [Lit.int .u8 (rd l ((i : Nat) : Int))]) := by
  have hc : Tryd.prog.cellsOf 5 = 1 := by kernel_rfl
  rw [hc]
  refine mapM_all _ _ _ (fun i hi => ?_)
  have hi' : i < l.length := by rw [hl.len]; exact List.mem_range.1 hi
  have hr := hl.rd (i : Int)
  have e : ((arrV l).toList.drop (i * 1)).take 1 = [.int .u8 (rd l (i : Int))] := by
    apply List.ext_getElem?
    intro j
    cases j with
    | zero =>
      rw [List.getElem?_take]
      simp only [Nat.mul_one, List.getElem?_drop, arrV, Nat.add_zero, if_pos (show 0 < 1 by omega), List.getElem?_cons_zero]
      exact nums_get .u8 l i hi'
    | succ j =>
      rw [List.getElem?_take, if_neg (by omega)]
      rfl
  rw [e, key_u8 _ hr.1 hr.2]
theorem arr_equal (l m : List Int) (hl : B16 l) (hm : B16 m) (w : World) : (Op.equal 45 (.agg (arrV l)) (.agg (arrV m))).run Tryd.prog w = .ok (decide (l = m)) w := by
  obtain ⟨i, hi, -⟩ : ∃ i, Tryd.prog.info? 5 = some i ∧ True := by
    obtain ⟨i0, hi, -⟩ := Option.map_eq_some_iff.1 info_u8
    exact ⟨i0, hi, trivial⟩
  have h1 := run_equalIn_array (P := Tryd.prog) w 9999 (arrV l) (arrV m) Tryd.underlying45 hi
  obtain ⟨r, hr, hiff⟩ := run_eqItems_plain (P := Tryd.prog) w 9998 (e := 5) (by kernel_rfl) (arrV l) (arrV m) (List.range 16) _ _ (keys_arr l hl) (keys_arr m hm)
  have h2 : (Op.equal 45 (.agg (arrV l)) (.agg (arrV m))).run Tryd.prog w = .ok r w := h1.trans hr
  suffices hs : r = decide (l = m) by rw [h2, hs]
  have hf : ∀ l : List Int, ((List.range 16).map fun i => [Lit.int .u8 (rd l ((i : Nat) : Int))]).flatten = (List.range 16).map fun i => Lit.int .u8 (rd l ((i : Nat) : Int)) := fun l => flat1 _ _
  rw [hf, hf] at hiff
  by_cases h : l = m
  · subst h
    rw [decide_eq_true rfl]
    exact hiff.2 rfl
  · rw [decide_eq_false h, Bool.eq_false_iff]
    intro hr
    apply h
    have h3 := hiff.1 hr
    apply List.ext_getElem (by rw [hl.len, hm.len])
    intro j h4 h5
    have hj : j < 16 := by rw [← hl.len]; exact h4
    have h6 := congrArg (fun x => x[j]?) h3
    simp [hj, rd, List.getD_eq_getElem?_getD, h4, h5] at h6
    exact h6
end Go.Proofs.YtnpeedmicjeleaaDoor

/- The comparison of two arrays as an operation. -/
namespace Go.Proofs.YtnpeedmicjeleaaDoor
open Go.RowKit
set_option linter.unusedVariables false
set_option linter.unusedSimpArgs false
set_option maxRecDepth 4000
end Go.Proofs.YtnpeedmicjeleaaDoor

/- Two prefixes, two addresses, held equal. -/
namespace Go.Proofs.YtnpeedmicjeleaaDoor
open Go.RowKit
set_option linter.unusedVariables false
set_option linter.unusedSimpArgs false
set_option maxRecDepth 4000

def lits (k : IntKind) (l : List Int) : List Lit := l.map fun x => .int k x
theorem keyl_arr (l : List Int) (hl : B16 l) : Tryd.prog.keyLits 2 45 (nums .u8 l) = some (lits .u8 l) := by
  have hk := keys_arr l hl
  have he : (arrV l).toList = nums .u8 l := by simp [arrV]
  rw [he] at hk
  unfold Program.keyLits
  rw [Tryd.underlying45]
  simp only
  rw [if_pos (by rw [show (nums .u8 l).length = 16 by simp [nums, hl.len]]; kernel_rfl), hk]
  simp only [Option.map_some, flat1]
  refine congrArg some ?_
  unfold lits
  apply List.ext_getElem
  · simp [hl.len]
  · intro i h1 h2
    simp only [List.length_map, List.length_range] at h1
    simp [rd, List.getD_eq_getElem?_getD, hl.len, h1]
theorem keyl_int (d : Nat) (v : Int) (hv : (Lit.int .i64 v).wf = true) : Tryd.prog.keyLits (d + 1) 3 [.int .i64 v] = some [.int .i64 v] := by
  unfold Program.keyLits
  rw [Tryd.underlying3]
  simp only
  rw [if_pos ⟨trivial, hv⟩]
theorem keyl_adr (v : Int) (l : List Int) (hl : B16 l) (hv : (Lit.int .i64 v).wf = true) : Tryd.prog.keyLits 3 47 (adrV v l).toList = some (.int .i64 v :: lits .u8 l) := by
  unfold Program.keyLits
  rw [Tryd.underlying47]
  simp only
  have h1 : (adrV v l).toList = .int .i64 v :: nums .u8 l := by simp [adrV]
  rw [h1, if_pos ⟨by rw [show (Value.int IntKind.i64 v :: nums .u8 l).length = 17 by simp [nums, hl.len]]; kernel_rfl, by kernel_rfl⟩]
  have c1 : Tryd.prog.cellsOf 3 = 1 := by kernel_rfl
  have c2 : Tryd.prog.cellsOf 45 = 16 := by kernel_rfl
  simp only [List.mapM_cons, List.mapM_nil, c1, c2, List.drop_zero, List.take_succ_cons, List.take_zero, List.drop_succ_cons]
  rw [keyl_int 1 v hv, List.take_of_length_le (by simp [nums, hl.len]), keyl_arr l hl]
  simp
theorem keyl_pfx (v : Int) (l : List Int) (b : Int) (hl : B16 l) (hv : (Lit.int .i64 v).wf = true) (hb : (Lit.int .i64 b).wf = true) : Tryd.prog.keyLits 4 49 (pfxV v l b).toList = some (.int .i64 v :: lits .u8 l ++ [.int .i64 b]) := by
  unfold Program.keyLits
  rw [Tryd.underlying49]
  simp only
  have h1 : (pfxV v l b).toList = .int .i64 v :: (nums .u8 l ++ [.int .i64 b]) := by simp [pfxV]
  rw [h1, if_pos ⟨by rw [show (Value.int IntKind.i64 v :: (nums .u8 l ++ [Value.int IntKind.i64 b])).length = 18 by simp [nums, hl.len]]; kernel_rfl, by kernel_rfl⟩]
  have c1 : Tryd.prog.cellsOf 47 = 17 := by kernel_rfl
  have c2 : Tryd.prog.cellsOf 3 = 1 := by kernel_rfl
  have hln : (nums .u8 l).length = 16 := by simp [nums, hl.len]
  have e1 : (Value.int IntKind.i64 v :: (nums .u8 l ++ [Value.int IntKind.i64 b])).take 17 = (adrV v l).toList := by
    simp [adrV, List.take_append, hln]
  have e2 : (Value.int IntKind.i64 v :: (nums .u8 l ++ [Value.int IntKind.i64 b])).drop 17 = [.int .i64 b] := by
    simp [List.drop_append, hln]
  simp only [List.mapM_cons, List.mapM_nil, c1, c2, List.drop_zero]
  rw [e1, e2, keyl_adr v l hl hv]
  simp only [List.take_succ_cons, List.take_zero]
  rw [keyl_int 2 b hb]
  simp
theorem lits_inj {k : IntKind} : ∀ {l m : List Int}, lits k l = lits k m → l = m
  | [], [], _ => rfl
  | [], _ :: _, h => by simp [lits] at h
  | _ :: _, [], h => by simp [lits] at h
  | a :: l, b :: m, h => by
    simp only [lits, List.map_cons, List.cons.injEq, Lit.int.injEq, true_and] at h
    rw [h.1, lits_inj (l := l) (m := m) h.2]
theorem pfx_formed (v : Int) (l : List Int) (b : Int) (hl : B16 l) : (Value.agg (pfxV v l b)).formed Tryd.prog 49 = true := by
  simp only [Value.formed, Tryd.underlying49, pfx_size hl.len]
  kernel_rfl
structure Pfx.ok (p : Pfx) : Prop where
  l : B16 p.l
  v : (Lit.int .i64 p.v).wf = true
  b : (Lit.int .i64 p.b).wf = true
def Pfx.eqB (p q : Pfx) : Bool := decide (p.v = q.v) && decide (p.l = q.l) && decide (p.b = q.b)
theorem Pfx.eqB_iff (p q : Pfx) : p.eqB q = true ↔ p = q := by
  unfold Pfx.eqB
  simp only [Bool.and_eq_true, decide_eq_true_eq]
  constructor
  · rintro ⟨⟨h1, h2⟩, h3⟩
    cases p; cases q
    simp_all
  · rintro rfl
    exact ⟨⟨rfl, rfl⟩, rfl⟩
theorem pfx_equal (p q : Pfx) (hp : p.ok) (hq : q.ok) (w : World) : (Op.equal 49 (.agg (pfxV p.v p.l p.b)) (.agg (pfxV q.v q.l q.b))).run Tryd.prog w = .ok (p.eqB q) w := by
  obtain ⟨r, hr, hiff⟩ := run_equalIn_deep (P := Tryd.prog) 9996 4 49 (by kernel_rfl) w 4 4 (.agg (pfxV p.v p.l p.b)) (.agg (pfxV q.v q.l q.b)) _ _ (pfx_formed _ _ _ hp.l) (pfx_formed _ _ _ hq.l) (keyl_pfx _ _ _ hp.l hp.v hp.b) (keyl_pfx _ _ _ hq.l hq.v hq.b)
  have h2 : (Op.equal 49 (.agg (pfxV p.v p.l p.b)) (.agg (pfxV q.v q.l q.b))).run Tryd.prog w = .ok r w := hr
  suffices hs : r = p.eqB q by rw [h2, hs]
  rw [Bool.eq_iff_iff, hiff, Pfx.eqB_iff]
  constructor
  · intro h
    simp only [List.cons_append, List.cons.injEq, Lit.int.injEq, true_and] at h
    obtain ⟨h3, h4⟩ := h
    obtain ⟨h5, h6⟩ := List.append_inj h4 (by simp [lits, hp.l.len, hq.l.len])
    simp only [List.cons.injEq, Lit.int.injEq, true_and, and_true] at h6
    cases p; cases q
    simp only at h3 h5 h6
    rw [h3, lits_inj h5, h6]
  · rintro rfl
    rfl
section
variable {r : Operand → Value} {o : Oper} {x y : Operand} {ty : TypeId}
theorem exec_eql (t : TypeId) (hgt : Tryd.prog.eqGuardType Tryd.prog.depth t = false) (ho : o.op = .binOp .eql t x y ty) (cx cy : Array Value) (hx : r x = .agg cx) (hy : r y = .agg cy) (w : World) {b : Bool}
    (he : (Op.equal t (.agg cx) (.agg cy)).run Tryd.prog w = .ok b w) : (execOp r o).run Tryd.prog w = .ok (.value (.bool b)) w := by
  have hg : (eqGuard .eql t x y (.agg cx) (.agg cy)).run Tryd.prog w = .ok () w := by
    simp [eqGuard, Sem.run_bind, run_program, hgt]
  have hq : (binOp .eql t (.agg cx) (.agg cy)).run Tryd.prog w = .ok (.bool b) w := by
    show ((do pure (Value.bool (← Op.equal t (.agg cx) (.agg cy))) : Sem Value)).run Tryd.prog w = _
    rw [Sem.run_bind, he]
    rfl
  unfold execOp
  simp only [ho, hx, hy, Sem.run_bind, hg, hq, Result.andThen_ok, Sem.run_pure]
theorem exec_neq (t : TypeId) (hgt : Tryd.prog.eqGuardType Tryd.prog.depth t = false) (ho : o.op = .binOp .neq t x y ty) (cx cy : Array Value) (hx : r x = .agg cx) (hy : r y = .agg cy) (w : World) {b : Bool}
    (he : (Op.equal t (.agg cx) (.agg cy)).run Tryd.prog w = .ok b w) : (execOp r o).run Tryd.prog w = .ok (.value (.bool (!b))) w := by
  have hg : (eqGuard .neq t x y (.agg cx) (.agg cy)).run Tryd.prog w = .ok () w := by
    simp [eqGuard, Sem.run_bind, run_program, hgt]
  have hq : (binOp .neq t (.agg cx) (.agg cy)).run Tryd.prog w = .ok (.bool (!b)) w := by
    show ((do pure (Value.bool (!(← Op.equal t (.agg cx) (.agg cy)))) : Sem Value)).run Tryd.prog w = _
    rw [Sem.run_bind, he]
    rfl
  unfold execOp
  simp only [ho, hx, hy, Sem.run_bind, hg, hq, Result.andThen_ok, Sem.run_pure]
theorem pfx_eql_exec (ho : o.op = .binOp .eql 49 x y ty) (p q : Pfx) (hx : r x = .agg (pfxV p.v p.l p.b)) (hy : r y = .agg (pfxV q.v q.l q.b)) (hp : p.ok) (hq : q.ok) (w : World) : (execOp r o).run Tryd.prog w = .ok (.value (.bool (p.eqB q))) w :=
  exec_eql 49 (by kernel_rfl) ho _ _ hx hy w (pfx_equal p q hp hq w)
theorem pfx_neq_exec (ho : o.op = .binOp .neq 49 x y ty) (p q : Pfx) (hx : r x = .agg (pfxV p.v p.l p.b)) (hy : r y = .agg (pfxV q.v q.l q.b)) (hp : p.ok) (hq : q.ok) (w : World) : (execOp r o).run Tryd.prog w = .ok (.value (.bool (!p.eqB q))) w :=
  exec_neq 49 (by kernel_rfl) ho _ _ hx hy w (pfx_equal p q hp hq w)
end
end Go.Proofs.YtnpeedmicjeleaaDoor

/- Arguments that are addresses and prefixes, opened. -/
namespace Go.Proofs.YtnpeedmicjeleaaDoor
open Go.ChangeShapes Go.WideShapes Go.ChangeAt Go.RowKit
set_option linter.unusedVariables false
set_option linter.unusedSimpArgs false
set_option maxRecDepth 4000
def cellI : Option Value → Int
  | some (.int _ y) => y
  | _ => 0
section
variable {H : Type} {enc : TypeId × Value → H} {W : World} {base : Nat} {spare : Nat → Bool} {held : Bool} {fuel : Nat} {x : DataW H × List MemPlace}
theorem open_arr16 {cs : List Value} (h : DataW.trod enc Tryd.prog W base spare held fuel 45 cs = some x) : ∃ l, cs = nums .u8 l ∧ B16 l := by
  obtain ⟨xs, m, -, -, hlen, hxl, hel⟩ := DataW.trod_array Tryd.underlying45 h
  have c1 : Tryd.prog.cellsOf 5 = 1 := by kernel_rfl
  have c2 : Tryd.prog.cellsOf 45 = 16 := by kernel_rfl
  rw [c2] at hlen
  have hat : ∀ i, i < 16 → ∃ y : Int, cs[i]? = some (.int .u8 y) ∧ (Lit.int .u8 y).wf = true := by
    intro i hi
    have h1 := hel i hi
    rw [c1, Nat.mul_one] at h1
    cases hx : xs[i]? with
    | none =>
      rw [hx] at h1
      exfalso
      have : xs.length ≤ i := List.getElem?_eq_none_iff.1 hx
      omega
    | some x0 =>
      rw [hx] at h1
      obtain ⟨y, hy, -, hw⟩ := DataW.trod_int Tryd.underlying5 h1
      refine ⟨y, ?_, hw⟩
      have h2 := congrArg (fun l => l[0]?) hy
      simpa [List.getElem?_take, List.getElem?_drop] using h2
  refine ⟨(List.range 16).map fun i => cellI cs[i]?, ?_, ?_, ?_⟩
  · apply List.ext_getElem (by simp [nums, hlen])
    intro i h1 h2
    obtain ⟨y, hy, -⟩ := hat i (by omega)
    have h3 : cs[i] = .int .u8 y := by
      rw [List.getElem?_eq_getElem h1] at hy
      injection hy
    simp [nums, h3, hy, cellI]
  · simp
  · intro z hz
    simp only [List.mem_map, List.mem_range] at hz
    obtain ⟨i, hi, rfl⟩ := hz
    obtain ⟨y, hy, hw⟩ := hat i hi
    simp only [hy, cellI]
    simp [Lit.wf, IntKind.min, IntKind.max, IntKind.bits, IntKind.signed] at hw
    omega
theorem one_of {l : List Value} {v : Value} (h : l.take 1 = [v]) : l = v :: l.drop 1 := by
  cases l with
  | nil => cases h
  | cons a r =>
    simp only [List.take_succ_cons, List.take_zero, List.cons.injEq, and_true] at h
    rw [h]
    rfl
theorem open_adr_cells {cs : List Value} (h : DataW.trod enc Tryd.prog W base spare held fuel 47 cs = some x) : ∃ v l, cs = .int .i64 v :: nums .u8 l ∧ B16 l ∧ (Lit.int .i64 v).wf = true := by
  obtain ⟨xs, m, -, -, hlen, hxl, hg⟩ := DataW.trod_struct Tryd.underlying47 h
  have c1 : Tryd.prog.cellsOf 3 = 1 := by kernel_rfl
  have c2 : Tryd.prog.cellsOf 45 = 16 := by kernel_rfl
  have c3 : Tryd.prog.cellsOf 47 = 17 := by kernel_rfl
  have h0 : DataW.trod enc Tryd.prog W base spare held m 3 ((cs.drop 0).take (Tryd.prog.cellsOf 3)) = xs[0]? := hg 0 _ rfl
  have h1 : DataW.trod enc Tryd.prog W base spare held m 45 ((cs.drop 1).take (Tryd.prog.cellsOf 45)) = xs[1]? := hg 1 _ rfl
  rw [c3] at hlen
  rw [c1, List.drop_zero] at h0
  rw [c2] at h1
  have hx2 : xs.length = 2 := hxl
  match xs, hx2 with
  | [x0, x1], _ =>
    obtain ⟨v, hv, -, hw⟩ := DataW.trod_int Tryd.underlying3 (show DataW.trod enc Tryd.prog W base spare held m 3 (cs.take 1) = some x0 from h0)
    obtain ⟨l, hl, hb⟩ := open_arr16 (show DataW.trod enc Tryd.prog W base spare held m 45 ((cs.drop 1).take 16) = some x1 from h1)
    rw [List.take_of_length_le (by rw [List.length_drop]; omega)] at hl
    exact ⟨v, l, by rw [one_of hv, hl], hb, hw⟩
theorem open_pfx_cells {cs : List Value} (h : DataW.trod enc Tryd.prog W base spare held fuel 49 cs = some x) : ∃ v l b, cs = .int .i64 v :: (nums .u8 l ++ [.int .i64 b]) ∧ B16 l ∧ (Lit.int .i64 v).wf = true ∧ (Lit.int .i64 b).wf = true := by
  obtain ⟨xs, m, -, -, hlen, hxl, hg⟩ := DataW.trod_struct Tryd.underlying49 h
  have c1 : Tryd.prog.cellsOf 3 = 1 := by kernel_rfl
  have c2 : Tryd.prog.cellsOf 47 = 17 := by kernel_rfl
  have c3 : Tryd.prog.cellsOf 49 = 18 := by kernel_rfl
  have h0 : DataW.trod enc Tryd.prog W base spare held m 47 ((cs.drop 0).take (Tryd.prog.cellsOf 47)) = xs[0]? := hg 0 _ rfl
  have h1 : DataW.trod enc Tryd.prog W base spare held m 3 ((cs.drop 17).take (Tryd.prog.cellsOf 3)) = xs[1]? := hg 1 _ rfl
  rw [c3] at hlen
  rw [c2, List.drop_zero] at h0
  rw [c1] at h1
  have hx2 : xs.length = 2 := hxl
  match xs, hx2 with
  | [x0, x1], _ =>
    obtain ⟨v, l, hvl, hb, hw⟩ := open_adr_cells (show DataW.trod enc Tryd.prog W base spare held m 47 (cs.take 17) = some x0 from h0)
    obtain ⟨b, hv, -, hwb⟩ := DataW.trod_int Tryd.underlying3 (show DataW.trod enc Tryd.prog W base spare held m 3 ((cs.drop 17).take 1) = some x1 from h1)
    rw [List.take_of_length_le (by rw [List.length_drop]; omega)] at hv
    refine ⟨v, l, b, ?_, hb, hw, hwb⟩
    rw [← List.take_append_drop 17 cs, hvl, hv]
    rfl
end
end Go.Proofs.YtnpeedmicjeleaaDoor

/- Plain laws of layer 5, fourth part: what bytes tell. -/
namespace Go.Proofs.YtnpeedmicjeleaaDoor
set_option linter.unusedVariables false
set_option linter.unusedSimpArgs false
set_option maxRecDepth 4000

def fullB (b : Int) : Nat := ((b + 7) / 8).toNat
/-- Bytes, noughts behind them: sixteen. -/
def pad (l : List Int) : List Int := l ++ List.replicate (16 - l.length) 0
theorem pad_len {l : List Int} (h : l.length ≤ 16) : (pad l).length = 16 := by simp [pad]; omega
theorem pad_16 {l : List Int} (h : l.length ≤ 16) (hb : Bytes l) : B16 (pad l) :=
  ⟨pad_len h, hb.append (fun x hx => by have := List.eq_of_mem_replicate hx; omega)⟩
theorem rd_pad (l : List Int) (i : Nat) : rd (pad l) (i : Int) = if i < l.length then rd l (i : Int) else 0 := by
  simp only [rd, pad, Int.toNat_natCast, List.getD_eq_getElem?_getD]
  by_cases h : i < l.length
  · rw [if_pos h, List.getElem?_append_left h]
  · rw [if_neg h, List.getElem?_append_right (by omega), List.getElem?_replicate]
    split <;> rfl
theorem rd_take (l : List Int) (k i : Nat) : rd (l.take k) (i : Int) = if i < k then rd l (i : Int) else 0 := by
  simp only [rd, Int.toNat_natCast, List.getD_eq_getElem?_getD, List.getElem?_take]
  split <;> rfl
theorem rd_setN (l : List Int) (q i : Nat) (y : Int) (hq : q < l.length) : rd (l.set q y) (i : Int) = if i = q then y else rd l (i : Int) := by
  simp only [rd, Int.toNat_natCast, List.getD_eq_getElem?_getD, List.getElem?_set]
  by_cases h : i = q
  · subst h; simp [hq]
  · rw [if_neg (fun e => h e.symm), if_neg h]
theorem ext_rd {l m : List Int} (hlm : l.length = m.length) (h : ∀ i : Nat, i < l.length → rd l (i : Int) = rd m (i : Int)) : l = m := by
  apply List.ext_getElem hlm
  intro j h1 h2
  have := h j h1
  simpa [rd, List.getD_eq_getElem?_getD, h1, h2] using this
theorem pad_set (xs : List Int) (k : Nat) (hk : k < xs.length) (h16 : k < 16) : (pad (xs.take k)).set k (rd xs (k : Int)) = pad (xs.take (k + 1)) := by
  have h1 : (xs.take k).length = k := by rw [List.length_take]; omega
  have h2 : (xs.take (k + 1)).length = k + 1 := by rw [List.length_take]; omega
  refine ext_rd (by rw [List.length_set, pad_len (by omega), pad_len (by omega)]) (fun i hi => ?_)
  rw [rd_setN _ _ _ _ (by rw [pad_len (by omega)]; omega), rd_pad, rd_pad, h1, h2, rd_take, rd_take]
  by_cases h : i = k
  · subst h; rw [if_pos rfl, if_pos (by omega), if_pos (by omega)]
  · rw [if_neg h]
    by_cases h3 : i < k
    · rw [if_pos h3, if_pos h3, if_pos (by omega), if_pos (by omega)]
    · rw [if_neg h3, if_neg (by omega)]
theorem cut_clear {l : List Int} (hl : B16 l) (k : Nat) : cutA l k = l ↔ clearA l k = true := by
  rw [clearA_iff]
  constructor
  · intro h i h1 h2
    rw [← h, bitA_cut _ _ _ h2, if_neg (by omega)]
  · intro h
    refine ext16 (cutA_16 hl _) hl (fun i hi => ?_)
    rw [bitA_cut _ _ _ hi]
    by_cases h1 : i < k
    · rw [if_pos (by omega)]
    · rw [if_neg (by omega), h i (by omega) hi]
/-- A bit behind the last byte is nought. -/
theorem bit_pad (l : List Int) (i : Nat) (h : 8 * l.length ≤ i) : bitA (pad l) i = 0 := by
  unfold bitA
  rw [rd_pad, if_neg (by omega)]
  simp
theorem clear_pad (l : List Int) (k : Nat) (h : 8 * l.length ≤ k) : clearA (pad l) k = true := by
  rw [clearA_iff]
  intro i h1 h2
  exact bit_pad l i (by omega)

/-- What the bytes of an address are, of which so many bits may be set. -/
def someE (xs : List Int) (bits : Nat) (wrong : Int) : Int := if xs.length < fullB bits then 7 else if clearA (pad (xs.take (fullB bits))) bits then 0 else wrong
def someL (xs : List Int) (bits : Nat) (wrong : Int) : List Int := if someE xs bits wrong = 0 then pad (xs.take (fullB bits)) else List.replicate 16 0
theorem fullB_lt {bits i : Nat} (h : i + 1 < fullB bits) : 8 * (i + 1) ≤ bits := by unfold fullB at h; omega
theorem fullB_le {bits : Nat} (h : bits ≤ 128) : fullB bits ≤ 16 := by unfold fullB; omega
theorem some_short {xs : List Int} {bits : Nat} {wrong : Int} (h : xs.length < fullB bits) : someE xs bits wrong = 7 := if_pos h
theorem some_wrong {xs : List Int} {bits : Nat} {wrong : Int} (h : fullB bits ≤ xs.length) (hc : clearA (pad (xs.take (fullB bits))) bits = false) : someE xs bits wrong = wrong := by
  unfold someE
  rw [if_neg (by omega), if_neg (by rw [hc]; simp)]
theorem some_ok {xs : List Int} {bits : Nat} {wrong : Int} (h : fullB bits ≤ xs.length) (hc : clearA (pad (xs.take (fullB bits))) bits = true) : someE xs bits wrong = 0 := by
  unfold someE
  rw [if_neg (by omega), if_pos hc]
theorem someL_no {xs : List Int} {bits : Nat} {wrong : Int} (h : someE xs bits wrong ≠ 0) : someL xs bits wrong = List.replicate 16 0 := if_neg h
theorem someL_ok {xs : List Int} {bits : Nat} {wrong : Int} (h : someE xs bits wrong = 0) : someL xs bits wrong = pad (xs.take (fullB bits)) := if_pos h
theorem someL_16 {xs : List Int} {bits : Nat} {wrong : Int} (hx : Bytes xs) (hb : bits ≤ 128) : B16 (someL xs bits wrong) := by
  unfold someL
  split
  · exact pad_16 (by rw [List.length_take]; have := fullB_le hb; omega) (hx.take _)
  · exact ⟨rfl, fun x hx => by have := List.eq_of_mem_replicate hx; omega⟩

def verE (xs : List Int) (wrong : Int) : Int := if xs.length = 0 then 7 else if widthA (rd xs 0) = 0 then wrong else 0
def verV (xs : List Int) (wrong : Int) : Int := if verE xs wrong = 0 then rd xs 0 else 0
/-- A prefix. -/
def decPE (xs : List Int) : Int := if verE xs 151 ≠ 0 then verE xs 151 else if xs.length < 2 then 7 else if (widthA (rd xs 0) : Int) < rd xs 1 then 151 else someE (xs.drop 2) (rd xs 1).toNat 151
def decP (xs : List Int) : Pfx := if decPE xs = 0 then ⟨rd xs 0, pad ((xs.drop 2).take (fullB (rd xs 1))), rd xs 1⟩ else ⟨0, List.replicate 16 0, 0⟩
def decPN (xs : List Int) : Int := if decPE xs = 0 then 2 + fullB (rd xs 1) else 0
theorem verE_cons {xs : List Int} (h : 0 < xs.length) (wrong : Int) : verE xs wrong = if widthA (rd xs 0) = 0 then wrong else 0 := by
  unfold verE
  rw [if_neg (by omega)]
end Go.Proofs.YtnpeedmicjeleaaDoor

/- Plain laws of layer 5, fifth part: the prefixes of an address. -/
namespace Go.Proofs.YtnpeedmicjeleaaDoor
set_option linter.unusedVariables false
set_option linter.unusedSimpArgs false
set_option maxRecDepth 4000

theorem rightA_iff (v : Int) (l : List Int) : rightA v l = true ↔ widthA v ≠ 0 ∧ ∀ i, widthA v ≤ i → i < 128 → bitA l i = 0 := by
  unfold rightA
  simp only [Bool.and_eq_true, decide_eq_true_eq, clearA_iff]
end Go.Proofs.YtnpeedmicjeleaaDoor

/- Plain laws of layer 5, sixth part: there and back. -/
namespace Go.Proofs.YtnpeedmicjeleaaDoor
set_option linter.unusedVariables false
set_option linter.unusedSimpArgs false
set_option maxRecDepth 4000

def encP (p : Pfx) : List Int := p.v % 256 :: p.b % 256 :: p.l.take (fullB p.b)
theorem rd_0 (a : Int) (l : List Int) : rd (a :: l) 0 = a := rfl
theorem rd_1 (a b : Int) (l : List Int) : rd (a :: b :: l) 1 = b := rfl
theorem right_v {p : Pfx} (h : p.right = true) : p.v = 4 ∨ p.v = 6 := by
  have h1 := ((rightA_iff _ _).1 ((p.right_iff).1 h).1).1
  unfold widthA at h1
  split at h1
  · rename_i h2; exact .inl h2
  · split at h1
    · rename_i h2; exact .inr h2
    · exact absurd rfl h1
theorem right_b {p : Pfx} (h : p.right = true) : ∃ b : Nat, p.b = b ∧ b ≤ widthA p.v ∧ b ≤ 128 := by
  obtain ⟨h1, h2, h3, h4⟩ := (p.right_iff).1 h
  have := widthA_le p.v
  exact ⟨p.b.toNat, by omega, by omega, by omega⟩
/-- The bytes behind those that stay are nought. -/
theorem right_pad {p : Pfx} (hp : B16 p.l) (h : p.right = true) : pad (p.l.take (fullB p.b)) = p.l := by
  obtain ⟨b, hb, hw, h128⟩ := right_b h
  have hz := ((p.right_iff).1 h).2.2.2
  rw [hb]
  have hf := fullB_le h128
  have hl : (p.l.take (fullB b)).length = fullB b := by rw [List.length_take, hp.len]; omega
  refine ext16 (pad_16 (by omega) (hp.rng.take _)) hp (fun i hi => ?_)
  obtain ⟨q, r, rfl, hr⟩ : ∃ q r, i = 8 * q + r ∧ r < 8 := ⟨i / 8, i % 8, by omega, by omega⟩
  rw [bitA_mk _ _ _ hr, bitA_mk _ _ _ hr, rd_pad, hl]
  by_cases hq : q < fullB b
  · rw [if_pos hq, rd_take, if_pos hq]
  · rw [if_neg hq]
    have := hz (8 * q + r) (by rw [hb]; unfold fullB at hq; omega) hi
    rw [bitA_mk _ _ _ hr] at this
    rw [this]
    simp
theorem encP_len {p : Pfx} (hp : B16 p.l) (h : p.right = true) : (encP p).length = 2 + fullB p.b := by
  obtain ⟨b, hb, hw, h128⟩ := right_b h
  have hf := fullB_le h128
  simp [encP, hp.len, hb]
  omega
/-- What was encoded is decoded, whatever stands behind. -/
theorem dec_enc {p : Pfx} (hp : B16 p.l) (h : p.right = true) (raw : List Int) : decPE (encP p ++ raw) = 0 ∧ decP (encP p ++ raw) = p ∧ decPN (encP p ++ raw) = (encP p).length := by
  obtain ⟨b, hb, hw, h128⟩ := right_b h
  have hf := fullB_le h128
  have hv := right_v h
  have hpad := right_pad hp h
  have hz := ((p.right_iff).1 h).2.2.2
  have h256 : p.v % 256 = p.v := by rcases hv with h | h <;> rw [h] <;> rfl
  have hb256 : p.b % 256 = p.b := by omega
  have e : encP p ++ raw = p.v :: p.b :: (p.l.take (fullB p.b) ++ raw) := by unfold encP; rw [h256, hb256]; rfl
  have hw0 : widthA p.v ≠ 0 := by rcases hv with h | h <;> rw [h] <;> decide
  have hver : verE (p.v :: p.b :: (p.l.take (fullB p.b) ++ raw)) 151 = 0 := by
    rw [verE_cons (by simp), rd_0, if_neg hw0]
  have hl : (p.l.take (fullB p.b)).length = fullB p.b := by rw [List.length_take, hp.len, hb]; omega
  have htk : (p.l.take (fullB p.b) ++ raw).take (fullB p.b) = p.l.take (fullB p.b) := List.take_left' hl
  have hse : someE (p.l.take (fullB p.b) ++ raw) b 151 = 0 := by
    refine some_ok (by rw [List.length_append, hl, hb]; omega) ?_
    rw [← hb, htk, hpad, clearA_iff]
    intro i h1 h2
    exact hz i (by omega) h2
  have hpe : decPE (p.v :: p.b :: (p.l.take (fullB p.b) ++ raw)) = 0 := by
    unfold decPE
    rw [if_neg (by rw [hver]; simp), if_neg (by simp), rd_0, rd_1, if_neg (by omega), hb, Int.toNat_natCast, ← hb]
    exact hse
  rw [e]
  refine ⟨hpe, ?_, ?_⟩
  · unfold decP
    rw [if_pos hpe, rd_0, rd_1]
    show Pfx.mk p.v (pad ((p.l.take (fullB p.b) ++ raw).take (fullB p.b))) p.b = p
    rw [htk, hpad]
  · unfold decPN
    rw [if_pos hpe, rd_1, encP_len hp h]
    omega
/-- Of each beginning it is too short. -/
theorem dec_cut {p : Pfx} (hp : B16 p.l) (h : p.right = true) (k : Nat) (hk : k < (encP p).length) : decPE ((encP p).take k) = 7 := by
  obtain ⟨b, hb, hw, h128⟩ := right_b h
  have hf := fullB_le h128
  have hv := right_v h
  have h256 : p.v % 256 = p.v := by rcases hv with h | h <;> rw [h] <;> rfl
  have hb256 : p.b % 256 = p.b := by omega
  have e : encP p = p.v :: p.b :: (p.l.take (fullB p.b)) := by unfold encP; rw [h256, hb256]
  have hw0 : widthA p.v ≠ 0 := by rcases hv with h | h <;> rw [h] <;> decide
  rw [encP_len hp h, hb] at hk
  rw [e]
  match k with
  | 0 => rfl
  | 1 =>
    have hver : verE [p.v] 151 = 0 := by
      rw [verE_cons (by simp), rd_0, if_neg hw0]
    show decPE [p.v] = 7
    unfold decPE
    rw [if_neg (by rw [hver]; simp), if_pos (by simp)]
  | j + 2 =>
    show decPE (p.v :: p.b :: ((p.l.take (fullB p.b)).take j)) = 7
    have hver : verE (p.v :: p.b :: ((p.l.take (fullB p.b)).take j)) 151 = 0 := by
      rw [verE_cons (by simp), rd_0, if_neg hw0]
    unfold decPE
    rw [if_neg (by rw [hver]; simp), if_neg (by simp), rd_0, rd_1, if_neg (by omega), hb, Int.toNat_natCast]
    refine some_short ?_
    show ((p.l.take (fullB b)).take j).length < fullB b
    rw [List.length_take, List.length_take]
    omega
/-- What is decoded is encoded into the same bytes. -/
theorem enc_dec {xs : List Int} (hx : Bytes xs) (h : decPE xs = 0) : (decP xs).right = true ∧ B16 (decP xs).l ∧ ∃ n : Nat, decPN xs = n ∧ n ≤ xs.length ∧ encP (decP xs) = xs.take n := by
  have h0 := h
  unfold decPE at h
  split at h
  · rename_i hv; exact absurd h hv
  · rename_i hv
    split at h
    · cases h
    · rename_i h2
      split at h
      · cases h
      · rename_i hw
        have hv' : verE xs 151 = 0 := by simpa using hv
        have hr0 := hx.getD 0
        have hr1 := hx.getD 1
        have e0 : rd xs 0 = xs.getD 0 0 := rfl
        have e1 : rd xs 1 = xs.getD 1 0 := rfl
        obtain ⟨b, hb⟩ := Int.eq_ofNat_of_zero_le (show 0 ≤ rd xs 1 by rw [e1]; exact hr1.1)
        rw [hb, Int.toNat_natCast] at h
        have hwl := widthA_le (rd xs 0)
        have hbw : b ≤ widthA (rd xs 0) := by omega
        have hf := fullB_le (bits := b) (by omega)
        have hlen : fullB b ≤ (xs.drop 2).length := by
          rcases Nat.lt_or_ge (xs.drop 2).length (fullB b) with hh | hh
          · rw [some_short hh] at h; cases h
          · exact hh
        have hcl : clearA (pad ((xs.drop 2).take (fullB b))) b = true := by
          cases hc : clearA (pad ((xs.drop 2).take (fullB b))) b
          · rw [some_wrong hlen hc] at h; cases h
          · rfl
        have hdp : decP xs = ⟨rd xs 0, pad ((xs.drop 2).take (fullB b)), b⟩ := by unfold decP; rw [if_pos h0, hb]
        have hdn : decPN xs = ((2 + fullB b : Nat) : Int) := by unfold decPN; rw [if_pos h0, hb]; omega
        have h16 : B16 (pad ((xs.drop 2).take (fullB b))) := pad_16 (by rw [List.length_take]; omega) ((hx.drop 2).take _)
        rw [List.length_drop] at hlen
        have hw0 : widthA (rd xs 0) ≠ 0 := by
          intro hz
          rw [verE_cons (by omega), if_pos hz] at hv'
          cases hv'
        have hright : Pfx.right ⟨rd xs 0, pad ((xs.drop 2).take (fullB b)), b⟩ = true := by
          rw [Pfx.right_iff]
          refine ⟨?_, by show (0 : Int) ≤ (b : Int); omega, by show (b : Int) ≤ widthA (rd xs 0); omega, fun i h1 h2 => ?_⟩
          · rw [rightA_iff]
            exact ⟨hw0, fun i h1 h2 => (clearA_iff _ _).1 hcl i (by have h1' : widthA (rd xs 0) ≤ i := h1; omega) h2⟩
          · have h1' : (b : Int) ≤ i := h1
            exact (clearA_iff _ _).1 hcl i (by omega) h2
        rw [hdp]
        refine ⟨hright, h16, 2 + fullB b, hdn, by omega, ?_⟩
        have hl2 : ((xs.drop 2).take (fullB b)).length = fullB b := by rw [List.length_take, List.length_drop]; omega
        rcases xs with _ | ⟨a, _ | ⟨c, r⟩⟩
        · exact absurd (by simp) h2
        · exact absurd (by simp) h2
        · clear h0 h
          have ea : rd (a :: c :: r) 0 = a := rfl
          have ec : rd (a :: c :: r) 1 = c := rfl
          rw [ec] at hb
          subst hb
          have ha : a % 256 = a := by have := hx a (by simp); omega
          have hb' : (b : Int) % 256 = b := by have := hx (b : Int) (by simp); omega
          show (a % 256) :: ((b : Int) % 256) :: (pad (r.take (fullB b))).take (fullB b) = (a :: (b : Int) :: r).take (2 + fullB b)
          rw [ha, hb', show 2 + fullB b = fullB b + 1 + 1 by omega, List.take_succ_cons, List.take_succ_cons]
          congr 2
          unfold pad
          exact List.take_left' hl2
end Go.Proofs.YtnpeedmicjeleaaDoor

/- Plain laws of tables (layer 9): rows by rising prefixes; the longest match; set, drop and get. -/
namespace Go.Proofs.YtnpeedmicjeleaaDoor
set_option linter.unusedVariables false
set_option linter.unusedSimpArgs false
set_option maxRecDepth 4000

structure Row where
  p : Pfx
  h : Int
def Row.fits (r : Row) : Prop := B16 r.p.l
def Row.okB (r : Row) : Bool := r.p.right && decide (1 ≤ r.h) && decide (r.h ≤ 255)
def rowZ : Row := ⟨⟨0, List.replicate 16 0, 0⟩, 0⟩
def rising : List Row → Bool
  | [] => true
  | [_] => true
  | a :: b :: t => decide (a.p.cmp b.p < 0) && rising (b :: t)
/-- May it be a table? -/
def tabB (t : List Row) : Bool := decide (t.length ≤ 40) && t.all Row.okB && rising t
def rowAt (t : List Row) (i : Nat) : Row := t.getD i rowZ
theorem rowAt_get {t : List Row} {i : Nat} (h : i < t.length) : t[i]? = some (rowAt t i) := by
  simp [rowAt, List.getD_eq_getElem?_getD, h]
theorem rowAt_eq {t : List Row} {i : Nat} {r : Row} (h : t[i]? = some r) : rowAt t i = r := by
  simp [rowAt, List.getD_eq_getElem?_getD, h]

theorem cmp_irrefl (p : Pfx) : ¬ p.cmp p < 0 := by
  have : p.cmp p = 0 := cmpI_refl _
  omega
theorem rising_cons {a : Row} {t : List Row} (h : rising (a :: t) = true) : rising t = true := by
  cases t with
  | nil => rfl
  | cons b t => simp only [rising, Bool.and_eq_true] at h; exact h.2
theorem rising_head {a : Row} : ∀ {t : List Row}, rising (a :: t) = true → ∀ r ∈ t, a.p.cmp r.p < 0
  | [], _, r, hr => by cases hr
  | b :: t, h, r, hr => by
    have h2 := h
    simp only [rising, Bool.and_eq_true, decide_eq_true_eq] at h2
    rcases List.mem_cons.1 hr with rfl | hr
    · exact h2.1
    · exact a.p.cmp_trans b.p r.p h2.1 (rising_head (rising_cons h) r hr)
theorem rising_of_head {a : Row} {t : List Row} (h : ∀ r ∈ t, a.p.cmp r.p < 0) (ht : rising t = true) : rising (a :: t) = true := by
  cases t with
  | nil => rfl
  | cons b t => simp only [rising, Bool.and_eq_true, decide_eq_true_eq]; exact ⟨h b (by simp), ht⟩
/-- Up to a place, by the rows' neighbours. -/
theorem rising_iff (t : List Row) : rising t = true ↔ ∀ i, i + 1 < t.length → (rowAt t i).p.cmp (rowAt t (i + 1)).p < 0 := by
  induction t with
  | nil => simp [rising]
  | cons a t ih =>
    cases t with
    | nil => simp [rising]
    | cons b t =>
      simp only [rising, Bool.and_eq_true, decide_eq_true_eq, ih]
      constructor
      · rintro ⟨h1, h2⟩ i hi
        cases i with
        | zero => exact h1
        | succ i => exact h2 i (by simpa using hi)
      · intro h
        exact ⟨h 0 (by simp), fun i hi => h (i + 1) (by simpa using hi)⟩
theorem tabB_iff (t : List Row) : tabB t = true ↔ t.length ≤ 40 ∧ (∀ i, i < t.length → (rowAt t i).okB = true) ∧ ∀ i, i + 1 < t.length → (rowAt t i).p.cmp (rowAt t (i + 1)).p < 0 := by
  unfold tabB
  simp only [Bool.and_eq_true, decide_eq_true_eq, rising_iff, List.all_eq_true]
  constructor
  · rintro ⟨⟨h1, h2⟩, h3⟩
    exact ⟨h1, fun i hi => h2 _ (List.mem_of_getElem? (rowAt_get hi)), h3⟩
  · rintro ⟨h1, h2, h3⟩
    refine ⟨⟨h1, fun r hr => ?_⟩, h3⟩
    obtain ⟨i, hi, he⟩ := List.getElem_of_mem hr
    have := h2 i hi
    rwa [rowAt_eq (List.getElem?_eq_some_iff.2 ⟨hi, he⟩)] at this

/-! The longest match. -/
def bestStep (v : Int) (l : List Int) (b : Option Row) (r : Row) : Option Row := if r.p.has v l && (match b with | none => true | some x => decide (x.p.b < r.p.b)) then some r else b
def longest (t : List Row) (v : Int) (l : List Int) : Option Row := t.foldl (bestStep v l) none
/-- The row at place i matches; none that matches has more bits, and none ahead of it as many. -/
structure Best (t : List Row) (v : Int) (l : List Int) (i : Nat) (r : Row) : Prop where
  at_ : t[i]? = some r
  has : r.p.has v l = true
  top : ∀ j x, t[j]? = some x → x.p.has v l = true → x.p.b ≤ r.p.b ∧ (j < i → x.p.b < r.p.b)
end Go.Proofs.YtnpeedmicjeleaaDoor

/- Plain laws of tables (layer 9), second part: set, drop and get. -/
namespace Go.Proofs.YtnpeedmicjeleaaDoor
set_option linter.unusedVariables false
set_option linter.unusedSimpArgs false
set_option maxRecDepth 4000

/-- The place of a prefix, or the one that it would have. -/
def lowN (t : List Row) (p : Pfx) : Nat := (t.takeWhile fun r => decide (r.p.cmp p < 0)).length
def thereB (t : List Row) (p : Pfx) : Bool := match t[lowN t p]? with
  | some r => r.p.cmp p == 0
  | none => false
def setT (t : List Row) (p : Pfx) (h : Int) : List Row := t.take (lowN t p) ++ ⟨p, h⟩ :: t.drop (if thereB t p then lowN t p + 1 else lowN t p)
def Fits (t : List Row) : Prop := ∀ r ∈ t, B16 r.p.l
theorem Fits.tail {a : Row} {t : List Row} (h : Fits (a :: t)) : Fits t := fun r hr => h r (by simp [hr])
theorem lowN_cons (a : Row) (t : List Row) (p : Pfx) : lowN (a :: t) p = if a.p.cmp p < 0 then lowN t p + 1 else 0 := by
  unfold lowN
  rw [List.takeWhile_cons]
  by_cases h : a.p.cmp p < 0
  · simp [h]
  · simp [h]
theorem lowN_le (t : List Row) (p : Pfx) : lowN t p ≤ t.length := by
  induction t with
  | nil => simp [lowN]
  | cons a t ih =>
    rw [lowN_cons]
    split
    · simp; exact ih
    · simp
/-- Behind the place nothing is below the prefix. -/
theorem lowN_spec {t : List Row} (p : Pfx) (ht : rising t = true) (i : Nat) (hi : i < t.length) : (i < lowN t p → (rowAt t i).p.cmp p < 0) ∧ (lowN t p ≤ i → ¬ (rowAt t i).p.cmp p < 0) := by
  induction t generalizing i with
  | nil => simp at hi
  | cons a t ih =>
    rw [lowN_cons]
    by_cases h : a.p.cmp p < 0
    · rw [if_pos h]
      cases i with
      | zero => exact ⟨fun _ => h, fun h => by omega⟩
      | succ i =>
        have := ih (rising_cons ht) i (by simpa using hi)
        exact ⟨fun h => this.1 (by omega), fun h => this.2 (by omega)⟩
    · rw [if_neg h]
      refine ⟨fun h => by omega, fun _ => ?_⟩
      cases i with
      | zero => exact h
      | succ i =>
        intro hlt
        have hm : rowAt t i ∈ t := List.mem_of_getElem? (rowAt_get (by simpa using hi))
        have h1 := rising_head ht _ hm
        exact h (a.p.cmp_trans _ p h1 hlt)
theorem thereB_cons {a : Row} {t : List Row} {p : Pfx} : thereB (a :: t) p = if a.p.cmp p < 0 then thereB t p else a.p.cmp p == 0 := by
  unfold thereB
  rw [lowN_cons]
  by_cases h : a.p.cmp p < 0
  · rw [if_pos h, if_pos h]
    rfl
  · rw [if_neg h, if_neg h]
    rfl
end Go.Proofs.YtnpeedmicjeleaaDoor

/- Plain laws of tables (layer 9), third part: tables by what is in them. -/
namespace Go.Proofs.YtnpeedmicjeleaaDoor
set_option linter.unusedVariables false
set_option linter.unusedSimpArgs false
set_option maxRecDepth 4000

theorem setT_cons (a : Row) (t : List Row) (p : Pfx) (h : Int) : setT (a :: t) p h = if a.p.cmp p < 0 then a :: setT t p h else if a.p.cmp p = 0 then ⟨p, h⟩ :: t else ⟨p, h⟩ :: a :: t := by
  unfold setT
  rw [lowN_cons, thereB_cons]
  by_cases h1 : a.p.cmp p < 0
  · rw [if_pos h1, if_pos h1, if_pos h1]
    split <;> rfl
  · rw [if_neg h1, if_neg h1, if_neg h1]
    by_cases h2 : a.p.cmp p = 0
    · rw [if_pos h2, h2]; rfl
    · rw [if_neg h2, if_neg (by simpa using h2)]; rfl
theorem tabB_of {t : List Row} (h1 : t.length ≤ 40) (h2 : ∀ r ∈ t, r.okB = true) (h3 : rising t = true) : tabB t = true := by
  unfold tabB
  simp only [Bool.and_eq_true, decide_eq_true_eq, List.all_eq_true]
  exact ⟨⟨h1, h2⟩, h3⟩
theorem tabB_to {t : List Row} (h : tabB t = true) : t.length ≤ 40 ∧ (∀ r ∈ t, r.okB = true) ∧ rising t = true := by
  unfold tabB at h
  simp only [Bool.and_eq_true, decide_eq_true_eq, List.all_eq_true] at h
  exact ⟨h.1.1, h.1.2, h.2⟩
theorem okB_iff (r : Row) : r.okB = true ↔ r.p.right = true ∧ 1 ≤ r.h ∧ r.h ≤ 255 := by
  unfold Row.okB
  simp only [Bool.and_eq_true, decide_eq_true_eq]
  exact ⟨fun h => ⟨h.1.1, h.1.2, h.2⟩, fun h => ⟨⟨h.1, h.2.1⟩, h.2.2⟩⟩
/-! The longest match, by what is in a table. -/
/-! Set, dropped, got. -/
end Go.Proofs.YtnpeedmicjeleaaDoor

/- Plain laws of tables (layer 9), fifth part: what two have not alike. -/
namespace Go.Proofs.YtnpeedmicjeleaaDoor
set_option linter.unusedVariables false
set_option linter.unusedSimpArgs false
set_option maxRecDepth 4000

/-- A table of hops that stand. -/
structure Tab (t : List Row) : Prop where
  fits : Fits t
  up : rising t = true
  hop : ∀ r ∈ t, 1 ≤ r.h
theorem Tab.tail {a : Row} {t : List Row} (h : Tab (a :: t)) : Tab t := ⟨h.fits.tail, rising_cons h.up, fun r hr => h.hop r (by simp [hr])⟩
theorem Tab.of {t : List Row} (hf : Fits t) (h : tabB t = true) : Tab t := ⟨hf, (tabB_to h).2.2, fun r hr => ((okB_iff r).1 ((tabB_to h).2.1 r hr)).2.1⟩
end Go.Proofs.YtnpeedmicjeleaaDoor

/- Rows of a table in memory: by value (19 cells), in a block, in a slice. -/
namespace Go.Proofs.YtnpeedmicjeleaaDoor
open Go.RowKit
set_option linter.unusedVariables false
set_option linter.unusedSimpArgs false
set_option maxRecDepth 4000

def rowC (r : Row) : List Value := .int .i64 r.p.v :: (nums .u8 r.p.l ++ [.int .i64 r.p.b, .int .i64 r.h])
def rowV (r : Row) : Array Value := (rowC r).toArray
theorem rowC_len {r : Row} (h : r.fits) : (rowC r).length = 19 := by simp [rowC, nums, h.len]
theorem rowV_size {r : Row} (h : r.fits) : (rowV r).size = 19 := by simp [rowV, rowC_len h]
theorem rowC_one (r : Row) : ∀ u ∈ rowC r, u.oneCell' = true := by
  intro u hu
  simp only [rowC, List.mem_cons, List.mem_append, List.not_mem_nil, or_false] at hu
  rcases hu with rfl | hu | rfl | rfl
  · rfl
  · exact nums_one _ _ u hu
  · rfl
  · rfl
theorem rowV_one (r : Row) : (rowV r).all (·.oneCell') = true := by simp [rowV, rowC, nums, Value.oneCell']
theorem pfxV_list (v : Int) (l : List Int) (b : Int) : (pfxV v l b).toList = .int .i64 v :: (nums .u8 l ++ [.int .i64 b]) := rfl
theorem adrV_list (v : Int) (l : List Int) : (adrV v l).toList = .int .i64 v :: nums .u8 l := rfl
theorem info_row {r : Row} (h : r.fits) : (Tryd.prog.info? 79).map (·.size) = some (rowV r).size := by rw [rowV_size h]; kernel_rfl
/-- What loads of a row tell. -/
structure RowLd (w : World) (g o : Nat) (r : Row) : Prop where
  row : (Instr.loadAt 79 (.pointer (some ⟨g, o, none⟩))).run Tryd.prog w = .ok (.agg (rowV r)) w
  pfx : (Instr.loadAt 49 (.pointer (some ⟨g, o, none⟩))).run Tryd.prog w = .ok (.agg (pfxV r.p.v r.p.l r.p.b)) w
  adr : (Instr.loadAt 47 (.pointer (some ⟨g, o, none⟩))).run Tryd.prog w = .ok (.agg (adrV r.p.v r.p.l)) w
  ver : (Instr.loadAt 3 (.pointer (some ⟨g, o, none⟩))).run Tryd.prog w = .ok (.int .i64 r.p.v) w
  bts : (Instr.loadAt 45 (.pointer (some ⟨g, o + 1, none⟩))).run Tryd.prog w = .ok (.agg (arrV r.p.l)) w
  bit : (Instr.loadAt 3 (.pointer (some ⟨g, o + 17, none⟩))).run Tryd.prog w = .ok (.int .i64 r.p.b) w
  hop : (Instr.loadAt 3 (.pointer (some ⟨g, o + 18, none⟩))).run Tryd.prog w = .ok (.int .i64 r.h) w
theorem rowLd_of {w : World} {g o : Nat} {r : Row} (hf : r.fits) (h : CellsAt w g o (rowC r)) : RowLd w g o r := by
  have hn : (nums .u8 r.p.l).length = 16 := by rw [nums_length]; exact hf.len
  have e : rowC r = (pfxV r.p.v r.p.l r.p.b).toList ++ [.int .i64 r.h] := by rw [pfxV_list]; simp [rowC]
  have e2 : (pfxV r.p.v r.p.l r.p.b).toList = (adrV r.p.v r.p.l).toList ++ [.int .i64 r.p.b] := by rw [pfxV_list, adrV_list]; rfl
  have h1 : CellsAt w g o (pfxV r.p.v r.p.l r.p.b).toList := by rw [e] at h; exact h.left
  have h2 : CellsAt w g o (adrV r.p.v r.p.l).toList := by rw [e2] at h1; exact h1.left
  have h3 : CellsAt w g (o + 1) (arrV r.p.l).toList := by
    have := CellsAt.mid [Value.int .i64 r.p.v] (ys := nums .u8 r.p.l) (zs := []) (w := w) (b := g) (o := o) (by rw [List.append_nil]; exact h2)
    exact this
  refine ⟨load_cells (cs := rowV r) h Tryd.underlying79 rfl (info_row hf), load_cells h1 Tryd.underlying49 rfl (info_pfx hf.len), load_cells h2 Tryd.underlying47 rfl (info_adr hf.len), ?_, load_cells h3 Tryd.underlying45 rfl (info_arr hf.len), ?_, ?_⟩
  · exact load_int (h 0 _ rfl)
  · refine load_int (h 17 _ ?_)
    unfold rowC
    rw [List.getElem?_cons_succ, List.getElem?_append_right (by omega), hn]
    rfl
  · refine load_int (h 18 _ ?_)
    unfold rowC
    rw [List.getElem?_cons_succ, List.getElem?_append_right (by omega), hn]
    rfl

/-- What lies in a block that holds a row, in every world that goes on from one. -/
structure RowAt (w : World) (g : Nat) (r : Row) : Prop where
  all : ∀ w0, Below w.heap.size w w0 → RowLd w0 g 0 r
theorem row_at {w : World} {g : Nat} {t : TypeId} {r : Row} (hr : r.fits) (h : w.heap[g]? = some (.cells (rowV r) t (0, 0))) : RowAt w g r :=
  ⟨fun w0 hb => rowLd_of hr (cells_blk (blk_below h hb))⟩
/-- A table by value: its rows. -/
def tabV (A : Option Addr) (n c : Nat) : Array Value := #[.slice A n c]
theorem load_rows {w : World} {ad : Addr} {v : Value} (h : w.cell? ad = some v) : (Instr.loadAt 37 (.pointer (some ad))).run Tryd.prog w = .ok v w := by
  go_simp
structure TabAt (w : World) (g : Nat) (A : Option Addr) (n c : Nat) : Prop where
  all : ∀ w0, Below w.heap.size w w0 → (Instr.loadAt 39 (.pointer (some ⟨g, 0, none⟩))).run Tryd.prog w0 = .ok (.agg (tabV A n c)) w0 ∧ (Instr.loadAt 37 (.pointer (some ⟨g, 0, none⟩))).run Tryd.prog w0 = .ok (.slice A n c) w0
theorem tab_at {w : World} {g : Nat} {A : Option Addr} {n c : Nat} (h : w.heap[g]? = some (.cells (tabV A n c) 39 (0, 0))) : TabAt w g A n c := by
  refine ⟨fun w0 hb => ?_⟩
  have h0 := cells_blk (blk_below h hb)
  exact ⟨load_cells h0 Tryd.underlying39 rfl (by kernel_rfl), load_rows (h0 0 _ rfl)⟩

/-! Rows of a slice. -/
theorem zero_row : (Tryd.prog.info? 79).map (fun i => (i.zero, i.size, i.bytes)) = some (some (.agg (rowV rowZ)), 19, 40) := by kernel_rfl
def rowK : Shape Row where
  t := 79
  ts := 37
  sz := 19
  bytes := 40
  z := rowZ
  ok := Row.fits
  enc := rowC
  val := fun r => .agg (rowV r)
  len := fun _ h => rowC_len h
  one := rowC_one
  okz := zero16_B
  pos := by omega
  bpos := by omega
  blt := by omega
  und := Tryd.underlying37
  info := zero_row
  venc := fun _ => rfl
  ld := fun _ _ _ r hr h => load_cells (cs := rowV r) h Tryd.underlying79 rfl (info_row hr)
/-- A slice of rows, read. -/
abbrev RT (w : World) (A : Option Addr) (n c : Nat) (t : List Row) : Prop := RS rowK w A n c t
/-- A slice of rows of the call's own. -/
abbrev OT (w : World) (base : Nat) (A : Option Addr) (n c : Nat) (t : List Row) : Prop := OS rowK w base A n c t
theorem Fits.take {t : List Row} (h : Fits t) (n : Nat) : Fits (t.take n) := fun r hr => h r (List.mem_of_mem_take hr)
theorem Fits.drop {t : List Row} (h : Fits t) (n : Nat) : Fits (t.drop n) := fun r hr => h r (List.mem_of_mem_drop hr)
theorem Fits.append {t u : List Row} (h : Fits t) (k : Fits u) : Fits (t ++ u) := fun r hr => (List.mem_append.1 hr).elim (h r) (k r)
theorem Fits.at_ {t : List Row} (h : Fits t) {i : Nat} (hi : i < t.length) : (rowAt t i).fits := h _ (List.mem_of_getElem? (rowAt_get hi))
theorem RT.at_ {w : World} {A : Option Addr} {n c : Nat} {t : List Row} (h : RT w A n c t) (hp : 0 < n) : ∃ b o, A = some ⟨b, o, none⟩ ∧ ∀ i, i < n → CellsAt w b (o + i * 19) (rowC (rowAt t i)) := RS.at_ h hp
theorem RT.fits_at {w : World} {A : Option Addr} {n c : Nat} {t : List Row} (h : RT w A n c t) {i : Nat} (hi : i < n) : (rowAt t i).fits := RS.fits_at h hi
theorem RT.fits {w : World} {A : Option Addr} {n c : Nat} {t : List Row} (h : RT w A n c t) : Fits t := RS.fits h

/-! Rows, built and held equal. -/
theorem built_row (p : Pfx) (h : Int) (hl : p.l.length = 16) : Tryd.prog.built 79 [(0, .agg (pfxV p.v p.l p.b)), (1, .int .i64 h)] = some (rowV ⟨p, h⟩) := by
  obtain ⟨a, b, c, d, e, f, g, h1, i, j, k, m, n, o, q, r, hh⟩ := len16 hl
  obtain ⟨v, l, x⟩ := p
  simp only at hh
  subst hh
  kernel_rfl
theorem run_build_row (w : World) (p : Pfx) (h : Int) (hl : p.l.length = 16) : (Instr.build 79 #[(0, .agg (pfxV p.v p.l p.b)), (1, .int .i64 h)]).run Tryd.prog w = .ok (.agg (rowV ⟨p, h⟩)) w := run_build w _ _ _ (built_row p h hl)
structure Row.ok (r : Row) : Prop where
  p : r.p.ok
  h : (Lit.int .i64 r.h).wf = true
theorem Row.ok.fits {r : Row} (h : r.ok) : r.fits := h.p.l
def Row.eqB (r s : Row) : Bool := r.p.eqB s.p && decide (r.h = s.h)
theorem Row.eqB_iff (r s : Row) : r.eqB s = true ↔ r = s := by
  unfold Row.eqB
  simp only [Bool.and_eq_true, decide_eq_true_eq, Pfx.eqB_iff]
  constructor
  · rintro ⟨h1, h2⟩
    cases r; cases s
    simp_all
  · rintro rfl
    exact ⟨rfl, rfl⟩
section
variable {r : Operand → Value} {o : Oper} {x y : Operand} {ty : TypeId}
end
end Go.Proofs.YtnpeedmicjeleaaDoor

/- Layer 5 (prefix): cut. -/
namespace Go.Proofs.YtnpeedmicjeleaaDoor
open Go.RowKit
set_option linter.unusedVariables false
set_option linter.unusedSimpArgs false
set_option maxRecDepth 4000

theorem and_keep_all : ((List.range 256).all fun x => (List.range 8).all fun s => (x &&& ((255 * 2 ^ s) % 256)) == x / 2 ^ s * 2 ^ s) = true := by decide +kernel
theorem and_keep (x : Int) (s : Nat) (hx0 : 0 ≤ x) (hx1 : x < 256) (hs : s < 8) : bits .and .u8 x (255 * 2 ^ s % 256) = x / 2 ^ s * 2 ^ s := by
  obtain ⟨a, rfl⟩ := Int.eq_ofNat_of_zero_le hx0
  have h := and_keep_all
  rw [List.all_eq_true] at h
  have h1 := h a (List.mem_range.2 (by omega))
  rw [List.all_eq_true] at h1
  have h2 := beq_iff_eq.1 (h1 s (List.mem_range.2 hs))
  have e : (255 * 2 ^ s % 256 : Int) = ((255 * 2 ^ s % 256 : Nat) : Int) := by
    rw [Int.natCast_emod, Int.natCast_mul, Int.natCast_pow]; rfl
  rw [e, u8_and_nat a _ (by omega) (by omega), h2, Int.natCast_mul, Int.natCast_ediv, Int.natCast_pow]
  rfl
theorem arr_set {w : World} {g : Nat} {t : TypeId} {l : List Int} (h : w.heap[g]? = some (.cells (arrV l) t (0, 0))) (i : Nat) (y : Int) : (w.setCell ⟨g, i, none⟩ (.int .u8 y)).heap[g]? = some (.cells (arrV (l.set i y)) t (0, 0)) := by
  have := blk_set h i (.int .u8 y)
  unfold arrV at this ⊢
  rw [List.setIfInBounds_toArray, nums_set] at this
  exact this
theorem cut_step (l : List Int) (k : Int) (hl : B16 l) (i : Nat) (hi : i < 16) : (cutA l k).take (i + 1) ++ l.drop (i + 1) = ((cutA l k).take i ++ l.drop i).set i (cutB (rd l (i : Int)) (k - 8 * i)) := by
  have hlen : (cutA l k).length = 16 := (cutA_16 hl k).len
  apply List.ext_getElem
  · simp [hlen, hl.len]; omega
  · intro j h1 h2
    simp only [List.getElem_set, List.getElem_append, List.length_take, hlen, List.getElem_take, List.getElem_drop]
    by_cases hj : i = j
    · subst hj
      rw [dif_pos (by omega), if_pos rfl]
      simp [cutA]
    · rw [if_neg hj]
      by_cases hlt : j < i
      · rw [dif_pos (by omega), dif_pos (by omega)]
      · rw [dif_neg (by omega), dif_neg (by omega)]
        congr 1
        omega
set_option maxHeartbeats 1000000 in
theorem cut_any (l : List Int) (k : Int) (w : World) (hl : B16 l) (hk0 : 0 ≤ k) (hk1 : k ≤ 128) : Calls Tryd.prog 124 #[.agg (arrV l), .int .i64 k] w fun e w' => e = .returned (.agg (arrV (cutA l k))) ∧ Below w.heap.size w w' := by
  have hb := blk_new w (.cells (arrV l) 45)
  have hbe : Below w.heap.size w (w.alloc (.cells (arrV l) 45)) := below_alloc (Below.refl _ _) _
  have HB := Lib.hid hb
  have HBE := Lib.hid hbe
  obtain ⟨cs, hcs⟩ : ∃ cs, arrV l = cs := ⟨_, rfl⟩
  rw [hcs] at HB HBE ⊢
  have HCS := Lib.hid hcs
  clear hb hcs hbe
  go_enter Tryd.func124, Tryd.ntmps124
  go_wp2_with fail
  have hb0 : (w.alloc (.cells cs 45)).heap[w.heap.size]? = some (.cells cs 45) := HB.out
  have hsz : (w.alloc (.cells cs 45)).heap.size = w.heap.size + 1 := by simp
  have HZ : Hid (Below w.heap.size w ((w.alloc (.cells cs 45)).alloc (.cells (arrV (List.replicate 16 0)) 45)) ∧
      ((w.alloc (.cells cs 45)).alloc (.cells (arrV (List.replicate 16 0)) 45)).heap[w.heap.size]? = some (.cells (arrV l) 45 (0, 0)) ∧
      ((w.alloc (.cells cs 45)).alloc (.cells (arrV (List.replicate 16 0)) 45)).heap[w.heap.size + 1]? = some (.cells (arrV (List.replicate 16 0)) 45 (0, 0))) := by
    refine ⟨below_alloc HBE.out _, ?_, ?_⟩
    · rw [HCS.out]
      exact blk_below hb0 (below_alloc (Below.refl _ _) _)
    · have := blk_new (w.alloc (.cells cs 45)) (.cells (arrV (List.replicate 16 0)) 45)
      rw [hsz] at this
      exact this
  clear hb0 hsz
  go_loopw [7] (fun v wr => ∃ i : Nat, v = .int .i64 i ∧ Hid (i ≤ 16 ∧ Below w.heap.size w wr ∧ wr.heap[w.heap.size]? = some (.cells (arrV ((cutA l k).take i ++ l.drop i)) 45 (0, 0)) ∧ wr.heap[w.heap.size + 1]? = some (.cells (arrV (List.replicate 16 0)) 45 (0, 0)))) (fun v _ => 16 - (intOf v).toNat)
  case atStart => exact ⟨0, rfl, Nat.zero_le _, HZ.out.1, HZ.out.2.1, HZ.out.2.2⟩
  case round =>
    obtain ⟨i, rfl, HH⟩ := hrel
    clear HZ
    have hi := HH.out.1
    by_cases hlt : i < 16
    · have hlen : ((cutA l k).take i ++ l.drop i).length = 16 := by simp [(cutA_16 hl k).len, hl.len]; omega
      have hcell := arr_cell HH.out.2.2.1 i (by rw [hlen]; exact hlt)
      have hrd : rd ((cutA l k).take i ++ l.drop i) (i : Int) = rd l (i : Int) := by
        have h1 : ((cutA l k).take i).length = i := by simp [(cutA_16 hl k).len]; omega
        simp only [rd, Int.toNat_natCast, List.getD_eq_getElem?_getD]
        rw [List.getElem?_append_right (by omega), h1, List.getElem?_drop]
        simp
      rw [hrd] at hcell
      have hfr : wr.frozen? ⟨w.heap.size, i, none⟩ = false := blk_frozen HH.out.2.2.1 i
      have hlt' : (i : Int) < 16 := by omega
      have hg := hl.rd (i : Int)
      have HN : ∀ y, y = cutB (rd l (i : Int)) (k - 8 * i) → Below w.heap.size w (wr.setCell ⟨w.heap.size, i, none⟩ (.int .u8 y)) ∧ (wr.setCell ⟨w.heap.size, i, none⟩ (.int .u8 y)).heap[w.heap.size]? = some (.cells (arrV ((cutA l k).take (i + 1) ++ l.drop (i + 1))) 45 (0, 0)) ∧ (wr.setCell ⟨w.heap.size, i, none⟩ (.int .u8 y)).heap[w.heap.size + 1]? = some (.cells (arrV (List.replicate 16 0)) 45 (0, 0)) := fun y hy => by
        refine ⟨HH.out.2.1.setCell (Nat.le_refl _) _, ?_, blk_set_far HH.out.2.2.2 (by simp) _⟩
        rw [cut_step l k hl i hlt, ← hy]
        exact arr_set HH.out.2.2.1 i y
      have HNN := Lib.hid HN
      clear HN hrd hlen
      by_cases h1 : k - 8 * (i : Int) ≤ 0
      · have hy : (0 : Int) = cutB (rd l (i : Int)) (k - 8 * i) := by unfold cutB; rw [if_pos h1]
        have HY := Lib.hid hy
        clear hy
        go_wp2_with fail
        go_roundw
        case measure => simp [intOf]; omega
        case rel => exact ⟨i + 1, by go_num, by omega, HNN.out 0 HY.out⟩
      · by_cases h2 : k - 8 * (i : Int) < 8
        · have h1' : 0 < k - 8 * (i : Int) := by omega
          obtain ⟨kp, hkp⟩ : ∃ kp, k - 8 * (i : Int) = kp := ⟨_, rfl⟩
          have hx := and_keep (rd l (i : Int)) (8 - kp).toNat hg.1 hg.2 (by omega)
          have hy : rd l (i : Int) / 2 ^ (8 - kp).toNat * 2 ^ (8 - kp).toNat = cutB (rd l (i : Int)) (k - 8 * i) := by rw [hkp]; unfold cutB; rw [if_neg (by omega), if_pos (by omega)]
          have HY := Lib.hid hy
          have hq0 : 0 < kp := by omega
          have hq1 : kp < 8 := by omega
          have hw8 : IntKind.i64.wrap (8 - kp) = 8 - kp := by simp only [IntKind.wrap, IntKind.bits, IntKind.signed]; simp; omega
          have hs0 : 0 ≤ 8 - kp := by omega
          have hs1 : 8 - kp < 64 := by omega
          have hwu : IntKind.u8.wrap (255 * 2 ^ (8 - kp).toNat) = 255 * 2 ^ (8 - kp).toNat % 256 := by simp only [IntKind.wrap, IntKind.bits, IntKind.signed]; simp
          clear hy h1 h2 h1'
          go_wp2_with fail
          refine wp_region_mix (fun _ => True) [(0, 0), (1, 0), (3, 0), (4, 0), (5, 0), (2, 1), (6, 0), (7, 0), (8, 2)] (by kernel_rfl) (by kernel_rfl) trivial ?_
          simp only [List.map_cons, List.map_nil]
          repeat first | (refine wpO_step0 rfl rfl (fun K hK => ?_); go_simp; refine hK _ _ ?_; clear hK K) | (refine wpO_step1 rfl rfl (fun K hK => ?_); go_simp; refine hK _ _ ?_; clear hK K)
          have hfd : wr.drew.frozen? ⟨w.heap.size, i, none⟩ = false := hfr
          have hcd : wr.drew.cell? ⟨w.heap.size, i, none⟩ = some (.int .u8 (rd l (i : Int))) := hcell
          refine wpO_step2 rfl rfl trivial (fun K hK => ?_)
          go_simp
          refine hK _ _ ⟨trivial, ?_⟩
          clear hK K
          refine wpO_nil ?_
          have HND : Hid (Below w.heap.size w (wr.drew.setCell ⟨w.heap.size, i, none⟩ (.int .u8 (rd l (i : Int) / 2 ^ (8 - kp).toNat * 2 ^ (8 - kp).toNat))) ∧
              (wr.drew.setCell ⟨w.heap.size, i, none⟩ (.int .u8 (rd l (i : Int) / 2 ^ (8 - kp).toNat * 2 ^ (8 - kp).toNat))).heap[w.heap.size]? = some (.cells (arrV ((cutA l k).take (i + 1) ++ l.drop (i + 1))) 45 (0, 0)) ∧
              (wr.drew.setCell ⟨w.heap.size, i, none⟩ (.int .u8 (rd l (i : Int) / 2 ^ (8 - kp).toNat * 2 ^ (8 - kp).toNat))).heap[w.heap.size + 1]? = some (.cells (arrV (List.replicate 16 0)) 45 (0, 0))) := by
            refine ⟨HH.out.2.1.drew.setCell (Nat.le_refl _) _, ?_, blk_set_far (w := wr.drew) HH.out.2.2.2 (by simp) _⟩
            rw [cut_step l k hl i hlt, ← HY.out]
            exact arr_set (w := wr.drew) HH.out.2.2.1 i _
          clear hw8 hs0 hs1 hwu hx
          go_wp2_with fail
          go_roundw
          case measure => simp [intOf]; omega
          case rel => exact ⟨i + 1, by go_num, by omega, HND.out⟩
        · have hy : rd l (i : Int) = cutB (rd l (i : Int)) (k - 8 * i) := by unfold cutB; rw [if_neg h1, if_neg h2]
          have h1' : 0 < k - 8 * (i : Int) := by omega
          have h2' : 8 ≤ k - 8 * (i : Int) := by omega
          have HY := Lib.hid hy
          clear hy h1 h2
          go_wp2_with fail
          go_roundw
          case measure => simp [intOf]; omega
          case rel =>
            refine ⟨i + 1, by go_num, by omega, HH.out.2.1, ?_, HH.out.2.2.2⟩
            have hlen : ((cutA l k).take i ++ l.drop i).length = 16 := by simp [(cutA_16 hl k).len, hl.len]; omega
            have hs := cut_step l k hl i (by omega)
            rw [hs, ← HY.out]
            have hrd : rd ((cutA l k).take i ++ l.drop i) (i : Int) = rd l (i : Int) := by
              have h1 : ((cutA l k).take i).length = i := by simp [(cutA_16 hl k).len]; omega
              simp only [rd, Int.toNat_natCast, List.getD_eq_getElem?_getD]
              rw [List.getElem?_append_right (by omega), h1, List.getElem?_drop]
              simp
            rw [← hrd]
            have e : ((cutA l k).take i ++ l.drop i).set i (rd ((cutA l k).take i ++ l.drop i) (i : Int)) = (cutA l k).take i ++ l.drop i := by
              apply List.ext_getElem?
              intro j
              rw [List.getElem?_set]
              split
              · rename_i hj
                subst hj
                rw [if_pos (by rw [hlen]; omega)]
                simp [rd, List.getD_eq_getElem?_getD]
                rw [List.getElem?_eq_getElem (by rw [hlen]; omega)]
                rfl
              · rfl
            rw [e]
            exact HH.out.2.2.1
    · obtain rfl : i = 16 := by omega
      have hm1 : decide (((16 : Nat) : Int) < 16) = false := rfl
      have hfin := HH.out.2.2.1
      rw [List.take_of_length_le (by rw [(cutA_16 hl k).len]; exact Nat.le_refl _), List.drop_of_length_le (by rw [hl.len]; exact Nat.le_refl _), List.append_nil] at hfin
      have hld := load_arr (b := w.heap.size) (o := 0) (cutA_16 hl k) (fun i hi => by rw [Nat.zero_add]; exact arr_cell hfin i (by rw [(cutA_16 hl k).len]; exact hi))
      clear hlt
      have hsz : (arrV (cutA l k)).size = 16 := by simp [arrV, nums, (cutA_16 hl k).len]
      have hi16 : (Tryd.prog.info? 45).map (·.size) = some (arrV (cutA l k)).size := by rw [hsz]; kernel_rfl
      have hs16 : (arrV (List.replicate 16 0)).size = (arrV (cutA l k)).size := by rw [hsz]; simp [arrV, nums]
      have hone : (arrV (cutA l k)).all (·.oneCell') = true := by simp [arrV, nums, Value.oneCell']
      have hrow := setRow_heap wr (w.heap.size + 1) (arrV (List.replicate 16 0)) (arrV (cutA l k)) 45 (0, 0) HH.out.2.2.2
      have HBF : Hid (Below w.heap.size w (wr.setRow (w.heap.size + 1) (arrV (cutA l k)))) := by
        have hb := HH.out.2.1
        exact ⟨hb.os, hb.tape, hb.output, by rw [show (wr.setRow (w.heap.size + 1) (arrV (cutA l k))).heap.size = wr.heap.size by simp [World.setRow]]; exact hb.size, fun j hj => by rw [setRow_other _ _ _ _ (by omega)]; exact hb.block j hj⟩
      go_wp2_with (first | (refine wpList_load_g hld _ rfl rfl (by go_simp) ?_) | (refine wpList_store_row rfl 45 _ _ rfl (w.heap.size + 1) (arrV (cutA l k)) rfl rfl 45 (arrV (List.replicate 16 0)) HH.out.2.2.2 hi16 hs16 hone ?_))
      (try simp only [Exit.inBlock, Exit.then])
      refine bodyPost_ret (results_cell_row rfl _ _ (w.heap.size + 1) 45 (arrV (cutA l k)) (0, 0) _ rfl hrow Tryd.underlying45 rfl hi16) rfl ?_
      exact ⟨rfl, HBF.out⟩
end Go.Proofs.YtnpeedmicjeleaaDoor

/- The document's answer for layer 5 (junctionboxref05): Width, at, RightAddr. -/
namespace Go.Proofs.YtnpeedmicjeleaaDoor
open Go.RowKit
set_option linter.unusedVariables false
set_option linter.unusedSimpArgs false
set_option maxRecDepth 4000

end Go.Proofs.YtnpeedmicjeleaaDoor

/- Layer 5 (prefix): Of. -/
namespace Go.Proofs.YtnpeedmicjeleaaDoor
open Go.RowKit
set_option linter.unusedVariables false
set_option linter.unusedSimpArgs false
set_option maxRecDepth 4000

/-- A store of a whole prefix; a load of one, as a result. -/
theorem store_pfx_fit {c : Array Value} {v x : Int} {l : List Int} (hl : l.length = 16) (hc : c.size = 18) : 0 + (pfxV v l x).size ≤ c.size := by rw [pfx_size hl, hc]; exact Nat.le_refl _
end Go.Proofs.YtnpeedmicjeleaaDoor

/- The document's answer for layer 5: Of. -/
namespace Go.Proofs.YtnpeedmicjeleaaDoor
open Go.RowKit
set_option linter.unusedVariables false
set_option linter.unusedSimpArgs false
set_option maxRecDepth 4000

theorem pfx_byte {w : World} {g : Nat} {t : TypeId} {v b : Int} {l : List Int} (hl : B16 l) (h : w.heap[g]? = some (.cells (pfxV v l b) t (0, 0))) (i : Nat) (hi : i < 16) : w.cell? ⟨g, 1 + i, none⟩ = some (.int .u8 (rd l (i : Int))) := by
  rw [blk_cell h, Nat.add_comm]
  unfold pfxV
  rw [List.getElem?_toArray, List.getElem?_cons_succ, List.getElem?_append_left (by simp [nums, hl.len]; exact hi)]
  exact nums_get .u8 l i (by rw [hl.len]; exact hi)
end Go.Proofs.YtnpeedmicjeleaaDoor

/- Slices of int of the call's own. -/
namespace Go.Proofs.YtnpeedmicjeleaaDoor
open Go.RowKit
set_option linter.unusedVariables false
set_option linter.unusedSimpArgs false
set_option maxRecDepth 4000

structure RI (w : World) (A : Option Addr) (n c : Nat) (xs : List Int) : Prop where
  rv : RV w 1 A n c (nums .i64 xs)
structure OI (w : World) (base : Nat) (A : Option Addr) (n c : Nat) (xs : List Int) : Prop where
  ov : OV w base 3 1 A n c (nums .i64 xs)
section
variable {w w1 : World} {base base' : Nat} {A : Option Addr} {n c : Nat} {xs : List Int}
theorem RI.len (h : RI w A n c xs) : xs.length = n := by have := h.rv.len; simpa [nums] using this
theorem RI.cap (h : RI w A n c xs) : n ≤ c := h.rv.cap
theorem RI.small (h : RI w A n c xs) : n ≤ 281474976710656 := h.rv.small
theorem RI.at_ (h : RI w A n c xs) (i : Int) (h0 : 0 ≤ i) (h1 : i < n) : ∃ ad, A = some ad ∧ w.cell? (ad.add i.toNat) = some (.int .i64 (rd xs i)) := by
  obtain ⟨ad, e, hc⟩ := h.rv.cells (by omega)
  exact ⟨ad, e, hc _ _ (nums_get _ _ _ (by have := h.len; omega))⟩
theorem RI.below (h : RI w A n c xs) (hb : Below w.heap.size w w1) : RI w1 A n c xs := ⟨h.rv.below hb⟩
theorem RI.grown (h : RI w A n c xs) {row : Option Nat} (hg : w.grownBy w1 row) (hne : ∀ ad, A = some ad → some ad.block ≠ row) : RI w1 A n c xs := ⟨h.rv.grown hg hne⟩
theorem OI.len (h : OI w base A n c xs) : xs.length = n := by have := h.ov.len; simpa [nums] using this
theorem OI.cap (h : OI w base A n c xs) : n ≤ c := h.ov.cap
theorem OI.small (h : OI w base A n c xs) : n ≤ 281474976710656 := h.ov.small
theorem OI.base_ (h : OI w base A n c xs) : ∀ ad, A = some ad → base ≤ ad.block := h.ov.base_
theorem OI.lt (h : OI w base A n c xs) : ∀ ad, A = some ad → ad.block < w.heap.size := h.ov.lt
theorem OI.reads (h : OI w base A n c xs) : RI w A n c xs := ⟨h.ov.reads⟩
theorem OI.lower (h : OI w base A n c xs) (hb : base' ≤ base) : OI w base' A n c xs := ⟨h.ov.lower hb⟩
theorem OI.grown (h : OI w base A n c xs) {row : Option Nat} (hg : w.grownBy w1 row) (hne : ∀ ad, A = some ad → some ad.block ≠ row) : OI w1 base A n c xs := ⟨h.ov.grown hg hne⟩
theorem OI.below (h : OI w base A n c xs) (hb : Below w.heap.size w w1) : OI w1 base A n c xs := ⟨h.ov.below hb⟩
end
theorem OI.new (W : World) (base : Nat) (xs : List Int) (hb : base ≤ W.heap.size) (hn : xs.length ≤ 281474976710656) :
    OI (W.alloc (.cells (nums .i64 xs).toArray 3)) base (some ⟨W.heap.size, 0, none⟩) xs.length xs.length xs :=
  ⟨by have := OV.new W base 3 1 (nums .i64 xs).toArray xs.length hb (by simp [nums]) hn; simpa using this⟩
theorem RI.one (W : World) (y : Int) : RI (W.alloc (.cells #[.int .i64 y] 3)) (some ⟨W.heap.size, 0, none⟩) 1 1 [y] := (OI.new W 0 [y] (by omega) (by simp)).reads
end Go.Proofs.YtnpeedmicjeleaaDoor

/- Layer 5 (prefix): Compare. -/
namespace Go.Proofs.YtnpeedmicjeleaaDoor
open Go.RowKit
set_option linter.unusedVariables false
set_option linter.unusedSimpArgs false
set_option maxRecDepth 4000

theorem cmpint_any (x y : Int) (w : World) : Calls Tryd.prog 82 #[.int .i64 x, .int .i64 y] w fun e w' => e = .returned (.int .i64 (cmpN x y)) ∧ w = w' := by
  unfold cmpN
  by_cases h1 : x < y
  · rw [if_pos h1]
    go_enter Tryd.func82, Tryd.ntmps82
    go_wp2
    go_ret
    exact ⟨rfl, rfl⟩
  · rw [if_neg h1]
    by_cases h2 : y < x
    · rw [if_pos h2]
      go_enter Tryd.func82, Tryd.ntmps82
      go_wp2
      go_ret
      exact ⟨rfl, rfl⟩
    · rw [if_neg h2]
      obtain rfl : x = y := by omega
      clear h1 h2
      go_enter Tryd.func82, Tryd.ntmps82
      go_wp2
      go_ret
      exact ⟨rfl, rfl⟩
def orI : List Int → Int
  | [] => 0
  | x :: xs => if x ≠ 0 then x else orI xs
theorem orI_skip : ∀ (xs : List Int) (k : Nat), (∀ j : Nat, j < k → rd xs (j : Int) = 0) → orI xs = orI (xs.drop k)
  | _, 0, _ => rfl
  | [], _ + 1, _ => by simp
  | x :: xs, k + 1, h => by
    have h0 := h 0 (by omega)
    simp [rd] at h0
    rw [List.drop_succ_cons, ← orI_skip xs k (fun j hj => by have := h (j + 1) (by omega); simpa [rd] using this)]
    simp [orI, h0]
theorem orI_at (xs : List Int) (k : Nat) (hk : k < xs.length) (h : ∀ j : Nat, j < k → rd xs (j : Int) = 0) (hn : rd xs (k : Int) ≠ 0) : orI xs = rd xs (k : Int) := by
  rw [orI_skip xs k h, List.drop_eq_getElem_cons hk]
  have e : rd xs (k : Int) = xs[k] := by simp [rd, List.getD_eq_getElem?_getD, hk]
  rw [e] at hn ⊢
  simp [orI, hn]
theorem or_any (A : Option Addr) (n c : Nat) (xs : List Int) (w : World) (hr : RI w A n c xs) : Calls Tryd.prog 80 #[.slice A n c] w fun e w' => e = .returned (.int .i64 (orI xs)) ∧ w = w' := by
  have hn := hr.small
  have HL := Lib.hid hr.len
  have HR := Lib.hid hr
  clear hr
  go_enter Tryd.func80, Tryd.ntmps80
  go_wp2
  go_loop [5, 8] (fun _ i => ∃ k : Nat, i = .int .i64 k ∧ k ≤ n ∧ Hid (∀ j : Nat, j < k → rd xs (j : Int) = 0)) (fun _ i => n - (intOf i).toNat)
  case atStart => exact ⟨0, rfl, Nat.zero_le _, fun j h => by omega⟩
  case round =>
    obtain ⟨k, rfl, hk, HH⟩ := hrel
    by_cases hlt : k < n
    · obtain ⟨ad, rfl, hc⟩ := HR.out.at_ k (by omega) (by omega)
      have hc' : w.cell? (ad.add k) = some (.int .i64 (rd xs k)) := hc
      clear hc
      by_cases h0 : rd xs k = 0
      · have hb : (rd xs k != 0) = false := by simp [h0]
        have H0 := Lib.hid h0
        clear h0
        go_wp2
        go_round
        case measure => simp [intOf]; omega
        case rel =>
          refine ⟨k + 1, by go_num, by omega, fun j hj => ?_⟩
          by_cases hj' : j < k
          · exact HH.out j hj'
          · rw [show j = k by omega]; exact H0.out
      · have hb : (rd xs k != 0) = true := by simpa using h0
        have HE := Lib.hid (orI_at xs k (by rw [HL.out]; exact hlt) HH.out h0)
        clear h0
        go_wp2
        go_ret
        rw [HE.out]
        exact ⟨rfl, rfl⟩
    · obtain rfl : k = n := by omega
      have HE := Lib.hid (show orI xs = 0 by rw [orI_skip xs k HH.out, List.drop_of_length_le (by rw [HL.out]; exact Nat.le_refl _)]; rfl)
      clear hlt
      go_wp2
      go_ret
      rw [HE.out]
      exact ⟨rfl, rfl⟩

theorem rb_pfx {w : World} {g : Nat} {t : TypeId} {v b : Int} {l : List Int} (hl : B16 l) (h : w.heap[g]? = some (.cells (pfxV v l b) t (0, 0))) : RB w (some ⟨g, 1, none⟩) 16 16 l :=
  ⟨⟨by simp [nums, hl.len], Nat.le_refl _, by omega, fun _ => ⟨_, rfl, fun j u hj => by
    have hlt := (List.getElem?_eq_some_iff.1 hj).1
    simp only [nums, List.length_map, hl.len] at hlt
    rw [nums_get _ _ _ (by rw [hl.len]; exact hlt)] at hj
    rw [add_spot _ rfl, ← hj]
    exact pfx_byte hl h j hlt⟩⟩, hl.rng⟩
theorem cmp_or (p q : Pfx) (hp : B16 p.l) (hq : B16 q.l) : p.cmp q = orI [cmpN p.v q.v, cmpI p.l q.l, cmpN p.b q.b] := by
  rw [p.cmp_eq q hp hq]
  simp only [orI]
  split
  · rfl
  · split
    · rfl
    · split
      · rfl
      · omega

set_option maxHeartbeats 2000000 in
theorem compare_any (p q : Pfx) (w : World) (hp : B16 p.l) (hq : B16 q.l) : Calls Tryd.prog 81 #[.agg (pfxV p.v p.l p.b), .agg (pfxV q.v q.l q.b)] w fun e w' => e = .returned (.int .i64 (p.cmp q)) ∧ Below w.heap.size w w' := by
  have hblk1 := blk_new w (.cells (pfxV p.v p.l p.b) 49)
  have hbel1 : Below w.heap.size w (w.alloc (.cells (pfxV p.v p.l p.b) 49)) := below_alloc (Below.refl _ _) _
  have hblk2 := blk_new (w.alloc (.cells (pfxV p.v p.l p.b) 49)) (.cells (pfxV q.v q.l q.b) 49)
  have hbel2 : Below w.heap.size w ((w.alloc (.cells (pfxV p.v p.l p.b) 49)).alloc (.cells (pfxV q.v q.l q.b) 49)) := below_alloc (hbel1) _
  rw [show (w.alloc (.cells (pfxV p.v p.l p.b) 49)).heap.size = w.heap.size + 1 by simp] at hblk2
  replace hblk1 := blk_below hblk1 (below_alloc (Below.refl _ _) (.cells (pfxV q.v q.l q.b) 49))
  have HP1 := Lib.hid (pfx_at hp hblk1)
  have HBK1 := Lib.hid hblk1
  have HP2 := Lib.hid (pfx_at hq hblk2)
  have HBK2 := Lib.hid hblk2
  have HBE := Lib.hid hbel2
  obtain ⟨cs1, hcs1⟩ : ∃ cs, pfxV p.v p.l p.b = cs := ⟨_, rfl⟩
  obtain ⟨cs2, hcs2⟩ : ∃ cs, pfxV q.v q.l q.b = cs := ⟨_, rfl⟩
  simp only [hcs1, hcs2] at HBE HP1 HP2 HBK1 HBK2 ⊢
  have HC1 := Lib.hid hcs1
  have HC2 := Lib.hid hcs2
  clear hcs1 hblk1 hbel1 hcs2 hblk2 hbel2
  have HE := Lib.hid (cmp_or p q hp hq)
  go_enter Tryd.func81, Tryd.ntmps81
  go_wp2_with fail
  refine wp_region_mix (fun w0 => Below ((w.alloc (.cells cs1 49)).alloc (.cells cs2 49)).heap.size ((w.alloc (.cells cs1 49)).alloc (.cells cs2 49)) w0) [(0, 0), (1, 0), (2, 0), (3, 0), (4, 0), (5, 0), (7, 0), (8, 0), (9, 0), (10, 0), (11, 0), (12, 0), (14, 0), (15, 0), (16, 0), (17, 0), (6, 2), (13, 2), (18, 2), (19, 2), (20, 2), (21, 0)] (by kernel_rfl) (by kernel_rfl) (below_drew1 _) ?_
  simp only [List.map_cons, List.map_nil]
  iterate 2 (refine wpO_step0 rfl rfl (fun K hK => ?_); go_simp; refine hK _ _ ?_; clear hK K)
  refine wpO_loadW (t := 3) (ad := ⟨w.heap.size, 0, none⟩) rfl rfl ?hw rfl rfl ((fun w0 hS => (HP1.out.all w0 hS).2.2.1)) ?_
  case hw => go_simp
  iterate 2 (refine wpO_step0 rfl rfl (fun K hK => ?_); go_simp; refine hK _ _ ?_; clear hK K)
  refine wpO_loadW (t := 3) (ad := ⟨(w.heap.size+1), 0, none⟩) rfl rfl ?hw rfl rfl ((fun w0 hS => (HP2.out.all w0 hS).2.2.1)) ?_
  case hw => go_simp
  iterate 7 (refine wpO_step0 rfl rfl (fun K hK => ?_); go_simp; refine hK _ _ ?_; clear hK K)
  refine wpO_loadW (t := 3) (ad := ⟨w.heap.size, 17, none⟩) rfl rfl ?hw rfl rfl ((fun w0 hS => (HP1.out.all w0 hS).2.1)) ?_
  case hw => go_simp
  iterate 1 (refine wpO_step0 rfl rfl (fun K hK => ?_); go_simp; refine hK _ _ ?_; clear hK K)
  refine wpO_loadW (t := 3) (ad := ⟨(w.heap.size+1), 17, none⟩) rfl rfl ?hw rfl rfl ((fun w0 hS => (HP2.out.all w0 hS).2.1)) ?_
  case hw => go_simp
  refine wpO_step2 rfl rfl (below_drew1 _) (fun K hK => ?_)
  go_simp
  refine (cmpint_any p.v q.v _).mono ?_
  rintro e w1 ⟨rfl, rfl⟩
  refine hK _ _ ⟨below_drew1 _, ?_⟩
  clear hK K
  refine wpO_step2 rfl rfl (below_drew1 _) (fun K hK => ?_)
  go_simp
  refine (bcompare_any (some ⟨w.heap.size, 1, none⟩) 16 16 p.l (some ⟨w.heap.size + 1, 1, none⟩) 16 16 q.l _ (rb_pfx hp (by rw [HC1.out]; exact HBK1.out)) (rb_pfx hq (by rw [HC2.out]; exact HBK2.out))).mono ?_
  rintro e w1 ⟨rfl, rfl⟩
  refine hK _ _ ⟨below_drew1 _, ?_⟩
  clear hK K
  refine wpO_step2 rfl rfl (below_drew1 _) (fun K hK => ?_)
  go_simp
  refine (cmpint_any p.b q.b _).mono ?_
  rintro e w1 ⟨rfl, rfl⟩
  refine hK _ _ ⟨below_drew1 _, ?_⟩
  clear hK K
  obtain ⟨x0, h0⟩ : ∃ x, cmpN p.v q.v = x := ⟨_, rfl⟩
  obtain ⟨x1, h1⟩ : ∃ x, cmpI p.l q.l = x := ⟨_, rfl⟩
  obtain ⟨x2, h2⟩ : ∃ x, cmpN p.b q.b = x := ⟨_, rfl⟩
  rw [h0, h1, h2] at HE
  rw [h0, h1, h2]
  clear h0 h1 h2
  refine wpO_step2 rfl rfl (below_drew1 _) (fun K hK => ?_)
  go_simp
  have hri := (OI.new ((w.alloc (.cells cs1 49)).alloc (.cells cs2 49)) 0 [x0, x1, x2] (by omega) (by simp)).reads.below (below_drew1 _)
  rw [show ((w.alloc (.cells cs1 49)).alloc (.cells cs2 49)).heap.size = w.heap.size + 1 + 1 by simp] at hri
  have HRI := Lib.hid hri
  clear hri
  refine hK _ _ ⟨(below_alloc (Below.refl _ _) _).drew, ?_⟩
  clear hK K
  refine wpO_step2 rfl rfl ((below_alloc (Below.refl _ _) _).drew) (fun K hK => ?_)
  go_simp
  refine (or_any _ 3 3 [x0, x1, x2] _ HRI.out).mono ?_
  rintro e w1 ⟨rfl, rfl⟩
  refine hK _ _ ⟨(below_alloc (Below.refl _ _) _).drew, ?_⟩
  clear hK K
  iterate 1 (refine wpO_step0 rfl rfl (fun K hK => ?_); go_simp; refine hK _ _ ?_; clear hK K)
  refine wpO_nil ?_
  go_wp2
  go_ret
  rw [HE.out]
  exact ⟨rfl, below_step HBE.out (below_alloc (Below.refl _ _) _).drew⟩

end Go.Proofs.YtnpeedmicjeleaaDoor

/- Layer 9 (table): against, hop, and the closure of place. -/
namespace Go.Proofs.YtnpeedmicjeleaaDoor
open Go.RowKit
set_option linter.unusedVariables false
set_option linter.unusedSimpArgs false
set_option maxRecDepth 4000

theorem against_any (r : Row) (p : Pfx) (w : World) (hr : r.fits) (hp : B16 p.l) : Calls Tryd.prog 56 #[.agg (rowV r), .agg (pfxV p.v p.l p.b)] w fun e w' => e = .returned (.int .i64 (r.p.cmp p)) ∧ Below w.heap.size w w' := by
  have hblk1 := blk_new w (.cells (rowV r) 93)
  have hbel1 : Below w.heap.size w (w.alloc (.cells (rowV r) 93)) := below_alloc (Below.refl _ _) _
  have hblk2 := blk_new (w.alloc (.cells (rowV r) 93)) (.cells (pfxV p.v p.l p.b) 49)
  have hbel2 : Below w.heap.size w ((w.alloc (.cells (rowV r) 93)).alloc (.cells (pfxV p.v p.l p.b) 49)) := below_alloc (hbel1) _
  rw [show (w.alloc (.cells (rowV r) 93)).heap.size = w.heap.size + 1 by simp] at hblk2
  replace hblk1 := blk_below hblk1 (below_alloc (Below.refl _ _) (.cells (pfxV p.v p.l p.b) 49))
  have HP1 := Lib.hid (row_at hr hblk1)
  have HBK1 := Lib.hid hblk1
  have HP2 := Lib.hid (pfx_at hp hblk2)
  have HBK2 := Lib.hid hblk2
  have HBE := Lib.hid hbel2
  obtain ⟨cs1, hcs1⟩ : ∃ cs, rowV r = cs := ⟨_, rfl⟩
  obtain ⟨cs2, hcs2⟩ : ∃ cs, pfxV p.v p.l p.b = cs := ⟨_, rfl⟩
  simp only [hcs1, hcs2] at HBE HP1 HP2 HBK1 HBK2 ⊢
  have HC1 := Lib.hid hcs1
  have HC2 := Lib.hid hcs2
  clear hcs1 hblk1 hbel1 hcs2 hblk2 hbel2
  have hl1 := (HP1.out.all _ (Below.refl _ _)).pfx
  have hl2 := (HP2.out.all _ (Below.refl _ _)).2.2.2.2
  go_enter Tryd.func56, Tryd.ntmps56
  go_wp2_with (first | ((with_reducible show wpList _ _ _ (Oper.mk _ (Op.load _ _) _ _ _ _ :: _) _ _); refine wpList_load_g hl1 _ rfl rfl (by go_simp) ?_) | ((with_reducible show wpList _ _ _ (Oper.mk _ (Op.load _ _) _ _ _ _ :: _) _ _); refine wpList_load_g hl2 _ rfl rfl (by go_simp) ?_))
  refine (compare_any r.p p _ hr hp).mono ?_
  rintro e w1 ⟨rfl, hbb1⟩
  have HB1 := Lib.hid hbb1
  clear hbb1 hl1 hl2
  go_wp2
  go_ret
  exact ⟨rfl, below_step HBE.out HB1.out⟩
def hopB (n : Int) : Bool := decide (1 ≤ n) && decide (n ≤ 255)
theorem hop_any (n : Int) (w : World) : Calls Tryd.prog 55 #[.int .i64 n] w fun e w' => e = .returned (.bool (hopB n)) ∧ w = w' := by
  by_cases h1 : 1 ≤ n
  · by_cases h2 : n ≤ 255
    · have HE := Lib.hid (show hopB n = true by unfold hopB; simp [h1, h2])
      go_enter Tryd.func55, Tryd.ntmps55
      go_wp2
      go_ret
      rw [HE.out]
      exact ⟨rfl, rfl⟩
    · have HE := Lib.hid (show hopB n = false by unfold hopB; simp [h2])
      have h2' : decide (n ≤ 255) = false := decide_eq_false h2
      clear h2
      go_enter Tryd.func55, Tryd.ntmps55
      go_wp2
      go_ret
      rw [HE.out]
      exact ⟨rfl, rfl⟩
  · have HE := Lib.hid (show hopB n = false by unfold hopB; simp [h1])
    have h1' : decide (1 ≤ n) = false := decide_eq_false h1
    clear h1
    go_enter Tryd.func55, Tryd.ntmps55
    go_wp2
    go_ret
    rw [HE.out]
    exact ⟨rfl, rfl⟩
theorem place1_any (r : Row) (p : Pfx) (w : World) (hr : r.fits) (hp : B16 p.l) : Calls Tryd.prog 93 #[.agg (rowV r), .agg (pfxV p.v p.l p.b)] w fun e w' => e = .returned (.int .i64 (r.p.cmp p)) ∧ Below w.heap.size w w' := by
  have hblk1 := blk_new w (.cells (rowV r) 79)
  have hbel1 : Below w.heap.size w (w.alloc (.cells (rowV r) 79)) := below_alloc (Below.refl _ _) _
  have hblk2 := blk_new (w.alloc (.cells (rowV r) 79)) (.cells (pfxV p.v p.l p.b) 49)
  have hbel2 : Below w.heap.size w ((w.alloc (.cells (rowV r) 79)).alloc (.cells (pfxV p.v p.l p.b) 49)) := below_alloc (hbel1) _
  rw [show (w.alloc (.cells (rowV r) 79)).heap.size = w.heap.size + 1 by simp] at hblk2
  replace hblk1 := blk_below hblk1 (below_alloc (Below.refl _ _) (.cells (pfxV p.v p.l p.b) 49))
  have HP1 := Lib.hid (row_at hr hblk1)
  have HBK1 := Lib.hid hblk1
  have HP2 := Lib.hid (pfx_at hp hblk2)
  have HBK2 := Lib.hid hblk2
  have HBE := Lib.hid hbel2
  obtain ⟨cs1, hcs1⟩ : ∃ cs, rowV r = cs := ⟨_, rfl⟩
  obtain ⟨cs2, hcs2⟩ : ∃ cs, pfxV p.v p.l p.b = cs := ⟨_, rfl⟩
  simp only [hcs1, hcs2] at HBE HP1 HP2 HBK1 HBK2 ⊢
  have HC1 := Lib.hid hcs1
  have HC2 := Lib.hid hcs2
  clear hcs1 hblk1 hbel1 hcs2 hblk2 hbel2
  have hl1 := (HP1.out.all _ (Below.refl _ _)).row
  have hl2 := (HP2.out.all _ (Below.refl _ _)).2.2.2.2
  rw [HC1.out] at hl1
  rw [HC2.out] at hl2
  go_enter Tryd.func93, Tryd.ntmps93
  go_wp2_with (first | ((with_reducible show wpList _ _ _ (Oper.mk _ (Op.load _ _) _ _ _ _ :: _) _ _); refine wpList_load_g hl1 _ rfl rfl (by go_simp) ?_) | ((with_reducible show wpList _ _ _ (Oper.mk _ (Op.load _ _) _ _ _ _ :: _) _ _); refine wpList_load_g hl2 _ rfl rfl (by go_simp) ?_))
  rw [← HC1.out, ← HC2.out]
  refine (against_any r p _ hr hp).mono ?_
  rintro e w1 ⟨rfl, hbb1⟩
  rw [HC1.out, HC2.out] at hbb1
  have HB1 := Lib.hid hbb1
  clear hbb1 hl1 hl2
  go_wp2
  go_ret
  exact ⟨rfl, below_step HBE.out HB1.out⟩
end Go.Proofs.YtnpeedmicjeleaaDoor

/- Layer 9 (table): the place of a prefix. -/
namespace Go.Proofs.YtnpeedmicjeleaaDoor
open Go.RowKit
set_option linter.unusedVariables false
set_option linter.unusedSimpArgs false
set_option maxRecDepth 4000

set_option maxHeartbeats 2000000 in
theorem bsearch_any (A : Option Addr) (n c : Nat) (t : List Row) (p : Pfx) (w : World) (ht : RT w A n c t) (hu : rising t = true) (hp : B16 p.l) (hn : n ≤ 1000) :
    Calls Tryd.prog 92 #[.slice A n c, .agg (pfxV p.v p.l p.b), .func (Fn.func 93) #[] #[]] w fun e w' => e = .returned (.tuple #[.int .i64 (lowN t p), .bool (thereB t p)]) ∧ Below w.heap.size w w' := by
  have hblk1 := blk_new w (.cells (pfxV p.v p.l p.b) 49)
  have hbel1 : Below w.heap.size w (w.alloc (.cells (pfxV p.v p.l p.b) 49)) := below_alloc (Below.refl _ _) _
  have HP1 := Lib.hid (pfx_at hp hblk1)
  have HBK1 := Lib.hid hblk1
  have HBE := Lib.hid hbel1
  obtain ⟨cs1, hcs1⟩ : ∃ cs, pfxV p.v p.l p.b = cs := ⟨_, rfl⟩
  simp only [hcs1] at HBE HP1 HBK1 ⊢
  have HC1 := Lib.hid hcs1
  clear hcs1 hblk1 hbel1
  have HT := Lib.hid ht
  have HU := Lib.hid hu
  have HLE := Lib.hid (show lowN t p ≤ n by rw [← ht.len]; exact lowN_le t p)
  have hl2 := (HP1.out.all _ (Below.refl _ _)).2.2.2.2
  rw [HC1.out] at hl2
  clear ht hu
  go_enter Tryd.func92, Tryd.ntmps92
  go_wp2_with fail
  clear hl2
  go_loopw [9, 10] (fun x y wr => ∃ i j : Nat, x = .int .i64 i ∧ y = .int .i64 j ∧ Hid (i ≤ lowN t p ∧ lowN t p ≤ j ∧ j ≤ n ∧ Below (w.alloc (.cells cs1 49)).heap.size (w.alloc (.cells cs1 49)) wr)) (fun x y _ => (intOf y).toNat - (intOf x).toNat)
  case atStart => exact ⟨0, n, rfl, rfl, Nat.zero_le _, HLE.out, Nat.le_refl _, Below.refl _ _⟩
  case round =>
    obtain ⟨i, j, rfl, rfl, HH⟩ := hrel
    have hij := Nat.le_trans HH.out.1 HH.out.2.1
    have hjn := HH.out.2.2.1
    by_cases hlt : i < j
    · have hlt' : (i : Int) < j := by omega
      have hw1 : IntKind.i64.wrap ((i : Int) + j) = i + j := by simp only [IntKind.wrap, IntKind.bits, IntKind.signed]; simp; omega
      have hw2 : IntKind.u64.wrap ((i : Int) + j) = i + j := by simp only [IntKind.wrap, IntKind.bits, IntKind.signed]; simp; omega
      obtain ⟨h, hh⟩ : ∃ h : Nat, ((i : Int) + j) / 2 = h := ⟨(i + j) / 2, by omega⟩
      have hih : i ≤ h := by omega
      have hhj : h < j := by omega
      have HI := Lib.hid (And.intro hih hhj)
      obtain ⟨b, o, rfl, hc⟩ := HT.out.at_ (by omega)
      have hhn : h < n := by omega
      have hhn' : (h : Int) < n := by omega
      have HC := Lib.hid (hc h hhn)
      have HF := Lib.hid (HT.out.fits_at hhn)
      have HSP := Lib.hid (lowN_spec p HU.out h (by rw [HT.out.len]; exact hhn))
      clear hih hhj hc
      go_wp2_with fail
      refine wp_region_mix (fun w0 => Below (wr).heap.size (wr) w0) [(0, 0), (1, 0), (2, 0), (3, 0), (4, 0), (5, 0), (6, 2), (7, 0)] (by kernel_rfl) (by kernel_rfl) (below_drew1 _) ?_
      simp only [List.map_cons, List.map_nil]
      iterate 4 (refine wpO_step0 rfl rfl (fun K hK => ?_); go_simp; refine hK _ _ ?_; clear hK K)
      refine wpO_loadW (t := 79) (ad := ⟨b, (o+h*19), none⟩) rfl rfl ?hw rfl rfl ((fun w0 hS => (rowLd_of HF.out (HC.out.below (below_step HBE.out (below_step HH.out.2.2.2 hS)))).row)) ?_
      case hw => go_simp
      refine wpO_loadW (t := 49) (ad := ⟨w.heap.size, 0, none⟩) rfl rfl ?hw rfl rfl ((fun w0 hS => (HP1.out.all w0 (below_step HH.out.2.2.2 hS)).2.2.2.2)) ?_
      case hw => go_simp
      refine wpO_step2 rfl rfl (below_drew1 _) (fun K hK => ?_)
      go_simp
      refine (place1_any (rowAt t h) p _ HF.out hp).mono ?_
      rintro e w3 ⟨rfl, hbb3⟩
      have HB3 := Lib.hid (below_step (below_drew1 _) hbb3)
      clear hbb3
      refine hK _ _ ⟨HB3.out, ?_⟩
      clear hK K
      cases hcm : decide ((rowAt t h).p.cmp p < 0) with
      | true =>
        iterate 1 (refine wpO_step0 rfl rfl (fun K hK => ?_); go_simp; refine hK _ _ ?_; clear hK K)
        refine wpO_nil ?_
        have HQ := Lib.hid (of_decide_eq_true hcm)
        go_wp2_with fail
        go_roundw
        case measure => simp [intOf]; have := HI.out; omega
        case rel =>
          refine ⟨h + 1, j, by go_num, rfl, ?_, HH.out.2.1, hjn, below_step HH.out.2.2.2 HB3.out⟩
          rcases Nat.lt_or_ge h (lowN t p) with hl | hl
          · exact hl
          · have h1 := HSP.out.2 hl
            have h2 := HQ.out
            omega
      | false =>
        iterate 1 (refine wpO_step0 rfl rfl (fun K hK => ?_); go_simp; refine hK _ _ ?_; clear hK K)
        refine wpO_nil ?_
        have HQ := Lib.hid (of_decide_eq_false hcm)
        go_wp2_with fail
        go_roundw
        case measure => simp [intOf]; have := HI.out; omega
        case rel =>
          refine ⟨i, h, rfl, rfl, HH.out.1, ?_, by omega, below_step HH.out.2.2.2 HB3.out⟩
          rcases Nat.lt_or_ge h (lowN t p) with hl | hl
          · have h1 := HSP.out.1 hl
            have h2 := HQ.out
            omega
          · exact hl
    · have hlt' : decide (i < j) = false := decide_eq_false hlt
      have hlow : i = lowN t p := by have h1 := HH.out.1; have h2 := HH.out.2.1; omega
      have HLO := Lib.hid hlow
      clear hlow hlt
      by_cases hin : i < n
      · obtain ⟨b, o, rfl, hc⟩ := HT.out.at_ (by omega)
        have hin' : (i : Int) < n := by omega
        have HC := Lib.hid (hc i hin)
        have HF := Lib.hid (HT.out.fits_at hin)
        have HTH := Lib.hid (show thereB t p = ((rowAt t i).p.cmp p == 0) by unfold thereB; rw [← HLO.out, rowAt_get (by rw [HT.out.len]; exact hin)])
        clear hc
        go_wp2_with fail
        refine wp_region_mix (fun w0 => Below (wr).heap.size (wr) w0) [(0, 0), (1, 0), (2, 0), (3, 0), (4, 0), (5, 0), (6, 0), (7, 0), (8, 0), (9, 0), (10, 0), (11, 2), (12, 0), (13, 0), (14, 0), (15, 0)] (by kernel_rfl) (by kernel_rfl) (below_drew1 _) ?_
        simp only [List.map_cons, List.map_nil]
        iterate 9 (refine wpO_step0 rfl rfl (fun K hK => ?_); go_simp; refine hK _ _ ?_; clear hK K)
        refine wpO_loadW (t := 79) (ad := ⟨b, (o+i*19), none⟩) rfl rfl ?hw rfl rfl ((fun w0 hS => (rowLd_of HF.out (HC.out.below (below_step HBE.out (below_step HH.out.2.2.2 hS)))).row)) ?_
        case hw => go_simp
        refine wpO_loadW (t := 49) (ad := ⟨w.heap.size, 0, none⟩) rfl rfl ?hw rfl rfl ((fun w0 hS => (HP1.out.all w0 (below_step HH.out.2.2.2 hS)).2.2.2.2)) ?_
        case hw => go_simp
        refine wpO_step2 rfl rfl (below_drew1 _) (fun K hK => ?_)
        go_simp
        refine (place1_any (rowAt t i) p _ HF.out hp).mono ?_
        rintro e w3 ⟨rfl, hbb3⟩
        have HB3 := Lib.hid (below_step (below_drew1 _) hbb3)
        clear hbb3
        refine hK _ _ ⟨HB3.out, ?_⟩
        clear hK K
        iterate 4 (refine wpO_step0 rfl rfl (fun K hK => ?_); go_simp; refine hK _ _ ?_; clear hK K)
        refine wpO_nil ?_
        go_wp2
        refine bodyPost_ret (results_tmp2 rfl _ _ _) rfl ?_
        rw [← HLO.out, HTH.out]
        exact ⟨rfl, below_step HBE.out (below_step HH.out.2.2.2 HB3.out)⟩
      · have hin' : decide (i < n) = false := decide_eq_false hin
        have HTH := Lib.hid (show thereB t p = false by unfold thereB; rw [← HLO.out, List.getElem?_eq_none_iff.2 (by rw [HT.out.len]; omega)])
        clear hin
        go_wp2_with fail
        refine wp_region_mix (fun w0 => Below (wr).heap.size (wr) w0) [(0, 0), (1, 0), (2, 0), (3, 0), (4, 0), (5, 0), (6, 0), (7, 0), (8, 0), (9, 0), (10, 0), (11, 2), (12, 0), (13, 0), (14, 0), (15, 0)] (by kernel_rfl) (by kernel_rfl) (below_drew1 _) ?_
        simp only [List.map_cons, List.map_nil]
        repeat first | (refine wpO_step0 rfl rfl (fun K hK => ?_); go_simp; refine hK _ _ ?_; clear hK K) | (refine wpO_step2 rfl rfl (below_drew1 _) (fun K hK => ?_); go_simp; refine hK _ _ ⟨below_drew1 _, ?_⟩; clear hK K)
        refine wpO_nil ?_
        go_wp2
        refine bodyPost_ret (results_tmp2 rfl _ _ _) rfl ?_
        rw [← HLO.out, HTH.out]
        exact ⟨rfl, below_step HBE.out (below_step HH.out.2.2.2 (below_drew1 _))⟩
theorem place_any (A : Option Addr) (n c : Nat) (t : List Row) (p : Pfx) (w : World) (ht : RT w A n c t) (hu : rising t = true) (hp : B16 p.l) (hn : n ≤ 1000) : Calls Tryd.prog 57 #[.agg (tabV A n c), .agg (pfxV p.v p.l p.b)] w fun e w' => e = .returned (.tuple #[.int .i64 (lowN t p), .bool (thereB t p)]) ∧ Below w.heap.size w w' := by
  have hblk1 := blk_new w (.cells (tabV A n c) 39)
  have hbel1 : Below w.heap.size w (w.alloc (.cells (tabV A n c) 39)) := below_alloc (Below.refl _ _) _
  have hblk2 := blk_new (w.alloc (.cells (tabV A n c) 39)) (.cells (pfxV p.v p.l p.b) 49)
  have hbel2 : Below w.heap.size w ((w.alloc (.cells (tabV A n c) 39)).alloc (.cells (pfxV p.v p.l p.b) 49)) := below_alloc (hbel1) _
  rw [show (w.alloc (.cells (tabV A n c) 39)).heap.size = w.heap.size + 1 by simp] at hblk2
  replace hblk1 := blk_below hblk1 (below_alloc (Below.refl _ _) (.cells (pfxV p.v p.l p.b) 49))
  have HP1 := Lib.hid (tab_at hblk1)
  have HBK1 := Lib.hid hblk1
  have HP2 := Lib.hid (pfx_at hp hblk2)
  have HBK2 := Lib.hid hblk2
  have HBE := Lib.hid hbel2
  obtain ⟨cs1, hcs1⟩ : ∃ cs, tabV A n c = cs := ⟨_, rfl⟩
  obtain ⟨cs2, hcs2⟩ : ∃ cs, pfxV p.v p.l p.b = cs := ⟨_, rfl⟩
  simp only [hcs1, hcs2] at HBE HP1 HP2 HBK1 HBK2 ⊢
  have HC1 := Lib.hid hcs1
  have HC2 := Lib.hid hcs2
  clear hcs1 hblk1 hbel1 hcs2 hblk2 hbel2
  have HT := Lib.hid ht
  have HU := Lib.hid hu
  clear ht hu
  have hl1 := (HP1.out.all _ (Below.refl _ _)).2
  have hl2 := (HP2.out.all _ (Below.refl _ _)).2.2.2.2
  rw [HC2.out] at hl2
  go_enter Tryd.func57, Tryd.ntmps57
  go_wp2_with (first | ((with_reducible show wpList _ _ _ (Oper.mk _ (Op.load _ _) _ _ _ _ :: _) _ _); refine wpList_load_g hl1 _ rfl rfl (by go_simp) ?_) | ((with_reducible show wpList _ _ _ (Oper.mk _ (Op.load _ _) _ _ _ _ :: _) _ _); refine wpList_load_g hl2 _ rfl rfl (by go_simp) ?_))
  have hbs := bsearch_any A n c t p _ (HT.out.below HBE.out) HU.out hp hn
  rw [HC2.out] at hbs
  refine hbs.mono ?_
  clear hbs
  rintro e w1 ⟨rfl, hbb1⟩
  have HB1 := Lib.hid hbb1
  clear hbb1 hl1 hl2
  go_wp2
  refine bodyPost_ret (results_tmp2 rfl _ _ _) rfl ?_
  exact ⟨rfl, below_step HBE.out HB1.out⟩
end Go.Proofs.YtnpeedmicjeleaaDoor

/- Layer 9 (table): Check. -/
namespace Go.Proofs.YtnpeedmicjeleaaDoor
open Go.RowKit
set_option linter.unusedVariables false
set_option linter.unusedSimpArgs false
set_option maxRecDepth 4000

theorem store_row_fit {cs : Array Value} {r : Row} (hf : r.fits) (h : cs.size = 19) : 0 + (rowV r).size ≤ cs.size := by rw [rowV_size hf, h]; omega
theorem splice_row {cs : Array Value} {r : Row} (hf : r.fits) (h : cs.size = 19) : splice cs 0 (rowV r).toList = rowV r := splice_all _ _ (by rw [Array.length_toList, rowV_size hf, h])
def errT (t : List Row) : Int := if tabB t then 0 else 190
set_option maxHeartbeats 4000000 in
theorem tcheck_any (A : Option Addr) (n c : Nat) (t : List Row) (w : World) (hL : Laid w) (ht : RT w A n c t) (hn : n ≤ 100000) : Calls Tryd.prog 19 #[.agg (tabV A n c)] w fun e w' => e = .returned (.int .i64 (errT t)) ∧ Below w.heap.size w w' := by
  have hblk1 := blk_new w (.cells (tabV A n c) 39)
  have hbel1 : Below w.heap.size w (w.alloc (.cells (tabV A n c) 39)) := below_alloc (Below.refl _ _) _
  have HP1 := Lib.hid (tab_at hblk1)
  have HBK1 := Lib.hid hblk1
  have HBE := Lib.hid hbel1
  have HL := Lib.hid (hL.below HBE.out)
  obtain ⟨cs1, hcs1⟩ : ∃ cs, tabV A n c = cs := ⟨_, rfl⟩
  simp only [hcs1] at HBE HL HP1 HBK1 ⊢
  have HC1 := Lib.hid hcs1
  clear hL hcs1 hblk1 hbel1
  have HT := Lib.hid ht
  have hl1 := (HP1.out.all _ (Below.refl _ _)).2
  clear ht
  go_enter Tryd.func19, Tryd.ntmps19
  go_wp2_with ((with_reducible show wpList _ _ _ (Oper.mk _ (Op.load _ _) _ _ _ _ :: _) _ _); refine wpList_load_g hl1 _ rfl rfl (by go_simp) ?_)
  clear hl1
  go_loopw [8] (fun x wr => ∃ i : Nat, x = .int .i64 i ∧ Hid (i ≤ n ∧ i ≤ 40 ∧ (∀ k, k < i → (rowAt t k).okB = true) ∧ (∀ k, k + 1 < i → (rowAt t k).p.cmp (rowAt t (k + 1)).p < 0) ∧ Below (w.alloc (.cells cs1 39)).heap.size (w.alloc (.cells cs1 39)) wr)) (fun x _ => n - (intOf x).toNat)
  case atStart => exact ⟨0, rfl, Nat.zero_le _, by omega, fun k h => by omega, fun k h => by omega, Below.refl _ _⟩
  case round =>
    obtain ⟨i, rfl, HH⟩ := hrel
    by_cases hlt : i < n
    · have hlt' : (i : Int) < n := by omega
      obtain ⟨b, o, rfl, hc⟩ := HT.out.at_ (by omega)
      have HC := Lib.hid hc
      have HF := Lib.hid (HT.out.fits_at hlt)
      have hrow := (rowLd_of HF.out ((hc i hlt).below (below_step HBE.out HH.out.2.2.2.2))).row
      clear hc
      go_wp2_with (first | ((with_reducible show wpList _ _ _ (Oper.mk _ (Op.load _ _) _ _ _ _ :: _) _ _); refine wpList_load_g hrow _ rfl rfl (by go_simp) ?_) | (refine wpList_store_blk (blk_new wr _) 79 0 (rowV (rowAt t i)) (store_row_fit HF.out rfl) (info_row HF.out) (rowV_one _) _ _ rfl rfl rfl rfl ?_; intro w2 hg hs hb; rw [splice_row HF.out rfl] at hb; have H2 := Lib.hid (And.intro (below_grown (below_alloc (Below.refl wr.heap.size wr) _) hg (Nat.le_refl _)) (row_at HF.out hb)); clear hg hs hb))
      clear hrow
      have HBW := Lib.hid (below_step HH.out.2.2.2.2 H2.out.1)
      by_cases h40 : i = 40
      · have HE := Lib.hid (show errT t = 190 by
          unfold errT
          rw [if_neg]
          intro h
          have := ((tabB_iff t).1 h).1
          rw [HT.out.len] at this
          omega)
        have h40' : ((i : Int) == 40) = true := by simp; omega
        clear h40
        refine wp_region_mix (fun w0 => Below (w2).heap.size (w2) w0) [(0, 0), (1, 0), (2, 0), (3, 0), (4, 0), (5, 2), (6, 0), (7, 0), (8, 0), (9, 0), (10, 0), (11, 0), (12, 0), (13, 0), (14, 0), (15, 0), (16, 0), (17, 0), (18, 0), (19, 0), (20, 0), (21, 0), (22, 0), (23, 0), (24, 0), (25, 0), (26, 2), (27, 0), (28, 0), (29, 0)] (by kernel_rfl) (by kernel_rfl) (below_drew1 _) ?_
        simp only [List.map_cons, List.map_nil]
        repeat first | (refine wpO_step0 rfl rfl (fun K hK => ?_); go_simp; refine hK _ _ ?_; clear hK K) | (refine wpO_step2 rfl rfl (below_drew1 _) (fun K hK => ?_); go_simp; refine hK _ _ ⟨below_drew1 _, ?_⟩; clear hK K)
        refine wpO_nil ?_
        go_wp2
        go_ret
        rw [HE.out]
        exact ⟨rfl, below_step HBE.out (below_step HBW.out (below_drew1 _))⟩
      · have h40' : ((i : Int) == 40) = false := by simp; omega
        have HI := Lib.hid h40
        clear h40
        refine wp_region_mix (fun w0 => Below (w2).heap.size (w2) w0) [(0, 0), (1, 0), (2, 0), (3, 0), (4, 0), (5, 2), (6, 0), (7, 0), (8, 0), (9, 0), (10, 0), (11, 0), (12, 0), (13, 0), (14, 0), (15, 0), (16, 0), (17, 0), (18, 0), (19, 0), (20, 0), (21, 0), (22, 0), (23, 0), (24, 0), (25, 0), (26, 2), (27, 0), (28, 0), (29, 0)] (by kernel_rfl) (by kernel_rfl) (below_drew1 _) ?_
        simp only [List.map_cons, List.map_nil]
        iterate 4 (refine wpO_step0 rfl rfl (fun K hK => ?_); go_simp; refine hK _ _ ?_; clear hK K)
        refine wpO_loadW (t := 49) (ad := ⟨wr.heap.size, 0, none⟩) rfl rfl ?hw rfl rfl ((fun w0 hS => (H2.out.2.all w0 hS).pfx)) ?_
        case hw => go_simp
        refine wpO_step2 rfl rfl (below_drew1 _) (fun K hK => ?_)
        go_simp
        refine (check_any (rowAt t i).p.v (rowAt t i).p.l (rowAt t i).p.b _ (HL.out.below (below_step HBW.out (below_drew1 _))) HF.out).mono ?_
        rintro e w3 ⟨rfl, hbb3⟩
        have HB3 := Lib.hid (below_step (below_drew1 _) hbb3)
        clear hbb3
        refine hK _ _ ⟨HB3.out, ?_⟩
        clear hK K
        have hNO : ∀ P : Prop, (errT t = 190 ↔ tabB t = false) := fun _ => by unfold errT; cases tabB t <;> simp
        cases hR : rightP (rowAt t i).p.v (rowAt t i).p.l (rowAt t i).p.b with
        | false =>
          have HE := Lib.hid (show errT t = 190 by
            unfold errT
            rw [if_neg]
            intro h
            have h2 := ((okB_iff _).1 (((tabB_iff t).1 h).2.1 i (by rw [HT.out.len]; exact hlt))).1
            have h3 : (rowAt t i).p.right = false := hR
            rw [h3] at h2
            cases h2)
          have hE : errP (rowAt t i).p.v (rowAt t i).p.l (rowAt t i).p.b = 151 := by unfold errP; rw [hR]; rfl
          rw [hE]
          clear hE hR hNO
          repeat first | (refine wpO_step0 rfl rfl (fun K hK => ?_); go_simp; refine hK _ _ ?_; clear hK K) | (refine wpO_step2 rfl rfl (HB3.out) (fun K hK => ?_); go_simp; refine hK _ _ ⟨HB3.out, ?_⟩; clear hK K)
          refine wpO_nil ?_
          go_wp2
          go_ret
          rw [HE.out]
          exact ⟨rfl, below_step HBE.out (below_step HBW.out HB3.out)⟩
        | true =>
          have HR := Lib.hid (show (rowAt t i).p.right = true from hR)
          have hE : errP (rowAt t i).p.v (rowAt t i).p.l (rowAt t i).p.b = 0 := by unfold errP; rw [hR]; rfl
          rw [hE]
          clear hE hR hNO
          iterate 4 (refine wpO_step0 rfl rfl (fun K hK => ?_); go_simp; refine hK _ _ ?_; clear hK K)
          refine wpO_loadW (t := 3) (ad := ⟨wr.heap.size, 18, none⟩) rfl rfl ?hw rfl rfl ((fun w0 hS => (H2.out.2.all w0 hS).hop)) ?_
          case hw => go_simp
          refine wpO_quiet rfl rfl ?hw Tryd.func55 (by kernel_rfl) (by kernel_rfl) rfl rfl (fun w0 hS => hop_any (rowAt t i).h w0) ?_
          case hw => go_simp
          cases hH : hopB (rowAt t i).h with
          | false =>
            have HE := Lib.hid (show errT t = 190 by
              unfold errT
              rw [if_neg]
              intro h
              have h2 := ((okB_iff _).1 (((tabB_iff t).1 h).2.1 i (by rw [HT.out.len]; exact hlt))).2
              have h3 : hopB (rowAt t i).h = true := by unfold hopB; simp [h2]
              rw [hH] at h3
              cases h3)
            clear hH
            repeat first | (refine wpO_step0 rfl rfl (fun K hK => ?_); go_simp; refine hK _ _ ?_; clear hK K) | (refine wpO_step2 rfl rfl (HB3.out) (fun K hK => ?_); go_simp; refine hK _ _ ⟨HB3.out, ?_⟩; clear hK K)
            refine wpO_nil ?_
            go_wp2
            go_ret
            rw [HE.out]
            exact ⟨rfl, below_step HBE.out (below_step HBW.out HB3.out)⟩
          | true =>
            have HOK := Lib.hid (show (rowAt t i).okB = true by
              unfold hopB at hH
              simp only [Bool.and_eq_true, decide_eq_true_eq] at hH
              exact (okB_iff _).2 ⟨HR.out, hH⟩)
            clear hH
            by_cases h0 : i = 0
            · have h0' : decide (0 < i) = false := decide_eq_false (by omega)
              have HI0 := Lib.hid h0
              clear h0
              repeat first | (refine wpO_step0 rfl rfl (fun K hK => ?_); go_simp; refine hK _ _ ?_; clear hK K) | (refine wpO_step2 rfl rfl (HB3.out) (fun K hK => ?_); go_simp; refine hK _ _ ⟨HB3.out, ?_⟩; clear hK K)
              refine wpO_nil ?_
              go_wp2_with fail
              go_roundw
              case measure => simp [intOf]; omega
              case rel =>
                have hi0 := HI0.out
                have := HI.out
                refine ⟨i + 1, by go_num, by omega, by omega, fun k hk => ?_, fun k hk => by omega, below_step HBW.out HB3.out⟩
                rw [show k = i by omega]
                exact HOK.out
            · have h0' : 0 < i := by omega
              obtain ⟨k, hk⟩ : ∃ k : Nat, (i : Int) - 1 = k := ⟨i - 1, by omega⟩
              have hik : i = k + 1 := by omega
              have HK := Lib.hid hik
              have hwk : IntKind.i64.wrap (k : Int) = k := by simp only [IntKind.wrap, IntKind.bits, IntKind.signed]; simp; omega
              have hkn : k < n := by omega
              have hkn' : (k : Int) < n := by omega
              have HFK := Lib.hid (HT.out.fits_at hkn)
              have HCK := Lib.hid (HC.out k hkn)
              have HPOS := Lib.hid h0
              clear hik h0
              iterate 7 (refine wpO_step0 rfl rfl (fun K hK => ?_); go_simp; refine hK _ _ ?_; clear hK K)
              refine wpO_loadW (t := 37) (ad := ⟨w.heap.size, 0, none⟩) rfl rfl ?hw rfl rfl ((fun w0 hS => (HP1.out.all w0 (below_step HBW.out hS)).2)) ?_
              case hw => go_simp
              iterate 3 (refine wpO_step0 rfl rfl (fun K hK => ?_); go_simp; refine hK _ _ ?_; clear hK K)
              refine wpO_loadW (t := 79) (ad := ⟨b, (o+k*19), none⟩) rfl rfl ?hw rfl rfl ((fun w0 hS => (rowLd_of HFK.out (HCK.out.below (below_step HBE.out (below_step HBW.out hS)))).row)) ?_
              case hw => go_simp
              iterate 1 (refine wpO_step0 rfl rfl (fun K hK => ?_); go_simp; refine hK _ _ ?_; clear hK K)
              refine wpO_loadW (t := 49) (ad := ⟨wr.heap.size, 0, none⟩) rfl rfl ?hw rfl rfl ((fun w0 hS => (H2.out.2.all w0 hS).pfx)) ?_
              case hw => go_simp
              refine wpO_step2 rfl rfl (HB3.out) (fun K hK => ?_)
              go_simp
              refine (against_any (rowAt t k) (rowAt t i).p _ HFK.out HF.out).mono ?_
              rintro e w4 ⟨rfl, hbb4⟩
              have HB4 := Lib.hid (below_step HB3.out hbb4)
              clear hbb4
              refine hK _ _ ⟨HB4.out, ?_⟩
              clear hK K
              cases hcm : decide (0 ≤ (rowAt t k).p.cmp (rowAt t i).p) with
              | true =>
                have HE := Lib.hid (show errT t = 190 by
                  unfold errT
                  rw [if_neg]
                  intro h
                  have h2 := ((tabB_iff t).1 h).2.2 k (by rw [HT.out.len]; have := HK.out; omega)
                  rw [← HK.out] at h2
                  have h3 := of_decide_eq_true hcm
                  omega)
                iterate 3 (refine wpO_step0 rfl rfl (fun K hK => ?_); go_simp; refine hK _ _ ?_; clear hK K)
                refine wpO_nil ?_
                go_wp2
                go_ret
                rw [HE.out]
                exact ⟨rfl, below_step HBE.out (below_step HBW.out HB4.out)⟩
              | false =>
                have HQ := Lib.hid (of_decide_eq_false hcm)
                iterate 3 (refine wpO_step0 rfl rfl (fun K hK => ?_); go_simp; refine hK _ _ ?_; clear hK K)
                refine wpO_nil ?_
                go_wp2_with fail
                go_roundw
                case measure => simp [intOf]; omega
                case rel =>
                  have hkk := HK.out
                  have := HI.out
                  have h40n := HH.out.2.1
                  refine ⟨i + 1, by go_num, by omega, by omega, fun q hq => ?_, fun q hq => ?_, below_step HBW.out HB4.out⟩
                  · by_cases hqi : q < i
                    · exact HH.out.2.2.1 q hqi
                    · rw [show q = i by omega]; exact HOK.out
                  · by_cases hqi : q + 1 < i
                    · exact HH.out.2.2.2.1 q hqi
                    · have e1 : q = k := by omega
                      have e2 : q + 1 = i := by omega
                      rw [e2, e1]
                      have := HQ.out
                      omega
    · have hlt' : decide (i < n) = false := decide_eq_false hlt
      have HE := Lib.hid (show errT t = 0 by
        unfold errT
        rw [if_pos ((tabB_iff t).2 ⟨by rw [HT.out.len]; have := HH.out.1; have := HH.out.2.1; omega, fun k hk => HH.out.2.2.1 k (by rw [HT.out.len] at hk; omega), fun k hk => HH.out.2.2.2.1 k (by rw [HT.out.len] at hk; omega)⟩)])
      have HB := Lib.hid HH.out.2.2.2.2
      clear hlt
      go_wp2_with fail
      go_ret
      rw [HE.out]
      exact ⟨rfl, below_step HBE.out HB.out⟩
end Go.Proofs.YtnpeedmicjeleaaDoor

/- The library's functions over slices, at rows. -/
namespace Go.Proofs.YtnpeedmicjeleaaDoor
open Go.RowKit
set_option linter.unusedVariables false
set_option linter.unusedSimpArgs false
set_option maxRecDepth 4000
theorem cloneR_any (A : Option Addr) (n c : Nat) (t : List Row) (w : World) (hr : RS rowK w A n c t) (hn : n ≤ 1000000) :
    Calls Tryd.prog 87 #[.slice A n c] w fun e w' => ∃ A' c', e = .returned (.slice A' n c') ∧ OS rowK w' w.heap.size A' n c' t ∧ Below w.heap.size w w' := by
  have hnil := fun (w : World) (A : Option Addr) (n c : Nat) => Lib.run_eql_slice_nil (P := Tryd.prog) w 37 79 A n c 0 0 Tryd.underlying37
  cases A with
  | none =>
    have h0 : n = 0 := by
      rcases Nat.eq_zero_or_pos n with h | h
      · exact h
      · obtain ⟨ad, e, _⟩ := hr.rv.cells h
        cases e
    subst h0
    obtain rfl : t = [] := List.eq_nil_of_length_eq_zero hr.len
    go_enter Tryd.func87, Tryd.ntmps87
    go_wp2
    go_ret
    exact ⟨_, _, rfl, OS.nil _ _ _, Below.refl _ _⟩
  | some ad =>
    go_enter Tryd.func87, Tryd.ntmps87
    go_wp2_with (at_builtin; refine wpList_append_shp rowK rfl (.tmp 5) (.tmp 6) rfl rfl rfl (OS.empty rowK w w.heap.size (Nat.le_refl _)) (hr.below (below_alloc (Below.refl _ _) _)) (by simp) (by omega) ?_; intro A' c' w' h1 h2 h3; rw [Nat.zero_add, List.nil_append] at h1; rw [Nat.zero_add])
    go_ret
    exact ⟨_, _, rfl, h1, below_own (below_alloc (Below.refl _ _) _) h2 (fun ad h => by injection h with h; subst h; exact Nat.le_refl _)⟩
set_option maxHeartbeats 4000000 in
set_option maxRecDepth 100000 in
theorem insertR_any (base : Nat) (A : Option Addr) (n c j vb : Nat) (t : List Row) (r : Row) (w : World) (ho : OS rowK w base A n c t) (hj : j ≤ n) (hn : n ≤ 100000) (hb : base ≤ w.heap.size)
    (hv : w.heap[vb]? = some (.cells (Shape.enc rowK r).toArray 79 (0, 0))) (hrk : Shape.ok rowK r) (hne : ∀ ad, A = some ad → ad.block ≠ vb) :
    Calls Tryd.prog 88 #[.slice A n c, .int .i64 j, .slice (some ⟨vb, 0, none⟩) 1 1] w fun e w' => ∃ A' c', e = .returned (.slice A' (n + 1) c') ∧ OS rowK w' base A' (n + 1) c' (t.take j ++ r :: t.drop j) ∧ w.grownBy w' ((Value.slice A n c).ownBlock) ∧ (A' = A ∨ ∀ ad, A' = some ad → w.heap.size ≤ ad.block) := by
  have hcap := ho.cap
  have hcmax : c ≤ 9223372036854775807 := ho.ov.capmax
  have hRV : RS rowK w (some ⟨vb, 0, none⟩) 1 1 [r] := ⟨⟨by rw [Shape.cells_one, rowK.len r hrk]; simp, by omega, by omega, fun _ => ⟨_, rfl, fun q u hq => by
    rw [Shape.cells_one] at hq
    rw [add_plain, blk_cell hv]
    simpa using hq⟩⟩, Shape.all_one hrk⟩
  have HRV := Lib.hid hRV
  have HN := Lib.hid hne
  have hjn' : (j : Int) ≤ n := by omega
  have hj1 : (j : Int) + 1 = ((j + 1 : Nat) : Int) := by omega
  have hn1 : (n : Int) + 1 = ((n + 1 : Nat) : Int) := by omega
  obtain ⟨A0, hA0⟩ : ∃ A0, (if c = j then A else A.map (·.add (j * 19))) = A0 := ⟨_, rfl⟩
  have hv0 : ∀ W : World, (Instr.slice 37 (.slice A n c) (some (.int .i64 (j : Int))) none none).run Tryd.prog W = .ok (.slice A0 (n - j) (c - j)) W := fun W => by
    rw [← hA0]
    exact cutL rowK A n c _ j rfl hj W
  have HA0 := Lib.hid hA0
  clear hA0
  by_cases hjn : j = n
  · subst hjn
    have htk : t.take j = t := List.take_of_length_le (by rw [ho.len]; exact Nat.le_refl _)
    have htd : t.drop j = [] := List.drop_eq_nil_of_le (by rw [ho.len]; exact Nat.le_refl _)
    rw [htk, htd]
    have HO := Lib.hid ho
    clear ho htk htd hRV hj1 hn1
    go_enter Tryd.func88, Tryd.ntmps88
    go_wp2_with (at_builtin; refine wpList_append_shp rowK rfl (.tmp 23) (.tmp 24) rfl rfl rfl HO.out HRV.out hb (by omega) ?_; intro A' c' w' h1 h2 h3)
    go_ret
    exact ⟨_, _, rfl, h1, h2, h3⟩
  · have hlt : j < n := by omega
    have hjnb : (j == n) = false := by simpa using hjn
    obtain ⟨ad, rfl⟩ : ∃ ad, A = some ad := by
      cases A with
      | none => have := ho.ov.bare rfl; omega
      | some ad => exact ⟨ad, rfl⟩
    have hadlt := ho.lt ad rfl
    have hsub : n + 1 - (j + 1) = n - j := by omega
    have HT := Lib.hid ho.len
    have HO := Lib.hid ho
    have HAL := Lib.hid hadlt
    clear hjn ho hRV hadlt
    by_cases hroom : n + 1 ≤ c
    · have hr1 : decide (c < n + 1) = false := decide_eq_false (by omega)
      have hr2 : decide ((c : Int) < n + 1) = false := decide_eq_false (by omega)
      have hw1 : IntKind.i64.wrap ((n : Int) + 1) = n + 1 := IntWalk.i64_in _ (by omega)
      have hw2 : IntKind.i64.wrap ((j : Int) + 1) = j + 1 := IntWalk.i64_in _ (by omega)
      have hv1 : ∀ W : World, (Instr.slice 37 (.slice (some ad) n c) none (some (.int .i64 ((n : Int) + 1))) none).run Tryd.prog W = .ok (.slice (some ad) (n + 1) c) W := fun W => cutH rowK (some ad) n c _ (n + 1) hn1 hroom W
      obtain ⟨A6, hA6⟩ : ∃ A6, (if c = j + 1 then some ad else some (ad.add ((j + 1) * 19))) = A6 := ⟨_, rfl⟩
      have hv6 : ∀ W : World, (Instr.slice 37 (.slice (some ad) (n + 1) c) (some (.int .i64 ((j : Int) + 1))) none none).run Tryd.prog W = .ok (.slice A6 (n - j) (c - (j + 1))) W := fun W => by
        rw [← hA6, ← hsub]
        exact cutL rowK (some ad) (n + 1) c _ (j + 1) hj1 (by omega) W
      have hv7 : ∀ W : World, (Instr.slice 37 (.slice (some ad) (n + 1) c) (some (.int .i64 (j : Int))) none none).run Tryd.prog W = .ok (.slice A0 (n + 1 - j) (c - j)) W := fun W => by
        rw [← HA0.out]
        exact cutL rowK (some ad) (n + 1) c _ j rfl (by omega) W
      obtain ⟨q1, q2, cur, q3, q4, q5⟩ := HO.out.ov.form _ rfl
      have hcur : cur.size ≠ 0 := by
        have h2 : 1 * 19 ≤ c * 19 := Nat.mul_le_mul_right _ (by omega)
        have h3 : ad.off + c * 19 ≤ cur.size := q4
        omega
      have hvne : vb ≠ ad.block := fun h => HN.out ad rfl h.symm
      obtain ⟨ad6, hA6b⟩ : ∃ ad6, A6 = some ad6 ∧ ad6.block = ad.block := by
        rw [← hA6]
        split
        · exact ⟨_, rfl, rfl⟩
        · exact ⟨_, rfl, add_block _ _⟩
      have hov : ∀ lb cb W, W = w → (callFunc 109 #[.slice (some ⟨vb, 0, none⟩) 1 1, .slice A6 lb cb]).run Tryd.prog W = .ok (.value (.bool false)) W := fun lb cb W hW => by
        subst hW
        obtain ⟨e6, e7⟩ := hA6b
        rw [e6, run_callFunc_extern Tryd.func109 (by kernel_rfl) (by kernel_rfl) (by kernel_rfl) (e := Extern.SlicesOverlaps.overlaps #[37, 37] #[4]) (by kernel_rfl),
          Lib.run_overlaps_apart W 37 4 79 (Shape.und rowK) 19 (Shape.run_size rowK) ⟨vb, 0, none⟩ ad6 1 1 lb cb (by rw [e7]; exact hvne) 79 79 _ cur.size (by simp only [World.shape?, hv]; rfl) (by rw [e7]; simp only [World.shape?, q3]; rfl) hcur (blk_frozen hv 0) (blk_frozen hv _)]
        rfl
      have hov1 := hov (n - j) (c - (j + 1)) w rfl
      clear hov hA6b hcur q1 q2 q3 q4 q5 hvne
      obtain ⟨more, hE⟩ := HO.out.ov.extendTo (n + 1) (by omega) hroom (by omega)
      have hml := hE.len
      have hcl := HO.out.ov.len
      have hEd := hE.below (below_drew1 w)
      have hRd := hEd.reads.drop j (by omega)
      rw [show (if c = j then some ad else Option.map (fun x => x.add (j * rowK.sz)) (some ad)) = A0 from HA0.out] at hRd
      have hdt : ∀ x : List Value, (x.drop (j * rowK.sz)).take ((n - j) * rowK.sz) = (x.drop (j * rowK.sz)).take ((n - j) * rowK.sz) := fun _ => rfl
      have hmin : min (n + 1 - j) (n + 1 - (j + 1)) = n - j := by omega
      have hone1 : ∀ u ∈ ((rowK.cells t ++ more).drop (j * rowK.sz)).take (min (n + 1 - j) (n + 1 - (j + 1)) * rowK.sz), u.oneCell' = true := by
        rw [hmin]
        intro u hu
        have hjs : j * rowK.sz ≤ n * rowK.sz := Nat.mul_le_mul_right _ (by omega)
        rw [List.drop_append_of_le_length (by rw [hcl]; exact hjs), List.take_append_of_le_length (by rw [List.length_drop, hcl, ← Nat.sub_mul]; exact Nat.le_refl _)] at hu
        exact Shape.cells_cell t u (List.mem_of_mem_drop (List.mem_of_mem_take hu))
      obtain ⟨w1, hc1, hO1, hg1⟩ := run_copy_rows (P := Tryd.prog) w.drew 37 3 79 rowK.sz (Shape.und rowK) (Shape.size rowK) ad (n + 1) c (j + 1) _ A0 (n + 1 - j) (c - j) _ hEd hRd (by omega) hone1 (d := A6) hA6.symm (c - (j + 1))
      rw [hmin] at hO1 hc1
      rw [hsub] at hc1
      have hRV1 := ((HRV.out.below (below_drew1 w)).grown hg1 (fun ad' e => by injection e with e; subst e; intro h; injection h with h; exact HN.out ad rfl h.symm)).rv
      rw [Shape.cells_one] at hRV1
      have hmin2 : min 1 (n + 1 - j) = 1 := by omega
      obtain ⟨w2, hc2, hO2, hg2⟩ := run_copy_rows (P := Tryd.prog) w1 37 3 79 rowK.sz (Shape.und rowK) (Shape.size rowK) ad (n + 1) c j _ (some ⟨vb, 0, none⟩) 1 1 _ hO1 hRV1 (by omega) (by rw [hmin2]; intro u hu; exact rowK.one r u (List.mem_of_mem_take hu)) (d := A0) HA0.out.symm (c - j)
      rw [hmin2] at hO2 hc2
      rw [shift_list (rowK.cells t) more (rowK.enc r) rowK.sz j n hcl hml (rowK.len r hrk) (by omega), Shape.cells_take HO.out.fits j (by rw [HT.out]; omega), Shape.cells_drop HO.out.fits j (by rw [HT.out]; omega)] at hO2
      have hO3 : OS rowK w2 base (some ad) (n + 1) c (t.take j ++ r :: t.drop j) := ⟨by
        have : rowK.cells (t.take j ++ r :: t.drop j) = rowK.cells (t.take j) ++ rowK.enc r ++ rowK.cells (t.drop j) := by rw [Shape.cells_append, Shape.cells_cons, List.append_assoc]
        rw [this]
        exact hO2, (HO.out.fits.take j).append (fun x hx => by
        rcases List.mem_cons.1 hx with rfl | hx
        · exact hrk
        · exact HO.out.fits.drop j x hx)⟩
      have H3 := Lib.hid (And.intro hO3 (grown_trans (grown_trans (grown_drewN w 1 _) hg1) hg2))
      clear hO3 hO2 hO1 hg1 hg2 hE hEd hRd hone1 hmin hmin2 hRV1 hdt hml hcl hn1 hj1 hA6 hsub
      go_enter Tryd.func88, Tryd.ntmps88
      go_wp2_with fail
      refine wp_region_mix ((fun _ => True)) [(0, 0), (1, 0), (2, 0), (3, 0), (4, 0), (5, 0), (6, 0), (7, 0), (8, 2)] (by kernel_rfl) (by kernel_rfl) (trivial) ?_
      simp only [List.map_cons, List.map_nil]
      iterate 8 (refine wpO_step0 rfl rfl (fun K hK => ?_); go_simp; refine hK _ _ ?_; clear hK K)
      refine wpO_step2 rfl rfl (trivial) (fun K hK => ?_)
      rw [if_pos (show Region.wanted _ _ = true from rfl)]
      refine oper_exec (exec_copy (.tmp 73) (.tmp 76) _ rfl rfl rfl hc1) ?_
      refine hK _ _ ⟨trivial, ?_⟩
      clear hK K
      refine wpO_nil ?_
      go_wp2_with (refine wpList_exec rfl (exec_copy (.tmp 80) (.tmp 81) _ rfl rfl rfl hc2) ?_)
      go_ret
      exact ⟨_, _, rfl, H3.out.1, H3.out.2, .inl rfl⟩
    · have hr1 : c < n + 1 := by omega
      have hr2 : (c : Int) < n + 1 := by omega
      have hw1 : IntKind.i64.wrap ((n : Int) + 1) = n + 1 := IntWalk.i64_in _ (by omega)
      have hw2 : IntKind.i64.wrap ((j : Int) + 1) = j + 1 := IntWalk.i64_in _ (by omega)
      have hw3 : IntKind.i64.wrap ((n : Int) + 1 - j) = n + 1 - j := IntWalk.i64_in _ (by omega)
      have hv1 : ∀ W : World, (Instr.slice 37 (.slice (some ad) n c) none (some (.int .i64 (j : Int))) none).run Tryd.prog W = .ok (.slice (some ad) j c) W := fun W => cutH rowK (some ad) n c _ j rfl (by omega) W
      have hk : (n : Int) + 1 - j = ((n + 1 - j : Nat) : Int) := by omega
      obtain ⟨ad1, c1, w1, hc1, hO1, hb1, hblk⟩ := run_growz_shp (base := w.heap.size) rowK w 3 37 .i64 .i64 Tryd.underlying3 (some ad) j c (n + 1 - j) _ (HO.out.reads.take j (by omega)) (by omega) (by omega) (by omega) (Nat.le_refl _)
      rw [← hk] at hc1
      rw [show j + (n + 1 - j) = n + 1 by omega] at hc1 hO1
      have hcap1 := hO1.cap
      have hc1max : c1 ≤ 9223372036854775807 := hO1.ov.capmax
      obtain ⟨A4, hA4⟩ : ∃ A4, (if c1 = j then some ad1 else some (ad1.add (j * 19))) = A4 := ⟨_, rfl⟩
      have hv4 : ∀ W : World, (Instr.slice 37 (.slice (some ad1) (n + 1) c1) (some (.int .i64 (j : Int))) none none).run Tryd.prog W = .ok (.slice A4 (n + 1 - j) (c1 - j)) W := fun W => by
        rw [← hA4]
        exact cutL rowK (some ad1) (n + 1) c1 _ j rfl (by omega) W
      obtain ⟨A5, hA5⟩ : ∃ A5, (if c1 = j + 1 then some ad1 else some (ad1.add ((j + 1) * 19))) = A5 := ⟨_, rfl⟩
      have hv5 : ∀ W : World, (Instr.slice 37 (.slice (some ad1) (n + 1) c1) (some (.int .i64 ((j : Int) + 1))) none none).run Tryd.prog W = .ok (.slice A5 (n - j) (c1 - (j + 1))) W := fun W => by
        rw [← hA5, ← hsub]
        exact cutL rowK (some ad1) (n + 1) c1 _ (j + 1) hj1 (by omega) W
      have hvlt := blk_lt hv
      obtain ⟨w2, hc2, hO2, hg2⟩ := run_copy_shp rowK w1 3 ad1 (n + 1) c1 j _ (some ⟨vb, 0, none⟩) 1 1 [r] hO1 (HRV.out.below hb1) (by omega) (d := A4) hA4.symm (c1 - j)
      have hRD := ((((HO.out.reads.drop j (by omega)).below hb1).grown hg2 (fun ad' e => by
        intro h
        injection h with h
        have hb : ad'.block = ad.block := by
          split at e
          · injection e with e; rw [← e]
          · simp only [Option.map_some, Option.some.injEq] at e; rw [← e, add_block]
        have := HAL.out
        omega)).below (below_drew1 w2))
      rw [show (if c = j then some ad else Option.map (fun x => x.add (j * rowK.sz)) (some ad)) = A0 from HA0.out] at hRD
      obtain ⟨w3, hc3, hO3, hg3⟩ := run_copy_shp rowK w2.drew 3 ad1 (n + 1) c1 (j + 1) _ A0 (n - j) (c - j) (t.drop j) (hO2.below (below_drew1 w2)) hRD (by omega) (d := A5) hA5.symm (c1 - (j + 1))
      rw [grow_list t r _ j n HT.out (by omega)] at hO3
      rw [hsub] at hc3
      have hbz : Below w.heap.size w w3 := below_grown (below_step (below_grown hb1 hg2 (by omega)) (below_drew1 w2)) hg3 (by omega)
      have H3 := Lib.hid (And.intro (hO3.lower hb) (And.intro (grown_of_below hbz ((Value.slice (some ad) n c).ownBlock)) (show ∀ ad', some ad1 = some ad' → w.heap.size ≤ ad'.block from fun ad' e => by injection e with e; rw [← e]; omega)))
      clear hO3 hO2 hO1 hg2 hg3 hRD hbz hA4 hA5 hk hblk hn1 hj1 hvlt hb1 hsub
      go_enter Tryd.func88, Tryd.ntmps88
      go_wp2_with (first | (refine wpList_exec rfl (exec_append (.tmp 34) (.tmp 39) _ rfl rfl rfl hc1) ?_) | (refine wpList_exec rfl (exec_copy (.tmp 43) (.tmp 44) _ rfl rfl rfl hc2) ?_))
      refine wp_region_mix ((fun _ => True)) [(0, 0), (1, 0), (2, 0), (3, 0), (4, 0), (5, 0), (6, 0), (7, 0), (8, 2)] (by kernel_rfl) (by kernel_rfl) (trivial) ?_
      simp only [List.map_cons, List.map_nil]
      iterate 8 (refine wpO_step0 rfl rfl (fun K hK => ?_); go_simp; refine hK _ _ ?_; clear hK K)
      refine wpO_step2 rfl rfl (trivial) (fun K hK => ?_)
      rw [if_pos (show Region.wanted _ _ = true from rfl)]
      refine oper_exec (exec_copy (.tmp 50) (.tmp 53) _ rfl rfl rfl hc3) ?_
      refine hK _ _ ⟨trivial, ?_⟩
      clear hK K
      refine wpO_nil ?_
      go_wp2
      go_ret
      exact ⟨_, _, rfl, H3.out.1, H3.out.2.1, .inr H3.out.2.2⟩
end Go.Proofs.YtnpeedmicjeleaaDoor

/- Two rows of the call's own, appended to by turns. -/
namespace Go.Proofs.YtnpeedmicjeleaaDoor
open Go.RowKit
set_option linter.unusedVariables false
set_option linter.unusedSimpArgs false
set_option maxRecDepth 4000
def Apart (A1 A2 : Option Addr) : Prop := ∀ a b, A1 = some a → A2 = some b → a.block ≠ b.block
theorem Apart.symm {A1 A2 : Option Addr} (h : Apart A1 A2) : Apart A2 A1 := fun a b ha hb e => h b a hb ha e.symm
theorem own_of {A : Option Addr} {n c k : Nat} (h : (Value.slice A n c).ownBlock = some k) : ∃ ad, A = some ad ∧ ad.block = k := by
  cases A with
  | none => cases h
  | some ad =>
    injection h with h
    exact ⟨ad, rfl, h⟩
end Go.Proofs.YtnpeedmicjeleaaDoor

/- The document's answer for layer 5: Compare. -/
namespace Go.Proofs.YtnpeedmicjeleaaDoor
open Go.RowKit
set_option linter.unusedVariables false
set_option linter.unusedSimpArgs false
set_option maxRecDepth 4000

end Go.Proofs.YtnpeedmicjeleaaDoor

/- The document's answer for layer 5 (junctionboxref05): Right. -/
namespace Go.Proofs.YtnpeedmicjeleaaDoor
open Go.RowKit
set_option linter.unusedVariables false
set_option linter.unusedSimpArgs false
set_option maxRecDepth 4000

end Go.Proofs.YtnpeedmicjeleaaDoor

/- The document's answer for layer 9: Right. -/
namespace Go.Proofs.YtnpeedmicjeleaaDoor
open Go.RowKit
set_option linter.unusedVariables false
set_option linter.unusedSimpArgs false
set_option maxRecDepth 4000

def Oks (t : List Row) : Prop := ∀ r ∈ t, r.ok
theorem Oks.at_ {t : List Row} (h : Oks t) {i : Nat} (hi : i < t.length) : (rowAt t i).ok := h _ (List.mem_of_getElem? (rowAt_get hi))
end Go.Proofs.YtnpeedmicjeleaaDoor

/- Arguments that are rows and tables, opened. -/
namespace Go.Proofs.YtnpeedmicjeleaaDoor
open Go.ChangeShapes Go.WideShapes Go.ChangeAt Go.RowKit
set_option linter.unusedVariables false
set_option linter.unusedSimpArgs false
set_option maxRecDepth 4000
section
variable {H : Type} {enc : TypeId × Value → H} {W : World} {base : Nat} {spare : Nat → Bool} {held : Bool}
end
end Go.Proofs.YtnpeedmicjeleaaDoor

/- Layer 11 (route): candidates (Rte, 21 cells) and updates (Upd, 22 cells) in memory, built, held equal. -/
namespace Go.Proofs.YtnpeedmicjeleaaDoor
open Go.RowKit
set_option linter.unusedVariables false
set_option linter.unusedSimpArgs false
set_option maxRecDepth 4000
theorem loadr_bool {w : World} {ad : Addr} {v : Value} (h : w.cell? ad = some v) : (Instr.loadAt 4 (.pointer (some ad))).run Tryd.prog w = .ok v w := by
  go_simp
theorem keylr_bool (d : Nat) (f : Bool) : Tryd.prog.keyLits (d + 1) 4 [.bool f] = some [.bool f] := by
  unfold Program.keyLits
  rw [Tryd.underlying4]
structure Rte where
  p : Pfx
  s : Int
  f : Int
  h : Int
structure Upd where
  p : Pfx
  s : Int
  g : Bool
  f : Int
  h : Int
def Rte.fits (r : Rte) : Prop := B16 r.p.l
def Upd.fits (r : Upd) : Prop := B16 r.p.l

def rteC (r : Rte) : List Value := (pfxV r.p.v r.p.l r.p.b).toList ++ [.int .i64 r.s, .int .i64 r.f, .int .i64 r.h]
def rteV (r : Rte) : Array Value := (rteC r).toArray
theorem rteP_len {r : Rte} (h : r.fits) : (pfxV r.p.v r.p.l r.p.b).toList.length = 18 := by rw [Array.length_toList]; exact pfx_size h.len
theorem rteC_len {r : Rte} (h : r.fits) : (rteC r).length = 21 := by
  unfold rteC
  rw [List.length_append, rteP_len h]
  rfl
theorem rteV_size {r : Rte} (h : r.fits) : (rteV r).size = 21 := by simp [rteV, rteC_len h]
theorem rteC_one (r : Rte) : ∀ u ∈ rteC r, u.oneCell' = true := by
  intro u hu
  rcases List.mem_append.1 hu with hu | hu
  · have := pfx_one r.p.v r.p.b r.p.l
    rw [← Array.all_toList, List.all_eq_true] at this
    exact this u hu
  · simp only [List.mem_cons, List.not_mem_nil, or_false] at hu
    rcases hu with rfl | rfl | rfl <;> rfl
def rteZ : Rte := ⟨⟨0, zero16, 0⟩, 0, 0, 0⟩
theorem rteZ_fits : rteZ.fits := zero16_B
theorem zero_rte : (Tryd.prog.info? 51).map (fun i => (i.zero, i.size, i.bytes)) = some (some (.agg (rteV rteZ)), 21, 56) := by kernel_rfl
theorem info_rte {r : Rte} (h : r.fits) : (Tryd.prog.info? 51).map (·.size) = some (rteV r).size := by rw [rteV_size h]; kernel_rfl
def rteK : Shape Rte where
  t := 51
  ts := 22
  sz := 21
  bytes := 56
  z := rteZ
  ok := Rte.fits
  enc := rteC
  val := fun r => .agg (rteV r)
  len := fun _ h => rteC_len h
  one := rteC_one
  okz := rteZ_fits
  pos := by omega
  bpos := by omega
  blt := by omega
  und := Tryd.underlying22
  info := zero_rte
  venc := fun _ => rfl
  ld := fun _ _ _ r hr h => load_cells (cs := rteV r) h Tryd.underlying51 rfl (info_rte hr)
theorem rteV_one (r : Rte) : (rteV r).all (·.oneCell') = true := by
  rw [← Array.all_toList, List.all_eq_true]
  exact fun u hu => rteC_one r u (by simpa [rteV] using hu)
/-- What loads of it tell. -/
structure RteLd (w : World) (g o : Nat) (r : Rte) : Prop where
  all : (Instr.loadAt 51 (.pointer (some ⟨g, o, none⟩))).run Tryd.prog w = .ok (.agg (rteV r)) w
  pfx : (Instr.loadAt 49 (.pointer (some ⟨g, o, none⟩))).run Tryd.prog w = .ok (.agg (pfxV r.p.v r.p.l r.p.b)) w
  src : (Instr.loadAt 3 (.pointer (some ⟨g, o + 18, none⟩))).run Tryd.prog w = .ok (.int .i64 r.s) w
  prf : (Instr.loadAt 3 (.pointer (some ⟨g, o + 19, none⟩))).run Tryd.prog w = .ok (.int .i64 r.f) w
  hop : (Instr.loadAt 3 (.pointer (some ⟨g, o + 20, none⟩))).run Tryd.prog w = .ok (.int .i64 r.h) w
theorem rteLd_of {w : World} {g o : Nat} {r : Rte} (hf : r.fits) (h : CellsAt w g o (rteC r)) : RteLd w g o r := by
  have h1 : CellsAt w g o (pfxV r.p.v r.p.l r.p.b).toList := h.left
  have h2 : CellsAt w g (o + 18) [.int .i64 r.s, .int .i64 r.f, .int .i64 r.h] := by
    have := h.right
    rw [rteP_len hf] at this
    exact this
  exact ⟨load_cells (cs := rteV r) h Tryd.underlying51 rfl (info_rte hf), load_cells h1 Tryd.underlying49 rfl (info_pfx hf.len), load_int (h2 0 _ rfl), load_int (h2 1 _ rfl), load_int (h2 2 _ rfl)⟩
structure RteAt (w : World) (g : Nat) (r : Rte) : Prop where
  all : ∀ w0, Below w.heap.size w w0 → RteLd w0 g 0 r
theorem rte_at {w : World} {g : Nat} {t : TypeId} {r : Rte} (hr : r.fits) (h : w.heap[g]? = some (.cells (rteV r) t (0, 0))) : RteAt w g r :=
  ⟨fun w0 hb => rteLd_of hr (cells_blk (blk_below h hb))⟩
structure Rte.ok (r : Rte) : Prop where
  p : r.p.ok
  s : (Lit.int .i64 r.s).wf = true
  f : (Lit.int .i64 r.f).wf = true
  h : (Lit.int .i64 r.h).wf = true
theorem Rte.ok.fits {r : Rte} (h : r.ok) : r.fits := h.p.l
def Rte.eqB (r s : Rte) : Bool := r.p.eqB s.p && decide (r.s = s.s) && decide (r.f = s.f) && decide (r.h = s.h)
theorem Rte.eqB_iff (r s : Rte) : r.eqB s = true ↔ r = s := by
  unfold Rte.eqB
  simp only [Bool.and_eq_true, decide_eq_true_eq, Pfx.eqB_iff, beq_iff_eq]
  constructor
  · rintro h
    cases r; cases s
    simp_all
  · rintro rfl
    simp
theorem keyl_rte (r : Rte) (h : r.ok) : Tryd.prog.keyLits 5 51 (rteV r).toList = some ((.int .i64 r.p.v :: lits .u8 r.p.l ++ [.int .i64 r.p.b]) ++ [.int .i64 r.s, .int .i64 r.f, .int .i64 r.h]) := by
  unfold Program.keyLits
  rw [Tryd.underlying51]
  simp only
  rw [if_pos ⟨by rw [show (rteV r).toList.length = 21 by rw [Array.length_toList, rteV_size h.fits]]; kernel_rfl, by kernel_rfl⟩]
  have c1 : Tryd.prog.cellsOf 49 = 18 := by kernel_rfl
  have c2 : Tryd.prog.cellsOf 3 = 1 := by kernel_rfl
  have e0 : (rteV r).toList = (pfxV r.p.v r.p.l r.p.b).toList ++ [.int .i64 r.s, .int .i64 r.f, .int .i64 r.h] := rfl
  have hl18 := rteP_len h.fits
  have e1 : (rteV r).toList.take 18 = (pfxV r.p.v r.p.l r.p.b).toList := by rw [e0, List.take_left' hl18]
  have e2 : ((rteV r).toList.drop 18).take 1 = [.int .i64 r.s] := by rw [e0, List.drop_append, hl18, List.drop_of_length_le (by rw [hl18]; omega)]; rfl
  have e3 : ((rteV r).toList.drop 19).take 1 = [.int .i64 r.f] := by rw [e0, List.drop_append, hl18, List.drop_of_length_le (by rw [hl18]; omega)]; rfl
  have e4 : ((rteV r).toList.drop 20).take 1 = [.int .i64 r.h] := by rw [e0, List.drop_append, hl18, List.drop_of_length_le (by rw [hl18]; omega)]; rfl
  simp only [List.mapM_cons, List.mapM_nil, c1, c2, List.drop_zero]
  rw [e1, e2, e3, e4, keyl_pfx _ _ _ h.p.l h.p.v h.p.b, keyl_int 3 r.s h.s, keyl_int 3 r.f h.f, keyl_int 3 r.h h.h]
  simp
theorem rte_formed (r : Rte) (h : r.fits) : (Value.agg (rteV r)).formed Tryd.prog 51 = true := by
  simp only [Value.formed, Tryd.underlying51, rteV_size h]
  kernel_rfl
theorem rte_equal (r s : Rte) (hr : r.ok) (hs : s.ok) (w : World) : (Op.equal 51 (.agg (rteV r)) (.agg (rteV s))).run Tryd.prog w = .ok (r.eqB s) w := by
  obtain ⟨b, hb, hiff⟩ := run_equalIn_deep (P := Tryd.prog) 9995 5 51 (by kernel_rfl) w 5 5 (.agg (rteV r)) (.agg (rteV s)) _ _ (rte_formed _ hr.fits) (rte_formed _ hs.fits) (keyl_rte r hr) (keyl_rte s hs)
  have h2 : (Op.equal 51 (.agg (rteV r)) (.agg (rteV s))).run Tryd.prog w = .ok b w := hb
  suffices hs2 : b = r.eqB s by rw [h2, hs2]
  rw [Bool.eq_iff_iff, hiff, Rte.eqB_iff]
  constructor
  · intro h
    obtain ⟨h1, h2⟩ := List.append_inj h (by simp [lits, hr.p.l.len, hs.p.l.len])
    simp only [List.cons_append, List.cons.injEq, Lit.int.injEq, Lit.bool.injEq, true_and, and_true] at h1 h2
    obtain ⟨h3, h4⟩ := h1
    obtain ⟨h5, h6⟩ := List.append_inj h4 (by simp [lits, hr.p.l.len, hs.p.l.len])
    simp only [List.cons.injEq, Lit.int.injEq, true_and, and_true] at h6
    obtain ⟨⟨a, b, c⟩, d0, d1, d2⟩ := r
    obtain ⟨⟨a', b', c'⟩, e0, e1, e2⟩ := s
    simp only at h2 h3 h5 h6
    obtain ⟨k0, k1, k2⟩ := h2
    rw [h3, lits_inj h5, h6, k0, k1, k2]
  · rintro rfl
    rfl
section
variable {r : Operand → Value} {o : Oper} {x y : Operand} {ty : TypeId}
theorem rte_eql_exec (ho : o.op = .binOp .eql 51 x y ty) (p q : Rte) (hx : r x = .agg (rteV p)) (hy : r y = .agg (rteV q)) (hp : p.ok) (hq : q.ok) (w : World) : (execOp r o).run Tryd.prog w = .ok (.value (.bool (p.eqB q))) w :=
  exec_eql 51 (by kernel_rfl) ho _ _ hx hy w (rte_equal p q hp hq w)
theorem rte_neq_exec (ho : o.op = .binOp .neq 51 x y ty) (p q : Rte) (hx : r x = .agg (rteV p)) (hy : r y = .agg (rteV q)) (hp : p.ok) (hq : q.ok) (w : World) : (execOp r o).run Tryd.prog w = .ok (.value (.bool (!p.eqB q))) w :=
  exec_neq 51 (by kernel_rfl) ho _ _ hx hy w (rte_equal p q hp hq w)
end
def rteE : ShapeEq rteK where
  okE := Rte.ok
  eqB := Rte.eqB
  iff := Rte.eqB_iff
  eql := fun ho a b hx hy ha hb w => rte_eql_exec ho a b hx hy ha hb w
  neq := fun ho a b hx hy ha hb w => rte_neq_exec ho a b hx hy ha hb w
theorem store_rte_fit {cs : Array Value} {r : Rte} (hf : r.fits) (h : cs.size = 21) : 0 + (rteV r).size ≤ cs.size := by rw [rteV_size hf, h]; omega
theorem splice_rte {cs : Array Value} {r : Rte} (hf : r.fits) (h : cs.size = 21) : splice cs 0 (rteV r).toList = rteV r := splice_all _ _ (by rw [Array.length_toList, rteV_size hf, h])

def updC (r : Upd) : List Value := (pfxV r.p.v r.p.l r.p.b).toList ++ [.int .i64 r.s, .bool r.g, .int .i64 r.f, .int .i64 r.h]
def updV (r : Upd) : Array Value := (updC r).toArray
theorem updP_len {r : Upd} (h : r.fits) : (pfxV r.p.v r.p.l r.p.b).toList.length = 18 := by rw [Array.length_toList]; exact pfx_size h.len
theorem updC_len {r : Upd} (h : r.fits) : (updC r).length = 22 := by
  unfold updC
  rw [List.length_append, updP_len h]
  rfl
theorem updV_size {r : Upd} (h : r.fits) : (updV r).size = 22 := by simp [updV, updC_len h]
theorem updC_one (r : Upd) : ∀ u ∈ updC r, u.oneCell' = true := by
  intro u hu
  rcases List.mem_append.1 hu with hu | hu
  · have := pfx_one r.p.v r.p.b r.p.l
    rw [← Array.all_toList, List.all_eq_true] at this
    exact this u hu
  · simp only [List.mem_cons, List.not_mem_nil, or_false] at hu
    rcases hu with rfl | rfl | rfl | rfl <;> rfl
def updZ : Upd := ⟨⟨0, zero16, 0⟩, 0, false, 0, 0⟩
theorem updZ_fits : updZ.fits := zero16_B
theorem zero_upd : (Tryd.prog.info? 75).map (fun i => (i.zero, i.size, i.bytes)) = some (some (.agg (updV updZ)), 22, 64) := by kernel_rfl
theorem info_upd {r : Upd} (h : r.fits) : (Tryd.prog.info? 75).map (·.size) = some (updV r).size := by rw [updV_size h]; kernel_rfl
def updK : Shape Upd where
  t := 75
  ts := 25
  sz := 22
  bytes := 64
  z := updZ
  ok := Upd.fits
  enc := updC
  val := fun r => .agg (updV r)
  len := fun _ h => updC_len h
  one := updC_one
  okz := updZ_fits
  pos := by omega
  bpos := by omega
  blt := by omega
  und := Tryd.underlying25
  info := zero_upd
  venc := fun _ => rfl
  ld := fun _ _ _ r hr h => load_cells (cs := updV r) h Tryd.underlying75 rfl (info_upd hr)
theorem updV_one (r : Upd) : (updV r).all (·.oneCell') = true := by
  rw [← Array.all_toList, List.all_eq_true]
  exact fun u hu => updC_one r u (by simpa [updV] using hu)
/-- What loads of it tell. -/
structure UpdLd (w : World) (g o : Nat) (r : Upd) : Prop where
  all : (Instr.loadAt 75 (.pointer (some ⟨g, o, none⟩))).run Tryd.prog w = .ok (.agg (updV r)) w
  pfx : (Instr.loadAt 49 (.pointer (some ⟨g, o, none⟩))).run Tryd.prog w = .ok (.agg (pfxV r.p.v r.p.l r.p.b)) w
  src : (Instr.loadAt 3 (.pointer (some ⟨g, o + 18, none⟩))).run Tryd.prog w = .ok (.int .i64 r.s) w
  gon : (Instr.loadAt 4 (.pointer (some ⟨g, o + 19, none⟩))).run Tryd.prog w = .ok (.bool r.g) w
  prf : (Instr.loadAt 3 (.pointer (some ⟨g, o + 20, none⟩))).run Tryd.prog w = .ok (.int .i64 r.f) w
  hop : (Instr.loadAt 3 (.pointer (some ⟨g, o + 21, none⟩))).run Tryd.prog w = .ok (.int .i64 r.h) w
theorem updLd_of {w : World} {g o : Nat} {r : Upd} (hf : r.fits) (h : CellsAt w g o (updC r)) : UpdLd w g o r := by
  have h1 : CellsAt w g o (pfxV r.p.v r.p.l r.p.b).toList := h.left
  have h2 : CellsAt w g (o + 18) [.int .i64 r.s, .bool r.g, .int .i64 r.f, .int .i64 r.h] := by
    have := h.right
    rw [updP_len hf] at this
    exact this
  exact ⟨load_cells (cs := updV r) h Tryd.underlying75 rfl (info_upd hf), load_cells h1 Tryd.underlying49 rfl (info_pfx hf.len), load_int (h2 0 _ rfl), loadr_bool (h2 1 _ rfl), load_int (h2 2 _ rfl), load_int (h2 3 _ rfl)⟩
structure UpdAt (w : World) (g : Nat) (r : Upd) : Prop where
  all : ∀ w0, Below w.heap.size w w0 → UpdLd w0 g 0 r
theorem upd_at {w : World} {g : Nat} {t : TypeId} {r : Upd} (hr : r.fits) (h : w.heap[g]? = some (.cells (updV r) t (0, 0))) : UpdAt w g r :=
  ⟨fun w0 hb => updLd_of hr (cells_blk (blk_below h hb))⟩
structure Upd.ok (r : Upd) : Prop where
  p : r.p.ok
  s : (Lit.int .i64 r.s).wf = true
  f : (Lit.int .i64 r.f).wf = true
  h : (Lit.int .i64 r.h).wf = true
theorem Upd.ok.fits {r : Upd} (h : r.ok) : r.fits := h.p.l
def Upd.eqB (r s : Upd) : Bool := r.p.eqB s.p && decide (r.s = s.s) && (r.g == s.g) && decide (r.f = s.f) && decide (r.h = s.h)
theorem Upd.eqB_iff (r s : Upd) : r.eqB s = true ↔ r = s := by
  unfold Upd.eqB
  simp only [Bool.and_eq_true, decide_eq_true_eq, Pfx.eqB_iff, beq_iff_eq]
  constructor
  · rintro h
    cases r; cases s
    simp_all
  · rintro rfl
    simp
theorem keyl_upd (r : Upd) (h : r.ok) : Tryd.prog.keyLits 5 75 (updV r).toList = some ((.int .i64 r.p.v :: lits .u8 r.p.l ++ [.int .i64 r.p.b]) ++ [.int .i64 r.s, .bool r.g, .int .i64 r.f, .int .i64 r.h]) := by
  unfold Program.keyLits
  rw [Tryd.underlying75]
  simp only
  rw [if_pos ⟨by rw [show (updV r).toList.length = 22 by rw [Array.length_toList, updV_size h.fits]]; kernel_rfl, by kernel_rfl⟩]
  have c1 : Tryd.prog.cellsOf 49 = 18 := by kernel_rfl
  have c2 : Tryd.prog.cellsOf 3 = 1 := by kernel_rfl
  have c3 : Tryd.prog.cellsOf 4 = 1 := by kernel_rfl
  have e0 : (updV r).toList = (pfxV r.p.v r.p.l r.p.b).toList ++ [.int .i64 r.s, .bool r.g, .int .i64 r.f, .int .i64 r.h] := rfl
  have hl18 := updP_len h.fits
  have e1 : (updV r).toList.take 18 = (pfxV r.p.v r.p.l r.p.b).toList := by rw [e0, List.take_left' hl18]
  have e2 : ((updV r).toList.drop 18).take 1 = [.int .i64 r.s] := by rw [e0, List.drop_append, hl18, List.drop_of_length_le (by rw [hl18]; omega)]; rfl
  have e3 : ((updV r).toList.drop 19).take 1 = [.bool r.g] := by rw [e0, List.drop_append, hl18, List.drop_of_length_le (by rw [hl18]; omega)]; rfl
  have e4 : ((updV r).toList.drop 20).take 1 = [.int .i64 r.f] := by rw [e0, List.drop_append, hl18, List.drop_of_length_le (by rw [hl18]; omega)]; rfl
  have e5 : ((updV r).toList.drop 21).take 1 = [.int .i64 r.h] := by rw [e0, List.drop_append, hl18, List.drop_of_length_le (by rw [hl18]; omega)]; rfl
  simp only [List.mapM_cons, List.mapM_nil, c1, c2, c3, List.drop_zero]
  rw [e1, e2, e3, e4, e5, keyl_pfx _ _ _ h.p.l h.p.v h.p.b, keyl_int 3 r.s h.s, keylr_bool 3 r.g, keyl_int 3 r.f h.f, keyl_int 3 r.h h.h]
  simp
theorem upd_formed (r : Upd) (h : r.fits) : (Value.agg (updV r)).formed Tryd.prog 75 = true := by
  simp only [Value.formed, Tryd.underlying75, updV_size h]
  kernel_rfl
theorem upd_equal (r s : Upd) (hr : r.ok) (hs : s.ok) (w : World) : (Op.equal 75 (.agg (updV r)) (.agg (updV s))).run Tryd.prog w = .ok (r.eqB s) w := by
  obtain ⟨b, hb, hiff⟩ := run_equalIn_deep (P := Tryd.prog) 9995 5 75 (by kernel_rfl) w 5 5 (.agg (updV r)) (.agg (updV s)) _ _ (upd_formed _ hr.fits) (upd_formed _ hs.fits) (keyl_upd r hr) (keyl_upd s hs)
  have h2 : (Op.equal 75 (.agg (updV r)) (.agg (updV s))).run Tryd.prog w = .ok b w := hb
  suffices hs2 : b = r.eqB s by rw [h2, hs2]
  rw [Bool.eq_iff_iff, hiff, Upd.eqB_iff]
  constructor
  · intro h
    obtain ⟨h1, h2⟩ := List.append_inj h (by simp [lits, hr.p.l.len, hs.p.l.len])
    simp only [List.cons_append, List.cons.injEq, Lit.int.injEq, Lit.bool.injEq, true_and, and_true] at h1 h2
    obtain ⟨h3, h4⟩ := h1
    obtain ⟨h5, h6⟩ := List.append_inj h4 (by simp [lits, hr.p.l.len, hs.p.l.len])
    simp only [List.cons.injEq, Lit.int.injEq, true_and, and_true] at h6
    obtain ⟨⟨a, b, c⟩, d0, d1, d2, d3⟩ := r
    obtain ⟨⟨a', b', c'⟩, e0, e1, e2, e3⟩ := s
    simp only at h2 h3 h5 h6
    obtain ⟨k0, k1, k2, k3⟩ := h2
    rw [h3, lits_inj h5, h6, k0, k1, k2, k3]
  · rintro rfl
    rfl
section
variable {r : Operand → Value} {o : Oper} {x y : Operand} {ty : TypeId}
theorem upd_eql_exec (ho : o.op = .binOp .eql 75 x y ty) (p q : Upd) (hx : r x = .agg (updV p)) (hy : r y = .agg (updV q)) (hp : p.ok) (hq : q.ok) (w : World) : (execOp r o).run Tryd.prog w = .ok (.value (.bool (p.eqB q))) w :=
  exec_eql 75 (by kernel_rfl) ho _ _ hx hy w (upd_equal p q hp hq w)
theorem upd_neq_exec (ho : o.op = .binOp .neq 75 x y ty) (p q : Upd) (hx : r x = .agg (updV p)) (hy : r y = .agg (updV q)) (hp : p.ok) (hq : q.ok) (w : World) : (execOp r o).run Tryd.prog w = .ok (.value (.bool (!p.eqB q))) w :=
  exec_neq 75 (by kernel_rfl) ho _ _ hx hy w (upd_equal p q hp hq w)
end
def updE : ShapeEq updK where
  okE := Upd.ok
  eqB := Upd.eqB
  iff := Upd.eqB_iff
  eql := fun ho a b hx hy ha hb w => upd_eql_exec ho a b hx hy ha hb w
  neq := fun ho a b hx hy ha hb w => upd_neq_exec ho a b hx hy ha hb w
theorem store_upd_fit {cs : Array Value} {r : Upd} (hf : r.fits) (h : cs.size = 22) : 0 + (updV r).size ≤ cs.size := by rw [updV_size hf, h]; omega
theorem splice_upd {cs : Array Value} {r : Upd} (hf : r.fits) (h : cs.size = 22) : splice cs 0 (updV r).toList = updV r := splice_all _ _ (by rw [Array.length_toList, updV_size hf, h])
end Go.Proofs.YtnpeedmicjeleaaDoor
