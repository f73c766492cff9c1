/- Layer 11 (route): the library's functions over slices of candidates and of updates. -/
import Derived.Test.YtnpeedmicjeleaaDoorRouteBackB
import Derived.Test.YtnpeedmicjeleaaDoorRouteBackC
namespace Go.Proofs.YtnpeedmicjeleaaDoor
open Go.RowKit
set_option linter.unusedVariables false
set_option linter.unusedSimpArgs false
set_option maxRecDepth 4000
theorem cloneQ_any (A : Option Addr) (n c : Nat) (t : List Rte) (w : World) (hr : RS rteK w A n c t) (hn : n ≤ 1000000) :
    Calls Tryd.prog 41 #[.slice A n c] w fun e w' => ∃ A' c', e = .returned (.slice A' n c') ∧ OS rteK w' w.heap.size A' n c' t ∧ Below w.heap.size w w' := by
  have hnil := fun (w : World) (A : Option Addr) (n c : Nat) => Lib.run_eql_slice_nil (P := Tryd.prog) w 22 51 A n c 0 0 Tryd.underlying22
  cases A with
  | none =>
    have h0 : n = 0 := by
      rcases Nat.eq_zero_or_pos n with h | h
      · exact h
      · obtain ⟨ad, e, _⟩ := hr.rv.cells h
        cases e
    subst h0
    obtain rfl : t = [] := List.eq_nil_of_length_eq_zero hr.len
    go_enter Tryd.func41, Tryd.ntmps41
    go_wp2
    go_ret
    exact ⟨_, _, rfl, OS.nil _ _ _, Below.refl _ _⟩
  | some ad =>
    go_enter Tryd.func41, Tryd.ntmps41
    go_wp2_with (at_builtin; refine wpList_append_shp rteK rfl (.tmp 5) (.tmp 6) rfl rfl rfl (OS.empty rteK w w.heap.size (Nat.le_refl _)) (hr.below (below_alloc (Below.refl _ _) _)) (by simp) (by omega) ?_; intro A' c' w' h1 h2 h3; rw [Nat.zero_add, List.nil_append] at h1; rw [Nat.zero_add])
    go_ret
    exact ⟨_, _, rfl, h1, below_own (below_alloc (Below.refl _ _) _) h2 (fun ad h => by injection h with h; subst h; exact Nat.le_refl _)⟩
set_option maxHeartbeats 1000000 in
theorem equalQ_any (A : Option Addr) (n c : Nat) (t : List Rte) (A2 : Option Addr) (m c2 : Nat) (u : List Rte) (w : World) (h1 : RS rteK w A n c t) (h2 : RS rteK w A2 m c2 u) (o1 : rteE.all t) (o2 : rteE.all u) (hn : n ≤ 1000000) (hm : m ≤ 1000000) :
    Calls Tryd.prog 58 #[.slice A n c, .slice A2 m c2] w fun e w' => e = .returned (.bool (rteE.eqL t u)) ∧ Below w.heap.size w w' := by
  have H1 := Lib.hid h1
  have H2 := Lib.hid h2
  have O1 := Lib.hid o1
  have O2 := Lib.hid o2
  clear h1 h2 o1 o2
  by_cases hnm : n = m
  · subst hnm
    have hlen : t.length = u.length := by rw [H1.out.len, H2.out.len]
    have HLEN := Lib.hid hlen
    clear hlen
    go_enter Tryd.func58, Tryd.ntmps58
    go_wp2_with fail
    go_loopw [13] (fun x wr => ∃ i : Nat, x = .int .i64 i ∧ Hid (i ≤ n ∧ (∀ k, k < i → rteE.eqB (Shape.at_ rteK t k) (Shape.at_ rteK u k) = true) ∧ Below w.heap.size w wr)) (fun x _ => n - (intOf x).toNat)
    case atStart => exact ⟨0, rfl, Nat.zero_le _, fun k h => by omega, Below.refl _ _⟩
    case round =>
      obtain ⟨i, rfl, HH⟩ := hrel
      by_cases hlt : i < n
      · have hlt' : (i : Int) < n := by omega
        obtain ⟨b, o, rfl, hc⟩ := H1.out.at_ (by omega)
        obtain ⟨b2, o2, rfl, hc2⟩ := H2.out.at_ (by omega)
        have HC1 := Lib.hid (hc i hlt)
        have HC2 := Lib.hid (hc2 i hlt)
        clear hc hc2
        go_wp2_with fail
        refine wp_region_mix (fun w0 => Below (wr).heap.size (wr) w0) [(0, 0), (1, 0), (2, 0), (3, 0), (4, 0), (5, 0), (6, 0), (7, 0), (8, 0)] (by kernel_rfl) (by kernel_rfl) (below_drew1 _) ?_
        simp only [List.map_cons, List.map_nil]
        iterate 3 (refine wpO_step0 rfl rfl (fun K hK => ?_); go_simp; refine hK _ _ ?_; clear hK K)
        refine wpO_loadW (t := 51) (ad := ⟨b, (o+i*21), none⟩) rfl rfl ?hw rfl rfl ((fun w0 hS => Shape.ld rteK w0 b _ _ (H1.out.fits_at hlt) (HC1.out.below (below_step HH.out.2.2 hS)))) ?_
        case hw => go_simp
        iterate 3 (refine wpO_step0 rfl rfl (fun K hK => ?_); go_simp; refine hK _ _ ?_; clear hK K)
        refine wpO_loadW (t := 51) (ad := ⟨b2, (o2+i*21), none⟩) rfl rfl ?hw rfl rfl ((fun w0 hS => Shape.ld rteK w0 b2 _ _ (H2.out.fits_at hlt) (HC2.out.below (below_step HH.out.2.2 hS)))) ?_
        case hw => go_simp
        refine wpO_step0 rfl rfl (fun K hK => ?_)
        rw [if_pos (show Region.wanted _ _ = true from rfl)]
        refine ⟨_, fun w0 => ShapeEq.neq rteE rfl (Shape.at_ rteK t i) (Shape.at_ rteK u i) rfl rfl (ShapeEq.all_at O1.out (by rw [H1.out.len]; exact hlt)) (ShapeEq.all_at O2.out (by rw [H2.out.len]; exact hlt)) w0, hK _ _ ?_⟩
        clear hK K
        refine wpO_nil ?_
        cases hq : rteE.eqB (Shape.at_ rteK t i) (Shape.at_ rteK u i) with
        | true =>
          have HQ := Lib.hid hq
          clear hq
          go_wp2_with fail
          go_roundw
          case measure => simp [intOf]; omega
          case rel =>
            refine ⟨i + 1, by go_num, by omega, fun k hk => ?_, below_step HH.out.2.2 (below_drew1 _)⟩
            by_cases hki : k < i
            · exact HH.out.2.1 k hki
            · rw [show k = i by omega]; exact HQ.out
        | false =>
          have HE : Hid (rteE.eqL t u = false) := Lib.hid (ShapeEq.eqL_no (by rw [H1.out.len]; exact hlt) (by rw [H2.out.len]; exact hlt) hq)
          clear hq
          go_wp2
          go_ret
          rw [HE.out]
          exact ⟨rfl, below_step HH.out.2.2 (below_drew1 _)⟩
      · have hlt' : decide (i < n) = false := decide_eq_false hlt
        have HE : Hid (rteE.eqL t u = true) := Lib.hid (ShapeEq.eqL_yes HLEN.out (fun k hk => HH.out.2.1 k (by rw [H1.out.len] at hk; have := HH.out.1; omega)))
        clear hlt
        go_wp2
        go_ret
        rw [HE.out]
        exact ⟨rfl, HH.out.2.2⟩
  · have HE : Hid (rteE.eqL t u = false) := Lib.hid (ShapeEq.eqL_len (by rw [H1.out.len, H2.out.len]; exact hnm))
    have hnm' : (n == m) = false := by simpa using hnm
    clear hnm
    go_enter Tryd.func58, Tryd.ntmps58
    go_wp2
    go_ret
    rw [HE.out]
    exact ⟨rfl, Below.refl _ _⟩
set_option maxHeartbeats 1000000 in
theorem equalU_any (A : Option Addr) (n c : Nat) (t : List Upd) (A2 : Option Addr) (m c2 : Nat) (u : List Upd) (w : World) (h1 : RS updK w A n c t) (h2 : RS updK w A2 m c2 u) (o1 : updE.all t) (o2 : updE.all u) (hn : n ≤ 1000000) (hm : m ≤ 1000000) :
    Calls Tryd.prog 59 #[.slice A n c, .slice A2 m c2] w fun e w' => e = .returned (.bool (updE.eqL t u)) ∧ Below w.heap.size w w' := by
  have H1 := Lib.hid h1
  have H2 := Lib.hid h2
  have O1 := Lib.hid o1
  have O2 := Lib.hid o2
  clear h1 h2 o1 o2
  by_cases hnm : n = m
  · subst hnm
    have hlen : t.length = u.length := by rw [H1.out.len, H2.out.len]
    have HLEN := Lib.hid hlen
    clear hlen
    go_enter Tryd.func59, Tryd.ntmps59
    go_wp2_with fail
    go_loopw [13] (fun x wr => ∃ i : Nat, x = .int .i64 i ∧ Hid (i ≤ n ∧ (∀ k, k < i → updE.eqB (Shape.at_ updK t k) (Shape.at_ updK u k) = true) ∧ Below w.heap.size w wr)) (fun x _ => n - (intOf x).toNat)
    case atStart => exact ⟨0, rfl, Nat.zero_le _, fun k h => by omega, Below.refl _ _⟩
    case round =>
      obtain ⟨i, rfl, HH⟩ := hrel
      by_cases hlt : i < n
      · have hlt' : (i : Int) < n := by omega
        obtain ⟨b, o, rfl, hc⟩ := H1.out.at_ (by omega)
        obtain ⟨b2, o2, rfl, hc2⟩ := H2.out.at_ (by omega)
        have HC1 := Lib.hid (hc i hlt)
        have HC2 := Lib.hid (hc2 i hlt)
        clear hc hc2
        go_wp2_with fail
        refine wp_region_mix (fun w0 => Below (wr).heap.size (wr) w0) [(0, 0), (1, 0), (2, 0), (3, 0), (4, 0), (5, 0), (6, 0), (7, 0), (8, 0)] (by kernel_rfl) (by kernel_rfl) (below_drew1 _) ?_
        simp only [List.map_cons, List.map_nil]
        iterate 3 (refine wpO_step0 rfl rfl (fun K hK => ?_); go_simp; refine hK _ _ ?_; clear hK K)
        refine wpO_loadW (t := 75) (ad := ⟨b, (o+i*22), none⟩) rfl rfl ?hw rfl rfl ((fun w0 hS => Shape.ld updK w0 b _ _ (H1.out.fits_at hlt) (HC1.out.below (below_step HH.out.2.2 hS)))) ?_
        case hw => go_simp
        iterate 3 (refine wpO_step0 rfl rfl (fun K hK => ?_); go_simp; refine hK _ _ ?_; clear hK K)
        refine wpO_loadW (t := 75) (ad := ⟨b2, (o2+i*22), none⟩) rfl rfl ?hw rfl rfl ((fun w0 hS => Shape.ld updK w0 b2 _ _ (H2.out.fits_at hlt) (HC2.out.below (below_step HH.out.2.2 hS)))) ?_
        case hw => go_simp
        refine wpO_step0 rfl rfl (fun K hK => ?_)
        rw [if_pos (show Region.wanted _ _ = true from rfl)]
        refine ⟨_, fun w0 => ShapeEq.neq updE rfl (Shape.at_ updK t i) (Shape.at_ updK u i) rfl rfl (ShapeEq.all_at O1.out (by rw [H1.out.len]; exact hlt)) (ShapeEq.all_at O2.out (by rw [H2.out.len]; exact hlt)) w0, hK _ _ ?_⟩
        clear hK K
        refine wpO_nil ?_
        cases hq : updE.eqB (Shape.at_ updK t i) (Shape.at_ updK u i) with
        | true =>
          have HQ := Lib.hid hq
          clear hq
          go_wp2_with fail
          go_roundw
          case measure => simp [intOf]; omega
          case rel =>
            refine ⟨i + 1, by go_num, by omega, fun k hk => ?_, below_step HH.out.2.2 (below_drew1 _)⟩
            by_cases hki : k < i
            · exact HH.out.2.1 k hki
            · rw [show k = i by omega]; exact HQ.out
        | false =>
          have HE : Hid (updE.eqL t u = false) := Lib.hid (ShapeEq.eqL_no (by rw [H1.out.len]; exact hlt) (by rw [H2.out.len]; exact hlt) hq)
          clear hq
          go_wp2
          go_ret
          rw [HE.out]
          exact ⟨rfl, below_step HH.out.2.2 (below_drew1 _)⟩
      · have hlt' : decide (i < n) = false := decide_eq_false hlt
        have HE : Hid (updE.eqL t u = true) := Lib.hid (ShapeEq.eqL_yes HLEN.out (fun k hk => HH.out.2.1 k (by rw [H1.out.len] at hk; have := HH.out.1; omega)))
        clear hlt
        go_wp2
        go_ret
        rw [HE.out]
        exact ⟨rfl, HH.out.2.2⟩
  · have HE : Hid (updE.eqL t u = false) := Lib.hid (ShapeEq.eqL_len (by rw [H1.out.len, H2.out.len]; exact hnm))
    have hnm' : (n == m) = false := by simpa using hnm
    clear hnm
    go_enter Tryd.func59, Tryd.ntmps59
    go_wp2
    go_ret
    rw [HE.out]
    exact ⟨rfl, Below.refl _ _⟩
set_option maxHeartbeats 1000000 in
theorem deleteQ_any (base : Nat) (A : Option Addr) (n c j : Nat) (t : List Rte) (w : World) (ho : OS rteK w base A n c t) (hj : j < n) (hn : n ≤ 1000000) :
    Calls Tryd.prog 44 #[.slice A n c, .int .i64 j, .int .i64 ((j : Int) + 1)] w fun e w' => e = .returned (.slice A (n - 1) c) ∧ OS rteK w' base A (n - 1) c (t.take j ++ t.drop (j + 1)) ∧ w.grownBy w' ((Value.slice A n c).ownBlock) := by
  have hcap := ho.cap
  have hcmax : c ≤ 9223372036854775807 := ho.ov.capmax
  obtain ⟨ad, rfl⟩ : ∃ ad, A = some ad := by
    cases A with
    | none => have := ho.ov.bare rfl; omega
    | some ad => exact ⟨ad, rfl⟩
  have hj1 : (j : Int) + 1 = ((j + 1 : Nat) : Int) := by omega
  obtain ⟨v0, hv0⟩ : ∃ v, ∀ W : World, (Instr.slice 22 (.slice (some ad) n c) (some (.int .i64 (j : Int))) (some (.int .i64 ((j : Int) + 1))) (some (.int .i64 (n : Int)))).run Tryd.prog W = .ok v W := ⟨_, fun W => cutLHM rteK (some ad) n c _ _ _ j (j + 1) n rfl hj1 rfl (by omega) (by omega) hcap W⟩
  have hv1 : ∀ W : World, (Instr.slice 22 (.slice (some ad) n c) none (some (.int .i64 (j : Int))) none).run Tryd.prog W = .ok (.slice (some ad) j c) W := fun W => cutH rteK (some ad) n c _ j rfl (by omega) W
  obtain ⟨A2, hA2⟩ : ∃ A2, (if c = j + 1 then some ad else some (ad.add ((j + 1) * 21))) = A2 := ⟨_, rfl⟩
  have hv2 : ∀ W : World, (Instr.slice 22 (.slice (some ad) n c) (some (.int .i64 ((j : Int) + 1))) none none).run Tryd.prog W = .ok (.slice A2 (n - (j + 1)) (c - (j + 1))) W := fun W => by
    rw [← hA2]
    exact cutL rteK (some ad) n c _ (j + 1) hj1 (by omega) W
  have hsum : j + (n - (j + 1)) = n - 1 := by omega
  obtain ⟨A3, hA3⟩ : ∃ A3, (if c = n - 1 then some ad else some (ad.add ((n - 1) * 21))) = A3 := ⟨_, rfl⟩
  have hv3 : ∀ W : World, (Instr.slice 22 (.slice (some ad) (n - 1) c) (some (.int .i64 ((n - 1 : Nat) : Int))) (some (.int .i64 (n : Int))) none).run Tryd.prog W = .ok (.slice A3 (n - (n - 1)) (c - (n - 1))) W := fun W => by
    rw [← hA3]
    exact cutLH rteK (some ad) (n - 1) c _ _ (n - 1) n rfl rfl (by omega) hcap W
  have HT := Lib.hid (ho.take j c (by omega) (by omega) (Nat.le_refl _))
  have HR : Hid (RS rteK w A2 (n - (j + 1)) (c - (j + 1)) (t.drop (j + 1))) := Lib.hid (by rw [← hA2]; exact ho.reads.drop (j + 1) (by omega))
  have HA3 := Lib.hid hA3
  have HS := Lib.hid hsum
  have hjn0 : ((j : Int) == (j : Int) + 1) = false := by simpa using (by omega : ¬ ((j : Int) = (j : Int) + 1))
  have hjn1 : decide ((j : Int) = (j : Int) + 1) = false := decide_eq_false (by omega)
  have HJ := Lib.hid hj
  have HCAP := Lib.hid hcap
  clear hA2 hA3 hj1 ho hsum
  go_enter Tryd.func44, Tryd.ntmps44
  go_wp2_with fail
  refine wp_region_mix ((fun _ => True)) [(0, 0), (1, 0), (2, 0), (3, 0), (4, 0), (5, 0), (6, 2), (7, 0)] (by kernel_rfl) (by kernel_rfl) (trivial) ?_
  simp only [List.map_cons, List.map_nil]
  iterate 6 (refine wpO_step0 rfl rfl (fun K hK => ?_); go_simp; refine hK _ _ ?_; clear hK K)
  refine wpO_step2 rfl rfl (trivial) (fun K hK => ?_)
  rw [if_pos (show Region.wanted _ _ = true from rfl)]
  obtain ⟨w1, hr1, hO1, hg1⟩ := run_append_room_shp rteK w.drew 22 ad j c (t.take j) A2 (n - (j + 1)) (c - (j + 1)) (t.drop (j + 1)) (HT.out.below (below_drew1 _)) (HR.out.below (below_drew1 _)) (by have := HS.out; have := HCAP.out; omega) (by have := HS.out; omega)
  rw [HS.out] at hr1 hO1
  obtain ⟨w2, hr2, hO2, hg2⟩ := run_clear_shp rteK w1 0 ad (n - 1) c (n - (n - 1)) _ hO1 (by have := HCAP.out; have := HJ.out; omega) (d := A3) HA3.out.symm (c - (n - 1))
  have H2 := Lib.hid (And.intro hO2 (grown_trans (grown_trans (grown_drewN w 1 _) hg1) hg2))
  refine oper_exec (exec_append (.tmp 22) (.tmp 25) _ rfl rfl rfl hr1) ?_
  clear hr1 hO1 hg1 hO2 hg2
  refine hK _ _ ⟨trivial, ?_⟩
  clear hK K
  iterate 1 (refine wpO_step0 rfl rfl (fun K hK => ?_); go_simp; refine hK _ _ ?_; clear hK K)
  refine wpO_nil ?_
  go_wp2_with (refine wpList_exec rfl (exec_clear (.tmp 31) _ rfl rfl hr2) ?_)
  go_ret
  exact ⟨rfl, H2.out.1, H2.out.2⟩
set_option maxHeartbeats 4000000 in
set_option maxRecDepth 100000 in
theorem insertQ_any (base : Nat) (A : Option Addr) (n c j vb : Nat) (t : List Rte) (r : Rte) (w : World) (ho : OS rteK w base A n c t) (hj : j ≤ n) (hn : n ≤ 100000) (hb : base ≤ w.heap.size)
    (hv : w.heap[vb]? = some (.cells (Shape.enc rteK r).toArray 51 (0, 0))) (hrk : Shape.ok rteK r) (hne : ∀ ad, A = some ad → ad.block ≠ vb) :
    Calls Tryd.prog 45 #[.slice A n c, .int .i64 j, .slice (some ⟨vb, 0, none⟩) 1 1] w fun e w' => ∃ A' c', e = .returned (.slice A' (n + 1) c') ∧ OS rteK w' base A' (n + 1) c' (t.take j ++ r :: t.drop j) ∧ w.grownBy w' ((Value.slice A n c).ownBlock) ∧ (A' = A ∨ ∀ ad, A' = some ad → w.heap.size ≤ ad.block) := by
  have hcap := ho.cap
  have hcmax : c ≤ 9223372036854775807 := ho.ov.capmax
  have hRV : RS rteK w (some ⟨vb, 0, none⟩) 1 1 [r] := ⟨⟨by rw [Shape.cells_one, rteK.len r hrk]; simp, by omega, by omega, fun _ => ⟨_, rfl, fun q u hq => by
    rw [Shape.cells_one] at hq
    rw [add_plain, blk_cell hv]
    simpa using hq⟩⟩, Shape.all_one hrk⟩
  have HRV := Lib.hid hRV
  have HN := Lib.hid hne
  have hjn' : (j : Int) ≤ n := by omega
  have hj1 : (j : Int) + 1 = ((j + 1 : Nat) : Int) := by omega
  have hn1 : (n : Int) + 1 = ((n + 1 : Nat) : Int) := by omega
  obtain ⟨A0, hA0⟩ : ∃ A0, (if c = j then A else A.map (·.add (j * 21))) = A0 := ⟨_, rfl⟩
  have hv0 : ∀ W : World, (Instr.slice 22 (.slice A n c) (some (.int .i64 (j : Int))) none none).run Tryd.prog W = .ok (.slice A0 (n - j) (c - j)) W := fun W => by
    rw [← hA0]
    exact cutL rteK A n c _ j rfl hj W
  have HA0 := Lib.hid hA0
  clear hA0
  by_cases hjn : j = n
  · subst hjn
    have htk : t.take j = t := List.take_of_length_le (by rw [ho.len]; exact Nat.le_refl _)
    have htd : t.drop j = [] := List.drop_eq_nil_of_le (by rw [ho.len]; exact Nat.le_refl _)
    rw [htk, htd]
    have HO := Lib.hid ho
    clear ho htk htd hRV hj1 hn1
    go_enter Tryd.func45, Tryd.ntmps45
    go_wp2_with (at_builtin; refine wpList_append_shp rteK rfl (.tmp 23) (.tmp 24) rfl rfl rfl HO.out HRV.out hb (by omega) ?_; intro A' c' w' h1 h2 h3)
    go_ret
    exact ⟨_, _, rfl, h1, h2, h3⟩
  · have hlt : j < n := by omega
    have hjnb : (j == n) = false := by simpa using hjn
    obtain ⟨ad, rfl⟩ : ∃ ad, A = some ad := by
      cases A with
      | none => have := ho.ov.bare rfl; omega
      | some ad => exact ⟨ad, rfl⟩
    have hadlt := ho.lt ad rfl
    have hsub : n + 1 - (j + 1) = n - j := by omega
    have HT := Lib.hid ho.len
    have HO := Lib.hid ho
    have HAL := Lib.hid hadlt
    clear hjn ho hRV hadlt
    by_cases hroom : n + 1 ≤ c
    · have hr1 : decide (c < n + 1) = false := decide_eq_false (by omega)
      have hr2 : decide ((c : Int) < n + 1) = false := decide_eq_false (by omega)
      have hw1 : IntKind.i64.wrap ((n : Int) + 1) = n + 1 := IntWalk.i64_in _ (by omega)
      have hw2 : IntKind.i64.wrap ((j : Int) + 1) = j + 1 := IntWalk.i64_in _ (by omega)
      have hv1 : ∀ W : World, (Instr.slice 22 (.slice (some ad) n c) none (some (.int .i64 ((n : Int) + 1))) none).run Tryd.prog W = .ok (.slice (some ad) (n + 1) c) W := fun W => cutH rteK (some ad) n c _ (n + 1) hn1 hroom W
      obtain ⟨A6, hA6⟩ : ∃ A6, (if c = j + 1 then some ad else some (ad.add ((j + 1) * 21))) = A6 := ⟨_, rfl⟩
      have hv6 : ∀ W : World, (Instr.slice 22 (.slice (some ad) (n + 1) c) (some (.int .i64 ((j : Int) + 1))) none none).run Tryd.prog W = .ok (.slice A6 (n - j) (c - (j + 1))) W := fun W => by
        rw [← hA6, ← hsub]
        exact cutL rteK (some ad) (n + 1) c _ (j + 1) hj1 (by omega) W
      have hv7 : ∀ W : World, (Instr.slice 22 (.slice (some ad) (n + 1) c) (some (.int .i64 (j : Int))) none none).run Tryd.prog W = .ok (.slice A0 (n + 1 - j) (c - j)) W := fun W => by
        rw [← HA0.out]
        exact cutL rteK (some ad) (n + 1) c _ j rfl (by omega) W
      obtain ⟨q1, q2, cur, q3, q4, q5⟩ := HO.out.ov.form _ rfl
      have hcur : cur.size ≠ 0 := by
        have h2 : 1 * 21 ≤ c * 21 := Nat.mul_le_mul_right _ (by omega)
        have h3 : ad.off + c * 21 ≤ cur.size := q4
        omega
      have hvne : vb ≠ ad.block := fun h => HN.out ad rfl h.symm
      obtain ⟨ad6, hA6b⟩ : ∃ ad6, A6 = some ad6 ∧ ad6.block = ad.block := by
        rw [← hA6]
        split
        · exact ⟨_, rfl, rfl⟩
        · exact ⟨_, rfl, add_block _ _⟩
      have hov : ∀ lb cb W, W = w → (callFunc 83 #[.slice (some ⟨vb, 0, none⟩) 1 1, .slice A6 lb cb]).run Tryd.prog W = .ok (.value (.bool false)) W := fun lb cb W hW => by
        subst hW
        obtain ⟨e6, e7⟩ := hA6b
        rw [e6, run_callFunc_extern Tryd.func83 (by kernel_rfl) (by kernel_rfl) (by kernel_rfl) (e := Extern.SlicesOverlaps.overlaps #[22, 22] #[4]) (by kernel_rfl),
          Lib.run_overlaps_apart W 22 4 51 (Shape.und rteK) 21 (Shape.run_size rteK) ⟨vb, 0, none⟩ ad6 1 1 lb cb (by rw [e7]; exact hvne) 51 51 _ cur.size (by simp only [World.shape?, hv]; rfl) (by rw [e7]; simp only [World.shape?, q3]; rfl) hcur (blk_frozen hv 0) (blk_frozen hv _)]
        rfl
      have hov1 := hov (n - j) (c - (j + 1)) w rfl
      clear hov hA6b hcur q1 q2 q3 q4 q5 hvne
      obtain ⟨more, hE⟩ := HO.out.ov.extendTo (n + 1) (by omega) hroom (by omega)
      have hml := hE.len
      have hcl := HO.out.ov.len
      have hEd := hE.below (below_drew1 w)
      have hRd := hEd.reads.drop j (by omega)
      rw [show (if c = j then some ad else Option.map (fun x => x.add (j * rteK.sz)) (some ad)) = A0 from HA0.out] at hRd
      have hdt : ∀ x : List Value, (x.drop (j * rteK.sz)).take ((n - j) * rteK.sz) = (x.drop (j * rteK.sz)).take ((n - j) * rteK.sz) := fun _ => rfl
      have hmin : min (n + 1 - j) (n + 1 - (j + 1)) = n - j := by omega
      have hone1 : ∀ u ∈ ((rteK.cells t ++ more).drop (j * rteK.sz)).take (min (n + 1 - j) (n + 1 - (j + 1)) * rteK.sz), u.oneCell' = true := by
        rw [hmin]
        intro u hu
        have hjs : j * rteK.sz ≤ n * rteK.sz := Nat.mul_le_mul_right _ (by omega)
        rw [List.drop_append_of_le_length (by rw [hcl]; exact hjs), List.take_append_of_le_length (by rw [List.length_drop, hcl, ← Nat.sub_mul]; exact Nat.le_refl _)] at hu
        exact Shape.cells_cell t u (List.mem_of_mem_drop (List.mem_of_mem_take hu))
      obtain ⟨w1, hc1, hO1, hg1⟩ := run_copy_rows (P := Tryd.prog) w.drew 22 3 51 rteK.sz (Shape.und rteK) (Shape.size rteK) ad (n + 1) c (j + 1) _ A0 (n + 1 - j) (c - j) _ hEd hRd (by omega) hone1 (d := A6) hA6.symm (c - (j + 1))
      rw [hmin] at hO1 hc1
      rw [hsub] at hc1
      have hRV1 := ((HRV.out.below (below_drew1 w)).grown hg1 (fun ad' e => by injection e with e; subst e; intro h; injection h with h; exact HN.out ad rfl h.symm)).rv
      rw [Shape.cells_one] at hRV1
      have hmin2 : min 1 (n + 1 - j) = 1 := by omega
      obtain ⟨w2, hc2, hO2, hg2⟩ := run_copy_rows (P := Tryd.prog) w1 22 3 51 rteK.sz (Shape.und rteK) (Shape.size rteK) ad (n + 1) c j _ (some ⟨vb, 0, none⟩) 1 1 _ hO1 hRV1 (by omega) (by rw [hmin2]; intro u hu; exact rteK.one r u (List.mem_of_mem_take hu)) (d := A0) HA0.out.symm (c - j)
      rw [hmin2] at hO2 hc2
      rw [shift_list (rteK.cells t) more (rteK.enc r) rteK.sz j n hcl hml (rteK.len r hrk) (by omega), Shape.cells_take HO.out.fits j (by rw [HT.out]; omega), Shape.cells_drop HO.out.fits j (by rw [HT.out]; omega)] at hO2
      have hO3 : OS rteK w2 base (some ad) (n + 1) c (t.take j ++ r :: t.drop j) := ⟨by
        have : rteK.cells (t.take j ++ r :: t.drop j) = rteK.cells (t.take j) ++ rteK.enc r ++ rteK.cells (t.drop j) := by rw [Shape.cells_append, Shape.cells_cons, List.append_assoc]
        rw [this]
        exact hO2, (HO.out.fits.take j).append (fun x hx => by
        rcases List.mem_cons.1 hx with rfl | hx
        · exact hrk
        · exact HO.out.fits.drop j x hx)⟩
      have H3 := Lib.hid (And.intro hO3 (grown_trans (grown_trans (grown_drewN w 1 _) hg1) hg2))
      clear hO3 hO2 hO1 hg1 hg2 hE hEd hRd hone1 hmin hmin2 hRV1 hdt hml hcl hn1 hj1 hA6 hsub
      go_enter Tryd.func45, Tryd.ntmps45
      go_wp2_with fail
      refine wp_region_mix ((fun _ => True)) [(0, 0), (1, 0), (2, 0), (3, 0), (4, 0), (5, 0), (6, 0), (7, 0), (8, 2)] (by kernel_rfl) (by kernel_rfl) (trivial) ?_
      simp only [List.map_cons, List.map_nil]
      iterate 8 (refine wpO_step0 rfl rfl (fun K hK => ?_); go_simp; refine hK _ _ ?_; clear hK K)
      refine wpO_step2 rfl rfl (trivial) (fun K hK => ?_)
      rw [if_pos (show Region.wanted _ _ = true from rfl)]
      refine oper_exec (exec_copy (.tmp 73) (.tmp 76) _ rfl rfl rfl hc1) ?_
      refine hK _ _ ⟨trivial, ?_⟩
      clear hK K
      refine wpO_nil ?_
      go_wp2_with (refine wpList_exec rfl (exec_copy (.tmp 80) (.tmp 81) _ rfl rfl rfl hc2) ?_)
      go_ret
      exact ⟨_, _, rfl, H3.out.1, H3.out.2, .inl rfl⟩
    · have hr1 : c < n + 1 := by omega
      have hr2 : (c : Int) < n + 1 := by omega
      have hw1 : IntKind.i64.wrap ((n : Int) + 1) = n + 1 := IntWalk.i64_in _ (by omega)
      have hw2 : IntKind.i64.wrap ((j : Int) + 1) = j + 1 := IntWalk.i64_in _ (by omega)
      have hw3 : IntKind.i64.wrap ((n : Int) + 1 - j) = n + 1 - j := IntWalk.i64_in _ (by omega)
      have hv1 : ∀ W : World, (Instr.slice 22 (.slice (some ad) n c) none (some (.int .i64 (j : Int))) none).run Tryd.prog W = .ok (.slice (some ad) j c) W := fun W => cutH rteK (some ad) n c _ j rfl (by omega) W
      have hk : (n : Int) + 1 - j = ((n + 1 - j : Nat) : Int) := by omega
      obtain ⟨ad1, c1, w1, hc1, hO1, hb1, hblk⟩ := run_growz_shp (base := w.heap.size) rteK w 3 22 .i64 .i64 Tryd.underlying3 (some ad) j c (n + 1 - j) _ (HO.out.reads.take j (by omega)) (by omega) (by omega) (by omega) (Nat.le_refl _)
      rw [← hk] at hc1
      rw [show j + (n + 1 - j) = n + 1 by omega] at hc1 hO1
      have hcap1 := hO1.cap
      have hc1max : c1 ≤ 9223372036854775807 := hO1.ov.capmax
      obtain ⟨A4, hA4⟩ : ∃ A4, (if c1 = j then some ad1 else some (ad1.add (j * 21))) = A4 := ⟨_, rfl⟩
      have hv4 : ∀ W : World, (Instr.slice 22 (.slice (some ad1) (n + 1) c1) (some (.int .i64 (j : Int))) none none).run Tryd.prog W = .ok (.slice A4 (n + 1 - j) (c1 - j)) W := fun W => by
        rw [← hA4]
        exact cutL rteK (some ad1) (n + 1) c1 _ j rfl (by omega) W
      obtain ⟨A5, hA5⟩ : ∃ A5, (if c1 = j + 1 then some ad1 else some (ad1.add ((j + 1) * 21))) = A5 := ⟨_, rfl⟩
      have hv5 : ∀ W : World, (Instr.slice 22 (.slice (some ad1) (n + 1) c1) (some (.int .i64 ((j : Int) + 1))) none none).run Tryd.prog W = .ok (.slice A5 (n - j) (c1 - (j + 1))) W := fun W => by
        rw [← hA5, ← hsub]
        exact cutL rteK (some ad1) (n + 1) c1 _ (j + 1) hj1 (by omega) W
      have hvlt := blk_lt hv
      obtain ⟨w2, hc2, hO2, hg2⟩ := run_copy_shp rteK w1 3 ad1 (n + 1) c1 j _ (some ⟨vb, 0, none⟩) 1 1 [r] hO1 (HRV.out.below hb1) (by omega) (d := A4) hA4.symm (c1 - j)
      have hRD := ((((HO.out.reads.drop j (by omega)).below hb1).grown hg2 (fun ad' e => by
        intro h
        injection h with h
        have hb : ad'.block = ad.block := by
          split at e
          · injection e with e; rw [← e]
          · simp only [Option.map_some, Option.some.injEq] at e; rw [← e, add_block]
        have := HAL.out
        omega)).below (below_drew1 w2))
      rw [show (if c = j then some ad else Option.map (fun x => x.add (j * rteK.sz)) (some ad)) = A0 from HA0.out] at hRD
      obtain ⟨w3, hc3, hO3, hg3⟩ := run_copy_shp rteK w2.drew 3 ad1 (n + 1) c1 (j + 1) _ A0 (n - j) (c - j) (t.drop j) (hO2.below (below_drew1 w2)) hRD (by omega) (d := A5) hA5.symm (c1 - (j + 1))
      rw [grow_list t r _ j n HT.out (by omega)] at hO3
      rw [hsub] at hc3
      have hbz : Below w.heap.size w w3 := below_grown (below_step (below_grown hb1 hg2 (by omega)) (below_drew1 w2)) hg3 (by omega)
      have H3 := Lib.hid (And.intro (hO3.lower hb) (And.intro (grown_of_below hbz ((Value.slice (some ad) n c).ownBlock)) (show ∀ ad', some ad1 = some ad' → w.heap.size ≤ ad'.block from fun ad' e => by injection e with e; rw [← e]; omega)))
      clear hO3 hO2 hO1 hg2 hg3 hRD hbz hA4 hA5 hk hblk hn1 hj1 hvlt hb1 hsub
      go_enter Tryd.func45, Tryd.ntmps45
      go_wp2_with (first | (refine wpList_exec rfl (exec_append (.tmp 34) (.tmp 39) _ rfl rfl rfl hc1) ?_) | (refine wpList_exec rfl (exec_copy (.tmp 43) (.tmp 44) _ rfl rfl rfl hc2) ?_))
      refine wp_region_mix ((fun _ => True)) [(0, 0), (1, 0), (2, 0), (3, 0), (4, 0), (5, 0), (6, 0), (7, 0), (8, 2)] (by kernel_rfl) (by kernel_rfl) (trivial) ?_
      simp only [List.map_cons, List.map_nil]
      iterate 8 (refine wpO_step0 rfl rfl (fun K hK => ?_); go_simp; refine hK _ _ ?_; clear hK K)
      refine wpO_step2 rfl rfl (trivial) (fun K hK => ?_)
      rw [if_pos (show Region.wanted _ _ = true from rfl)]
      refine oper_exec (exec_copy (.tmp 50) (.tmp 53) _ rfl rfl rfl hc3) ?_
      refine hK _ _ ⟨trivial, ?_⟩
      clear hK K
      refine wpO_nil ?_
      go_wp2
      go_ret
      exact ⟨_, _, rfl, H3.out.1, H3.out.2.1, .inr H3.out.2.2⟩
set_option maxHeartbeats 1000000 in
theorem indexfU_any (A : Option Addr) (n c : Nat) (t : List Upd) (w : World) (g : Nat) (hr : RS updK w A n c t) (hn : n ≤ 1000000) (q : Upd → Bool)
    (hq : ∀ i, i < n → ∀ w1, Below w.heap.size w w1 → Calls Tryd.prog 62 #[updK.val (updK.at_ t i), .pointer (some ⟨g, 0, none⟩)] w1 fun e w2 => e = .returned (.bool (q (updK.at_ t i))) ∧ Below w1.heap.size w1 w2) :
    Calls Tryd.prog 95 #[.slice A n c, .func (Fn.func 62) #[] #[.pointer (some ⟨g, 0, none⟩)]] w fun e w' => e = .returned (.int .i64 (idxE q t)) ∧ Below w.heap.size w w' := by
  have HR := Lib.hid hr
  have HQ := Lib.hid hq
  clear hr hq
  go_enter Tryd.func95, Tryd.ntmps95
  go_wp2_with fail
  go_loopw [8] (fun x wr => ∃ i : Nat, x = .int .i64 i ∧ Hid (i ≤ n ∧ (∀ k, k < i → q (updK.at_ t k) = false) ∧ Below w.heap.size w wr)) (fun x _ => n - (intOf x).toNat)
  case atStart => exact ⟨0, rfl, Nat.zero_le _, fun k h => by omega, Below.refl _ _⟩
  case round =>
    obtain ⟨i, rfl, HH⟩ := hrel
    by_cases hlt : i < n
    · have hlt' : (i : Int) < n := by omega
      obtain ⟨b, o, rfl, hc⟩ := RS.at_ HR.out (by omega)
      have hld := Shape.ld updK wr b _ _ (RS.fits_at HR.out hlt) ((hc i hlt).below HH.out.2.2)
      have HIL := Lib.hid (show i < t.length by rw [HR.out.len]; exact hlt)
      clear hc
      go_wp2_with (first | ((with_reducible show wpList _ _ _ (Oper.mk _ (Op.load _ _) _ _ _ _ :: _) _ _); refine wpList_load_g hld _ rfl rfl (by go_simp) ?_))
      refine (HQ.out i hlt wr HH.out.2.2).mono ?_
      rintro e w2 ⟨rfl, hb2⟩
      have HB2 := Lib.hid (below_step HH.out.2.2 hb2)
      clear hb2 hld
      cases hqq : q (updK.at_ t i) with
      | true =>
        have HE : Hid (idxE q t = (i : Int)) := Lib.hid (idxE_at (S := updK) HIL.out hqq HH.out.2.1)
        clear hqq
        go_wp2
        go_ret
        rw [HE.out]
        exact ⟨rfl, HB2.out⟩
      | false =>
        have HN := Lib.hid hqq
        clear hqq
        go_wp2_with fail
        go_roundw
        case measure => simp [intOf]; omega
        case rel =>
          refine ⟨i + 1, by go_num, by omega, fun k hk => ?_, HB2.out⟩
          by_cases hki : k < i
          · exact HH.out.2.1 k hki
          · rw [show k = i by omega]; exact HN.out
    · have hlt' : decide (i < n) = false := decide_eq_false hlt
      have HE : Hid (idxE q t = -1) := Lib.hid (idxE_none (S := updK) (fun k hk => HH.out.2.1 k (by rw [HR.out.len] at hk; omega)))
      clear hlt
      go_wp2
      go_ret
      rw [HE.out]
      exact ⟨rfl, HH.out.2.2⟩
theorem containsU_any (A : Option Addr) (n c : Nat) (t : List Upd) (w : World) (g : Nat) (hr : RS updK w A n c t) (hn : n ≤ 1000000) (q : Upd → Bool)
    (hq : ∀ i, i < n → ∀ w1, Below w.heap.size w w1 → Calls Tryd.prog 62 #[updK.val (updK.at_ t i), .pointer (some ⟨g, 0, none⟩)] w1 fun e w2 => e = .returned (.bool (q (updK.at_ t i))) ∧ Below w1.heap.size w1 w2) :
    Calls Tryd.prog 61 #[.slice A n c, .func (Fn.func 62) #[] #[.pointer (some ⟨g, 0, none⟩)]] w fun e w' => e = .returned (.bool (t.any q)) ∧ Below w.heap.size w w' := by
  have HI := Lib.hid (indexfU_any A n c t w g hr hn q hq)
  clear hq hr
  go_enter Tryd.func61, Tryd.ntmps61
  go_wp2_with fail
  refine HI.out.mono ?_
  rintro e w1 ⟨rfl, hb1⟩
  have HB1 := Lib.hid hb1
  clear hb1
  go_wp2
  go_ret
  rw [idxE_any]
  exact ⟨rfl, HB1.out⟩
set_option maxHeartbeats 1000000 in
theorem indexfQ_any (A : Option Addr) (n c : Nat) (t : List Rte) (w : World) (g : Nat) (hr : RS rteK w A n c t) (hn : n ≤ 1000000) (q : Rte → Bool)
    (hq : ∀ i, i < n → ∀ w1, Below w.heap.size w w1 → Calls Tryd.prog 50 #[rteK.val (rteK.at_ t i), .pointer (some ⟨g, 0, none⟩)] w1 fun e w2 => e = .returned (.bool (q (rteK.at_ t i))) ∧ Below w1.heap.size w1 w2) :
    Calls Tryd.prog 86 #[.slice A n c, .func (Fn.func 50) #[] #[.pointer (some ⟨g, 0, none⟩)]] w fun e w' => e = .returned (.int .i64 (idxE q t)) ∧ Below w.heap.size w w' := by
  have HR := Lib.hid hr
  have HQ := Lib.hid hq
  clear hr hq
  go_enter Tryd.func86, Tryd.ntmps86
  go_wp2_with fail
  go_loopw [8] (fun x wr => ∃ i : Nat, x = .int .i64 i ∧ Hid (i ≤ n ∧ (∀ k, k < i → q (rteK.at_ t k) = false) ∧ Below w.heap.size w wr)) (fun x _ => n - (intOf x).toNat)
  case atStart => exact ⟨0, rfl, Nat.zero_le _, fun k h => by omega, Below.refl _ _⟩
  case round =>
    obtain ⟨i, rfl, HH⟩ := hrel
    by_cases hlt : i < n
    · have hlt' : (i : Int) < n := by omega
      obtain ⟨b, o, rfl, hc⟩ := RS.at_ HR.out (by omega)
      have hld := Shape.ld rteK wr b _ _ (RS.fits_at HR.out hlt) ((hc i hlt).below HH.out.2.2)
      have HIL := Lib.hid (show i < t.length by rw [HR.out.len]; exact hlt)
      clear hc
      go_wp2_with (first | ((with_reducible show wpList _ _ _ (Oper.mk _ (Op.load _ _) _ _ _ _ :: _) _ _); refine wpList_load_g hld _ rfl rfl (by go_simp) ?_))
      refine (HQ.out i hlt wr HH.out.2.2).mono ?_
      rintro e w2 ⟨rfl, hb2⟩
      have HB2 := Lib.hid (below_step HH.out.2.2 hb2)
      clear hb2 hld
      cases hqq : q (rteK.at_ t i) with
      | true =>
        have HE : Hid (idxE q t = (i : Int)) := Lib.hid (idxE_at (S := rteK) HIL.out hqq HH.out.2.1)
        clear hqq
        go_wp2
        go_ret
        rw [HE.out]
        exact ⟨rfl, HB2.out⟩
      | false =>
        have HN := Lib.hid hqq
        clear hqq
        go_wp2_with fail
        go_roundw
        case measure => simp [intOf]; omega
        case rel =>
          refine ⟨i + 1, by go_num, by omega, fun k hk => ?_, HB2.out⟩
          by_cases hki : k < i
          · exact HH.out.2.1 k hki
          · rw [show k = i by omega]; exact HN.out
    · have hlt' : decide (i < n) = false := decide_eq_false hlt
      have HE : Hid (idxE q t = -1) := Lib.hid (idxE_none (S := rteK) (fun k hk => HH.out.2.1 k (by rw [HR.out.len] at hk; omega)))
      clear hlt
      go_wp2
      go_ret
      rw [HE.out]
      exact ⟨rfl, HH.out.2.2⟩
theorem containsQ_any (A : Option Addr) (n c : Nat) (t : List Rte) (w : World) (g : Nat) (hr : RS rteK w A n c t) (hn : n ≤ 1000000) (q : Rte → Bool)
    (hq : ∀ i, i < n → ∀ w1, Below w.heap.size w w1 → Calls Tryd.prog 50 #[rteK.val (rteK.at_ t i), .pointer (some ⟨g, 0, none⟩)] w1 fun e w2 => e = .returned (.bool (q (rteK.at_ t i))) ∧ Below w1.heap.size w1 w2) :
    Calls Tryd.prog 49 #[.slice A n c, .func (Fn.func 50) #[] #[.pointer (some ⟨g, 0, none⟩)]] w fun e w' => e = .returned (.bool (t.any q)) ∧ Below w.heap.size w w' := by
  have HI := Lib.hid (indexfQ_any A n c t w g hr hn q hq)
  clear hq hr
  go_enter Tryd.func49, Tryd.ntmps49
  go_wp2_with fail
  refine HI.out.mono ?_
  rintro e w1 ⟨rfl, hb1⟩
  have HB1 := Lib.hid hb1
  clear hb1
  go_wp2
  go_ret
  rw [idxE_any]
  exact ⟨rfl, HB1.out⟩
def lowR (l : List Rte) (x : Rte) : Nat := lowK Rte.key l x
def thereR (l : List Rte) (x : Rte) : Bool := thereK Rte.key l x
set_option maxHeartbeats 2000000 in
theorem bsearchQ_any (A : Option Addr) (n c : Nat) (t : List Rte) (x : Rte) (w : World) (ht : RS rteK w A n c t) (hu : risK Rte.key t = true) (hx : x.fits) (hn : n ≤ 100000) :
    Calls Tryd.prog 42 #[.slice A n c, .agg (rteV x), .func (Fn.func 43) #[] #[]] w fun e w' => e = .returned (.tuple #[.int .i64 (lowR t x), .bool (thereR t x)]) ∧ Below w.heap.size w w' := by
  have hblk1 := blk_new w (.cells (rteV x) 51)
  have hbel1 : Below w.heap.size w (w.alloc (.cells (rteV x) 51)) := below_alloc (Below.refl _ _) _
  have HP1 := Lib.hid (rte_at hx hblk1)
  have HBK1 := Lib.hid hblk1
  have HBE := Lib.hid hbel1
  obtain ⟨cs1, hcs1⟩ : ∃ cs, rteV x = cs := ⟨_, rfl⟩
  simp only [hcs1] at HBE HP1 HBK1 ⊢
  have HC1 := Lib.hid hcs1
  clear hcs1 hblk1 hbel1
  have HT := Lib.hid ht
  have HU := Lib.hid hu
  have HLE := Lib.hid (show lowR t x ≤ n by rw [← ht.len]; exact lowK_le t x)
  clear ht hu
  go_enter Tryd.func42, Tryd.ntmps42
  go_wp2_with fail
  go_loopw [9, 10] (fun s9 s10 wr => ∃ i j : Nat, s9 = .int .i64 i ∧ s10 = .int .i64 j ∧ Hid (i ≤ lowR t x ∧ lowR t x ≤ j ∧ j ≤ n ∧ Below (w.alloc (.cells cs1 51)).heap.size (w.alloc (.cells cs1 51)) wr)) (fun x y _ => (intOf y).toNat - (intOf x).toNat)
  case atStart => exact ⟨0, n, rfl, rfl, Nat.zero_le _, HLE.out, Nat.le_refl _, Below.refl _ _⟩
  case round =>
    obtain ⟨i, j, rfl, rfl, HH⟩ := hrel
    have hij := Nat.le_trans HH.out.1 HH.out.2.1
    have hjn := HH.out.2.2.1
    by_cases hlt : i < j
    · have hlt' : (i : Int) < j := by omega
      have hw1 : IntKind.i64.wrap ((i : Int) + j) = i + j := by simp only [IntKind.wrap, IntKind.bits, IntKind.signed]; simp; omega
      have hw2 : IntKind.u64.wrap ((i : Int) + j) = i + j := by simp only [IntKind.wrap, IntKind.bits, IntKind.signed]; simp; omega
      obtain ⟨h, hh⟩ : ∃ h : Nat, ((i : Int) + j) / 2 = h := ⟨(i + j) / 2, by omega⟩
      have hih : i ≤ h := by omega
      have hhj : h < j := by omega
      have HI := Lib.hid (And.intro hih hhj)
      obtain ⟨b, o, rfl, hc⟩ := RS.at_ HT.out (by omega)
      have hhn : h < n := by omega
      have hhn' : (h : Int) < n := by omega
      have HC := Lib.hid (hc h hhn)
      have HF := Lib.hid (RS.fits_at HT.out hhn)
      have HSP := Lib.hid (lowK_spec rteZ x HU.out h (by rw [HT.out.len]; exact hhn))
      obtain ⟨a, ha⟩ : ∃ a, rteK.at_ t h = a := ⟨_, rfl⟩
      rw [ha] at HC HF
      have ha : t.getD h rteZ = a := ha
      rw [ha] at HSP
      clear hih hhj hc ha
      go_wp2_with fail
      refine wp_region_mix (fun w0 => Below (wr).heap.size (wr) w0) [(0, 0), (1, 0), (2, 0), (3, 0), (4, 0), (5, 0), (6, 2), (7, 0)] (by kernel_rfl) (by kernel_rfl) (below_drew1 _) ?_
      simp only [List.map_cons, List.map_nil]
      iterate 4 (refine wpO_step0 rfl rfl (fun K hK => ?_); go_simp; refine hK _ _ ?_; clear hK K)
      refine wpO_loadW (t := 51) (ad := ⟨b, (o+h*21), none⟩) rfl rfl ?hw rfl rfl ((fun w0 hS => Shape.ld rteK w0 b _ a HF.out (HC.out.below (below_step HBE.out (below_step HH.out.2.2.2 hS))))) ?_
      case hw => go_simp
      refine wpO_loadW (t := 51) (ad := ⟨w.heap.size, 0, none⟩) rfl rfl ?hw rfl rfl ((fun w0 hS => (HP1.out.all w0 (below_step HH.out.2.2.2 hS)).all)) ?_
      case hw => go_simp
      refine wpO_step2 rfl rfl (below_drew1 _) (fun K hK => ?_)
      go_simp
      refine (order_any a x _ HF.out hx).mono ?_
      rintro e w3 ⟨rfl, hbb3⟩
      have HB3 := Lib.hid (below_step (below_drew1 _) hbb3)
      clear hbb3
      refine hK _ _ ⟨HB3.out, ?_⟩
      clear hK K
      cases hcm : decide (cR a x < 0) with
      | true =>
        iterate 1 (refine wpO_step0 rfl rfl (fun K hK => ?_); go_simp; refine hK _ _ ?_; clear hK K)
        refine wpO_nil ?_
        have HQ := Lib.hid (of_decide_eq_true hcm)
        go_wp2_with fail
        go_roundw
        case measure => simp [intOf]; have := HI.out; omega
        case rel =>
          refine ⟨h + 1, j, by go_num, rfl, ?_, HH.out.2.1, hjn, below_step HH.out.2.2.2 HB3.out⟩
          rcases Nat.lt_or_ge h (lowR t x) with hl | hl
          · exact hl
          · have h1 := HSP.out.2 hl
            have h2 : cK Rte.key a x < 0 := HQ.out
            omega
      | false =>
        iterate 1 (refine wpO_step0 rfl rfl (fun K hK => ?_); go_simp; refine hK _ _ ?_; clear hK K)
        refine wpO_nil ?_
        have HQ := Lib.hid (of_decide_eq_false hcm)
        go_wp2_with fail
        go_roundw
        case measure => simp [intOf]; have := HI.out; omega
        case rel =>
          refine ⟨i, h, rfl, rfl, HH.out.1, ?_, by omega, below_step HH.out.2.2.2 HB3.out⟩
          rcases Nat.lt_or_ge h (lowR t x) with hl | hl
          · have h1 := HSP.out.1 hl
            have h2 : ¬ cK Rte.key a x < 0 := by have := HQ.out; exact fun h => absurd h (by simpa [cR] using this)
            omega
          · exact hl
    · have hlt' : decide (i < j) = false := decide_eq_false hlt
      have hlow : i = lowR t x := by have h1 := HH.out.1; have h2 := HH.out.2.1; omega
      have HLO := Lib.hid hlow
      clear hlow hlt
      by_cases hin : i < n
      · obtain ⟨b, o, rfl, hc⟩ := RS.at_ HT.out (by omega)
        have hin' : (i : Int) < n := by omega
        have HC := Lib.hid (hc i hin)
        have HF := Lib.hid (RS.fits_at HT.out hin)
        have HTH : Hid (thereR t x = (cR (rteK.at_ t i) x == 0)) := Lib.hid (by
          unfold thereR thereK
          rw [show lowK Rte.key t x = i from HLO.out.symm, Shape.at_get (S := rteK) (by rw [HT.out.len]; exact hin)]
          rfl)
        obtain ⟨a, ha⟩ : ∃ a, rteK.at_ t i = a := ⟨_, rfl⟩
        rw [ha] at HC HF HTH
        clear hc ha
        go_wp2_with fail
        refine wp_region_mix (fun w0 => Below (wr).heap.size (wr) w0) [(0, 0), (1, 0), (2, 0), (3, 0), (4, 0), (5, 0), (6, 0), (7, 0), (8, 0), (9, 0), (10, 0), (11, 2), (12, 0), (13, 0), (14, 0), (15, 0)] (by kernel_rfl) (by kernel_rfl) (below_drew1 _) ?_
        simp only [List.map_cons, List.map_nil]
        iterate 9 (refine wpO_step0 rfl rfl (fun K hK => ?_); go_simp; refine hK _ _ ?_; clear hK K)
        refine wpO_loadW (t := 51) (ad := ⟨b, (o+i*21), none⟩) rfl rfl ?hw rfl rfl ((fun w0 hS => Shape.ld rteK w0 b _ a HF.out (HC.out.below (below_step HBE.out (below_step HH.out.2.2.2 hS))))) ?_
        case hw => go_simp
        refine wpO_loadW (t := 51) (ad := ⟨w.heap.size, 0, none⟩) rfl rfl ?hw rfl rfl ((fun w0 hS => (HP1.out.all w0 (below_step HH.out.2.2.2 hS)).all)) ?_
        case hw => go_simp
        refine wpO_step2 rfl rfl (below_drew1 _) (fun K hK => ?_)
        go_simp
        refine (order_any a x _ HF.out hx).mono ?_
        rintro e w3 ⟨rfl, hbb3⟩
        have HB3 := Lib.hid (below_step (below_drew1 _) hbb3)
        clear hbb3
        refine hK _ _ ⟨HB3.out, ?_⟩
        clear hK K
        iterate 4 (refine wpO_step0 rfl rfl (fun K hK => ?_); go_simp; refine hK _ _ ?_; clear hK K)
        refine wpO_nil ?_
        go_wp2
        refine bodyPost_ret (results_tmp2 rfl _ _ _) rfl ?_
        rw [← HLO.out, HTH.out]
        exact ⟨rfl, below_step HBE.out (below_step HH.out.2.2.2 HB3.out)⟩
      · have hin' : decide (i < n) = false := decide_eq_false hin
        have HTH : Hid (thereR t x = false) := Lib.hid (by
          unfold thereR thereK
          rw [show lowK Rte.key t x = i from HLO.out.symm, List.getElem?_eq_none_iff.2 (by rw [HT.out.len]; omega)])
        clear hin
        go_wp2_with fail
        refine wp_region_mix (fun w0 => Below (wr).heap.size (wr) w0) [(0, 0), (1, 0), (2, 0), (3, 0), (4, 0), (5, 0), (6, 0), (7, 0), (8, 0), (9, 0), (10, 0), (11, 2), (12, 0), (13, 0), (14, 0), (15, 0)] (by kernel_rfl) (by kernel_rfl) (below_drew1 _) ?_
        simp only [List.map_cons, List.map_nil]
        repeat first | (refine wpO_step0 rfl rfl (fun K hK => ?_); go_simp; refine hK _ _ ?_; clear hK K) | (refine wpO_step2 rfl rfl (below_drew1 _) (fun K hK => ?_); go_simp; refine hK _ _ ⟨below_drew1 _, ?_⟩; clear hK K)
        refine wpO_nil ?_
        go_wp2
        refine bodyPost_ret (results_tmp2 rfl _ _ _) rfl ?_
        rw [← HLO.out, HTH.out]
        exact ⟨rfl, below_step HBE.out (below_step HH.out.2.2.2 (below_drew1 _))⟩
end Go.Proofs.YtnpeedmicjeleaaDoor

/- Layer 11 (route): prefixes, Check, CheckBatch; the document's prefixes, Right, RightBatch. -/
namespace Go.Proofs.YtnpeedmicjeleaaDoor
open Go.RowKit
set_option linter.unusedVariables false
set_option linter.unusedSimpArgs false
set_option maxRecDepth 4000
set_option maxHeartbeats 2000000 in
theorem rprefixes_any (A : Option Addr) (n c : Nat) (l : List Rte) (w : World) (hr : RS rteK w A n c l) (ok : Okr l) (hn : n ≤ 100000) : Calls Tryd.prog 46 #[.slice A n c] w fun e w' => e = .returned (.int .i64 (pfxsN l)) ∧ Below w.heap.size w w' := by
  have HR := Lib.hid hr
  have OK := Lib.hid ok
  clear hr ok
  go_enter Tryd.func46, Tryd.ntmps46
  go_wp2_with fail
  go_loopw [3, 8] (fun s3 s8 wr => ∃ i q : Nat, s8 = .int .i64 i ∧ s3 = .int .i64 q ∧ Hid (q = cntP l i ∧ i ≤ n ∧ Below w.heap.size w wr)) (fun _ y _ => n - (intOf y).toNat)
  case atStart => exact ⟨0, 0, rfl, rfl, rfl, Nat.zero_le _, Below.refl _ _⟩
  case round =>
    obtain ⟨i, q, rfl, rfl, HI⟩ := hrel
    have hqi : q ≤ i := by rw [HI.out.1]; exact cntP_le l i
    by_cases hlt : i < n
    · have hlt' : (i : Int) < n := by omega
      have hin : i ≤ n := HI.out.2.1
      obtain ⟨b, o, rfl, hc⟩ := RS.at_ HR.out (by omega)
      have hil : i < l.length := by rw [HR.out.len]; exact hlt
      have HC := Lib.hid (fun (k : Nat) (hk : k < n) => (hc k hk).below HI.out.2.2)
      have HXO := Lib.hid (OK.out.at_ hil)
      have HSU := Lib.hid (cntP_succ l i)
      have hla := Shape.ld rteK wr b _ _ HXO.out.fits (HC.out i hlt)
      have hla : (Instr.loadAt 51 (.pointer (some ⟨b, o + i * 21, none⟩))).run Tryd.prog wr = .ok (.agg (rteV (rteAt l i))) wr := hla
      obtain ⟨x, hx⟩ : ∃ x, rteAt l i = x := ⟨_, rfl⟩
      rw [hx] at hla HXO
      have HX := Lib.hid hx
      have HB2f := Lib.hid (fun (W : World) (h : (wr.alloc (.cells (rteV rteZ) 51)).grownBy W (some wr.heap.size)) => below_grown (below_alloc (Below.refl wr.heap.size wr) (.cells (rteV rteZ) 51)) h (Nat.le_refl _))
      clear hc hx
      go_upto_region 5 with (first | ((with_reducible show wpList _ _ _ (Oper.mk _ (Op.load _ _) _ _ _ _ :: _) _ _); refine wpList_load_g hla _ rfl rfl (by go_simp) ?_) | ((with_reducible show wpList _ _ _ (Oper.mk _ (Op.store _ _ _) _ _ _ _ :: _) _ _); refine wpList_store_blk (blk_new wr _) 51 0 (rteV x) (store_rte_fit HXO.out.fits rfl) (info_rte HXO.out.fits) (rteV_one _) _ _ rfl rfl rfl rfl ?_; intro w2 hg9 hs9 hb9; rw [splice_rte HXO.out.fits rfl] at hb9; have H2 := Lib.hid (And.intro hg9 hb9); clear hg9 hs9 hb9))
      have HB2 := Lib.hid (HB2f.out _ H2.out.1)
      have HX2 := Lib.hid (rte_at HXO.out.fits H2.out.2)
      clear HB2f H2 hla
      dsimp only [Act.put]
      cases i with
      | zero =>
        have HN : Hid (q + 1 = cntP l (0 + 1)) := Lib.hid (by rw [HSU.out, HI.out.1]; rfl)
        refine wp_region_mix (fun w0 => Below (w2).heap.size (w2) w0) [(0, 0), (1, 0), (2, 0), (3, 0), (4, 0), (5, 0), (6, 0), (7, 0), (8, 0), (9, 0), (10, 0), (11, 0), (12, 0)] (by kernel_rfl) (by kernel_rfl) (below_drew1 _) ?_
        simp only [List.map_cons, List.map_nil]
        repeat first | (refine wpO_step0 rfl rfl (fun K hK => ?_); go_simp; refine hK _ _ ?_; clear hK K) | (refine wpO_step2 rfl rfl (below_drew1 _) (fun K hK => ?_); go_simp; refine hK _ _ ⟨below_drew1 _, ?_⟩; clear hK K)
        refine wpO_nil ?_
        go_wp2_with fail
        go_roundw
        case measure => simp [intOf]; omega
        case rel => exact ⟨0 + 1, q + 1, by go_num, by go_num, HN.out, by omega, below_step HI.out.2.2 (below_step HB2.out (below_drew1 _))⟩
      | succ k =>
        have hk1 : ((k + 1 : Nat) : Int) - 1 = k := by omega
        have hkn : k < n := by omega
        have hkn' : (k : Int) < n := by omega
        have hk0 : ((k : Int) + 1 == 0) = false := by simp; omega
        have hwk : IntKind.i64.wrap (k : Int) = k := by simp only [IntKind.wrap, IntKind.bits, IntKind.signed]; simp; omega
        have HYO := Lib.hid (OK.out.at_ (show k < l.length by omega))
        have HCK := Lib.hid (HC.out k hkn)
        obtain ⟨y, hy⟩ : ∃ y, rteAt l k = y := ⟨_, rfl⟩
        have HCK2 : Hid (CellsAt wr b (o + k * 21) (rteC y)) := Lib.hid (by have := HCK.out; rwa [show rteK.at_ l k = y from hy] at this)
        rw [hy] at HYO
        cases he : y.p.eqB x.p with
        | true =>
          have HN : Hid (q = cntP l (k + 1 + 1)) := Lib.hid (by
            rw [HSU.out, HI.out.1, if_neg]
            rfl
            unfold newP
            rw [show k + 1 - 1 = k from rfl, show rteAt l k = y from hy, HX.out, he]
            simp)
          have HEX := Lib.hid (pfx_ne_hex HYO.out.p HXO.out.p (b := false) (by rw [he]; rfl))
          clear he hy HCK
          refine wp_region_mix (fun w0 => Below (w2).heap.size (w2) w0) [(0, 0), (1, 0), (2, 0), (3, 0), (4, 0), (5, 0), (6, 0), (7, 0), (8, 0), (9, 0), (10, 0), (11, 0), (12, 0)] (by kernel_rfl) (by kernel_rfl) (below_drew1 _) ?_
          simp only [List.map_cons, List.map_nil]
          iterate 8 (refine wpO_step0 rfl rfl (fun K hK => ?_); go_simp; refine hK _ _ ?_; clear hK K)
          refine wpO_loadW (t := 49) (ad := ⟨b, (o+k*21), none⟩) rfl rfl ?hw rfl rfl ((fun w0 hS => (rteLd_of HYO.out.fits (HCK2.out.below (below_step HB2.out hS))).pfx)) ?_
          case hw => go_simp
          iterate 1 (refine wpO_step0 rfl rfl (fun K hK => ?_); go_simp; refine hK _ _ ?_; clear hK K)
          refine wpO_loadW (t := 49) (ad := ⟨wr.heap.size, 0, none⟩) rfl rfl ?hw rfl rfl ((fun w0 hS => (HX2.out.all w0 hS).pfx)) ?_
          case hw => go_simp
          refine wpO_step0 rfl rfl (fun K hK => ?_)
          rw [if_pos (show Region.wanted _ _ = true from rfl)]
          refine ⟨_, fun w0 => HEX.out _ _ _ _ _ rfl rfl rfl w0, hK _ _ ?_⟩
          clear hK K
          iterate 1 (refine wpO_step0 rfl rfl (fun K hK => ?_); go_simp; refine hK _ _ ?_; clear hK K)
          refine wpO_nil ?_
          go_wp2_with fail
          go_roundw
          case measure => simp [intOf]; omega
          case rel => exact ⟨k + 1 + 1, q, by go_num, rfl, HN.out, by omega, below_step HI.out.2.2 (below_step HB2.out (below_drew1 _))⟩
        | false =>
          have HN : Hid (q + 1 = cntP l (k + 1 + 1)) := Lib.hid (by
            rw [HSU.out, HI.out.1, if_pos]
            unfold newP
            rw [show k + 1 - 1 = k from rfl, show rteAt l k = y from hy, HX.out, he]
            simp)
          have HEX := Lib.hid (pfx_ne_hex HYO.out.p HXO.out.p (b := true) (by rw [he]; rfl))
          clear he hy HCK
          refine wp_region_mix (fun w0 => Below (w2).heap.size (w2) w0) [(0, 0), (1, 0), (2, 0), (3, 0), (4, 0), (5, 0), (6, 0), (7, 0), (8, 0), (9, 0), (10, 0), (11, 0), (12, 0)] (by kernel_rfl) (by kernel_rfl) (below_drew1 _) ?_
          simp only [List.map_cons, List.map_nil]
          iterate 8 (refine wpO_step0 rfl rfl (fun K hK => ?_); go_simp; refine hK _ _ ?_; clear hK K)
          refine wpO_loadW (t := 49) (ad := ⟨b, (o+k*21), none⟩) rfl rfl ?hw rfl rfl ((fun w0 hS => (rteLd_of HYO.out.fits (HCK2.out.below (below_step HB2.out hS))).pfx)) ?_
          case hw => go_simp
          iterate 1 (refine wpO_step0 rfl rfl (fun K hK => ?_); go_simp; refine hK _ _ ?_; clear hK K)
          refine wpO_loadW (t := 49) (ad := ⟨wr.heap.size, 0, none⟩) rfl rfl ?hw rfl rfl ((fun w0 hS => (HX2.out.all w0 hS).pfx)) ?_
          case hw => go_simp
          refine wpO_step0 rfl rfl (fun K hK => ?_)
          rw [if_pos (show Region.wanted _ _ = true from rfl)]
          refine ⟨_, fun w0 => HEX.out _ _ _ _ _ rfl rfl rfl w0, hK _ _ ?_⟩
          clear hK K
          iterate 1 (refine wpO_step0 rfl rfl (fun K hK => ?_); go_simp; refine hK _ _ ?_; clear hK K)
          refine wpO_nil ?_
          go_wp2_with fail
          go_roundw
          case measure => simp [intOf]; omega
          case rel => exact ⟨k + 1 + 1, q + 1, by go_num, by go_num, HN.out, by omega, below_step HI.out.2.2 (below_step HB2.out (below_drew1 _))⟩
    · have hlt' : decide (i < n) = false := decide_eq_false hlt
      have hin : i = n := by have := HI.out.2.1; omega
      have HE : Hid (pfxsN l = q) := Lib.hid (by unfold pfxsN; rw [HR.out.len, ← hin, HI.out.1])
      clear hlt hin
      go_wp2
      go_ret
      rw [HE.out]
      exact ⟨rfl, HI.out.2.2⟩
def ribE (l : List Rte) : Int := if ribB l then 0 else 211
theorem ribE_no {l : List Rte} {i : Nat} (hi : i < l.length) (h : i = 160 ∨ (rteAt l i).fit = false ∨ (0 < i ∧ ¬ cR (rteAt l (i - 1)) (rteAt l i) < 0)) : ribE l = 211 := by
  unfold ribE
  rw [if_neg]
  intro hb
  unfold ribB at hb
  rw [Bool.and_eq_true, ribsB_iff] at hb
  obtain ⟨⟨h1, h2, h3⟩, _⟩ := hb
  rcases h with h | h | ⟨h, k⟩
  · omega
  · rw [h2 i hi] at h; cases h
  · have := h3 (i - 1) (by omega)
    rw [show i - 1 + 1 = i by omega] at this
    exact k this
set_option maxHeartbeats 4000000 in
theorem rcheck_any (A : Option Addr) (n c : Nat) (l : List Rte) (w : World) (hL : Laid w) (hr : RS rteK w A n c l) (ok : Okr l) (hn : n ≤ 100000) : Calls Tryd.prog 18 #[.agg (tabV A n c)] w fun e w' => e = .returned (.int .i64 (ribE l)) ∧ Below w.heap.size w w' := by
  have hblk1 := blk_new w (.cells (tabV A n c) 24)
  have hbel1 : Below w.heap.size w (w.alloc (.cells (tabV A n c) 24)) := below_alloc (Below.refl _ _) _
  have HP1 := Lib.hid (rib_at hblk1)
  have HBK1 := Lib.hid hblk1
  have HBE := Lib.hid hbel1
  have HL := Lib.hid (hL.below HBE.out)
  obtain ⟨cs1, hcs1⟩ : ∃ cs, tabV A n c = cs := ⟨_, rfl⟩
  simp only [hcs1] at HBE HL HP1 HBK1 ⊢
  have HC1 := Lib.hid hcs1
  clear hL hcs1 hblk1 hbel1
  have HR := Lib.hid (hr.below HBE.out)
  have OK := Lib.hid ok
  clear hr ok
  go_enter Tryd.func18, Tryd.ntmps18
  go_wp2_with (first | ((with_reducible show wpList _ _ _ (Oper.mk _ (Op.load _ _) _ _ _ _ :: _) _ _); refine wpList_load_g ((HP1.out.all _ (Below.refl _ _)).2) _ rfl rfl (by go_simp) ?_))
  go_loopw [8] (fun s8 wr => ∃ i : Nat, s8 = .int .i64 i ∧ Hid (i ≤ n ∧ i ≤ 160 ∧ (∀ j, j < i → (rteAt l j).fit = true) ∧ (∀ j, j + 1 < i → cR (rteAt l j) (rteAt l (j + 1)) < 0) ∧ Below (w.alloc (.cells cs1 24)).heap.size (w.alloc (.cells cs1 24)) wr)) (fun x _ => n - (intOf x).toNat)
  case atStart => exact ⟨0, rfl, Nat.zero_le _, by omega, fun j h => by omega, fun j h => by omega, Below.refl _ _⟩
  case round =>
    obtain ⟨i, rfl, HI⟩ := hrel
    have hi160 : i ≤ 160 := HI.out.2.1
    by_cases hlt : i < n
    · have hlt' : (i : Int) < n := by omega
      obtain ⟨b, o, rfl, hc⟩ := RS.at_ HR.out (by omega)
      have hil : i < l.length := by rw [HR.out.len]; exact hlt
      have HIL := Lib.hid hil
      have HC := Lib.hid (fun (k : Nat) (hk : k < n) => (hc k hk).below HI.out.2.2.2.2)
      have HXO := Lib.hid (OK.out.at_ hil)
      have hla := Shape.ld rteK wr b _ _ HXO.out.fits (HC.out i hlt)
      have hla : (Instr.loadAt 51 (.pointer (some ⟨b, o + i * 21, none⟩))).run Tryd.prog wr = .ok (.agg (rteV (rteAt l i))) wr := hla
      obtain ⟨x, hx⟩ : ∃ x, rteAt l i = x := ⟨_, rfl⟩
      rw [hx] at hla HXO
      have HX := Lib.hid hx
      have HBI := Lib.hid HI.out.2.2.2.2
      have HB2f := Lib.hid (fun (W : World) (h : (wr.alloc (.cells (rteV rteZ) 51)).grownBy W (some wr.heap.size)) => below_grown (below_alloc (Below.refl wr.heap.size wr) (.cells (rteV rteZ) 51)) h (Nat.le_refl _))
      clear hc hx hil
      go_upto_region 4 with (first | ((with_reducible show wpList _ _ _ (Oper.mk _ (Op.load _ _) _ _ _ _ :: _) _ _); refine wpList_load_g hla _ rfl rfl (by go_simp) ?_) | ((with_reducible show wpList _ _ _ (Oper.mk _ (Op.store _ _ _) _ _ _ _ :: _) _ _); refine wpList_store_blk (blk_new wr _) 51 0 (rteV x) (store_rte_fit HXO.out.fits rfl) (info_rte HXO.out.fits) (rteV_one _) _ _ rfl rfl rfl rfl ?_; intro w2 hg9 hs9 hb9; rw [splice_rte HXO.out.fits rfl] at hb9; have H2 := Lib.hid (And.intro hg9 hb9); clear hg9 hs9 hb9))
      have HBR := Lib.hid (HB2f.out _ H2.out.1)
      have HB2 := Lib.hid (below_step HBI.out HBR.out)
      have HX2 := Lib.hid (rte_at HXO.out.fits H2.out.2)
      clear HB2f H2 hla
      dsimp only [Act.put]
      by_cases h160 : i = 160
      · have HE := Lib.hid (ribE_no HIL.out (.inl h160))
        subst h160
        refine wp_region_mix (fun w0 => Below (w2).heap.size (w2) w0) [(0, 0), (1, 0), (2, 0), (3, 0), (4, 0), (5, 0), (6, 0), (7, 0), (8, 0), (9, 0), (10, 0), (11, 2), (12, 0), (13, 0), (14, 0), (15, 0), (16, 0), (17, 0), (18, 0), (19, 0), (20, 0), (21, 0), (22, 0), (23, 0), (24, 0), (25, 2), (26, 0), (27, 0), (28, 0)] (by kernel_rfl) (by kernel_rfl) (below_drew1 _) ?_
        simp only [List.map_cons, List.map_nil]
        repeat first | (refine wpO_step0 rfl rfl (fun K hK => ?_); go_simp; refine hK _ _ ?_; clear hK K) | (refine wpO_step2 rfl rfl (below_drew1 _) (fun K hK => ?_); go_simp; refine hK _ _ ⟨below_drew1 _, ?_⟩; clear hK K)
        refine wpO_nil ?_
        go_wp2_with fail
        go_ret
        rw [HE.out]
        exact ⟨rfl, below_step HBE.out (below_step HB2.out (below_drew1 _))⟩
      · have h160b : ((i : Int) == 160) = false := by simp; omega
        obtain ⟨F, hF⟩ : ∃ F, x.fit = F := ⟨_, rfl⟩
        have HF := Lib.hid hF
        have h161 : i + 1 ≤ 160 := by omega
        clear h160 hF
        refine wp_region_mix (fun w0 => Below (w2).heap.size (w2) w0) [(0, 0), (1, 0), (2, 0), (3, 0), (4, 0), (5, 0), (6, 0), (7, 0), (8, 0), (9, 0), (10, 0), (11, 2), (12, 0), (13, 0), (14, 0), (15, 0), (16, 0), (17, 0), (18, 0), (19, 0), (20, 0), (21, 0), (22, 0), (23, 0), (24, 0), (25, 2), (26, 0), (27, 0), (28, 0)] (by kernel_rfl) (by kernel_rfl) (below_drew1 _) ?_
        simp only [List.map_cons, List.map_nil]
        iterate 4 (refine wpO_step0 rfl rfl (fun K hK => ?_); go_simp; refine hK _ _ ?_; clear hK K)
        refine wpO_loadW (t := 49) (ad := ⟨wr.heap.size, 0, none⟩) rfl rfl ?hw rfl rfl ((fun w0 hS => (HX2.out.all w0 hS).pfx)) ?_
        case hw => go_simp
        iterate 1 (refine wpO_step0 rfl rfl (fun K hK => ?_); go_simp; refine hK _ _ ?_; clear hK K)
        refine wpO_loadW (t := 3) (ad := ⟨wr.heap.size, 18, none⟩) rfl rfl ?hw rfl rfl ((fun w0 hS => (HX2.out.all w0 hS).src)) ?_
        case hw => go_simp
        iterate 1 (refine wpO_step0 rfl rfl (fun K hK => ?_); go_simp; refine hK _ _ ?_; clear hK K)
        refine wpO_loadW (t := 3) (ad := ⟨wr.heap.size, 19, none⟩) rfl rfl ?hw rfl rfl ((fun w0 hS => (HX2.out.all w0 hS).prf)) ?_
        case hw => go_simp
        iterate 1 (refine wpO_step0 rfl rfl (fun K hK => ?_); go_simp; refine hK _ _ ?_; clear hK K)
        refine wpO_loadW (t := 3) (ad := ⟨wr.heap.size, 20, none⟩) rfl rfl ?hw rfl rfl ((fun w0 hS => (HX2.out.all w0 hS).hop)) ?_
        case hw => go_simp
        refine wpO_step2 rfl rfl (below_drew1 _) (fun K hK => ?_)
        go_simp
        refine (rfits_any x.p x.s x.f x.h _ (HL.out.below (below_step HB2.out (below_drew1 _))) HXO.out.fits).mono ?_
        rintro e w3 ⟨rfl, hb3⟩
        rw [show fitB x.p x.s x.f x.h = F from HF.out]
        have HB3 := Lib.hid (below_step (below_drew1 w2) hb3)
        clear hb3
        refine hK _ _ ⟨HB3.out, ?_⟩
        clear hK K
        cases F with
        | false =>
          have HE := Lib.hid (ribE_no HIL.out (.inr (.inl (by rw [show rteAt l i = x from HX.out, HF.out]))))
          repeat first | (refine wpO_step0 rfl rfl (fun K hK => ?_); go_simp; refine hK _ _ ?_; clear hK K) | (refine wpO_step2 rfl rfl (HB3.out) (fun K hK => ?_); go_simp; refine hK _ _ ⟨HB3.out, ?_⟩; clear hK K)
          refine wpO_nil ?_
          go_wp2_with fail
          go_ret
          rw [HE.out]
          exact ⟨rfl, below_step HBE.out (below_step HB2.out HB3.out)⟩
        | true =>
          have HFI : Hid (∀ j, j < i + 1 → (rteAt l j).fit = true) := Lib.hid (fun j hj => by
            rcases Nat.lt_or_ge j i with h | h
            · exact HI.out.2.2.1 j h
            · obtain rfl : j = i := by omega
              rw [show rteAt l j = x from HX.out, HF.out])
          cases i with
          | zero =>
            repeat first | (refine wpO_step0 rfl rfl (fun K hK => ?_); go_simp; refine hK _ _ ?_; clear hK K) | (refine wpO_step2 rfl rfl (HB3.out) (fun K hK => ?_); go_simp; refine hK _ _ ⟨HB3.out, ?_⟩; clear hK K)
            refine wpO_nil ?_
            go_wp2_with fail
            go_roundw
            case measure => simp [intOf]; omega
            case rel => exact ⟨0 + 1, by go_num, by omega, by omega, HFI.out, fun j h => by omega, below_step HB2.out HB3.out⟩
          | succ k =>
            have hk1 : ((k + 1 : Nat) : Int) - 1 = k := by omega
            have hkn : k < n := by omega
            have hkn' : (k : Int) < n := by omega
            have hk0 : decide ((0 : Int) < (k : Int) + 1) = true := decide_eq_true (by omega)
            have hwk : IntKind.i64.wrap (k : Int) = k := by simp only [IntKind.wrap, IntKind.bits, IntKind.signed]; simp; omega
            have HYO := Lib.hid (OK.out.at_ (show k < l.length by have := HIL.out; omega))
            have HCK := Lib.hid (HC.out k hkn)
            obtain ⟨y, hy⟩ : ∃ y, rteAt l k = y := ⟨_, rfl⟩
            have HCK2 : Hid (CellsAt wr b (o + k * 21) (rteC y)) := Lib.hid (by have := HCK.out; rwa [show rteK.at_ l k = y from hy] at this)
            rw [hy] at HYO
            have HY := Lib.hid hy
            clear hy HCK
            iterate 7 (refine wpO_step0 rfl rfl (fun K hK => ?_); go_simp; refine hK _ _ ?_; clear hK K)
            refine wpO_loadW (t := 22) (ad := ⟨w.heap.size, 0, none⟩) rfl rfl ?hw rfl rfl ((fun w0 hS => (HP1.out.all w0 (below_step HB2.out hS)).2)) ?_
            case hw => go_simp
            iterate 3 (refine wpO_step0 rfl rfl (fun K hK => ?_); go_simp; refine hK _ _ ?_; clear hK K)
            refine wpO_loadW (t := 51) (ad := ⟨b, (o+k*21), none⟩) rfl rfl ?hw rfl rfl ((fun w0 hS => (rteLd_of HYO.out.fits (HCK2.out.below (below_step HBR.out hS))).all)) ?_
            case hw => go_simp
            refine wpO_loadW (t := 51) (ad := ⟨wr.heap.size, 0, none⟩) rfl rfl ?hw rfl rfl ((fun w0 hS => (HX2.out.all w0 hS).all)) ?_
            case hw => go_simp
            refine wpO_step2 rfl rfl (HB3.out) (fun K hK => ?_)
            go_simp
            refine (order_any y x _ HYO.out.fits HXO.out.fits).mono ?_
            rintro e w4 ⟨rfl, hb4⟩
            obtain ⟨N, hN⟩ : ∃ N, cR y x = N := ⟨_, rfl⟩
            rw [hN]
            have HN := Lib.hid hN
            have HB4 := Lib.hid (below_step HB3.out hb4)
            clear hb4 hN
            refine hK _ _ ⟨HB4.out, ?_⟩
            clear hK K
            by_cases hneg : N < 0
            · have hnb : decide (0 ≤ N) = false := decide_eq_false (by omega)
              have HRI : Hid (∀ j, j + 1 < k + 1 + 1 → cR (rteAt l j) (rteAt l (j + 1)) < 0) := Lib.hid (fun j hj => by
                rcases Nat.lt_or_ge (j + 1) (k + 1) with h | h
                · exact HI.out.2.2.2.1 j h
                · obtain rfl : j = k := by omega
                  rw [show rteAt l j = y from HY.out, show rteAt l (j + 1) = x from HX.out, HN.out]
                  exact hneg)
              clear hneg
              iterate 3 (refine wpO_step0 rfl rfl (fun K hK => ?_); go_simp; refine hK _ _ ?_; clear hK K)
              refine wpO_nil ?_
              go_wp2_with fail
              go_roundw
              case measure => simp [intOf]; omega
              case rel => exact ⟨k + 1 + 1, by go_num, by omega, by omega, HFI.out, HRI.out, below_step HB2.out HB4.out⟩
            · have hnb : decide (0 ≤ N) = true := decide_eq_true (by omega)
              have HE := Lib.hid (ribE_no HIL.out (.inr (.inr ⟨by omega, by rw [show k + 1 - 1 = k from rfl, show rteAt l k = y from HY.out, show rteAt l (k + 1) = x from HX.out, HN.out]; exact hneg⟩)))
              clear hneg
              iterate 3 (refine wpO_step0 rfl rfl (fun K hK => ?_); go_simp; refine hK _ _ ?_; clear hK K)
              refine wpO_nil ?_
              go_wp2_with fail
              go_ret
              rw [HE.out]
              exact ⟨rfl, below_step HBE.out (below_step HB2.out HB4.out)⟩
    · have hlt' : decide (i < n) = false := decide_eq_false hlt
      have hin : i = n := by have := HI.out.1; omega
      have HS : Hid (ribsB l = true) := Lib.hid (by
        rw [ribsB_iff, HR.out.len, ← hin]
        exact ⟨hi160, HI.out.2.2.1, HI.out.2.2.2.1⟩)
      have HBI := Lib.hid HI.out.2.2.2.2
      clear hlt hin
      go_wp2_with (first | ((with_reducible show wpList _ _ _ (Oper.mk _ (Op.load _ _) _ _ _ _ :: _) _ _); refine wpList_load_g ((HP1.out.all _ HBI.out).2) _ rfl rfl (by go_simp) ?_))
      refine (rprefixes_any A n c l wr (HR.out.below HBI.out) OK.out hn).mono ?_
      rintro e w3 ⟨rfl, hb3⟩
      have HB3 := Lib.hid (below_step HBI.out hb3)
      obtain ⟨q, hq⟩ : ∃ q, pfxsN l = q := ⟨_, rfl⟩
      have HQ := Lib.hid hq
      rw [hq]
      clear hb3 hq
      by_cases h40 : 40 < q
      · have h40b : decide ((40 : Int) < q) = true := decide_eq_true (by omega)
        have HE : Hid (ribE l = 211) := Lib.hid (by unfold ribE ribB; rw [HS.out, HQ.out, decide_eq_false (by omega)]; rfl)
        clear h40
        go_wp2
        go_ret
        rw [HE.out]
        exact ⟨rfl, below_step HBE.out HB3.out⟩
      · have h40b : decide ((40 : Int) < q) = false := decide_eq_false (by omega)
        have HE : Hid (ribE l = 0) := Lib.hid (by unfold ribE ribB; rw [HS.out, HQ.out, decide_eq_true (by omega)]; rfl)
        clear h40
        go_wp2
        go_ret
        rw [HE.out]
        exact ⟨rfl, below_step HBE.out HB3.out⟩
def batE (l : List Upd) : Int := if batB l then 0 else 210
theorem any_twin (l : List Upd) {i : Nat} (hi : i < l.length) : (l.take i).any (fun x => twin x (updAt l i)) = false ↔ ∀ k, k < i → twin (updAt l k) (updAt l i) = false := by
  rw [List.any_eq_false]
  constructor
  · intro h k hk
    rw [Bool.eq_false_iff]
    refine h _ ?_
    refine List.mem_of_getElem? (i := k) ?_
    rw [List.getElem?_take, if_pos hk]
    exact getD_get (by omega)
  · intro h x hx
    obtain ⟨k, hk, he⟩ := List.getElem_of_mem hx
    rw [List.length_take] at hk
    have h1 := h k (by omega)
    have : updAt l k = x := by
      rw [← he, List.getElem_take]
      have h2 := getD_get (z := updZ) (show k < l.length by omega)
      rw [List.getElem?_eq_getElem (by omega)] at h2
      exact (Option.some.inj h2).symm
    rw [this] at h1
    rw [h1]
    decide
theorem batsB_iff (l : List Upd) : batsB l = true ↔ ∀ j, j < l.length → updB (updAt l j) = true ∧ ∀ k, k < j → twin (updAt l k) (updAt l j) = false := by
  unfold batsB
  rw [decide_eq_true_eq]
theorem batE_no {l : List Upd} {i : Nat} (hi : i < l.length) (h : updB (updAt l i) = false ∨ (l.take i).any (fun x => twin x (updAt l i)) = true) : batE l = 210 := by
  unfold batE
  rw [if_neg]
  intro hb
  unfold batB at hb
  rw [Bool.and_eq_true, batsB_iff] at hb
  rcases h with h | h
  · rw [(hb.2 i hi).1] at h; cases h
  · rw [(any_twin l hi).2 (hb.2 i hi).2] at h; cases h
set_option maxHeartbeats 4000000 in
theorem rcheckb_any (A : Option Addr) (n c : Nat) (l : List Upd) (w : World) (hL : Laid w) (hr : RS updK w A n c l) (ok : Oku l) (hn : n ≤ 100000) : Calls Tryd.prog 26 #[.agg (tabV A n c)] w fun e w' => e = .returned (.int .i64 (batE l)) ∧ Below w.heap.size w w' := by
  have hblk1 := blk_new w (.cells (tabV A n c) 27)
  have hbel1 : Below w.heap.size w (w.alloc (.cells (tabV A n c) 27)) := below_alloc (Below.refl _ _) _
  have HP1 := Lib.hid (bat_at hblk1)
  have HBK1 := Lib.hid hblk1
  have HBE := Lib.hid hbel1
  have HL := Lib.hid (hL.below HBE.out)
  obtain ⟨cs1, hcs1⟩ : ∃ cs, tabV A n c = cs := ⟨_, rfl⟩
  simp only [hcs1] at HBE HL HP1 HBK1 ⊢
  have HC1 := Lib.hid hcs1
  clear hL hcs1 hblk1 hbel1
  have HR := Lib.hid (hr.below HBE.out)
  have OK := Lib.hid ok
  clear hr ok
  go_enter Tryd.func26, Tryd.ntmps26
  by_cases h1 : n < 1
  · have h1b : decide ((n : Int) < 1) = true := decide_eq_true (by omega)
    have HE : Hid (batE l = 210) := Lib.hid (by unfold batE batB; rw [HR.out.len, decide_eq_false (show ¬ 1 ≤ n by omega)]; rfl)
    go_wp2_with (first | ((with_reducible show wpList _ _ _ (Oper.mk _ (Op.load _ _) _ _ _ _ :: _) _ _); refine wpList_load_g ((HP1.out.all _ (Below.refl _ _)).2) _ rfl rfl (by go_simp) ?_))
    go_ret
    rw [HE.out]
    exact ⟨rfl, HBE.out⟩
  · have h1b : decide ((n : Int) < 1) = false := decide_eq_false (by omega)
    by_cases h8 : 8 < n
    · have h8b : decide ((8 : Int) < n) = true := decide_eq_true (by omega)
      have HE : Hid (batE l = 210) := Lib.hid (by unfold batE batB; rw [HR.out.len, decide_eq_false (show ¬ n ≤ 8 by omega), Bool.and_false]; rfl)
      go_wp2_with (first | ((with_reducible show wpList _ _ _ (Oper.mk _ (Op.load _ _) _ _ _ _ :: _) _ _); refine wpList_load_g ((HP1.out.all _ (Below.refl _ _)).2) _ rfl rfl (by go_simp) ?_))
      go_ret
      rw [HE.out]
      exact ⟨rfl, HBE.out⟩
    · have h8b : decide ((8 : Int) < n) = false := decide_eq_false (by omega)
      go_wp2_with (first | ((with_reducible show wpList _ _ _ (Oper.mk _ (Op.load _ _) _ _ _ _ :: _) _ _); refine wpList_load_g ((HP1.out.all _ (Below.refl _ _)).2) _ rfl rfl (by go_simp) ?_))
      go_loopw [19] (fun s19 wr => ∃ i : Nat, s19 = .int .i64 i ∧ Hid (i ≤ n ∧ (∀ j, j < i → updB (updAt l j) = true ∧ ∀ k, k < j → twin (updAt l k) (updAt l j) = false) ∧ Below (w.alloc (.cells cs1 27)).heap.size (w.alloc (.cells cs1 27)) wr)) (fun x _ => n - (intOf x).toNat)
      case atStart => exact ⟨0, rfl, Nat.zero_le _, fun j h => by omega, Below.refl _ _⟩
      case round =>
        obtain ⟨i, rfl, HI⟩ := hrel
        have hcap := HR.out.cap
        by_cases hlt : i < n
        · have hlt' : (i : Int) < n := by omega
          obtain ⟨b, o, hA, hc⟩ := RS.at_ HR.out (by omega)
          have hil : i < l.length := by rw [HR.out.len]; exact hlt
          have HIL := Lib.hid hil
          have HXO := Lib.hid (OK.out.at_ hil)
          have hla := Shape.ld updK wr b _ _ HXO.out.fits ((hc i hlt).below HI.out.2.2)
          have hla : (Instr.loadAt 75 (.pointer (some ⟨b, o + i * 22, none⟩))).run Tryd.prog wr = .ok (.agg (updV (updAt l i))) wr := hla
          obtain ⟨x, hx⟩ : ∃ x, updAt l i = x := ⟨_, rfl⟩
          rw [hx] at hla HXO
          have HX := Lib.hid hx
          have HBI := Lib.hid HI.out.2.2
          have HB2f := Lib.hid (fun (W : World) (h : (wr.alloc (.cells (updV updZ) 75)).grownBy W (some wr.heap.size)) => below_grown (below_alloc (Below.refl wr.heap.size wr) (.cells (updV updZ) 75)) h (Nat.le_refl _))
          subst hA
          clear hc hx hil
          have hile : i ≤ c := by omega
          have HRI := Lib.hid (RS.take HR.out i (by omega))
          go_wp2_with (first | ((with_reducible show wpList _ _ _ (Oper.mk _ (Op.load _ _) _ _ _ _ :: _) _ _); refine wpList_load_g hla _ rfl rfl (by go_simp) ?_) | ((with_reducible show wpList _ _ _ (Oper.mk _ (Op.store _ _ _) _ _ _ _ :: _) _ _); refine wpList_store_blk (blk_new wr _) 75 0 (updV x) (store_upd_fit HXO.out.fits rfl) (info_upd HXO.out.fits) (updV_one _) _ _ rfl rfl rfl rfl ?_; intro w2 hg9 hs9 hb9; rw [splice_upd HXO.out.fits rfl] at hb9; have H2 := Lib.hid (And.intro hg9 hb9); clear hg9 hs9 hb9) | ((with_reducible show wpList _ _ _ (Oper.mk _ (Op.load _ _) _ _ _ _ :: _) _ _); refine wpList_load_g ((HP1.out.all _ (below_step HBI.out (HB2f.out _ H2.out.1))).2) _ rfl rfl (by go_simp) ?_))
          have HBR := Lib.hid (HB2f.out _ H2.out.1)
          have HB2 := Lib.hid (below_step HBI.out HBR.out)
          have HG2 := Lib.hid H2.out.2
          have OKT : Hid (Oku (l.take i)) := Lib.hid (fun u hu => OK.out u (List.mem_of_mem_take hu))
          have HTL : Hid ((l.take i).length = i) := Lib.hid (by rw [List.length_take]; have := HIL.out; omega)
          clear HB2f H2 hla
          refine (containsU_any (some ⟨b, o, none⟩) i c (l.take i) w2 wr.heap.size (HRI.out.below HB2.out) (by omega) (fun z => twin z x) (fun k hk w1 hb => twin1_any (updK.at_ (l.take i) k) x wr.heap.size w1 (OKT.out.at_ (by rw [HTL.out]; exact hk)) HXO.out (upd_at HXO.out.fits (blk_below HG2.out hb)))).mono ?_
          rintro e w3 ⟨rfl, hb3⟩
          obtain ⟨T, hT⟩ : ∃ T, (l.take i).any (fun z => twin z x) = T := ⟨_, rfl⟩
          rw [hT]
          have HT := Lib.hid hT
          have HB3 := Lib.hid (below_step HB2.out hb3)
          have HG3 := Lib.hid (blk_below HG2.out hb3)
          clear hb3 hT HG2 hile
          go_wp2_with (first | ((with_reducible show wpList _ _ _ (Oper.mk _ (Op.load _ _) _ _ _ _ :: _) _ _); refine wpList_load_g (((upd_at HXO.out.fits HG3.out).all _ (Below.refl _ _)).all) _ rfl rfl (by go_simp) ?_))
          refine (update_any x w3 (HL.out.below HB3.out) HXO.out.fits).mono ?_
          rintro e w4 ⟨rfl, hb4⟩
          have HB4 := Lib.hid (below_step HB3.out hb4)
          clear hb4
          cases hU : updB x with
          | false =>
            have HE := Lib.hid (batE_no HIL.out (.inl (by rw [show updAt l i = x from HX.out, hU])))
            clear hU
            go_wp2_with fail
            go_ret
            rw [HE.out]
            exact ⟨rfl, below_step HBE.out HB4.out⟩
          | true =>
            cases T with
            | true =>
              have HE := Lib.hid (batE_no HIL.out (.inr (by rw [show updAt l i = x from HX.out]; exact HT.out)))
              clear hU
              go_wp2_with fail
              go_ret
              rw [HE.out]
              exact ⟨rfl, below_step HBE.out HB4.out⟩
            | false =>
              have HN : Hid (∀ j, j < i + 1 → updB (updAt l j) = true ∧ ∀ k, k < j → twin (updAt l k) (updAt l j) = false) := Lib.hid (fun j hj => by
                rcases Nat.lt_or_ge j i with h | h
                · exact HI.out.2.1 j h
                · obtain rfl : j = i := by omega
                  have ht := HT.out
                  rw [← show updAt l j = x from HX.out] at ht hU
                  exact ⟨hU, (any_twin l HIL.out).1 ht⟩)
              clear hU
              go_wp2_with fail
              go_roundw
              case measure => simp [intOf]; omega
              case rel => exact ⟨i + 1, by go_num, by omega, HN.out, HB4.out⟩
        · have hlt' : decide (i < n) = false := decide_eq_false hlt
          have hin : i = n := by have := HI.out.1; omega
          have HE : Hid (batE l = 0) := Lib.hid (by
            unfold batE batB
            rw [(batsB_iff l).2 (by rw [HR.out.len, ← hin]; exact HI.out.2.1), HR.out.len, decide_eq_true (show 1 ≤ n by omega), decide_eq_true (show n ≤ 8 by omega)]
            rfl)
          clear hlt hin
          go_wp2
          go_ret
          rw [HE.out]
          exact ⟨rfl, below_step HBE.out HI.out.2.2⟩
end Go.Proofs.YtnpeedmicjeleaaDoor

/- Layer 11 (route): Same, SameBatch; the document's Same, SameBatch, prefixes, Right, RightBatch. -/
namespace Go.Proofs.YtnpeedmicjeleaaDoor
open Go.RowKit
set_option linter.unusedVariables false
set_option linter.unusedSimpArgs false
set_option maxRecDepth 4000
theorem rsame_any (A : Option Addr) (n c : Nat) (t : List Rte) (A2 : Option Addr) (m c2 : Nat) (u : List Rte) (w : World) (ht : RS rteK w A n c t) (hu : RS rteK w A2 m c2 u) (ot : Okr t) (ou : Okr u) (hn : n ≤ 100000) (hm : m ≤ 100000) :
    Calls Tryd.prog 23 #[.agg (tabV A n c), .agg (tabV A2 m c2)] w fun e w' => e = .returned (.bool (rteE.eqL t u)) ∧ Below w.heap.size w w' := by
  have hblk1 := blk_new w (.cells (tabV A n c) 24)
  have hbel1 : Below w.heap.size w (w.alloc (.cells (tabV A n c) 24)) := below_alloc (Below.refl _ _) _
  have hblk2 := blk_new (w.alloc (.cells (tabV A n c) 24)) (.cells (tabV A2 m c2) 24)
  have hbel2 : Below w.heap.size w ((w.alloc (.cells (tabV A n c) 24)).alloc (.cells (tabV A2 m c2) 24)) := below_alloc (hbel1) _
  rw [show (w.alloc (.cells (tabV A n c) 24)).heap.size = w.heap.size + 1 by simp] at hblk2
  replace hblk1 := blk_below hblk1 (below_alloc (Below.refl _ _) (.cells (tabV A2 m c2) 24))
  have HP1 := Lib.hid (rib_at hblk1)
  have HBK1 := Lib.hid hblk1
  have HP2 := Lib.hid (rib_at hblk2)
  have HBK2 := Lib.hid hblk2
  have HBE := Lib.hid hbel2
  obtain ⟨cs1, hcs1⟩ : ∃ cs, tabV A n c = cs := ⟨_, rfl⟩
  obtain ⟨cs2, hcs2⟩ : ∃ cs, tabV A2 m c2 = cs := ⟨_, rfl⟩
  simp only [hcs1, hcs2] at HBE HP1 HP2 HBK1 HBK2 ⊢
  have HC1 := Lib.hid hcs1
  have HC2 := Lib.hid hcs2
  clear hcs1 hblk1 hbel1 hcs2 hblk2 hbel2
  have H1 := Lib.hid (ht.below HBE.out)
  have H2 := Lib.hid (hu.below HBE.out)
  clear ht hu
  go_enter Tryd.func23, Tryd.ntmps23
  go_wp2_with (first | ((with_reducible show wpList _ _ _ (Oper.mk _ (Op.load _ _) _ _ _ _ :: _) _ _); refine wpList_load_g ((HP1.out.all _ (Below.refl _ _)).2) _ rfl rfl (by go_simp) ?_) | ((with_reducible show wpList _ _ _ (Oper.mk _ (Op.load _ _) _ _ _ _ :: _) _ _); refine wpList_load_g ((HP2.out.all _ (Below.refl _ _)).2) _ rfl rfl (by go_simp) ?_))
  refine (equalQ_any A n c t A2 m c2 u _ H1.out H2.out ot ou (by omega) (by omega)).mono ?_
  rintro e w1 ⟨rfl, hb1⟩
  have HB1 := Lib.hid (below_step HBE.out hb1)
  clear hb1
  go_wp2
  go_ret
  exact ⟨rfl, HB1.out⟩
theorem rsameb_any (A : Option Addr) (n c : Nat) (t : List Upd) (A2 : Option Addr) (m c2 : Nat) (u : List Upd) (w : World) (ht : RS updK w A n c t) (hu : RS updK w A2 m c2 u) (ot : Oku t) (ou : Oku u) (hn : n ≤ 100000) (hm : m ≤ 100000) :
    Calls Tryd.prog 24 #[.agg (tabV A n c), .agg (tabV A2 m c2)] w fun e w' => e = .returned (.bool (updE.eqL t u)) ∧ Below w.heap.size w w' := by
  have hblk1 := blk_new w (.cells (tabV A n c) 27)
  have hbel1 : Below w.heap.size w (w.alloc (.cells (tabV A n c) 27)) := below_alloc (Below.refl _ _) _
  have hblk2 := blk_new (w.alloc (.cells (tabV A n c) 27)) (.cells (tabV A2 m c2) 27)
  have hbel2 : Below w.heap.size w ((w.alloc (.cells (tabV A n c) 27)).alloc (.cells (tabV A2 m c2) 27)) := below_alloc (hbel1) _
  rw [show (w.alloc (.cells (tabV A n c) 27)).heap.size = w.heap.size + 1 by simp] at hblk2
  replace hblk1 := blk_below hblk1 (below_alloc (Below.refl _ _) (.cells (tabV A2 m c2) 27))
  have HP1 := Lib.hid (bat_at hblk1)
  have HBK1 := Lib.hid hblk1
  have HP2 := Lib.hid (bat_at hblk2)
  have HBK2 := Lib.hid hblk2
  have HBE := Lib.hid hbel2
  obtain ⟨cs1, hcs1⟩ : ∃ cs, tabV A n c = cs := ⟨_, rfl⟩
  obtain ⟨cs2, hcs2⟩ : ∃ cs, tabV A2 m c2 = cs := ⟨_, rfl⟩
  simp only [hcs1, hcs2] at HBE HP1 HP2 HBK1 HBK2 ⊢
  have HC1 := Lib.hid hcs1
  have HC2 := Lib.hid hcs2
  clear hcs1 hblk1 hbel1 hcs2 hblk2 hbel2
  have H1 := Lib.hid (ht.below HBE.out)
  have H2 := Lib.hid (hu.below HBE.out)
  clear ht hu
  go_enter Tryd.func24, Tryd.ntmps24
  go_wp2_with (first | ((with_reducible show wpList _ _ _ (Oper.mk _ (Op.load _ _) _ _ _ _ :: _) _ _); refine wpList_load_g ((HP1.out.all _ (Below.refl _ _)).2) _ rfl rfl (by go_simp) ?_) | ((with_reducible show wpList _ _ _ (Oper.mk _ (Op.load _ _) _ _ _ _ :: _) _ _); refine wpList_load_g ((HP2.out.all _ (Below.refl _ _)).2) _ rfl rfl (by go_simp) ?_))
  refine (equalU_any A n c t A2 m c2 u _ H1.out H2.out ot ou (by omega) (by omega)).mono ?_
  rintro e w1 ⟨rfl, hb1⟩
  have HB1 := Lib.hid (below_step HBE.out hb1)
  clear hb1
  go_wp2
  go_ret
  exact ⟨rfl, HB1.out⟩
/-! The document's prefixes. -/
theorem Okr.fits {l : List Rte} (h : Okr l) : ∀ r ∈ l, r.fits := fun r hr => (h r hr).fits
end Go.Proofs.YtnpeedmicjeleaaDoor

/- Slices of elements of whatever shape: made, cut, one element stored. -/
namespace Go.Proofs.YtnpeedmicjeleaaDoor
open Go.RowKit
set_option linter.unusedVariables false
set_option linter.unusedSimpArgs false
set_option maxRecDepth 4000
theorem wpList_store_elem {α : Type} {S : Shape α} {w : World} {base n c : Nat} {ad : Addr} {l : List α} {ops : Array Oper} {rest : List Oper} {op : Oper} {a : Act} {Q : Exit → Act → World → Prop} (h : OS S w base (some ad) n c l) (j : Nat) (hj : j < n) (b : α) (hb : S.ok b) (hv : S.val b = .agg (S.enc b).toArray)
    (x y : Operand) (ho : op.op = .store S.t x y) (hx : a.eval x = .pointer (some ⟨ad.block, ad.off + j * S.sz, none⟩)) (hy : a.eval y = S.val b) (hw : Region.wanted op (yielded ops a.tmps) = true)
    (hk : ∀ w', w.grownBy w' (some ad.block) → w'.heap.size = w.heap.size → OS S w' base (some ad) n c (l.take j ++ [b] ++ l.drop (j + 1)) → wpList Tryd.prog ops Q rest (a.put op.dst undef) w') : wpList Tryd.prog ops Q (op :: rest) a w := by
  obtain ⟨_, _, cur, hh, hfit, _⟩ := h.ov.form ad rfl
  have hcap := h.cap
  have h2 : (j + 1) * S.sz ≤ c * S.sz := Nat.mul_le_mul_right _ (by omega)
  rw [Nat.add_mul, Nat.one_mul] at h2
  have hsz : (S.enc b).toArray.size = S.sz := by rw [List.size_toArray, S.len _ hb]
  have hr := run_storeAt_mid (P := Tryd.prog) w ad.block (ad.off + j * S.sz) S.t (S.enc b).toArray (blk_there hh _ _ (by rw [hsz]; omega)) (by rw [hsz]; exact S.size) (by rw [← Array.all_toList, List.all_eq_true]; exact fun u hu => S.one b u hu)
  have hO := h.put j [b] (Shape.all_one hb) (by simp; omega)
  rw [Shape.cells_one] at hO
  refine wpList_step (fun K hK => ?_)
  rw [if_pos hw]
  unfold Oper.wp execOp
  simp only [ho, hx, hy, hv, Sem.run_bind, hr, Result.andThen_ok, Sem.run_pure]
  exact hK _ _ (hk _ (setCells_grown _ _ _ _) (setCells_same _ _ _ _).2.2.2 hO)
theorem blk_ownN {w w1 : World} {g : Nat} {o : Obj} {A : Option Addr} {n c : Nat} (h : w.heap[g]? = some o) (hg : w.grownBy w1 ((Value.slice A n c).ownBlock)) (ha : ∀ ad, A = some ad → ad.block ≠ g) : w1.heap[g]? = some o :=
  blk_grown h hg (fun e => by
    obtain ⟨ad, e1, e2⟩ := own_of e.symm
    exact ha ad e1 e2)
theorem kw_cast {α : Type} {K : α → World → Prop} {a : α} {w v : World} (h : w = v) (k : K a v) : K a w := h ▸ k
theorem exec_lit2 {α : Type} (S : Shape α) {r : Operand → Value} {o : Oper} {x y : Operand} (ho : o.op = .buildSlice S.ts 2 #[(0, x), (1, y)]) (a b : α) (hx : r x = S.val a) (hy : r y = S.val b) (ha : S.ok a) (hb : S.ok b) (hs : S.sz ≤ 1000000) (W : World) :
    (execOp r o).run Tryd.prog W = .ok (.value (.slice (some ⟨W.heap.size, 0, none⟩) 2 2)) (W.alloc (.cells (S.cells [a, b]).toArray S.t)) := by
  have h := run_lit_shp S W [a, b] (fun c hc => by
    rcases List.mem_cons.1 hc with rfl | hc
    · exact ha
    · rw [List.mem_singleton] at hc; rw [hc]; exact hb) (by simp) (by simp; omega) #[(0, S.val a), (1, S.val b)] rfl
  unfold execOp
  have e : (#[(0, x), (1, y)].map fun (p : Nat × Operand) => (p.1, r p.2)) = #[(0, S.val a), (1, S.val b)] := by simp [hx, hy]
  simp only [ho, Sem.run_bind]
  have h2 : (Instr.buildSlice S.ts 2 (#[(0, x), (1, y)].map fun (p : Nat × Operand) => (p.1, r p.2))).run Tryd.prog W = .ok (.slice (some ⟨W.heap.size, 0, none⟩) 2 2) (W.alloc (.cells (S.cells [a, b]).toArray S.t)) := by rw [e]; exact h
  rw [h2]
  rfl
theorem OS.two {α : Type} (S : Shape α) (W : World) (base : Nat) (a b : α) (hb : base ≤ W.heap.size) (ha : S.ok a) (hbo : S.ok b) : OS S (W.alloc (.cells (S.cells [a, b]).toArray S.t)) base (some ⟨W.heap.size, 0, none⟩) 2 2 [a, b] :=
  OS.new S W base [a, b] hb (fun c hc => by
    rcases List.mem_cons.1 hc with rfl | hc
    · exact ha
    · rw [List.mem_singleton] at hc; rw [hc]; exact hbo) (by simp)
end Go.Proofs.YtnpeedmicjeleaaDoor

/- Layer 11 (route): Apply. -/
namespace Go.Proofs.YtnpeedmicjeleaaDoor
open Go.RowKit
set_option linter.unusedVariables false
set_option linter.unusedSimpArgs false
set_option maxRecDepth 4000
theorem info_rib (A : Option Addr) (n c : Nat) : (Tryd.prog.info? 24).map (·.size) = some (tabV A n c).size := by show _ = some 1; kernel_rfl
theorem load_rib {w : World} {g : Nat} {A : Option Addr} {n c : Nat} (h : w.heap[g]? = some (.cells (tabV A n c) 24 (0, 0))) : (Instr.loadAt 24 (.pointer (some ⟨g, 0, none⟩))).run Tryd.prog w = .ok (.agg (tabV A n c)) w := ((rib_at h).all _ (Below.refl _ _)).1
theorem run_build_rib_nil (w : World) : (Instr.build 24 #[]).run Tryd.prog w = .ok (.agg (tabV none 0 0)) w := run_build w _ _ _ (by kernel_rfl)
theorem run_build_rib (w : World) (A : Option Addr) (n c : Nat) : (Instr.build 24 #[(0, .slice A n c)]).run Tryd.prog w = .ok (.agg (tabV A n c)) w := run_build w _ _ _ (by kernel_rfl)
/-- What the loop of Apply keeps: the rows of its own, and the cell that holds them. -/
structure AppS (w0 w : World) (g : Nat) (A : Option Addr) (n c : Nat) (l : List Rte) : Prop where
  own : OS rteK w w0.heap.size A n c l
  cell : w.heap[g]? = some (.cells (tabV A n c) 24 (0, 0))
  ne : ∀ ad, A = some ad → ad.block ≠ g
  bel : Below w0.heap.size w0 w
  gle : w0.heap.size ≤ g
theorem AppS.step {w0 w w1 : World} {g : Nat} {A : Option Addr} {n c : Nat} {l : List Rte} (h : AppS w0 w g A n c l) (hb : Below w.heap.size w w1) : AppS w0 w1 g A n c l := ⟨h.own.below hb, blk_below h.cell hb, h.ne, below_step h.bel hb, h.gle⟩
theorem AppS.turn {w0 w w1 w2 : World} {g : Nat} {A A' : Option Addr} {n c n' c' : Nat} {l l' : List Rte} (h : AppS w0 w g A n c l) (ho : OS rteK w1 w0.heap.size A' n' c' l') (hg : w.grownBy w1 ((Value.slice A n c).ownBlock)) (ha : A' = A ∨ ∀ ad, A' = some ad → w.heap.size ≤ ad.block) (hg2 : w1.grownBy w2 (some g)) (hc : w2.heap[g]? = some (.cells (tabV A' n' c') 24 (0, 0))) : AppS w0 w2 g A' n' c' l' := by
  have hlt := blk_lt h.cell
  have hne : ∀ ad, A' = some ad → ad.block ≠ g := fun ad e => by
    rcases ha with ha | ha
    · exact h.ne ad (ha ▸ e)
    · have := ha ad e; omega
  exact ⟨ho.grown hg2 (fun ad e k => by injection k with k; exact hne ad e k), hc, hne, below_grown (below_own h.bel hg h.own.base_) hg2 h.gle, h.gle⟩
theorem AppS.put {w0 w w1 : World} {g : Nat} {ad : Addr} {n c : Nat} {l l' : List Rte} (h : AppS w0 w g (some ad) n c l) (ho : OS rteK w1 w0.heap.size (some ad) n c l') (hg : w.grownBy w1 (some ad.block)) : AppS w0 w1 g (some ad) n c l' :=
  ⟨ho, blk_grown h.cell hg (fun e => by injection e with e; exact h.ne ad rfl e.symm), h.ne, below_grown h.bel hg (h.own.base_ ad rfl), h.gle⟩
theorem appN_no {l : List Rte} {b : List Upd} (h1 : ribB l = true) (h2 : batB b = true) (h3 : appL l b = none) : appN l b = 4 ∧ appR l b = [] := by
  have : appN l b = 4 := by unfold appN; rw [if_pos h1, if_pos h2, h3]
  exact ⟨this, by unfold appR; rw [this]; rfl⟩
theorem appN_rib {l : List Rte} {b : List Upd} (h1 : ribB l = false) : appN l b = 211 ∧ appR l b = [] := by
  have : appN l b = 211 := by unfold appN; rw [if_neg (by rw [h1]; decide)]
  exact ⟨this, by unfold appR; rw [this]; rfl⟩
theorem appN_bat {l : List Rte} {b : List Upd} (h1 : ribB l = true) (h2 : batB b = false) : appN l b = 210 ∧ appR l b = [] := by
  have : appN l b = 210 := by unfold appN; rw [if_pos h1, if_neg (by rw [h2]; decide)]
  exact ⟨this, by unfold appR; rw [this]; rfl⟩
theorem appN_full {l m : List Rte} {b : List Upd} (h1 : ribB l = true) (h2 : batB b = true) (h3 : appL l b = some m) (h4 : ¬ pfxsN m ≤ 40) : appN l b = 6 ∧ appR l b = [] := by
  have : appN l b = 6 := by unfold appN; rw [if_pos h1, if_pos h2, h3]; exact if_neg h4
  exact ⟨this, by unfold appR; rw [this]; rfl⟩
theorem appN_yes {l m : List Rte} {b : List Upd} (h1 : ribB l = true) (h2 : batB b = true) (h3 : appL l b = some m) (h4 : pfxsN m ≤ 40) : appN l b = 0 ∧ appR l b = m := by
  have : appN l b = 0 := by unfold appN; rw [if_pos h1, if_pos h2, h3]; exact if_pos h4
  exact ⟨this, by unfold appR; rw [this, h3]; rfl⟩
theorem appL_take {l m : List Rte} {b : List Upd} {k : Nat} (hk : k < b.length) (h : appL l (b.take k) = some m) : appL l (b.take (k + 1)) = appS m (updAt b k) := by
  rw [take_getD updZ hk, appL_snoc, h]
  rfl
theorem batB_len {b : List Upd} (h : batB b = true) : b.length ≤ 8 := by
  unfold batB at h
  rw [Bool.and_eq_true, Bool.and_eq_true, decide_eq_true_eq, decide_eq_true_eq] at h
  exact h.1.2
theorem ribB_ris {l : List Rte} (h : ribB l = true) : ribsB l = true ∧ pfxsN l ≤ 40 := by
  unfold ribB at h
  rwa [Bool.and_eq_true, decide_eq_true_eq] at h
set_option maxHeartbeats 8000000 in
set_option maxRecDepth 100000 in
theorem rapply_any (A : Option Addr) (n c : Nat) (l : List Rte) (A2 : Option Addr) (m c2 : Nat) (b : List Upd) (w : World) (hL : Laid w) (hr : RS rteK w A n c l) (ok : Okr l) (hn : n ≤ 10000) (hu : RS updK w A2 m c2 b) (oku : Oku b) (hm : m ≤ 10000) :
    Calls Tryd.prog 13 #[.agg (tabV A n c), .agg (tabV A2 m c2)] w fun e w' => ∃ A' n' c', e = .returned (.tuple #[.agg (tabV A' n' c'), .int .i64 (appN l b)]) ∧ OS rteK w' w.heap.size A' n' c' (appR l b) ∧ Below w.heap.size w w' := by
  have hblk1 := blk_new w (.cells (tabV A n c) 24)
  have hbel1 : Below w.heap.size w (w.alloc (.cells (tabV A n c) 24)) := below_alloc (Below.refl _ _) _
  have hblk2 := blk_new (w.alloc (.cells (tabV A n c) 24)) (.cells (tabV A2 m c2) 27)
  have hbel2 : Below w.heap.size w ((w.alloc (.cells (tabV A n c) 24)).alloc (.cells (tabV A2 m c2) 27)) := below_alloc (hbel1) _
  rw [show (w.alloc (.cells (tabV A n c) 24)).heap.size = w.heap.size + 1 by simp] at hblk2
  replace hblk1 := blk_below hblk1 (below_alloc (Below.refl _ _) (.cells (tabV A2 m c2) 27))
  have HP1 := Lib.hid (rib_at hblk1)
  have HBK1 := Lib.hid hblk1
  have HP2 := Lib.hid (bat_at hblk2)
  have HBK2 := Lib.hid hblk2
  have HBE := Lib.hid hbel2
  have HL := Lib.hid (hL.below HBE.out)
  obtain ⟨cs1, hcs1⟩ : ∃ cs, tabV A n c = cs := ⟨_, rfl⟩
  obtain ⟨cs2, hcs2⟩ : ∃ cs, tabV A2 m c2 = cs := ⟨_, rfl⟩
  simp only [hcs1, hcs2] at HBE HL HP1 HP2 HBK1 HBK2 ⊢
  have HC1 := Lib.hid hcs1
  have HC2 := Lib.hid hcs2
  clear hL hcs1 hblk1 hbel1 hcs2 hblk2 hbel2
  have HR := Lib.hid (hr.below HBE.out)
  have HU := Lib.hid (hu.below HBE.out)
  have OK := Lib.hid ok
  have OKU := Lib.hid oku
  have hs0 : ((w.alloc (.cells cs1 24)).alloc (.cells cs2 27)).heap.size = w.heap.size + 1 + 1 := by simp
  obtain ⟨W1, hW1⟩ : ∃ W1, ((w.alloc (.cells cs1 24)).alloc (.cells cs2 27)).alloc (.cells #[.slice none 0 0] 24) = W1 := ⟨_, rfl⟩
  have HZ : Hid (W1.heap[w.heap.size + 1 + 1]? = some (.cells (tabV none 0 0) 24 (0, 0))) := Lib.hid (by rw [← hW1, ← hs0]; exact blk_new _ _)
  have HB1 : Hid (Below ((w.alloc (.cells cs1 24)).alloc (.cells cs2 27)).heap.size ((w.alloc (.cells cs1 24)).alloc (.cells cs2 27)) W1) := Lib.hid (hW1 ▸ below_alloc (Below.refl _ _) _)
  have HZL : Hid (w.heap.size ≤ w.heap.size + 1 + 1) := Lib.hid (by omega)
  have HS1 : Hid (W1.heap.size = w.heap.size + 3) := Lib.hid (by rw [← hW1]; simp)
  clear hr hu ok oku hs0
  go_enter Tryd.func13, Tryd.ntmps13
  go_wp2_with (first | ((with_reducible show wpList _ _ _ (Oper.mk _ (Op.load _ _) _ _ _ _ :: _) _ _); refine wpList_load_g ((HP1.out.all _ HB1.out).1) _ rfl rfl (by go_simp) ?_))
  clear hW1
  have hck := rcheck_any A n c l W1 (HL.out.below HB1.out) (HR.out.below HB1.out) OK.out (by omega)
  refine hck.mono ?_
  clear hck
  rintro e w2 ⟨rfl, hb2⟩
  have HB2 := Lib.hid (below_step HB1.out hb2)
  have HZ2 := Lib.hid (blk_below HZ.out hb2)
  have HS2 : Hid (w.heap.size + 3 ≤ w2.heap.size) := Lib.hid (by rw [← HS1.out]; exact hb2.size)
  clear hb2 HZ HB1 HS1
  cases hrb : ribB l with
  | false =>
    rw [show ribE l = 211 by unfold ribE; rw [hrb]; rfl]
    have HE := Lib.hid (appN_rib (b := b) hrb)
    clear hrb
    go_wp2_with (first | ((with_reducible show wpList _ _ _ (Oper.mk _ (Op.build _ _) _ _ _ _ :: _) _ _); refine wpList_exw rfl (exec_build 24 #[] rfl #[] rfl ((run_build_rib_nil _))) ?_) | ((with_reducible show wpList _ _ _ (Oper.mk _ (Op.store _ _ _) _ _ _ _ :: _) _ _); refine wpList_store_blk HZ2.out 24 0 (tabV none 0 0) (Nat.le_refl _) (info_rib _ _ _) (tab_one _ _ _) _ _ rfl rfl rfl rfl ?_; intro w9 hg9 hs9 hb9; rw [splice_tab] at hb9; have H9 := Lib.hid (And.intro hg9 hb9); clear hg9 hs9 hb9))
    refine bodyPost_ret (results_c2 rfl rfl (load_rib H9.out.2)) rfl ?_
    rw [HE.out.1, HE.out.2]
    exact ⟨none, 0, 0, rfl, OS.nil _ _ _, below_grown (below_step HBE.out HB2.out) H9.out.1 HZL.out⟩
  | true =>
    rw [show ribE l = 0 by unfold ribE; rw [hrb]; rfl]
    have HRB := Lib.hid hrb
    clear hrb
    go_wp2_with (first | ((with_reducible show wpList _ _ _ (Oper.mk _ (Op.load _ _) _ _ _ _ :: _) _ _); refine wpList_load_g ((HP2.out.all _ HB2.out).1) _ rfl rfl (by go_simp) ?_))
    have hck := rcheckb_any A2 m c2 b w2 (HL.out.below HB2.out) (HU.out.below HB2.out) OKU.out (by omega)
    refine hck.mono ?_
    clear hck
    rintro e w3 ⟨rfl, hb3⟩
    have HB3 := Lib.hid (below_step HB2.out hb3)
    have HZ3 := Lib.hid (blk_below HZ2.out hb3)
    have HS3 : Hid (w.heap.size + 3 ≤ w3.heap.size) := Lib.hid (Nat.le_trans HS2.out hb3.size)
    clear hb3 HZ2 HB2 HS2
    cases hbb : batB b with
    | false =>
      rw [show batE b = 210 by unfold batE; rw [hbb]; rfl]
      have HE := Lib.hid (appN_bat HRB.out hbb)
      clear hbb
      go_wp2_with (first | ((with_reducible show wpList _ _ _ (Oper.mk _ (Op.build _ _) _ _ _ _ :: _) _ _); refine wpList_exw rfl (exec_build 24 #[] rfl #[] rfl ((run_build_rib_nil _))) ?_) | ((with_reducible show wpList _ _ _ (Oper.mk _ (Op.store _ _ _) _ _ _ _ :: _) _ _); refine wpList_store_blk HZ3.out 24 0 (tabV none 0 0) (Nat.le_refl _) (info_rib _ _ _) (tab_one _ _ _) _ _ rfl rfl rfl rfl ?_; intro w9 hg9 hs9 hb9; rw [splice_tab] at hb9; have H9 := Lib.hid (And.intro hg9 hb9); clear hg9 hs9 hb9))
      refine bodyPost_ret (results_c2 rfl rfl (load_rib H9.out.2)) rfl ?_
      rw [HE.out.1, HE.out.2]
      exact ⟨none, 0, 0, rfl, OS.nil _ _ _, below_grown (below_step HBE.out HB3.out) H9.out.1 HZL.out⟩
    | true =>
      rw [show batE b = 0 by unfold batE; rw [hbb]; rfl]
      have HBB := Lib.hid hbb
      have hm8 : m ≤ 8 := by rw [← HU.out.len]; exact batB_len hbb
      clear hbb
      go_wp2_with (first | ((with_reducible show wpList _ _ _ (Oper.mk _ (Op.load _ _) _ _ _ _ :: _) _ _); refine wpList_load_g ((HP1.out.all _ HB3.out).2) _ rfl rfl (by go_simp) ?_))
      refine (cloneQ_any A n c l w3 (HR.out.below HB3.out) (by omega)).mono ?_
      rintro e w4 ⟨A4, c4, rfl, hO4, hb4⟩
      have HB34 := Lib.hid hb4
      have HO4 := Lib.hid hO4
      have HL4 := Lib.hid hO4.lt
      have HB5f := Lib.hid (fun (W : World) (h : (w4.alloc (.cells (tabV none 0 0) 24)).grownBy W (some w4.heap.size)) => below_grown (below_alloc (Below.refl w4.heap.size w4) (.cells (tabV none 0 0) 24)) h (Nat.le_refl _))
      clear hb4 hO4
      go_wp2_with (first | ((with_reducible show wpList _ _ _ (Oper.mk _ (Op.build _ _) _ _ _ _ :: _) _ _); refine wpList_exw rfl (exec_build1 rfl rfl (run_build_rib _ A4 n c4)) ?_) | ((with_reducible show wpList _ _ _ (Oper.mk _ (Op.store _ _ _) _ _ _ _ :: _) _ _); refine wpList_store_blk (blk_new w4 (.cells (tabV none 0 0) 24)) 24 0 (tabV A4 n c4) (Nat.le_refl _) (info_rib _ _ _) (tab_one _ _ _) _ _ rfl rfl rfl rfl ?_; intro w5 hg9 hs9 hb9; rw [splice_tab] at hb9; have H5 := Lib.hid (And.intro hg9 hb9); clear hg9 hs9 hb9) | ((with_reducible show wpList _ _ _ (Oper.mk _ (Op.load _ _) _ _ _ _ :: _) _ _); refine wpList_load_g ((HP2.out.all _ (below_step HB3.out (below_step HB34.out (HB5f.out _ H5.out.1)))).2) _ rfl rfl (by go_simp) ?_))
      have HB45 := Lib.hid (HB5f.out _ H5.out.1)
      have hAS : AppS w3 w5 w4.heap.size A4 n c4 l := ⟨(HO4.out.below (below_alloc (Below.refl _ _) (.cells (tabV none 0 0) 24))).grown H5.out.1 (fun ad e k => by injection k with k; have := HL4.out ad e; omega), H5.out.2, fun ad e => (by have := HL4.out ad e; omega), below_step HB34.out HB45.out, HB34.out.size⟩
      have HAS := Lib.hid hAS
      have HRK : Hid (Rok l) := Lib.hid ⟨OK.out, ribs_ris (ribB_ris HRB.out).1⟩
      obtain ⟨g6, hg6⟩ : ∃ g, w4.heap.size = g := ⟨_, rfl⟩
      rw [hg6] at HAS ⊢
      clear HB5f H5 HO4 HL4 HB34 HB45 hAS hg6
      go_loopw [29] (fun s29 wr => ∃ (k : Nat) (Ak : Option Addr) (nk ck : Nat) (lk : List Rte), s29 = .int .i64 k ∧ Hid (k ≤ m ∧ AppS w3 wr g6 Ak nk ck lk ∧ appL l (b.take k) = some lk)) (fun x _ => m - (intOf x).toNat)
      case atStart => exact ⟨0, A4, n, c4, l, rfl, Nat.zero_le _, HAS.out, rfl⟩
      case round =>
        obtain ⟨k, Ak, nk, ck, lk, rfl, HI⟩ := hrel
        obtain ⟨wk, rfl⟩ : ∃ wk, wk = wr := ⟨wr, rfl⟩
        have HBK := Lib.hid (below_step HB3.out HI.out.2.1.bel)
        have hrok := appL_rok HRK.out (fun u hu => OKU.out u (List.mem_of_mem_take hu)) HI.out.2.2
        have HROK := Lib.hid hrok.1
        have hnk : nk ≤ 10100 := by
          have h1 := hrok.2
          rw [HI.out.2.1.own.len, List.length_take, HR.out.len] at h1
          have h2 := HI.out.1
          omega
        clear hrok
        by_cases hlt : k < m
        · have hlt' : (k : Int) < m := by omega
          obtain ⟨bb, ob, hA, hc⟩ := RS.at_ HU.out (by omega)
          have hkl : k < b.length := by rw [HU.out.len]; exact hlt
          have HXO := Lib.hid (OKU.out.at_ hkl)
          have hla := Shape.ld updK wk bb _ _ HXO.out.fits ((hc k hlt).below HBK.out)
          have hla : (Instr.loadAt 75 (.pointer (some ⟨bb, ob + k * 22, none⟩))).run Tryd.prog wk = .ok (.agg (updV (updAt b k))) wk := hla
          have HAT := Lib.hid (appL_take hkl HI.out.2.2)
          have HTN : Hid (appL l (b.take (k + 1)) = none → appL l b = none) := Lib.hid appL_none
          obtain ⟨x, hx⟩ : ∃ x, updAt b k = x := ⟨_, rfl⟩
          rw [hx] at hla HXO HAT
          have HB6f := Lib.hid (fun (W : World) (h : (wk.alloc (.cells (updV updZ) 75)).grownBy W (some wk.heap.size)) => below_grown (below_alloc (Below.refl wk.heap.size wk) (.cells (updV updZ) 75)) h (Nat.le_refl _))
          subst hA
          clear hc hx hkl
          go_upto_region 10 with (first | ((with_reducible show wpList _ _ _ (Oper.mk _ (Op.load _ _) _ _ _ _ :: _) _ _); refine wpList_load_g hla _ rfl rfl (by go_simp) ?_) | ((with_reducible show wpList _ _ _ (Oper.mk _ (Op.store _ _ _) _ _ _ _ :: _) _ _); refine wpList_store_blk (blk_new wk _) 75 0 (updV x) (store_upd_fit HXO.out.fits rfl) (info_upd HXO.out.fits) (updV_one _) _ _ rfl rfl rfl rfl ?_; intro w6 hg9 hs9 hb9; rw [splice_upd HXO.out.fits rfl] at hb9; have H6 := Lib.hid (And.intro hg9 hb9); clear hg9 hs9 hb9) | ((with_reducible show wpList _ _ _ (Oper.mk _ (Op.load _ _) _ _ _ _ :: _) _ _); refine wpList_load_g (((upd_at HXO.out.fits H6.out.2).all _ (Below.refl _ _)).pfx) _ rfl rfl (by go_simp) ?_) | ((with_reducible show wpList _ _ _ (Oper.mk _ (Op.load _ _) _ _ _ _ :: _) _ _); refine wpList_load_g (((upd_at HXO.out.fits H6.out.2).all _ (Below.refl _ _)).src) _ rfl rfl (by go_simp) ?_) | ((with_reducible show wpList _ _ _ (Oper.mk _ (Op.load _ _) _ _ _ _ :: _) _ _); refine wpList_load_g (((upd_at HXO.out.fits H6.out.2).all _ (Below.refl _ _)).prf) _ rfl rfl (by go_simp) ?_) | ((with_reducible show wpList _ _ _ (Oper.mk _ (Op.load _ _) _ _ _ _ :: _) _ _); refine wpList_load_g (((upd_at HXO.out.fits H6.out.2).all _ (Below.refl _ _)).hop) _ rfl rfl (by go_simp) ?_) | ((with_reducible show wpList _ _ _ (Oper.mk _ (Op.build _ _) _ _ _ _ :: _) _ _); refine wpList_exw rfl (exec_build4 rfl rfl rfl rfl rfl (run_build_rte _ x.p x.s x.f x.h HXO.out.fits.len)) ?_) | ((with_reducible show wpList _ _ _ (Oper.mk _ (Op.store _ _ _) _ _ _ _ :: _) _ _); refine wpList_store_blk (blk_new w6 _) 51 0 (rteV (Upd.rte x)) (store_rte_fit (show (Upd.rte x).fits from HXO.out.fits) rfl) (info_rte (show (Upd.rte x).fits from HXO.out.fits)) (rteV_one _) _ _ rfl rfl rfl rfl ?_; intro w7 hg9 hs9 hb9; rw [splice_rte (show (Upd.rte x).fits from HXO.out.fits) rfl] at hb9; have H7 := Lib.hid (And.intro hg9 hb9); clear hg9 hs9 hb9))
          dsimp only [Act.put]
          have HB6 := Lib.hid (HB6f.out _ H6.out.1)
          have HB7 := Lib.hid (below_grown (below_alloc (Below.refl w6.heap.size w6) (.cells (rteV rteZ) 51)) H7.out.1 (Nat.le_refl _))
          have HA7 := Lib.hid ((HI.out.2.1.step HB6.out).step HB7.out)
          have HU7 := Lib.hid (blk_below H6.out.2 HB7.out)
          have HX7 := Lib.hid H7.out.2
          have HBK7 := Lib.hid (below_step HB6.out HB7.out)
          have HRF : Hid (Upd.rte x).fits := Lib.hid HXO.out.fits
          obtain ⟨gu, hgu⟩ : ∃ g, wk.heap.size = g := ⟨_, rfl⟩
          obtain ⟨gx, hgx⟩ : ∃ g, w6.heap.size = g := ⟨_, rfl⟩
          rw [hgu] at HU7 ⊢
          rw [hgx] at HX7 ⊢
          obtain ⟨r, hr⟩ : ∃ r, Upd.rte x = r := ⟨_, rfl⟩
          have HRE := Lib.hid hr
          have HRO : Hid r.ok := Lib.hid (by rw [← hr]; exact HXO.out.rte)
          rw [hr] at HX7 HRF
          rw [show (⟨x.p, x.s, x.f, x.h⟩ : Rte) = r from hr]
          clear HB6f H6 H7 hla hgu hgx hr HB6 HB7
          go_wp2_with (first | ((with_reducible show wpList _ _ _ (Oper.mk _ (Op.load _ _) _ _ _ _ :: _) _ _); refine wpList_load_g (((rib_at HA7.out.cell).all _ (Below.refl _ _)).2) _ rfl rfl (by go_simp) ?_) | ((with_reducible show wpList _ _ _ (Oper.mk _ (Op.load _ _) _ _ _ _ :: _) _ _); refine wpList_load_g (((rte_at HRF.out HX7.out).all _ (Below.refl _ _)).all) _ rfl rfl (by go_simp) ?_))
          refine (bsearchQ_any Ak nk ck lk r w7 HA7.out.own.reads HROK.out.ris HRF.out (by omega)).mono ?_
          rintro e w8 ⟨rfl, hb8⟩
          have HA8 := Lib.hid (HA7.out.step hb8)
          have HU8 := Lib.hid (blk_below HU7.out hb8)
          have HX8 := Lib.hid (blk_below HX7.out hb8)
          have HBK8 := Lib.hid (below_step HBK7.out hb8)
          have HSP : Hid (appS lk x = if x.g then (if thereR lk r then some (dropK Rte.key lk r) else none) else some (setK Rte.key lk r)) := Lib.hid (by rw [← HRE.out]; rfl)
          have HDK : Hid (dropK Rte.key lk r = lk.take (lowR lk r) ++ lk.drop (lowR lk r + 1)) := Lib.hid rfl
          have HSK : Hid (setK Rte.key lk r = lk.take (lowR lk r) ++ r :: lk.drop (if thereR lk r then lowR lk r + 1 else lowR lk r)) := Lib.hid rfl
          have HJL : Hid (thereR lk r = true → lowR lk r < lk.length) := Lib.hid thereK_lt
          have HJE : Hid (lowR lk r ≤ lk.length) := Lib.hid (lowK_le lk r)
          obtain ⟨j, hj⟩ : ∃ j, lowR lk r = j := ⟨_, rfl⟩
          rw [hj] at HDK HSK HJL HJE ⊢
          have hlk : lk.length = nk := HA8.out.own.len
          have hjn : j ≤ nk := by rw [← hlk]; exact HJE.out
          clear hb8 hj HA7 HU7 HX7 HBK7 hlk
          cases hg : x.g with
          | true =>
            cases ht : thereR lk r with
            | false =>
              have HE := Lib.hid (appN_no HRB.out HBB.out (HTN.out (by rw [HAT.out, HSP.out, hg, ht]; rfl)))
              clear ht
              go_wp2_with (first | ((with_reducible show wpList _ _ _ (Oper.mk _ (Op.load _ _) _ _ _ _ :: _) _ _); refine wpList_load_g (((upd_at HXO.out.fits HU8.out).all _ (Below.refl _ _)).gon) _ rfl rfl (by go_simp) ?_) | ((with_reducible show wpList _ _ _ (Oper.mk _ (Op.build _ _) _ _ _ _ :: _) _ _); refine wpList_exw rfl (exec_build 24 #[] rfl #[] rfl ((run_build_rib_nil _))) ?_) | ((with_reducible show wpList _ _ _ (Oper.mk _ (Op.store _ _ _) _ _ _ _ :: _) _ _); refine wpList_store_blk (blk_below HZ3.out HA8.out.bel) 24 0 (tabV none 0 0) (Nat.le_refl _) (info_rib _ _ _) (tab_one _ _ _) _ _ rfl rfl rfl rfl ?_; intro w9 hg9 hs9 hb9; rw [splice_tab] at hb9; have H9 := Lib.hid (And.intro hg9 hb9); clear hg9 hs9 hb9))
              refine bodyPost_ret (results_c2 rfl rfl (load_rib H9.out.2)) rfl ?_
              rw [HE.out.1, HE.out.2]
              exact ⟨none, 0, 0, rfl, OS.nil _ _ _, below_grown (below_step HBE.out (below_step HB3.out HA8.out.bel)) H9.out.1 HZL.out⟩
            | true =>
              have hjlt : j < nk := by have h1 := HJL.out ht; rwa [HA8.out.own.len] at h1
              have HN : Hid (appL l (b.take (k + 1)) = some (lk.take j ++ lk.drop (j + 1))) := Lib.hid (by rw [HAT.out, HSP.out, hg, ht, ← HDK.out]; rfl)
              clear ht
              go_wp2_with (first | ((with_reducible show wpList _ _ _ (Oper.mk _ (Op.load _ _) _ _ _ _ :: _) _ _); refine wpList_load_g (((upd_at HXO.out.fits HU8.out).all _ (Below.refl _ _)).gon) _ rfl rfl (by go_simp) ?_) | ((with_reducible show wpList _ _ _ (Oper.mk _ (Op.load _ _) _ _ _ _ :: _) _ _); refine wpList_load_g (((rib_at HA8.out.cell).all _ (Below.refl _ _)).2) _ rfl rfl (by go_simp) ?_))
              refine (deleteQ_any w3.heap.size Ak nk ck j lk w8 HA8.out.own hjlt (by omega)).mono ?_
              rintro e w9 ⟨rfl, hO9, hg9⟩
              have HO9 := Lib.hid (And.intro hO9 hg9)
              clear hO9 hg9
              go_wp2_with (first | ((with_reducible show wpList _ _ _ (Oper.mk _ (Op.store _ _ _) _ _ _ _ :: _) _ _); refine wpList_store_cell (blk_ownN HA8.out.cell HO9.out.2 HA8.out.ne) 22 0 (.slice Ak (nk - 1) ck) (Nat.le_refl _) (by kernel_rfl) rfl rfl _ _ rfl rfl rfl rfl ?_; intro w10 hg9 hs9 hb9; have H10 := Lib.hid (And.intro hg9 (show (World.heap w10)[g6]? = some (.cells (tabV Ak (nk - 1) ck) 24 (0, 0)) from hb9)); clear hg9 hs9 hb9))
              go_roundw
              case measure => simp [intOf]; omega
              case rel => exact ⟨k + 1, Ak, nk - 1, ck, _, by go_num, by omega, HA8.out.turn HO9.out.1 HO9.out.2 (.inl rfl) H10.out.1 H10.out.2, HN.out⟩
          | false =>
            cases ht : thereR lk r with
            | true =>
              have hjlt : j < nk := by have h1 := HJL.out ht; rwa [HA8.out.own.len] at h1
              have hjlt' : (j : Int) < nk := by omega
              have HN : Hid (appL l (b.take (k + 1)) = some (lk.take j ++ [r] ++ lk.drop (j + 1))) := Lib.hid (by rw [HAT.out, HSP.out, hg, if_neg (by decide), HSK.out, ht, if_pos rfl]; simp)
              obtain ⟨b9, o9, rfl, _⟩ := RS.at_ HA8.out.own.reads (by omega)
              clear ht
              go_wp2_with (first | ((with_reducible show wpList _ _ _ (Oper.mk _ (Op.load _ _) _ _ _ _ :: _) _ _); refine wpList_load_g (((upd_at HXO.out.fits HU8.out).all _ (Below.refl _ _)).gon) _ rfl rfl (by go_simp) ?_) | ((with_reducible show wpList _ _ _ (Oper.mk _ (Op.load _ _) _ _ _ _ :: _) _ _); refine wpList_load_g (((rib_at HA8.out.cell).all _ (Below.refl _ _)).2) _ rfl rfl (by go_simp) ?_) | ((with_reducible show wpList _ _ _ (Oper.mk _ (Op.load _ _) _ _ _ _ :: _) _ _); refine wpList_load_g (((rte_at HRF.out HX8.out).all _ (Below.refl _ _)).all) _ rfl rfl (by go_simp) ?_) | ((with_reducible show wpList _ _ _ (Oper.mk _ (Op.store _ _ _) _ _ _ _ :: _) _ _); refine wpList_store_elem (S := rteK) HA8.out.own j hjlt r HRF.out rfl _ _ rfl rfl rfl rfl ?_; intro w9 hg9 hs9 hO9; have H9 := Lib.hid (And.intro hg9 hO9); clear hg9 hs9 hO9))
              go_roundw
              case measure => simp [intOf]; omega
              case rel => exact ⟨k + 1, _, nk, ck, _, by go_num, by omega, HA8.out.put H9.out.2 H9.out.1, HN.out⟩
            | false =>
              have HN : Hid (appL l (b.take (k + 1)) = some (lk.take j ++ r :: lk.drop j)) := Lib.hid (by rw [HAT.out, HSP.out, hg, if_neg (by decide), HSK.out, ht, if_neg (by decide)])
              have HLT := Lib.hid HA8.out.own.lt
              have HBA := Lib.hid (below_alloc (Below.refl w8.heap.size w8) (.cells (rteK.enc r).toArray rteK.t))
              clear ht
              go_wp2_with (first | ((with_reducible show wpList _ _ _ (Oper.mk _ (Op.load _ _) _ _ _ _ :: _) _ _); refine wpList_load_g (((upd_at HXO.out.fits HU8.out).all _ (Below.refl _ _)).gon) _ rfl rfl (by go_simp) ?_) | ((with_reducible show wpList _ _ _ (Oper.mk _ (Op.load _ _) _ _ _ _ :: _) _ _); refine wpList_load_g (((rib_at HA8.out.cell).all _ (Below.refl _ _)).2) _ rfl rfl (by go_simp) ?_) | ((with_reducible show wpList _ _ _ (Oper.mk _ (Op.load _ _) _ _ _ _ :: _) _ _); refine wpList_load_g (((rte_at HRF.out HX8.out).all _ (Below.refl _ _)).all) _ rfl rfl (by go_simp) ?_) | ((with_reducible show wpList _ _ _ (Oper.mk _ (Op.buildSlice _ _ _) _ _ _ _ :: _) _ _); refine wpList_exw rfl (exec_lit1 rteK (x := .tmp 52) rfl r rfl HRF.out (by show 21 ≤ _; omega) _) ?_))
              refine (insertQ_any w3.heap.size Ak nk ck j w8.heap.size lk r _ (HA8.out.own.below HBA.out) hjn (by omega) (Nat.le_trans HA8.out.bel.size HBA.out.size) (blk_new w8 _) HRF.out (fun ad e => by have := HLT.out ad e; omega)).mono ?_
              rintro e w9 ⟨A9, c9, rfl, hO9, hg9, hA9⟩
              have HO9 := Lib.hid (And.intro hO9 (And.intro hg9 hA9))
              clear hO9 hg9 hA9
              go_wp2_with (first | ((with_reducible show wpList _ _ _ (Oper.mk _ (Op.store _ _ _) _ _ _ _ :: _) _ _); refine wpList_store_cell (blk_ownN (blk_below HA8.out.cell HBA.out) HO9.out.2.1 HA8.out.ne) 22 0 (.slice A9 (nk + 1) c9) (Nat.le_refl _) (by kernel_rfl) rfl rfl _ _ rfl rfl rfl rfl ?_; intro w10 hg9 hs9 hb9; have H10 := Lib.hid (And.intro hg9 (show (World.heap w10)[g6]? = some (.cells (tabV A9 (nk + 1) c9) 24 (0, 0)) from hb9)); clear hg9 hs9 hb9))
              go_roundw
              case measure => simp [intOf]; omega
              case rel => exact ⟨k + 1, A9, nk + 1, c9, _, by go_num, by omega, (HA8.out.step HBA.out).turn HO9.out.1 HO9.out.2.1 HO9.out.2.2 H10.out.1 H10.out.2, HN.out⟩
        · have hlt' : decide (k < m) = false := decide_eq_false hlt
          have HAL : Hid (appL l b = some lk) := Lib.hid (by
            have h1 := HI.out.2.2
            have h2 : k = b.length := by rw [HU.out.len]; have := HI.out.1; omega
            rwa [h2, List.take_length] at h1)
          have HAK := Lib.hid HI.out.2.1
          clear hlt
          go_wp2_with (first | ((with_reducible show wpList _ _ _ (Oper.mk _ (Op.load _ _) _ _ _ _ :: _) _ _); refine wpList_load_g (((rib_at HAK.out.cell).all _ (Below.refl _ _)).2) _ rfl rfl (by go_simp) ?_))
          refine (rprefixes_any Ak nk ck lk wk HAK.out.own.reads HROK.out.ok (by omega)).mono ?_
          rintro e w8 ⟨rfl, hb8⟩
          have HA8 := Lib.hid (HAK.out.step hb8)
          obtain ⟨q, hq⟩ : ∃ q, pfxsN lk = q := ⟨_, rfl⟩
          have HQ := Lib.hid hq
          rw [hq]
          clear hb8 hq
          by_cases h40 : 40 < q
          · have h40b : decide ((40 : Int) < q) = true := decide_eq_true (by omega)
            have HE := Lib.hid (appN_full HRB.out HBB.out HAL.out (by rw [HQ.out]; omega))
            clear h40
            go_wp2_with (first | ((with_reducible show wpList _ _ _ (Oper.mk _ (Op.build _ _) _ _ _ _ :: _) _ _); refine wpList_exw rfl (exec_build 24 #[] rfl #[] rfl ((run_build_rib_nil _))) ?_) | ((with_reducible show wpList _ _ _ (Oper.mk _ (Op.store _ _ _) _ _ _ _ :: _) _ _); refine wpList_store_blk (blk_below HZ3.out HA8.out.bel) 24 0 (tabV none 0 0) (Nat.le_refl _) (info_rib _ _ _) (tab_one _ _ _) _ _ rfl rfl rfl rfl ?_; intro w9 hg9 hs9 hb9; rw [splice_tab] at hb9; have H9 := Lib.hid (And.intro hg9 hb9); clear hg9 hs9 hb9))
            refine bodyPost_ret (results_c2 rfl rfl (load_rib H9.out.2)) rfl ?_
            rw [HE.out.1, HE.out.2]
            exact ⟨none, 0, 0, rfl, OS.nil _ _ _, below_grown (below_step HBE.out (below_step HB3.out HA8.out.bel)) H9.out.1 HZL.out⟩
          · have h40b : decide ((40 : Int) < q) = false := decide_eq_false (by omega)
            have HE := Lib.hid (appN_yes HRB.out HBB.out HAL.out (by rw [HQ.out]; omega))
            clear h40
            go_wp2_with (first | ((with_reducible show wpList _ _ _ (Oper.mk _ (Op.load _ _) _ _ _ _ :: _) _ _); refine wpList_load_g (load_rib HA8.out.cell) _ rfl rfl (by go_simp) ?_) | ((with_reducible show wpList _ _ _ (Oper.mk _ (Op.store _ _ _) _ _ _ _ :: _) _ _); refine wpList_store_blk (blk_below HZ3.out HA8.out.bel) 24 0 (tabV Ak nk ck) (Nat.le_refl _) (info_rib _ _ _) (tab_one _ _ _) _ _ rfl rfl rfl rfl ?_; intro w9 hg9 hs9 hb9; rw [splice_tab] at hb9; have H9 := Lib.hid (And.intro hg9 hb9); clear hg9 hs9 hb9))
            refine bodyPost_ret (results_c2 rfl rfl (load_rib H9.out.2)) rfl ?_
            rw [HE.out.1, HE.out.2]
            refine ⟨Ak, nk, ck, rfl, (HA8.out.own.grown H9.out.1 (fun ad e h => ?_)).lower (by have := HS3.out; omega), below_grown (below_step HBE.out (below_step HB3.out HA8.out.bel)) H9.out.1 HZL.out⟩
            have h1 := HA8.out.own.base_ ad e
            have h2 := HS3.out
            injection h with h
            omega
end Go.Proofs.YtnpeedmicjeleaaDoor

/- Layer 11 (route): the reader's prefix. -/
namespace Go.Proofs.YtnpeedmicjeleaaDoor
open Go.RowKit
set_option linter.unusedVariables false
set_option linter.unusedSimpArgs false
set_option maxRecDepth 4000
theorem wp_world {P : Program} {c : Code} {Q : Exit → Act → World → Prop} {a : Act} {w1 w2 : World} (h : w1 = w2) (k : c.wp P Q a w2) : c.wp P Q a w1 := h ▸ k
set_option maxHeartbeats 4000000 in
theorem prefix11_any {lo : Nat} (g : Nat) (A : Option Addr) (n c : Nat) (bad : Int) (xs ys : List Int) (m : Nat) (w : World) (hL : Laid w) (hr : Rdr w lo g ys 0) (hx : RB w A n c xs) (hys : xs.drop m = ys) (hm : m ≤ n) (hn : n ≤ 100000) :
    Calls Tryd.prog 75 #[.agg (rd3V g A n c bad)] w fun e w' => w.grownBy w' (some g) ∧ ((decPE ys = 7 ∧ e = .panicked (wrg 7)) ∨ (decPE ys ≠ 7 ∧ decPE ys ≠ 0 ∧ e = .panicked (wrg bad)) ∨ (decPE ys = 0 ∧ e = .returned (.agg (pfxV (decP ys).v (decP ys).l (decP ys).b)) ∧ Rdr w' lo g (ys.drop (decPN ys).toNat) 0)) := by
  have hblk1 := blk_new w (.cells (rd3V g A n c bad) 110)
  have hbel1 : Below w.heap.size w (w.alloc (.cells (rd3V g A n c bad) 110)) := below_alloc (Below.refl _ _) _
  have HP1 := Lib.hid (rd3_at hblk1)
  have HBK1 := Lib.hid hblk1
  have HBE := Lib.hid hbel1
  have HL := Lib.hid (hL.below HBE.out)
  obtain ⟨cs1, hcs1⟩ : ∃ cs, rd3V g A n c bad = cs := ⟨_, rfl⟩
  simp only [hcs1] at HBE HL HP1 HBK1 ⊢
  have HC1 := Lib.hid hcs1
  clear hL hcs1 hblk1 hbel1
  have hlt := hr.lt
  have hyl : m + ys.length = n := by rw [← hys, List.length_drop, hx.len]; omega
  have hsub : IntKind.i64.wrap ((n : Int) - (ys.length : Int)) = m := by rw [IntWalk.i64_in _ (by omega)]; omega
  obtain ⟨A2, hsl, hsr, -⟩ := cut_bytes A n c m (by omega) (by omega)
  rw [Int.toNat_natCast] at hsl hsr
  have hs0 : (w.alloc (.cells cs1 110)).heap.size = w.heap.size + 1 := by simp
  obtain ⟨W2, hW2⟩ : ∃ W2, (w.alloc (.cells cs1 110)).alloc (.cells (pfxV 0 zero16 0) 49) = W2 := ⟨_, rfl⟩
  have HB2 : Hid (Below w.heap.size w W2) := Lib.hid (hW2 ▸ below_alloc HBE.out _)
  have HBR : Hid (Below (w.alloc (.cells cs1 110)).heap.size (w.alloc (.cells cs1 110)) W2) := Lib.hid (hW2 ▸ below_alloc (Below.refl _ _) _)
  have HZ2 : Hid (W2.heap[w.heap.size + 1]? = some (.cells (pfxV 0 zero16 0) 49 (0, 0))) := Lib.hid (by rw [← hW2, ← hs0]; exact blk_new _ _)
  have HRB : Hid (RB W2 A2 (n - m) (c - m) ys) := Lib.hid (by rw [← hys]; exact hsr W2 _ (hx.below HB2.out))
  have HR2 := Lib.hid (hr.below HB2.out)
  have HLEN : Hid (ys.length ≤ 100000) := Lib.hid (by omega)
  have HY := Lib.hid hr.byte
  have hp16 : B16 (decP ys).l := decP_16 hr.byte
  obtain ⟨pp, hpp⟩ : ∃ pp, decP ys = pp := ⟨_, rfl⟩
  obtain ⟨ee, hee⟩ : ∃ ee, decPE ys = ee := ⟨_, rfl⟩
  obtain ⟨nn, hnn⟩ : ∃ nn, decPN ys = nn := ⟨_, rfl⟩
  have HPN := Lib.hid (And.intro hpp (And.intro hnn hee))
  rw [hpp] at hp16
  have hp16l := hp16.len
  rw [hpp, hee, hnn]
  clear hr hx hys hsr hs0 hpp hee hnn hyl
  go_enter Tryd.func75, Tryd.ntmps75
  go_upto_region 1 with fail
  refine wp_world hW2 ?_
  clear hW2
  go_cut [3, 4, 5] (fun s3 s4 s5 wx => ∃ gx, s3 = .pointer (some ⟨gx, 0, none⟩) ∧ s4 = .int .i64 nn ∧ s5 = .int .i64 ee ∧ Hid (wx.heap[gx]? = some (.cells (pfxV pp.v pp.l pp.b) 49 (0, 0)) ∧ Below W2.heap.size W2 wx ∧ W2.heap.size ≤ gx))
  case first =>
    have HBD := Lib.hid (below_drew1 W2)
    refine wp_region_fork ((fun w0 => Below W2.heap.size W2 w0)) (OrdT.fork [0, 1, 2, 3, 4, 5, 6, 7, 8, 9] 10 15 (OrdT.lin [11, 12, 13, 14, 15, 16, 17, 18]) (OrdT.lin [10, 11, 12, 13, 14, 16, 17, 18])) [(0, 0), (1, 0), (2, 0), (3, 0), (4, 0), (5, 0), (6, 0), (7, 0), (8, 0), (9, 0), (10, 2), (11, 0), (12, 0), (13, 0), (14, 0), (15, 2), (16, 2), (17, 0), (18, 0)] (by kernel_rfl) (by kernel_rfl) ((below_drew1 _)) ?_
    simp only [wpF]
    iterate 1 (refine wpO_step0 rfl rfl (fun K hK => ?_); go_simp; refine hK _ _ ?_; clear hK K)
    refine wpO_loadW (t := 63) (ad := ⟨w.heap.size, 1, none⟩) rfl rfl ?hw rfl rfl ((fun w0 hS => (HP1.out.all w0 (below_step HBR.out hS)).raw)) ?_
    case hw => go_simp
    iterate 1 (refine wpO_step0 rfl rfl (fun K hK => ?_); go_simp; refine hK _ _ ?_; clear hK K)
    refine wpO_loadW (t := 63) (ad := ⟨w.heap.size, 1, none⟩) rfl rfl ?hw rfl rfl ((fun w0 hS => (HP1.out.all w0 (below_step HBR.out hS)).raw)) ?_
    case hw => go_simp
    iterate 2 (refine wpO_step0 rfl rfl (fun K hK => ?_); go_simp; refine hK _ _ ?_; clear hK K)
    refine wpO_loadW (t := 108) (ad := ⟨w.heap.size, 0, none⟩) rfl rfl ?hw rfl rfl ((fun w0 hS => (HP1.out.all w0 (below_step HBR.out hS)).ptr)) ?_
    case hw => go_simp
    refine wpO_quiet rfl rfl ?hw Tryd.func99 (by kernel_rfl) (by kernel_rfl) rfl rfl (fun w0 hS => left_any g ys 0 w0 (HR2.out.below hS)) ?_
    case hw => go_simp
    iterate 2 (refine wpO_step0 rfl rfl (fun K hK => ?_); go_simp; refine hK _ _ ?_; clear hK K)
    refine wpO_nil ⟨?_, ?_⟩
    · refine wpO_step2 rfl rfl (HBD.out) (fun K hK => ?_)
      go_simp
      refine (decode_any A2 (n - m) (c - m) ys W2.drew (HL.out.below (below_step HBR.out HBD.out)) (HRB.out.below HBD.out) (by omega)).mono ?_
      rw [HPN.out.1, HPN.out.2.1, HPN.out.2.2]
      rintro e w2 ⟨rfl, hb9⟩
      have HBC := Lib.hid (below_step HBD.out hb9)
      try replace HZ9 := Lib.hid (blk_below HZ9.out hb9)
      clear hb9
      refine hK _ _ ⟨HBC.out, ?_⟩
      clear hK K
      refine wpO_nil ?_
      iterate 4 (refine wpO_step0 rfl rfl (fun K hK => ?_); go_simp; refine hK _ _ ?_; clear hK K)
      refine wpO_step2 rfl rfl (HBC.out) (fun K hK => ?_)
      go_simp
      have hz9 := blk_new w2 (.cells (pfxV 0 zero16 0) 49)
      obtain ⟨w3, hw9⟩ : ∃ w9, World.alloc w2 (.cells (pfxV 0 zero16 0) 49) = w9 := ⟨_, rfl⟩
      have ha9 : Below (World.heap w2).size w2 w3 := hw9 ▸ below_alloc (Below.refl _ _) _
      have HBK := Lib.hid (below_step HBC.out ha9)
      refine kw_cast hw9 ?_
      rw [hw9] at hz9
      have hzl9 := blk_lt hz9
      have HZ9 := Lib.hid hz9
      try replace HCP := Lib.hid (HCP.out.below ha9)
      try replace HO9 := Lib.hid (HO9.out.below ha9)
      try replace HLV := Lib.hid (HLV.out.below ha9)
      clear hw9 hz9 ha9
      refine hK _ _ ⟨HBK.out, ?_⟩
      clear hK K
      refine wpO_step2 rfl rfl (HBK.out) (fun K hK => ?_)
      rw [if_pos (show Region.wanted _ _ = true from rfl)]
      refine oper_store_blk HZ9.out 49 0 (pfxV pp.v pp.l pp.b) (store_pfx_fit hp16l rfl) (info_pfx hp16l) (pfx_one _ _ _) _ _ rfl rfl rfl ?_
      intro w4 hg9 hs9 hb9
      rw [splice_pfx _ _ _ _ hp16l rfl] at hb9
      have HBL := Lib.hid (below_grown HBK.out hg9 (by have h2 := HBC.out.size; omega))
      replace HZ9 := Lib.hid hb9
      clear hg9 hs9 hb9
      refine hK _ _ ⟨HBL.out, ?_⟩
      clear hK K
      iterate 2 (refine wpO_step0 rfl rfl (fun K hK => ?_); go_simp; refine hK _ _ ?_; clear hK K)
      refine wpO_nil ?_
      go_wp2_with fail
      go_meet
      exact ⟨w2.heap.size, rfl, rfl, rfl, HZ9.out, HBL.out, by first | exact Nat.le_refl _ | exact HBC.out.size⟩
    · refine wpO_step2 rfl rfl (HBD.out) (fun K hK => ?_)
      go_simp
      have hz9 := blk_new W2 (.cells (pfxV 0 zero16 0) 49)
      obtain ⟨w2, hw9⟩ : ∃ w9, (World.alloc W2 (.cells (pfxV 0 zero16 0) 49)).drew = w9 := ⟨_, rfl⟩
      have ha9 : Below (World.heap W2).size W2 w2 := hw9 ▸ below_step (below_alloc (Below.refl _ _) _) (below_drew1 _)
      have HBC := Lib.hid ha9
      refine kw_cast hw9 ?_
      replace hz9 : (World.heap w2)[(World.heap W2).size]? = some (.cells (pfxV 0 zero16 0) 49 (0, 0)) := by rw [← hw9]; exact hz9
      have hzl9 := blk_lt hz9
      have HZ9 := Lib.hid hz9
      clear hw9 hz9 ha9
      refine hK _ _ ⟨HBC.out, ?_⟩
      clear hK K
      refine wpO_nil ?_
      refine wpO_step2 rfl rfl (HBC.out) (fun K hK => ?_)
      go_simp
      refine (decode_any A2 (n - m) (c - m) ys w2 (HL.out.below (below_step HBR.out HBC.out)) (HRB.out.below HBC.out) (by omega)).mono ?_
      rw [HPN.out.1, HPN.out.2.1, HPN.out.2.2]
      rintro e w3 ⟨rfl, hb9⟩
      have HBK := Lib.hid (below_step HBC.out hb9)
      try replace HZ9 := Lib.hid (blk_below HZ9.out hb9)
      clear hb9
      refine hK _ _ ⟨HBK.out, ?_⟩
      clear hK K
      iterate 4 (refine wpO_step0 rfl rfl (fun K hK => ?_); go_simp; refine hK _ _ ?_; clear hK K)
      refine wpO_step2 rfl rfl (HBK.out) (fun K hK => ?_)
      rw [if_pos (show Region.wanted _ _ = true from rfl)]
      refine oper_store_blk HZ9.out 49 0 (pfxV pp.v pp.l pp.b) (store_pfx_fit hp16l rfl) (info_pfx hp16l) (pfx_one _ _ _) _ _ rfl rfl rfl ?_
      intro w4 hg9 hs9 hb9
      rw [splice_pfx _ _ _ _ hp16l rfl] at hb9
      have HBL := Lib.hid (below_grown HBK.out hg9 (by have h2 := HBC.out.size; omega))
      replace HZ9 := Lib.hid hb9
      clear hg9 hs9 hb9
      refine hK _ _ ⟨HBL.out, ?_⟩
      clear hK K
      iterate 2 (refine wpO_step0 rfl rfl (fun K hK => ?_); go_simp; refine hK _ _ ?_; clear hK K)
      refine wpO_nil ?_
      go_wp2_with fail
      go_meet
      exact ⟨W2.heap.size, rfl, rfl, rfl, HZ9.out, HBL.out, by first | exact Nat.le_refl _ | exact HBC.out.size⟩
  case rest =>
    obtain ⟨gx, rfl, rfl, rfl, HC⟩ := hcut
    obtain ⟨w3, rfl⟩ : ∃ w3, w3 = wc := ⟨wc, rfl⟩
    have HB3 := Lib.hid (below_step HB2.out HC.out.2.1)
    have HBR3 := Lib.hid (below_step HBR.out HC.out.2.1)
    have HR3 := Lib.hid (HR2.out.below HC.out.2.1)
    have HZ3 := Lib.hid (blk_below HZ2.out HC.out.2.1)
    have HX3 := Lib.hid HC.out.1
    have HGX : Hid (g < gx) := Lib.hid (by have h1 := HC.out.2.2; have h2 := HB2.out.size; omega)
    clear HC HR2 HZ2 HRB
    by_cases h7 : ee = 7
    · have H7 := Lib.hid h7
      have h7b : (ee == 7) = true := by simpa using h7
      clear h7
      go_wp2_with fail
      exact ⟨rfl, grown_of_below HB3.out _, .inl ⟨H7.out, by rw [H7.out]; rfl⟩⟩
    · have h7b : (ee == 7) = false := by simpa using h7
      by_cases hz : ee = 0
      · have HZ0 := Lib.hid hz
        have hzb : (ee == 0) = true := by simpa using hz
        have hnz := dec_nat HY.out (HPN.out.2.2.trans hz)
        rw [HPN.out.2.1] at hnz
        obtain ⟨q, hq, hql⟩ := hnz
        subst hq
        clear h7 hz
        go_wp2_with (first | ((with_reducible show wpList _ _ _ (Oper.mk _ (Op.load _ _) _ _ _ _ :: _) _ _); refine wpList_load_g ((HP1.out.all _ HBR3.out).all) _ rfl rfl (by go_simp) ?_))
        refine (need11_true g A n c bad w3).mono ?_
        rintro e w4 ⟨rfl, hb4⟩
        have HB4 := Lib.hid (below_step HB3.out hb4)
        have HBR4 := Lib.hid (below_step HBR3.out hb4)
        have HR4 := Lib.hid (HR3.out.below hb4)
        have HZ4 := Lib.hid (blk_below HZ3.out hb4)
        have HX4 := Lib.hid (blk_below HX3.out hb4)
        clear hb4
        go_wp2_with (first | ((with_reducible show wpList _ _ _ (Oper.mk _ (Op.load _ _) _ _ _ _ :: _) _ _); refine wpList_load_g ((HP1.out.all _ HBR4.out).ptr) _ rfl rfl (by go_simp) ?_))
        have HOB : Hid (offB ys 0 (q : Int) = true) := Lib.hid (by simp [offB]; omega)
        refine (raw_any g ys 0 q w4 HR4.out (by have := HLEN.out; omega) (by have := HLEN.out; omega)).mono ?_
        rw [offL_true HOB.out, offE_true HOB.out, Int.toNat_natCast]
        rintro e w5 ⟨A6, c6, rfl, -, hr5, hg5⟩
        have HR5 := Lib.hid hr5
        have HZ5 := Lib.hid (blk_grown HZ4.out hg5 (fun e => by injection e with e; omega))
        have HX5 := Lib.hid (blk_grown HX4.out hg5 (fun e => by injection e with e; have := HGX.out; omega))
        have HG5 := Lib.hid (grown_trans (grown_of_below HB4.out (some g)) hg5)
        clear hr5 hg5
        go_wp2_with (first | ((with_reducible show wpList _ _ _ (Oper.mk _ (Op.load _ _) _ _ _ _ :: _) _ _); refine wpList_load_g (load_pfx hp16 HX5.out) _ rfl rfl (by go_simp) ?_) | (refine wpList_store_blk HZ5.out 49 0 (pfxV pp.v pp.l pp.b) (store_pfx_fit hp16l rfl) (info_pfx hp16l) (pfx_one _ _ _) _ _ rfl rfl rfl rfl ?_; intro w6 hg9 hs9 hb9; rw [splice_pfx _ _ _ _ hp16l rfl] at hb9; have H6 := Lib.hid (And.intro hg9 hb9); clear hg9 hs9 hb9))
        have HR6 := Lib.hid (HR5.out.grown H6.out.1 (fun b e => by injection e with e; omega))
        have HG6 := Lib.hid (grown_far HG5.out H6.out.1 (by omega))
        refine bodyPost_ret (results_c1 rfl rfl (load_pfx hp16 H6.out.2)) rfl ?_
        exact ⟨HG6.out, .inr (.inr ⟨HZ0.out, rfl, HR6.out⟩)⟩
      · have hzb : (ee == 0) = false := by simpa using hz
        have H7 := Lib.hid (And.intro h7 hz)
        clear h7 hz
        go_wp2_with (first | ((with_reducible show wpList _ _ _ (Oper.mk _ (Op.load _ _) _ _ _ _ :: _) _ _); refine wpList_load_g ((HP1.out.all _ HBR3.out).all) _ rfl rfl (by go_simp) ?_))
        refine (need11_false g A n c bad w3).mono ?_
        rintro e w4 ⟨rfl, hb4⟩
        have HB4 := Lib.hid (below_step HB3.out hb4)
        clear hb4
        exact ⟨rfl, grown_of_below HB4.out _, .inr (.inl ⟨H7.out.1, H7.out.2, rfl⟩)⟩
end Go.Proofs.YtnpeedmicjeleaaDoor

/- Layer 11 (route): read, and what it defers. -/
namespace Go.Proofs.YtnpeedmicjeleaaDoor
open Go.RowKit
set_option linter.unusedVariables false
set_option linter.unusedSimpArgs false
set_option maxRecDepth 4000
theorem load_errno {w : World} {b : Nat} {t : TypeId} {x : Int} (h : w.heap[b]? = some (.cells #[.int .i64 x] t (0, 0))) : (Instr.loadAt 32 (.pointer (some ⟨b, 0, none⟩))).run Tryd.prog w = .ok (.int .i64 x) w := by
  have c0 : w.cell? ⟨b, 0, none⟩ = some (.int .i64 x) := by rw [blk_cell h]; rfl
  clear h
  go_simp
theorem assert11 (E : Int) (tt : TypeId) (w : World) : (Instr.typeAssert (.iface 134 (.agg #[.int .i64 E])) tt 134 true).run Tryd.prog w = .ok (.tuple #[.agg #[.int .i64 E], .bool true]) w := by
  rfl
theorem catch_slots (h : Nat) (V : Value) : #[Value.pointer (some ⟨h, 0, none⟩)] ++ ((Array.replicate 16 undef).setIfInBounds 3 V).setIfInBounds 0 V = #[.pointer (some ⟨h, 0, none⟩), V, undef, undef, V, undef, undef, undef, undef, undef, undef, undef, undef, undef, undef, undef, undef] := rfl
theorem catch11_panicking (h : Nat) (x E : Int) (older : List PanicEntry) (w : World) (hb : w.heap[h]? = some (.cells #[.int .i64 x] 32 (0, 0))) :
    CallsD Tryd.prog 97 #[.pointer (some ⟨h, 0, none⟩)] (.panicking ({ v := .iface 134 (.agg #[.int .i64 E]), recovered := false } :: older)) w fun e u' w' =>
      e = .returned (.tuple #[]) ∧ u' = .panicking ({ v := .iface 134 (.agg #[.int .i64 E]), recovered := true } :: older) ∧ w.grownBy w' (some h) ∧ w'.heap[h]? = some (.cells #[.int .i64 E] 32 (0, 0)) := by
  have hta := assert11 E
  refine callsD_of_wpS Tryd.func97 rfl fun c₀ cs hu => ?_
  apply wpS_seq
  apply wpS_region
  simp [wpOpsS, go_sem, recoverD, hu, Tryd.ntmps97, Exit.thenS]
  refine wpS_of_wp ?_
  rw [catch_slots h (.iface 134 (.agg #[.int .i64 E]))]
  go_wp2_with (first | ((with_reducible show wpList _ _ _ (Oper.mk _ (Op.load _ _) _ _ _ _ :: _) _ _); refine wpList_load_g (load_errno (blk_new w (.cells #[.int .i64 E] 134))) _ rfl rfl (by go_simp) ?_) | ((with_reducible show wpList _ _ _ (Oper.mk _ (Op.store _ _ _) _ _ _ _ :: _) _ _); refine wpList_store_cell (blk_below hb (below_alloc (Below.refl _ _) (.cells #[.int .i64 E] 134))) 32 0 (.int .i64 E) (Nat.le_refl _) (by kernel_rfl) rfl rfl _ _ rfl rfl rfl rfl ?_; intro w2 hg9 hs9 hb9; have H2 := Lib.hid (And.intro hg9 (show (World.heap w2)[h]? = some (.cells #[.int .i64 E] 32 (0, 0)) from hb9)); clear hg9 hs9 hb9))
  cases c₀
  have hg := grown_of_alloc H2.out.1
  have hh := H2.out.2
  simp_all [bodyPostS, results, Tryd.results97]
theorem catch11_idle (h : Nat) (w : World) :
    CallsD Tryd.prog 97 #[.pointer (some ⟨h, 0, none⟩)] .returning w fun e u' w' => e = .returned (.tuple #[]) ∧ u' = .returning ∧ w' = w := by
  refine callsD_of_wpS Tryd.func97 rfl fun c₀ cs hu => ?_
  apply wpS_seq
  apply wpS_region
  simp [wpOpsS, go_sem, recoverD, hu, Tryd.ntmps97, Exit.thenS]
  refine wpS_of_wp ?_
  rw [catch_slots h .nilIface]
  go_wp2_with fail
  cases c₀
  simp_all [bodyPostS, results, Tryd.results97]
def catchD (h : Nat) : Deferred := { target := .fn (Fn.func 97) #[.pointer (some ⟨h, 0, none⟩)], args := #[] }
theorem leaves11_panicking {R : Ending → World → Prop} (tmps : Array Value) (h : Nat) (x E : Int) (w : World) (hp : tmps.getD 6 undef = .pointer (some ⟨h, 0, none⟩)) (hb : w.heap[h]? = some (.cells #[.int .i64 x] 32 (0, 0)))
    (hR : ∀ w', w.grownBy w' (some h) → R (.returned (.int .i64 E)) w') : Leaves Tryd.prog Tryd.f72 tmps R [catchD h] (.panicking (wrg E)) w := by
  refine leaves_cons (f := 97) (args := #[.pointer (some ⟨h, 0, none⟩)]) (by simp) (by simp [go_sem]) ?_
  refine (catch11_panicking h x E [] w hb).mono ?_
  rintro e u' w'' ⟨rfl, rfl, hg, hb'⟩
  exact ⟨_, results_c1 (by kernel_rfl) hp (load_errno hb'), hR _ hg⟩
theorem leaves11_returning {R : Ending → World → Prop} (tmps : Array Value) (h : Nat) (x : Int) (w : World) (hp : tmps.getD 6 undef = .pointer (some ⟨h, 0, none⟩)) (hb : w.heap[h]? = some (.cells #[.int .i64 x] 32 (0, 0)))
    (hR : R (.returned (.int .i64 x)) w) : Leaves Tryd.prog Tryd.f72 tmps R [catchD h] .returning w := by
  refine leaves_cons (f := 97) (args := #[.pointer (some ⟨h, 0, none⟩)]) (by simp) (by simp [go_sem]) ?_
  refine (catch11_idle h w).mono ?_
  rintro e u' w'' ⟨rfl, rfl, rfl⟩
  exact ⟨_, results_c1 (by kernel_rfl) hp (load_errno hb), hR⟩
theorem run_build_rd3 (w : World) (g : Nat) (A : Option Addr) (n c : Nat) (bad : Int) : (Instr.build 110 #[(0, .pointer (some ⟨g, 0, none⟩)), (1, .slice A n c), (2, .int .i64 bad)]).run Tryd.prog w = .ok (.agg (rd3V g A n c bad)) w := run_build w _ _ _ (by kernel_rfl)
theorem splice_rd3 (x y z : Value) (g : Nat) (A : Option Addr) (n c : Nat) (bad : Int) : splice #[x, y, z] 0 (rd3V g A n c bad).toList = rd3V g A n c bad := splice_all _ _ rfl
theorem info_rd3 (g : Nat) (A : Option Addr) (n c : Nat) (bad : Int) : (Tryd.prog.info? 110).map (·.size) = some (rd3V g A n c bad).size := by show _ = some 3; kernel_rfl
theorem rd3_one (g : Nat) (A : Option Addr) (n c : Nat) (bad : Int) : (rd3V g A n c bad).all (·.oneCell') = true := by simp [rd3V, Value.oneCell']
/-- What a closure that read calls leaves as it was. -/
structure Keep11 (b g : Nat) (w1 w2 : World) : Prop where
  size : w1.heap.size ≤ w2.heap.size
  blk : ∀ h, b ≤ h → h < w1.heap.size → h ≠ g → w2.heap[h]? = w1.heap[h]?
theorem Keep11.blk_ {b g : Nat} {w1 w2 : World} (h : Keep11 b g w1 w2) {k : Nat} {o : Obj} (hk : w1.heap[k]? = some o) (hb : b ≤ k) (hg : k ≠ g) : w2.heap[k]? = some o := (h.blk k hb (blk_lt hk) hg).trans hk
set_option maxHeartbeats 4000000 in
theorem read11_any (F : FuncId) (hF : ∀ args w, (callFunc F args).run Tryd.prog w = .ok (.enter F args) w) (cap : Array Value) (A : Option Addr) (n c : Nat) (xs : List Int) (bad : Int) (w : World) (hL : Laid w) (hr : RB w A n c xs) (hn : n ≤ 100000) (P : Int → World → Prop)
    (hP : ∀ E w1 w2, w.heap.size ≤ w1.heap.size → P E w1 → w1.grownBy w2 (some w.heap.size) → P E w2)
    (hd : ∀ lo g w1, w.heap.size ≤ lo → w.heap.size < g → Rdr w1 lo g xs 0 → Below w.heap.size w w1 → Calls Tryd.prog F (#[.agg (rd3V g A n c bad)] ++ cap) w1 fun e w2 => Keep11 w.heap.size g w1 w2 ∧
      ((∃ E, e = .panicked (wrg E) ∧ P E w2) ∨ (e = .returned (.tuple #[]) ∧ ∃ ys, Rdr w2 lo g ys 0 ∧ P (if ys.length = 0 then 0 else bad) w2))) :
    Calls Tryd.prog 72 #[.slice A n c, .int .i64 bad, .func (Fn.func F) #[] cap] w fun e w' => ∃ E, e = .returned (.int .i64 E) ∧ P E w' := by
  have hmf : ∀ (fn : Fn) (first cap : Array Value) (w : World), (Instr.makeFunc fn first cap).run Tryd.prog w = .ok (.func fn first cap) w := fun _ _ _ _ => rfl
  obtain ⟨W1, hW1⟩ : ∃ W1, w.alloc (.cells #[.int .i64 0] 32) = W1 := ⟨_, rfl⟩
  have HB1 : Hid (Below w.heap.size w W1) := Lib.hid (hW1 ▸ below_alloc (Below.refl _ _) _)
  have HZ1 : Hid (W1.heap[w.heap.size]? = some (.cells #[.int .i64 0] 32 (0, 0))) := Lib.hid (hW1 ▸ blk_new _ _)
  have HS1 : Hid (W1.heap.size = w.heap.size + 1) := Lib.hid (by rw [← hW1]; simp)
  have HR1 := Lib.hid (hr.below HB1.out)
  have HD := Lib.hid hd
  have HP := Lib.hid hP
  clear hr hd hP
  have HRN := Lib.hid hn
  go_enter_defers Tryd.func72, Tryd.ntmps72
  go_wp2_with fail
  clear hW1
  refine (read_any A n c xs W1 HR1.out (by omega)).mono ?_
  rintro e w2 ⟨g, rfl, hg, hrd, hb2⟩
  have HG : Hid (w.heap.size < g) := Lib.hid (by have := HS1.out; omega)
  have HGL := Lib.hid hrd.lt
  have HB2 := Lib.hid (below_step HB1.out hb2)
  have HZ2 := Lib.hid (blk_below HZ1.out hb2)
  have HRD := Lib.hid hrd
  obtain ⟨lo, hlo⟩ : ∃ lo, W1.heap.size = lo := ⟨_, rfl⟩
  have HLO : Hid (w.heap.size ≤ lo) := Lib.hid (by have := HS1.out; omega)
  rw [hlo] at HRD
  clear hg hrd hb2 HR1 HB1 HZ1 HS1 hlo
  have HBf := Lib.hid (fun (W : World) (h : (w2.alloc (.cells #[.pointer none, .slice none 0 0, .int .i64 0] 110)).grownBy W (some w2.heap.size)) => below_grown (below_alloc (Below.refl w2.heap.size w2) (.cells #[.pointer none, .slice none 0 0, .int .i64 0] 110)) h (Nat.le_refl _))
  go_wp2_with (first | ((with_reducible show wpList _ _ _ (Oper.mk _ (Op.build 110 _) _ _ _ _ :: _) _ _); refine wpList_exw rfl (exec_build3 rfl rfl rfl rfl (run_build_rd3 _ g A n c bad)) ?_) | ((with_reducible show wpList _ _ _ (Oper.mk _ (Op.store _ _ _) _ _ _ _ :: _) _ _); refine wpList_store_blk (blk_new w2 (.cells #[.pointer none, .slice none 0 0, .int .i64 0] 110)) 110 0 (rd3V g A n c bad) (Nat.le_refl _) (info_rd3 _ _ _ _ _) (rd3_one _ _ _ _ _) _ _ rfl rfl rfl rfl ?_; intro w3 hg9 hs9 hb9; rw [splice_rd3] at hb9; have H3 := Lib.hid (And.intro hg9 hb9); clear hg9 hs9 hb9) | ((with_reducible show wpList _ _ _ (Oper.mk _ (Op.load _ _) _ _ _ _ :: _) _ _); refine wpList_load_g ((rd3_ld H3.out.2).all) _ rfl rfl (by go_simp) ?_))
  have HB23 := Lib.hid (HBf.out _ H3.out.1)
  have HB3 := Lib.hid (below_step HB2.out HB23.out)
  have HZ3 := Lib.hid (blk_below HZ2.out HB23.out)
  have HRD3 := Lib.hid (HRD.out.below HB23.out)
  have HX3 := Lib.hid H3.out.2
  have HGX : Hid (g < w2.heap.size) := HGL
  have HWX : Hid (w.heap.size < w2.heap.size) := Lib.hid (blk_lt HZ2.out)
  obtain ⟨gx, hgx⟩ : ∃ gx, w2.heap.size = gx := ⟨_, rfl⟩
  rw [hgx] at HX3 HGX HWX ⊢
  clear HBf H3 HB23 HZ2 HB2 HRD HGL hgx
  refine (HD.out lo g w3 HLO.out HG.out HRD3.out HB3.out).mono ?_
  rintro e w4 ⟨hk, h⟩
  have HZ4 := Lib.hid (hk.blk_ HZ3.out (Nat.le_refl _) (by have := HG.out; omega))
  have HX4 := Lib.hid (hk.blk_ HX3.out (by have := HWX.out; omega) (by have := HGX.out; omega))
  have HS4 : Hid (w.heap.size ≤ w4.heap.size) := Lib.hid (Nat.le_trans HB3.out.size hk.size)
  clear hk
  rcases h with ⟨E, rfl, hp⟩ | ⟨rfl, ys, hr4, hp⟩
  · have HPE := Lib.hid hp
    clear hp
    go_wp2_with fail
    exact leaves11_panicking _ _ 0 E w4 rfl HZ4.out (fun w' hg => ⟨E, rfl, HP.out E w4 w' HS4.out HPE.out hg⟩)
  · have HPE := Lib.hid hp
    have HR4 := Lib.hid hr4
    clear hp hr4
    by_cases hy : ys.length = 0
    · have hp := HPE.out
      rw [if_pos hy] at hp
      have HP0 := Lib.hid hp
      have hyb : ((ys.length : Int) == 0) = true := by simpa using hy
      clear hp hy HPE
      go_upto_region 4 with fail
      refine wp_region_mix (fun w0 => Below (w4).heap.size (w4) w0) [(0, 0), (1, 0), (2, 0), (3, 0), (4, 0), (5, 2)] (by kernel_rfl) (by kernel_rfl) (below_drew1 _) ?_
      simp only [List.map_cons, List.map_nil]
      refine wpO_loadW (t := 110) (ad := ⟨gx, 0, none⟩) rfl rfl ?hw rfl rfl ((fun w0 hS => (rd3_ld (blk_below HX4.out hS)).all)) ?_
      case hw => go_simp
      iterate 1 (refine wpO_step0 rfl rfl (fun K hK => ?_); go_simp; refine hK _ _ ?_; clear hK K)
      refine wpO_loadW (t := 108) (ad := ⟨gx, 0, none⟩) rfl rfl ?hw rfl rfl ((fun w0 hS => (rd3_ld (blk_below HX4.out hS)).ptr)) ?_
      case hw => go_simp
      refine wpO_quiet rfl rfl ?hw Tryd.func99 (by kernel_rfl) (by kernel_rfl) rfl rfl (fun w0 hS => left_any g ys 0 w0 (HR4.out.below hS)) ?_
      case hw => go_simp
      iterate 1 (refine wpO_step0 rfl rfl (fun K hK => ?_); go_simp; refine hK _ _ ?_; clear hK K)
      refine wpO_step2 rfl rfl (below_drew1 _) (fun K hK => ?_)
      go_simp
      refine (need11_true g A n c bad _).mono ?_
      rintro e w5 ⟨rfl, hb5⟩
      have HV5 := Lib.hid (below_step (below_drew1 w4) hb5)
      clear hb5
      refine hK _ _ ⟨HV5.out, ?_⟩
      clear hK K
      refine wpO_nil ?_
      have HP5 := Lib.hid (HP.out 0 w4 w5 HS4.out HP0.out (grown_of_below HV5.out _))
      have HZ5 := Lib.hid (blk_below HZ4.out HV5.out)
      have HS5 := Lib.hid (Nat.le_trans HS4.out HV5.out.size)
      go_wp2_with (first | ((with_reducible show wpList _ _ _ (Oper.mk _ (Op.store _ _ _) _ _ _ _ :: _) _ _); refine wpList_store_cell HZ5.out 32 0 (.int .i64 0) (Nat.le_refl _) (by kernel_rfl) rfl rfl _ _ rfl rfl rfl rfl ?_; intro w6 hg9 hs9 hb9; have H6 := Lib.hid (And.intro hg9 (show (World.heap w6)[w.heap.size]? = some (.cells #[.int .i64 0] 32 (0, 0)) from hb9)); clear hg9 hs9 hb9))
      exact leaves11_returning _ _ 0 w6 rfl H6.out.2 ⟨0, rfl, HP.out 0 w5 w6 HS5.out HP5.out H6.out.1⟩
    · have hp := HPE.out
      rw [if_neg hy] at hp
      have HP0 := Lib.hid hp
      have hyb : ((ys.length : Int) == 0) = false := by simpa using hy
      clear hp hy HPE
      go_upto_region 4 with fail
      refine wp_region_mixp (fun w0 => Below w4.heap.size w4 w0) [catchD w.heap.size] 6 (some (.pointer (some ⟨w.heap.size, 0, none⟩))) (fun ch wx => ch = wrg bad ∧ Below w4.heap.size w4 wx) [(0, 0), (1, 0), (2, 0), (3, 0), (4, 0), (5, 2)] (by kernel_rfl) (by kernel_rfl) (by kernel_rfl) (below_drew1 _) ?_ ?_
      · rintro ch a wx ⟨h1, h2, rfl, h4⟩
        have HP5 := Lib.hid (HP.out bad w4 wx HS4.out HP0.out (grown_of_below h4 _))
        show Leaves Tryd.prog Tryd.f72 a.tmps _ a.defers (.panicking (wrg bad)) wx
        rw [h1]
        exact leaves11_panicking _ _ 0 bad wx (by simp [Array.getD_eq_getD_getElem?, h2]) (blk_below HZ4.out h4) (fun w' hg => ⟨bad, rfl, HP.out bad wx w' (Nat.le_trans HS4.out h4.size) HP5.out hg⟩)
      · simp only [List.map_cons, List.map_nil]
        refine wpO_loadW (t := 110) (ad := ⟨gx, 0, none⟩) rfl rfl ?hw rfl rfl ((fun w0 hS => (rd3_ld (blk_below HX4.out hS)).all)) ?_
        case hw => go_simp
        iterate 1 (refine wpO_step0 rfl rfl (fun K hK => ?_); go_simp; refine hK _ _ ?_; clear hK K)
        refine wpO_loadW (t := 108) (ad := ⟨gx, 0, none⟩) rfl rfl ?hw rfl rfl ((fun w0 hS => (rd3_ld (blk_below HX4.out hS)).ptr)) ?_
        case hw => go_simp
        refine wpO_quiet rfl rfl ?hw Tryd.func99 (by kernel_rfl) (by kernel_rfl) rfl rfl (fun w0 hS => left_any g ys 0 w0 (HR4.out.below hS)) ?_
        case hw => go_simp
        iterate 1 (refine wpO_step0 rfl rfl (fun K hK => ?_); go_simp; refine hK _ _ ?_; clear hK K)
        refine wpO_step2 rfl rfl (below_drew1 _) (fun K hK => ?_)
        go_simp
        refine (need11_false g A n c bad _).mono ?_
        rintro e w5 ⟨rfl, hb5⟩
        exact ⟨rfl, rfl, rfl, below_step (below_drew1 w4) hb5⟩
end Go.Proofs.YtnpeedmicjeleaaDoor

/- Layer 11 (route): what the closures of Decode and DecodeBatch keep. -/
namespace Go.Proofs.YtnpeedmicjeleaaDoor
open Go.RowKit
set_option linter.unusedVariables false
set_option linter.unusedSimpArgs false
set_option maxRecDepth 4000
theorem wpO_nilp {P : Program} {S : World → Prop} {ops : Array Oper} {N : Act → World → Prop} {R : List PanicEntry → Act → World → Prop} {cl : Nat → Nat} {a : Act} {w : World} (h : N a w) : wpO P S ops (panicOr N R) cl [] a w := h
/-- All blocks from b on but two are as they were. -/
structure KeepD (b g gt : Nat) (w1 w2 : World) : Prop where
  size : w1.heap.size ≤ w2.heap.size
  blk : ∀ h, b ≤ h → h < w1.heap.size → h ≠ g → h ≠ gt → w2.heap[h]? = w1.heap[h]?
theorem KeepD.k11 {b g gt : Nat} {w1 w2 : World} (h : KeepD b g gt w1 w2) {k : Nat} (hk : gt < k) (hb : b ≤ k) : Keep11 k g w1 w2 := ⟨h.size, fun i h1 h2 h3 => h.blk i (by omega) h2 h3 (by omega)⟩
theorem KeepD.blk_ {b g gt : Nat} {w1 w2 : World} (h : KeepD b g gt w1 w2) {k : Nat} {o : Obj} (hk : w1.heap[k]? = some o) (hb : b ≤ k) (hg : k ≠ g) (ht : k ≠ gt) : w2.heap[k]? = some o := (h.blk k hb (blk_lt hk) hg ht).trans hk
/-- What the loop bears. -/
structure DecL {α : Type} (S : Shape α) (T : TypeId) (W0 w wr : World) (g gt : Nat) (cs : Array Value) (A : Option Addr) (n c : Nat) (acc : List α) : Prop where
  bel : Below W0.heap.size W0 wr
  keep : KeepD W0.heap.size g gt w wr
  box : wr.heap[w.heap.size]? = some (.cells cs 110 (0, 0))
  tab : wr.heap[gt]? = some (.cells (tabV A n c) T (0, 0))
  own : OS S wr (w.heap.size + 1) A n c acc
section
variable {α : Type} {S : Shape α} {T : TypeId} {W0 w wr w2 : World} {g gt : Nat} {cs : Array Value} {A : Option Addr} {n c : Nat} {acc : List α}
theorem DecL.start (hB : Below W0.heap.size W0 w) (ht : w.heap[gt]? = some (.cells (tabV none 0 0) T (0, 0))) : DecL S T W0 w (w.alloc (.cells cs 110)) g gt cs none 0 0 [] := by
  have hb := below_alloc (Below.refl w.heap.size w) (.cells cs 110)
  exact ⟨below_step hB hb, ⟨hb.size, fun i _ h2 _ _ => hb.block i h2⟩, blk_new _ _, blk_below ht hb, OS.nil _ _ _⟩
theorem DecL.step (h : DecL S T W0 w wr g gt cs A n c acc) (hb : Below wr.heap.size wr w2) : DecL S T W0 w w2 g gt cs A n c acc :=
  ⟨below_step h.bel hb, ⟨Nat.le_trans h.keep.size hb.size, fun i h1 h2 h3 h4 => (hb.block i (Nat.lt_of_lt_of_le h2 h.keep.size)).trans (h.keep.blk i h1 h2 h3 h4)⟩, blk_below h.box hb, blk_below h.tab hb, h.own.below hb⟩
theorem DecL.grow (h : DecL S T W0 w wr g gt cs A n c acc) (hg : wr.grownBy w2 (some g)) (h0 : W0.heap.size ≤ g) (h1 : g < w.heap.size) (h2 : gt ≠ g) : DecL S T W0 w w2 g gt cs A n c acc :=
  ⟨below_grown h.bel hg h0, ⟨Nat.le_trans h.keep.size hg.size, fun i k1 k2 k3 k4 => (hg.block i (Nat.lt_of_lt_of_le k2 h.keep.size) (fun e => by injection e with e; exact k3 e)).trans (h.keep.blk i k1 k2 k3 k4)⟩,
    blk_grown h.box hg (fun e => by injection e with e; omega), blk_grown h.tab hg (fun e => by injection e with e; exact h2 e), h.own.grown hg (fun ad e hh => by have := h.own.base_ ad e; injection hh with hh; omega)⟩
theorem DecL.growU {u : Nat} (h : DecL S T W0 w wr g gt cs A n c acc) (hg : wr.grownBy w2 (some u)) (h1 : w.heap.size < u) (h2 : gt < w.heap.size) (h3 : W0.heap.size ≤ w.heap.size) (ha : ∀ ad, A = some ad → ad.block < u) : DecL S T W0 w w2 g gt cs A n c acc :=
  ⟨below_grown h.bel hg (by omega), ⟨Nat.le_trans h.keep.size hg.size, fun i k1 k2 k3 k4 => (hg.block i (Nat.lt_of_lt_of_le k2 h.keep.size) (fun e => by injection e with e; omega)).trans (h.keep.blk i k1 k2 k3 k4)⟩,
    blk_grown h.box hg (fun e => by injection e with e; omega), blk_grown h.tab hg (fun e => by injection e with e; omega), h.own.grown hg (fun ad e hh => by have := ha ad e; injection hh with hh; omega)⟩
theorem DecL.push {w9 w10 : World} {A' : Option Addr} {n' c' : Nat} {t' : List α} (h : DecL S T W0 w wr g gt cs A n c acc) (h2 : wr.grownBy w9 ((Value.slice A n c).ownBlock)) (h3 : w9.grownBy w10 (some gt)) (ho : OS S w9 (w.heap.size + 1) A' n' c' t') (ht : w10.heap[gt]? = some (.cells (tabV A' n' c') T (0, 0))) (hW : W0.heap.size ≤ gt) (hw : gt < w.heap.size) (hW0 : W0.heap.size ≤ w.heap.size) : DecL S T W0 w w10 g gt cs A' n' c' t' := by
  have hb := h.own.base_
  refine ⟨below_grown (below_own h.bel h2 (fun ad e => by have := hb ad e; omega)) h3 hW, ⟨Nat.le_trans h.keep.size (Nat.le_trans h2.size h3.size), fun i k1 k2 k3 k4 => ?_⟩,
    blk_grown (blk_own2 h.box h2 (fun ad e => by have := hb ad e; omega)) h3 (fun e => by injection e with e; omega), ht, ho.grown h3 (fun ad e hh => by have := ho.base_ ad e; injection hh with hh; omega)⟩
  have e1 := h2.block i (Nat.lt_of_lt_of_le k2 h.keep.size) (fun e => by
    obtain ⟨ad, x1, x2⟩ := own_of e.symm
    have := hb ad x1
    omega)
  have e2 := h3.block i (Nat.lt_of_lt_of_le k2 (Nat.le_trans h.keep.size h2.size)) (fun e => by injection e with e; exact k4 e)
  exact e2.trans (e1.trans (h.keep.blk i k1 k2 k3 k4))
end
/-- The error ahead of the whole's check. -/
def endE {α : Type} (it : List Int → Int × α × Nat) (bad : Int) (xs : List Int) : Int := if xs.length = 0 then 7 else if (decIR it xs).1 ≠ 0 then (decIR it xs).1 else if (decIR it xs).2.2.length = 0 then 0 else bad
theorem endE_none {α : Type} {it : List Int → Int × α × Nat} {bad : Int} {xs : List Int} (h : xs.length = 0) : endE it bad xs = 7 := by unfold endE; rw [if_pos h]
theorem endE_err {α : Type} {it : List Int → Int × α × Nat} {bad : Int} {xs : List Int} (h : xs.length ≠ 0) {E : Int} (he : (decIR it xs).1 = E) (h0 : E ≠ 0) : endE it bad xs = E := by unfold endE; rw [if_neg h, he, if_pos h0]
theorem endE_end {α : Type} {it : List Int → Int × α × Nat} {bad : Int} {xs ys : List Int} {acc : List α} (h : xs.length ≠ 0) (he : decIR it xs = (0, acc, ys)) : endE it bad xs = if ys.length = 0 then 0 else bad := by unfold endE; rw [if_neg h, he, if_neg (by simp)]
theorem endE_no {α : Type} {it : List Int → Int × α × Nat} {bad : Int} {ok : List α → Bool} {xs : List Int} (hb : bad ≠ 0) (h : endE it bad xs ≠ 0) : decIE it bad ok xs = endE it bad xs := by
  unfold decIE endE at *
  split
  · rfl
  · rename_i h1
    rw [if_neg h1] at h
    split
    · rfl
    · rename_i h2
      rw [if_neg h2] at h
      split
      · rename_i h3; rw [if_pos h3.1] at h; exact absurd rfl h
      · rename_i h3
        split at h
        · exact absurd rfl h
        · rename_i h4; rw [if_neg h4]
theorem endE_ok {α : Type} {it : List Int → Int × α × Nat} {bad : Int} {ok : List α → Bool} {xs : List Int} (hb : bad ≠ 0) (h : endE it bad xs = 0) : decIE it bad ok xs = if ok (decIR it xs).2.1 then 0 else bad := by
  unfold decIE endE at *
  split at h
  · cases h
  · rename_i h1
    rw [if_neg h1]
    split at h
    · rename_i h2; exact absurd h h2
    · rename_i h2
      rw [if_neg h2]
      split at h
      · rename_i h3
        cases hk : ok (decIR it xs).2.1 with
        | true => rw [if_pos ⟨h3, rfl⟩, if_pos rfl]
        | false => rw [if_neg (by simp), if_neg (by simp)]
      · exact absurd h hb
/-- What the closure leaves behind. -/
def DecQ {α : Type} (S : Shape α) (T : TypeId) (it : List Int → Int × α × Nat) (xs : List Int) (W0 w : World) (lo g gt : Nat) (e : Ending) (w' : World) : Prop :=
  Below W0.heap.size W0 w' ∧ KeepD W0.heap.size g gt w w' ∧ ((∃ E, e = .panicked (wrg E) ∧ E ≠ 0 ∧ (if xs.length = 0 then 7 else (decIR it xs).1) = E) ∨
    (e = .returned (.tuple #[]) ∧ ∃ A n c acc ys, Rdr w' lo g ys 0 ∧ xs.length ≠ 0 ∧ decIR it xs = (0, acc, ys) ∧ n ≤ 255 ∧ w'.heap[gt]? = some (.cells (tabV A n c) T (0, 0)) ∧ OS S w' (w.heap.size + 1) A n c acc))
/-- What the closure leaves by, in a round. -/
def DecC (e1 : Int) (W0 w : World) (g gt : Nat) (ch : List PanicEntry) (wx : World) : Prop := Below W0.heap.size W0 wx ∧ KeepD W0.heap.size g gt w wx ∧ ∃ E, ch = wrg E ∧ E ≠ 0 ∧ e1 = E
theorem DecL.leave {α : Type} {S : Shape α} {T : TypeId} {W0 w wr : World} {g gt : Nat} {cs : Array Value} {A : Option Addr} {n c : Nat} {acc : List α} (h : DecL S T W0 w wr g gt cs A n c acc) {e1 E : Int} (he : e1 = E) (h0 : E ≠ 0) : DecC e1 W0 w g gt (wrg E) wr := ⟨h.bel, h.keep, E, rfl, h0, he⟩
end Go.Proofs.YtnpeedmicjeleaaDoor

/- Layer 11 (route): Decode's closure. -/
namespace Go.Proofs.YtnpeedmicjeleaaDoor
open Go.RowKit
set_option linter.unusedVariables false
set_option linter.unusedSimpArgs false
set_option maxRecDepth 4000
theorem itR_7 {ys : List Int} (h : decPE ys = 7) : (itR ys).1 = 7 := by unfold itR; rw [if_pos h]
theorem itR_bad {ys : List Int} (h : decPE ys ≠ 7) (h0 : decPE ys ≠ 0) : (itR ys).1 = 211 := by unfold itR; rw [if_neg h, if_pos h0]
theorem itR_short {ys : List Int} {q : Nat} (h0 : decPE ys = 0) (hq : decPN ys = q) (h : ys.length < q + 3) : (itR ys).1 = 7 := by unfold itR; rw [if_neg (by rw [h0]; decide), if_neg (by rw [h0]; simp), if_pos (by rw [hq]; simpa using h)]
theorem itR_ok {ys : List Int} {q : Nat} (h0 : decPE ys = 0) (hq : decPN ys = q) (h : q + 3 ≤ ys.length) : itR ys = (0, ⟨decP ys, rd (ys.drop q) 0, rd ((ys.drop q).drop 1) 0, rd (((ys.drop q).drop 1).drop 1) 0⟩, q + 3) := by
  unfold itR
  rw [if_neg (by rw [h0]; decide), if_neg (by rw [h0]; simp), if_neg (by rw [hq]; simp; omega), hq, List.drop_drop, List.drop_drop, rd_drop2, rd_drop2, rd_drop2]
  rfl
set_option maxHeartbeats 8000000 in
set_option maxRecDepth 100000 in
theorem dec1_any {lo : Nat} (g gt : Nat) (A : Option Addr) (n c : Nat) (xs : List Int) (W0 w : World) (hL0 : Laid W0) (hx : RB W0 A n c xs) (hn : n ≤ 100000) (hB : Below W0.heap.size W0 w) (hr : Rdr w lo g xs 0) (hg : W0.heap.size ≤ g) (hgt : W0.heap.size ≤ gt) (hlo : gt < lo) (hne : gt < g)
    (ht : w.heap[gt]? = some (.cells (tabV none 0 0) 24 (0, 0))) :
    Calls Tryd.prog 73 #[.agg (rd3V g A n c 211), .pointer (some ⟨gt, 0, none⟩)] w fun e w' => DecQ rteK 24 itR xs W0 w lo g gt e w' := by
  have hL := hL0.below hB
  have hblk1 := blk_new w (.cells (rd3V g A n c 211) 110)
  have hbel1 : Below w.heap.size w (w.alloc (.cells (rd3V g A n c 211) 110)) := below_alloc (Below.refl _ _) _
  have HP1 := Lib.hid (rd3_at hblk1)
  have HBK1 := Lib.hid hblk1
  have HBE := Lib.hid hbel1
  have HL := Lib.hid (hL.below HBE.out)
  obtain ⟨cs1, hcs1⟩ : ∃ cs, rd3V g A n c 211 = cs := ⟨_, rfl⟩
  simp only [hcs1] at HBE HL HP1 HBK1 ⊢
  have HC1 := Lib.hid hcs1
  clear hL hcs1 hblk1 hbel1
  have HL0 := Lib.hid hL0
  have HX := Lib.hid hx
  have HLEN := Lib.hid hx.len
  have HBY := Lib.hid hr.byte
  have hgw := hr.lt
  have HD := Lib.hid (DecL.start (S := rteK) (T := 24) (W0 := W0) (w := w) (g := g) (gt := gt) (cs := cs1) hB ht)
  have HR := Lib.hid (hr.below HBE.out)
  have HBS := Lib.hid hB.size
  clear hL0 hx hr hB ht
  go_enter Tryd.func73, Tryd.ntmps73
  go_wp2_with (first | ((with_reducible show wpList _ _ _ (Oper.mk _ (Op.load _ _) _ _ _ _ :: _) _ _); refine wpList_load_g ((HP1.out.all _ (Below.refl _ _)).all) _ rfl rfl (by go_simp) ?_))
  refine (number11_any g A n c 211 xs _ HR.out).mono ?_
  rintro e w2 ⟨hg2, ⟨hz, rfl⟩ | ⟨hz, rfl, hr2⟩⟩
  · have HD2 := Lib.hid (HD.out.grow hg2 hg hgw (by omega))
    have HZ := Lib.hid hz
    clear hg2 hz
    go_wp2_with fail
    exact ⟨rfl, HD2.out.bel, HD2.out.keep, .inl ⟨7, rfl, by decide, by rw [if_pos HZ.out]⟩⟩
  · have HD2 := Lib.hid (HD.out.grow hg2 hg hgw (by omega))
    have HR2 := Lib.hid hr2
    have HZ := Lib.hid hz
    have hrx := HBY.out.getD 0
    obtain ⟨K, hK⟩ := Int.eq_ofNat_of_zero_le hrx.1
    have hK' : rd xs 0 = K := hK
    have hK1 : K < 256 := by have h1 : rd xs 0 < 256 := hrx.2; omega
    rw [hK']
    have HTR : Hid (decIR itR xs = decI itR K [] (xs.drop 1)) := Lib.hid (by unfold decIR; rw [hK']; rfl)
    have hn1 : 1 ≤ n := by have := HLEN.out; have := HZ.out; omega
    clear hg2 hr2 hz hrx hK hK' HD HR
    go_wp2_with fail
    go_loopw [5] (fun x wr => ∃ (k m : Nat) (A1 : Option Addr) (c1 : Nat) (acc : List Rte), x = .int .i64 k ∧ Hid (k ≤ K ∧ m ≤ n ∧ DecL rteK 24 W0 w wr g gt cs1 A1 k c1 acc ∧ Rdr wr lo g (xs.drop m) 0 ∧ decIR itR xs = decI itR (K - k) acc (xs.drop m))) (fun x _ => K - (intOf x).toNat)
    case atStart => exact ⟨0, 1, none, 0, [], rfl, Nat.zero_le _, hn1, HD2.out, HR2.out, HTR.out⟩
    case round =>
      obtain ⟨k, m, A1, c1, acc, rfl, HH⟩ := hrel
      obtain ⟨wk, rfl⟩ : ∃ wk, wk = wr := ⟨wr, rfl⟩
      clear HD2 HR2
      have HD := Lib.hid HH.out.2.2.1
      have HRR := Lib.hid HH.out.2.2.2.1
      by_cases hlt : k < K
      · have hlt' : (k : Int) < K := by omega
        have HLT := Lib.hid hlt
        have hmn := HH.out.2.1
        obtain ⟨ys, hys⟩ : ∃ ys, xs.drop m = ys := ⟨_, rfl⟩
        have HTE := Lib.hid HH.out.2.2.2.2
        rw [hys] at HRR HTE
        have HYS := Lib.hid hys
        have hyl : ys.length ≤ 100000 := by rw [← hys, List.length_drop, HLEN.out]; omega
        have HYL := Lib.hid hyl
        clear hys hyl HH hlt
        go_upto_region 3 with fail
        refine wp_region_mixp (fun w0 => w0.heap[gt]? = some (.cells (tabV A1 k c1) 24 (0, 0)) ∧ w0.heap[w.heap.size]? = some (.cells cs1 110 (0, 0))) [] 0 (some (.agg cs1)) (DecC (itR ys).1 W0 w g gt) [(0, 0), (1, 0), (2, 0), (4, 0), (6, 0), (8, 0), (3, 2), (5, 2), (7, 2), (9, 2), (10, 0), (11, 2), (12, 2), (13, 0), (14, 3)] (by kernel_rfl) (by kernel_rfl) (by kernel_rfl) ⟨HD.out.tab, HD.out.box⟩ ?_ ?_
        · rintro ch a wx ⟨h1, -, h2, h3, E, rfl, h5, h6⟩
          exact ⟨h1, h2, h3, .inl ⟨E, rfl, h5, by rw [if_neg HZ.out, HTE.out]; exact decI_err (by have := HLT.out; omega) h6 h5⟩⟩
        · simp only [List.map_cons, List.map_nil]
          iterate 1 (refine wpO_step0 rfl rfl (fun K hK => ?_); go_simp; refine hK _ _ ?_; clear hK K)
          refine wpO_loadW (t := 22) (ad := ⟨gt, 0, none⟩) rfl rfl ?hw rfl rfl ((fun w0 hS => ((rib_at hS.1).all _ (Below.refl _ _)).2)) ?_
          case hw => go_simp
          refine wpO_loadW (t := 110) (ad := ⟨w.heap.size, 0, none⟩) rfl rfl ?hw rfl rfl ((fun w0 hS => (rd3_ld (hS.2.trans (by rw [HC1.out]))).all)) ?_
          case hw => go_simp
          refine wpO_loadW (t := 110) (ad := ⟨w.heap.size, 0, none⟩) rfl rfl ?hw rfl rfl ((fun w0 hS => (rd3_ld (hS.2.trans (by rw [HC1.out]))).all)) ?_
          case hw => go_simp
          refine wpO_loadW (t := 110) (ad := ⟨w.heap.size, 0, none⟩) rfl rfl ?hw rfl rfl ((fun w0 hS => (rd3_ld (hS.2.trans (by rw [HC1.out]))).all)) ?_
          case hw => go_simp
          refine wpO_loadW (t := 110) (ad := ⟨w.heap.size, 0, none⟩) rfl rfl ?hw rfl rfl ((fun w0 hS => (rd3_ld (hS.2.trans (by rw [HC1.out]))).all)) ?_
          case hw => go_simp
          refine wpO_step2 rfl rfl (⟨HD.out.tab, HD.out.box⟩) (fun K hK => ?_)
          go_simp
          have HDd := Lib.hid (HD.out.step (below_drew1 wk))
          refine (prefix11_any g A n c 211 xs ys m wk.drew (HL0.out.below HDd.out.bel) (HRR.out.below (below_drew1 wk)) (HX.out.below HDd.out.bel) HYS.out hmn hn).mono ?_
          rintro e w3 ⟨hg3, ⟨h7, rfl⟩ | ⟨h7, h0, rfl⟩ | ⟨h0, rfl, hr3⟩⟩
          · exact ⟨rfl, rfl, (HDd.out.grow hg3 hg hgw (by omega)).leave (itR_7 h7) (by decide)⟩
          · exact ⟨rfl, rfl, (HDd.out.grow hg3 hg hgw (by omega)).leave (itR_bad h7 h0) (by decide)⟩
          · have HD3 := Lib.hid (HDd.out.grow hg3 hg hgw (by omega))
            have HR3 := Lib.hid hr3
            have H0 := Lib.hid h0
            obtain ⟨q, hq, hql⟩ := dec_nat HRR.out.byte h0
            have HQ := Lib.hid hq
            rw [hq, Int.toNat_natCast] at HR3
            have hp16 : B16 (decP ys).l := decP_16 HRR.out.byte
            obtain ⟨pp, hpp⟩ : ∃ pp, decP ys = pp := ⟨_, rfl⟩
            have HPP := Lib.hid hpp
            rw [hpp] at hp16 ⊢
            have hp16l := hp16.len
            obtain ⟨zs, hzs⟩ : ∃ zs, ys.drop q = zs := ⟨_, rfl⟩
            rw [hzs] at HR3
            have HZS := Lib.hid hzs
            have HZL : Hid (zs.length = ys.length - q) := Lib.hid (by rw [← hzs, List.length_drop])
            have HQL := Lib.hid hql
            clear hg3 hr3 h0 hq hpp hzs hql HDd
            refine hK _ _ ⟨⟨HD3.out.tab, HD3.out.box⟩, ?_⟩
            clear hK K
            refine wpO_step2 rfl rfl (⟨HD3.out.tab, HD3.out.box⟩) (fun K hK => ?_)
            go_simp
            refine (number11_any g A n c 211 zs w3 HR3.out).mono ?_
            rintro e w4 ⟨hg4, ⟨hz, rfl⟩ | ⟨hz, rfl, hr4⟩⟩
            · exact ⟨rfl, rfl, (HD3.out.grow hg4 hg hgw (by omega)).leave (itR_short H0.out HQ.out (by have := HZL.out; have := HQL.out; omega)) (by decide)⟩
            · have HD4 := Lib.hid (HD3.out.grow hg4 hg hgw (by omega))
              have HR4 := Lib.hid hr4
              have HZ4 := Lib.hid hz
              have hs1 : 0 ≤ rd zs 0 ∧ rd zs 0 < 256 := HR3.out.byte.getD 0
              obtain ⟨s, hs⟩ : ∃ s, rd zs 0 = s := ⟨_, rfl⟩
              rw [hs] at hs1 ⊢
              have HS := Lib.hid hs
              clear hg4 hr4 hz hs
              refine hK _ _ ⟨⟨HD4.out.tab, HD4.out.box⟩, ?_⟩
              clear hK K
              refine wpO_step2 rfl rfl (⟨HD4.out.tab, HD4.out.box⟩) (fun K hK => ?_)
              go_simp
              refine (number11_any g A n c 211 (zs.drop 1) w4 HR4.out).mono ?_
              rintro e w5 ⟨hg5, ⟨hz, rfl⟩ | ⟨hz, rfl, hr5⟩⟩
              · exact ⟨rfl, rfl, (HD4.out.grow hg5 hg hgw (by omega)).leave (itR_short H0.out HQ.out (by rw [List.length_drop] at hz; have := HZL.out; have := HQL.out; omega)) (by decide)⟩
              · have HD5 := Lib.hid (HD4.out.grow hg5 hg hgw (by omega))
                have HR5 := Lib.hid hr5
                have HZ5 := Lib.hid hz
                have hf1 : 0 ≤ rd (zs.drop 1) 0 ∧ rd (zs.drop 1) 0 < 256 := HR4.out.byte.getD 0
                obtain ⟨f, hf⟩ : ∃ f, rd (zs.drop 1) 0 = f := ⟨_, rfl⟩
                rw [hf] at hf1 ⊢
                have HF := Lib.hid hf
                clear hg5 hr5 hz hf
                refine hK _ _ ⟨⟨HD5.out.tab, HD5.out.box⟩, ?_⟩
                clear hK K
                refine wpO_step2 rfl rfl (⟨HD5.out.tab, HD5.out.box⟩) (fun K hK => ?_)
                go_simp
                refine (number11_any g A n c 211 ((zs.drop 1).drop 1) w5 HR5.out).mono ?_
                rintro e w6 ⟨hg6, ⟨hz, rfl⟩ | ⟨hz, rfl, hr6⟩⟩
                · exact ⟨rfl, rfl, (HD5.out.grow hg6 hg hgw (by omega)).leave (itR_short H0.out HQ.out (by rw [List.length_drop, List.length_drop] at hz; have := HZL.out; have := HQL.out; omega)) (by decide)⟩
                · have HD6 := Lib.hid (HD5.out.grow hg6 hg hgw (by omega))
                  have HR6 := Lib.hid hr6
                  have hh1 : 0 ≤ rd ((zs.drop 1).drop 1) 0 ∧ rd ((zs.drop 1).drop 1) 0 < 256 := HR5.out.byte.getD 0
                  have HIT : Hid (itR ys = (0, ⟨pp, s, f, rd ((zs.drop 1).drop 1) 0⟩, q + 3)) := Lib.hid (by
                    rw [itR_ok H0.out HQ.out (by rw [List.length_drop, List.length_drop] at hz; have := HZL.out; omega), HZS.out, HPP.out, HS.out, HF.out])
                  have HLQ : Hid (q + 3 ≤ ys.length) := Lib.hid (by rw [List.length_drop, List.length_drop] at hz; have := HZL.out; omega)
                  obtain ⟨h, hh⟩ : ∃ h, rd ((zs.drop 1).drop 1) 0 = h := ⟨_, rfl⟩
                  rw [hh] at hh1 HIT ⊢
                  clear hg6 hr6 hz hh HD3 HD4 HD5 HR3 HR4 HR5
                  refine hK _ _ ⟨⟨HD6.out.tab, HD6.out.box⟩, ?_⟩
                  clear hK K
                  refine wpO_step0 rfl rfl (fun K hK => ?_)
                  rw [if_pos (show Region.wanted _ _ = true from rfl)]
                  refine ⟨_, fun w0 => exec_build4 rfl rfl rfl rfl rfl (run_build_rte w0 pp s f h hp16l), hK _ _ ?_⟩
                  clear hK K
                  refine wpO_step2 rfl rfl (⟨HD6.out.tab, HD6.out.box⟩) (fun K hK => ?_)
                  rw [if_pos (show Region.wanted _ _ = true from rfl)]
                  have HFIT : Hid ((⟨pp, s, f, h⟩ : Rte).fits) := Lib.hid hp16
                  refine oper_exec (exec_lit1 rteK (x := .tmp 17) rfl ⟨pp, s, f, h⟩ rfl HFIT.out (by show 21 ≤ _; omega) _) ?_
                  have HD8 := Lib.hid (HD6.out.step (below_alloc (Below.refl _ _) (.cells (rteK.enc ⟨pp, s, f, h⟩).toArray rteK.t)))
                  have HR8 := Lib.hid (HR6.out.below (below_alloc (Below.refl _ _) (.cells (rteK.enc ⟨pp, s, f, h⟩).toArray rteK.t)))
                  refine hK _ _ ⟨⟨HD8.out.tab, HD8.out.box⟩, ?_⟩
                  clear hK K
                  refine wpO_step2 rfl rfl (⟨HD8.out.tab, HD8.out.box⟩) (fun K hK => ?_)
                  rw [if_pos (show Region.wanted _ _ = true from rfl)]
                  refine oper_append_shp (S := rteK) (.tmp 8) (.tmp 18) rfl rfl rfl HD8.out.own (OS.one rteK w6 0 ⟨pp, s, f, h⟩ (Nat.zero_le _) HFIT.out).reads (by have := blk_lt HD6.out.box; simp; omega) (by omega) ?_
                  intro A9 c9 w9 h1 h2 h3
                  have hA8 := HD8.out.own.base_
                  have HT9 := Lib.hid (blk_own2 HD8.out.tab h2 (fun ad e => by have := hA8 ad e; omega))
                  have HX9 := Lib.hid (blk_own2 HD8.out.box h2 (fun ad e => by have := hA8 ad e; omega))
                  have H9 := Lib.hid (And.intro h1 h2)
                  clear h1 h2 h3
                  refine hK _ _ ⟨⟨HT9.out, HX9.out⟩, ?_⟩
                  clear hK K
                  iterate 1 (refine wpO_step0 rfl rfl (fun K hK => ?_); go_simp; refine hK _ _ ?_; clear hK K)
                  refine wpO_step3 rfl rfl (fun K hK => ?_)
                  rw [if_pos (show Region.wanted _ _ = true from rfl)]
                  refine oper_store_cell HT9.out 22 0 (.slice A9 (k + 1) c9) (Nat.le_refl _) (by kernel_rfl) rfl rfl _ _ rfl rfl rfl ?_
                  intro wa hga hsa hta
                  have HDa := Lib.hid (HD8.out.push H9.out.2 hga H9.out.1 hta hgt (by omega) HBS.out)
                  have HRa := Lib.hid ((HR8.out.grown H9.out.2 (fun b e => by
                    obtain ⟨ad, e1, e2⟩ := own_of e
                    have := hA8 ad e1
                    omega)).grown hga (fun b e => by injection e with e; omega))
                  clear hga hsa hta H9 HT9 HX9 HD8 HD6 HR8 HR6 hA8
                  refine hK _ _ ?_
                  clear hK K
                  refine wpO_nilp ?_
                  go_wp2_with fail
                  go_roundw
                  case measure => simp [intOf]; omega
                  case rel =>
                    have hst := decI_step HLT.out HIT.out (acc := acc)
                    have hdr : ((zs.drop 1).drop 1).drop 1 = xs.drop (m + (q + 3)) := by rw [← HZS.out, ← HYS.out, List.drop_drop, List.drop_drop, List.drop_drop, List.drop_drop]
                    have hdr2 : ys.drop (q + 3) = xs.drop (m + (q + 3)) := by rw [← HYS.out, List.drop_drop]
                    rw [hdr2] at hst
                    have hRa := HRa.out
                    rw [hdr] at hRa
                    have hml : m + (q + 3) ≤ n := by have h1 := HLQ.out; have h2 := HYS.out; have h3 := HLEN.out; have h4 : ys.length = n - m := by rw [← h2, List.length_drop, h3]
                                                     omega
                    exact ⟨k + 1, m + (q + 3), A9, c9, acc ++ [⟨pp, s, f, h⟩], by go_num, HLT.out, hml, HDa.out, hRa, HTE.out.trans hst⟩
      · obtain rfl : k = K := by have := HH.out.1; omega
        have HTE := Lib.hid HH.out.2.2.2.2
        rw [Nat.sub_self, decI] at HTE
        have hlt' : decide (k < k) = false := decide_eq_false hlt
        clear HH hlt
        go_wp2_with fail
        go_end0
        exact ⟨HD.out.bel, HD.out.keep, .inr ⟨rfl, A1, k, c1, acc, xs.drop m, HRR.out, HZ.out, HTE.out, by omega, HD.out.tab, HD.out.own⟩⟩
end Go.Proofs.YtnpeedmicjeleaaDoor

/- A region that draws its order, where two operations that act may stand in either order, and that may end in a panic. -/
namespace Go.Proofs.YtnpeedmicjeleaaDoor
open Go.RowKit
set_option linter.unusedVariables false
set_option linter.unusedSimpArgs false
set_option maxRecDepth 4000
section
variable {P : Program} {S : World → Prop} {ops : Array Oper} {md : Region.Mode} {cl : Nat → Nat} {R : List PanicEntry → Act → World → Prop}
theorem notOutp (X : Act → World → Prop) : ¬ LetsOut (panicOr X R) := fun ⟨_, _, h⟩ => h
theorem wpOp_panic {X Y K : Act → World → Prop} {i : Nat} {a : Act} {w : World} (h : wpOp P ops (panicOr X R) i K a w) : wpOp P ops (panicOr Y R) i K a w := by
  unfold wpOp at *
  cases hi : ops[i]? with
  | none => rw [hi] at h; exact h
  | some o =>
    rw [hi] at h
    simp only at h ⊢
    split
    · rename_i hw
      rw [if_pos hw] at h
      rcases h with h | ⟨_, h⟩
      · refine .inl ?_
        unfold Oper.wp at *
        generalize (execOp a.eval o).run P w = r at *
        cases r with
        | ok n w' =>
          cases n <;> simp only [Oper.upon] at h ⊢
          case value u => exact h
          case skip => exact h
          case defer d => exact h
          case enter f args =>
            refine Calls.mono h fun e w'' he => ?_
            cases e with
            | returned u => exact he
            | panicked c => exact he
            | outgrown => exact (notOutp _ he).elim
          case row row args => exact h
        | halt x w' =>
          cases x <;> simp only [Oper.upon] at h ⊢
          case panic u => exact h
      · exact (notOutp _ h).elim
    · rename_i hw
      rw [if_neg hw] at h
      exact h
theorem mOp_panic {X Y K K' : Act → World → Prop} {i : Nat} {a : Act} {w : World} (hk : ∀ a w, K a w → K' a w) (h : mOp P S ops (panicOr X R) cl i K a w) : mOp P S ops (panicOr Y R) cl i K' a w := by
  refine mOp_mono hk ?_
  unfold mOp at *
  cases hi : ops[i]? with
  | none => rw [hi] at h; exact h
  | some o =>
    rw [hi] at h
    simp only at h ⊢
    split at h
    · exact h
    · exact h
    · exact wpOp_panic h
    · exact h
    · exact wpOp_panic h

def wpFp (P : Program) (S : World → Prop) (ops : Array Oper) (cl : Nat → Nat) (R : List PanicEntry → Act → World → Prop) (K : Act → World → Prop) : OrdT → Act → World → Prop
  | .lin l, a, w => wpO P S ops (panicOr K R) cl l a w
  | .fork l i j r s, a, w => wpO P S ops (panicOr (fun a w => wpO P S ops (panicOr (wpFp P S ops cl R K r) R) cl [i] a w ∧ wpO P S ops (panicOr (wpFp P S ops cl R K s) R) cl [j] a w) R) cl l a w
theorem wpM_prefixp (hf : Fin md ops cl) (hs : Region.noSelect ops = true) (hQ : ∀ (i : Nat) (o : Oper), ops[i]? = some o → ∀ c v a w, R c (a.put o.dst v) w → R c a w) {X K : Act → World → Prop} {n : Nat} : ∀ (l : List Nat) (listed : Array Bool) (a : Act) (w : World), Closed md ops listed → ordP md ops cl l listed = true →
    wpO P S ops (panicOr X R) cl l a w → (∀ a w, Closed md ops (afterL l listed) → X a w → wpM P S md ops (panicOr K R) cl n (afterL l listed) a w) → wpM P S md ops (panicOr K R) cl (n + l.length) listed a w
  | [], listed, a, w, hcl, _, h, hX => hX a w hcl h
  | i :: l, listed, a, w, hcl, hB, h, hX => by
    simp only [ordP, Bool.and_eq_true] at hB
    obtain ⟨hB1, hB2⟩ := hB
    simp only [wpO] at h
    have h0 := h
    have hX' : ∀ a w, Closed md ops (afterL l (listed.setIfInBounds i true)) → X a w → wpM P S md ops (panicOr K R) cl n (afterL l (listed.setIfInBounds i true)) a w := fun a w hc hx => hX a w hc hx
    show wpM P S md ops (panicOr K R) cl (n + l.length + 1) listed a w
    unfold mOp at h
    split at hB1
    · rename_i hc
      simp only [Bool.and_eq_true, List.contains_iff_mem] at hB1
      obtain ⟨_, oi, hoi, _⟩ := mem_ready.1 hB1.1
      rw [hoi] at h
      simp only [hc] at h
      obtain ⟨v, hy, hk⟩ := h
      exact wpM_first0 hf hoi hc (Region.noSelect_spec hs) (fun c a w => hQ i oi hoi c v a w) (n + l.length) listed a w hcl (Region.free_spec hoi hB1.2) hB1.1 hy (wpM_prefixp hf hs hQ l _ _ w (hcl.set hB1.1) hB2 hk hX')
    · rename_i hc
      simp only [Bool.and_eq_true, List.contains_iff_mem, List.all_eq_true, List.mem_range, Bool.or_eq_true, beq_iff_eq] at hB1
      obtain ⟨_, oi, hoi, _⟩ := mem_ready.1 hB1.1.1
      rw [hoi] at h
      simp only [hc] at h
      obtain ⟨v, hy, hk⟩ := h
      refine wpM_first1 (N := ops.size) hoi hc (Region.noSelect_spec hs) (n + l.length) listed a hcl (fun j oj hj hun => ?_) (Region.free_spec hoi hB1.1.2) hB1.1.1 hy (wpM_prefixp hf hs hQ l _ _ w (hcl.set hB1.1.1) hB2 hk hX')
      have := hB1.2 j (Array.getElem?_eq_some_iff.1 hj).1
      rw [hun] at this
      simpa [or_assoc] using this
    · rename_i hc
      simp only [Bool.and_eq_true, List.contains_iff_mem] at hB1
      obtain ⟨_, oi, hoi, _⟩ := mem_ready.1 hB1.1
      rw [hoi] at h
      simp only [hc] at h
      obtain ⟨v, hy, hk⟩ := h
      exact wpM_first4 hoi hc (Region.noSelect_spec hs) (fun c a w => hQ i oi hoi c v a w) (n + l.length) listed a w hcl (Region.free_spec hoi hB1.2) hB1.1 hy (wpM_prefixp hf hs hQ l _ _ w (hcl.set hB1.1) hB2 hk hX')
    · simp only [beq_iff_eq] at hB1
      have hr : i ∈ Region.ready md ops listed := by rw [hB1]; exact List.mem_singleton.2 rfl
      exact wpM_only hB1 (mOp_panic (fun a' w' h' => wpM_prefixp hf hs hQ l _ a' w' (hcl.set hr) hB2 h' hX') h0)
theorem wpM_of_wpFp (hf : Fin md ops cl) (hs : Region.noSelect ops = true) (hQ : ∀ (i : Nat) (o : Oper), ops[i]? = some o → ∀ c v a w, R c (a.put o.dst v) w → R c a w) {K : Act → World → Prop} : ∀ (t : OrdT) (listed : Array Bool) (a : Act) (w : World), Closed md ops listed → ordF md ops cl t listed = true → wpFp P S ops cl R K t a w →
    wpM P S md ops (panicOr K R) cl t.len listed a w
  | .lin l, listed, a, w, hcl, hB, h => wpM_of_wpOq hf hs (fun i o hi c v a w h => hQ i o hi c v a w h) l listed a w hcl hB h
  | .fork l i j r s, listed, a, w, hcl, hB, h => by
    simp only [ordF, Bool.and_eq_true, decide_eq_true_eq, beq_iff_eq] at hB
    obtain ⟨⟨⟨⟨h1, h2⟩, h3⟩, h4⟩, h5⟩ := hB
    show wpM P S md ops (panicOr K R) cl (l.length + (r.len + 1)) listed a w
    rw [Nat.add_comm]
    refine wpM_prefixp hf hs hQ l listed a w hcl h1 h (fun a w hc hx => ?_)
    refine ⟨fun h => (by rw [h2] at h; cases h), fun k hk => ?_⟩
    have hri : i ∈ Region.ready md ops (afterL l listed) := by rw [h2]; simp
    have hrj : j ∈ Region.ready md ops (afterL l listed) := by rw [h2]; simp
    rw [h2] at hk
    rcases List.mem_cons.1 hk with rfl | hk
    · exact mOp_panic (fun a' w' h' => wpM_of_wpFp hf hs hQ r _ a' w' (hc.set hri) h4 h') hx.1
    · rw [List.mem_singleton] at hk
      subst hk
      exact mOp_panic (fun a' w' h' => by rw [h3]; exact wpM_of_wpFp hf hs hQ s _ a' w' (hc.set hrj) h5 h') hx.2
end
theorem wp_region_forkp {P : Program} (S : World → Prop) (D : List Deferred) (k : Nat) (V : Option Value) (C : List PanicEntry → World → Prop) {ops : Array Oper} {id : Nat} {Q : Exit → Act → World → Prop} {a : Act} {w : World} (t : OrdT) (l : List (Nat × Nat)) (hm : P.follows .mixedOrders = true)
    (hB : (finB .any ops l && Region.noSelect ops && decide (t.len = ops.size) && ordF .any ops (clOf l) t (Array.replicate ops.size false)) = true)
    (hk : ops.toList.all (fun o => o.dst != some k) = true)
    (hS : S w.drew) (hR : ∀ c a w, panicAt D k V C c a w → Q (.panic c) a w) (h : wpFp P S ops (clOf l) (panicAt D k V C) (Q .normal) t a w.drew) : (Code.region id ops true).wp P Q a w := by
  simp only [Bool.and_eq_true, decide_eq_true_eq] at hB
  refine wp_mono (Q := panicOr (Q .normal) (panicAt D k V C)) (wp_region_any hm (wpAny_of_wpM (S := S) (cl := clOf l) (fin_of hB.1.1.1) _ _ _ _ (Closed.start _) hS ?_)) (fun e a w hq => ?_)
  · have := wpM_of_wpFp (P := P) (S := S) (md := .any) (R := panicAt D k V C) (cl := clOf l) (fin_of hB.1.1.1) hB.1.1.2 (fun i o hi c v a w h => by
      have hne : o.dst ≠ some k := by
        have h3 := List.all_eq_true.1 hk o (List.mem_of_getElem? (i := i) (by rw [Array.getElem?_toList]; exact hi))
        simpa using h3
      unfold panicAt at h
      rw [put_defersP, put_slotP _ hne] at h
      exact h) t (Array.replicate ops.size false) a w.drew (Closed.start _) hB.2 h
    rw [hB.1.2] at this
    exact this
  · cases e <;> first | exact hq | exact hq.elim | exact hR _ _ _ hq
end Go.Proofs.YtnpeedmicjeleaaDoor
