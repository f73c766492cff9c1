/- Layer 11 (route): lay, and the closures of Encode and EncodeBatch. -/
import Derived.Test.YtifejiclenpfoaaDoorClientPlaysB
import Derived.Test.YtifejiclenpfoaaDoorClientPlaysC
namespace Go.Proofs.YtifejiclenpfoaaDoor
open Go.RowKit
set_option linter.unusedVariables false
set_option linter.unusedSimpArgs false
set_option maxRecDepth 4000
/-- What stays where bytes have been put behind a slice of one's own. -/
structure LayK (w w' : World) (A : Option Addr) : Prop where
  bel : ∀ w0, Below w0.heap.size w0 w → (∀ ad, A = some ad → w0.heap.size ≤ ad.block) → Below w0.heap.size w0 w'
  blk : ∀ g o, w.heap[g]? = some o → (∀ ad, A = some ad → ad.block ≠ g) → w'.heap[g]? = some o
  size : w.heap.size ≤ w'.heap.size
theorem LayK.of {w w1 w2 : World} {A : Option Addr} {n c : Nat} (hb : Below w.heap.size w w1) (hg : w1.grownBy w2 ((Value.slice A n c).ownBlock)) : LayK w w2 A :=
  ⟨fun w0 h ha => below_own (below_step h hb) hg ha, fun g o h hne => blk_ownN (blk_below h hb) hg hne, Nat.le_trans hb.size hg.size⟩
theorem rb_blk {w : World} {g : Nat} {t : TypeId} {xs : List Int} (h : w.heap[g]? = some (.cells (nums .u8 xs).toArray t (0, 0))) (hn : xs.length ≤ 1000) (hx : Bytes xs) : RB w (some ⟨g, 0, none⟩) xs.length xs.length xs :=
  ⟨⟨by rw [nums_length]; omega, Nat.le_refl _, by omega, fun _ => ⟨_, rfl, fun j v hj => by
    rw [add_plain, blk_cell h]
    simpa using hj⟩⟩, hx⟩
theorem encPE_len {p : Pfx} (hp : B16 p.l) : (encPE p).length ≤ 18 := by
  unfold encPE
  split
  · rename_i h
    obtain ⟨b, hb, _, h2⟩ := right_b h
    have h1 := fullB_le h2
    rw [encP_len hp h, hb]
    omega
  · simp
set_option maxHeartbeats 1000000 in
theorem lay_any (p : Pfx) (A : Option Addr) (n c : Nat) (xs : List Int) (base : Nat) (w : World) (hL : Laid w) (hp : B16 p.l) (ho : OB w base A n c xs) (hbs : base ≤ w.heap.size) (hn : n ≤ 100000) :
    Calls Tryd.prog 102 #[.slice A n c, .agg (pfxV p.v p.l p.b)] w fun e w' => ∃ A' n' c', e = .returned (.slice A' n' c') ∧ OB w' base A' n' c' (xs ++ encPE p) ∧ n' ≤ n + 18 ∧ (A' = A ∨ ∀ ad, A' = some ad → w.heap.size ≤ ad.block) ∧ LayK w w' A := by
  have hblk1 := blk_new w (.cells (pfxV p.v p.l p.b) 102)
  have hbel1 : Below w.heap.size w (w.alloc (.cells (pfxV p.v p.l p.b) 102)) := below_alloc (Below.refl _ _) _
  have HP1 := Lib.hid (pfx_at hp hblk1)
  have HBK1 := Lib.hid hblk1
  have HBE := Lib.hid hbel1
  have HL := Lib.hid (hL.below HBE.out)
  obtain ⟨cs1, hcs1⟩ : ∃ cs, pfxV p.v p.l p.b = cs := ⟨_, rfl⟩
  simp only [hcs1] at HBE HL HP1 HBK1 ⊢
  have HC1 := Lib.hid hcs1
  clear hL hcs1 hblk1 hbel1
  have HO := Lib.hid (ho.below HBE.out)
  clear ho
  go_enter Tryd.func102, Tryd.ntmps102
  go_wp2_with (first | ((with_reducible show wpList _ _ _ (Oper.mk _ (Op.load _ _) _ _ _ _ :: _) _ _); refine wpList_load_g ((HP1.out.all _ (Below.refl _ _)).2.2.2.2) _ rfl rfl (by go_simp) ?_))
  refine (encode_any p _ HL.out hp).mono ?_
  rintro e w2 ⟨A2, n2, c2, rfl, hO2, hb2⟩
  have hn2 : n2 ≤ 18 := by rw [← hO2.len]; exact encPE_len hp
  have HO2 := Lib.hid hO2.reads
  have HB2 := Lib.hid (below_step HBE.out hb2)
  have HO3 := Lib.hid (HO.out.below hb2)
  have hs2 : base ≤ w2.heap.size := Nat.le_trans hbs HB2.out.size
  clear hO2 hb2 HO
  go_wp2_with (first | (at_builtin; refine wpList_append_bytes rfl (.tmp 12) (.tmp 13) rfl rfl rfl HO3.out HO2.out hs2 (by omega) ?_; intro A3 c3 w3 h1 h2 h3; have H3 := Lib.hid (And.intro h1 (And.intro h2 h3)); clear h1 h2 h3))
  go_ret
  refine ⟨A3, n + n2, c3, rfl, H3.out.1, by omega, ?_, LayK.of HB2.out H3.out.2.1⟩
  rcases H3.out.2.2 with h | h
  · exact .inl h
  · exact .inr (fun ad e => Nat.le_trans HB2.out.size (h ad e))
theorem LayK.step {w w1 w2 : World} {A : Option Addr} (h : LayK w w1 A) (hb : Below w1.heap.size w1 w2) : LayK w w2 A :=
  ⟨fun w0 h0 ha => below_step (h.bel w0 h0 ha) hb, fun g o hg hne => blk_below (h.blk g o hg hne) hb, Nat.le_trans h.size hb.size⟩
theorem LayK.pre {w w1 w2 : World} {A : Option Addr} (hb : Below w.heap.size w w1) (h : LayK w1 w2 A) : LayK w w2 A :=
  ⟨fun w0 h0 ha => h.bel w0 (below_step h0 hb) ha, fun g o hg hne => h.blk g o (blk_below hg hb) hne, Nat.le_trans hb.size h.size⟩
theorem LayK.app {w w1 w2 : World} {A A2 : Option Addr} {n c : Nat} (h : LayK w w1 A) (ha : A2 = A ∨ ∀ ad, A2 = some ad → w.heap.size ≤ ad.block) (hg : w1.grownBy w2 ((Value.slice A2 n c).ownBlock)) : LayK w w2 A := by
  refine ⟨fun w0 h0 hA => below_own (h.bel w0 h0 hA) hg (fun ad e => ?_), fun g o hgo hne => blk_ownN (h.blk g o hgo hne) hg (fun ad e => ?_), Nat.le_trans h.size hg.size⟩
  · rcases ha with k | k
    · exact hA ad (k ▸ e)
    · exact Nat.le_trans h0.size (k ad e)
  · rcases ha with k | k
    · exact hne ad (k ▸ e)
    · have h1 := k ad e
      have h2 := blk_lt hgo
      omega
theorem LayK.refl (w : World) (A : Option Addr) : LayK w w A := ⟨fun _ h _ => h, fun _ _ h _ => h, Nat.le_refl _⟩
theorem u8w (y : Int) : IntKind.u8.wrap y = y % 256 := by simp [IntKind.wrap, IntKind.bits, IntKind.signed]
def goneB (g : Bool) : Int := if g then 1 else 0
def encUp (x : Upd) : List Int := encPE x.p ++ [x.s % 256, goneB x.g, x.f % 256, x.h % 256]
set_option maxHeartbeats 4000000 in
theorem enc2_any (x : Upd) (A : Option Addr) (n c : Nat) (xs : List Int) (base : Nat) (w : World) (hL : Laid w) (hx : x.fits) (ho : OB w base A n c xs) (hbs : base ≤ w.heap.size) (hn : n ≤ 100000) :
    Calls Tryd.prog 101 #[.slice A n c, .agg (updV x)] w fun e w' => ∃ A' n' c', e = .returned (.slice A' n' c') ∧ OB w' base A' n' c' (xs ++ encUp x) ∧ n' ≤ n + 22 ∧ (A' = A ∨ ∀ ad, A' = some ad → w.heap.size ≤ ad.block) ∧ LayK w w' A := by
  have HLT := Lib.hid ho.lt
  have hblk1 := blk_new w (.cells (updV x) 104)
  have hbel1 : Below w.heap.size w (w.alloc (.cells (updV x) 104)) := below_alloc (Below.refl _ _) _
  have HP1 := Lib.hid (upd_at hx hblk1)
  have HBK1 := Lib.hid hblk1
  have HBE := Lib.hid hbel1
  have HL := Lib.hid (hL.below HBE.out)
  obtain ⟨cs1, hcs1⟩ : ∃ cs, updV x = cs := ⟨_, rfl⟩
  simp only [hcs1] at HBE HL HP1 HBK1 ⊢
  have HC1 := Lib.hid hcs1
  clear hL hcs1 hblk1 hbel1
  have HO := Lib.hid ((ho.below HBE.out).below (below_drew1 _))
  have HBD := Lib.hid (below_step HBE.out (below_drew1 _))
  have HS := Lib.hid (show ((w.alloc (.cells cs1 104)).drew).heap[w.heap.size]? = some (.cells (updV x) 104 (0, 0)) by rw [HC1.out]; exact HBK1.out)
  have hsz : ((w.alloc (.cells cs1 104)).drew).heap.size = w.heap.size + 1 := by simp
  clear ho
  go_enter Tryd.func101, Tryd.ntmps101
  cases hg : x.g with
  | true =>
    have HGB : Hid (goneB x.g = 1) := Lib.hid (by rw [hg]; rfl)
    have HM : Hid (Bytes [x.s % 256, 1, x.f % 256, x.h % 256]) := Lib.hid (fun y hy => by
      simp only [List.mem_cons, List.not_mem_nil, or_false] at hy
      rcases hy with rfl | rfl | rfl | rfl <;> omega)
    have hgl := (HP1.out.all _ (Below.refl _ _)).gon
    rw [hg] at hgl
    clear hg
    go_upto_region 4 with (first | ((with_reducible show wpList _ _ _ (Oper.mk _ (Op.load _ _) _ _ _ _ :: _) _ _); refine wpList_load_g hgl _ rfl rfl (by go_simp) ?_))
    clear hgl
    refine wp_region_fork ((fun w0 => w0.heap[w.heap.size]? = some (.cells (updV x) 104 (0, 0)))) (OrdT.fork [0, 1, 2, 4, 5, 6, 7, 8, 9, 10, 11, 12, 13] 3 14 (OrdT.lin [14, 15, 16]) (OrdT.lin [3, 15, 16])) [(0, 0), (1, 0), (2, 0), (3, 2), (4, 0), (5, 0), (6, 0), (7, 0), (8, 0), (9, 0), (10, 0), (11, 0), (12, 0), (13, 0), (14, 2), (15, 2), (16, 0)] (by kernel_rfl) (by kernel_rfl) (HS.out) ?_
    simp only [wpF]
    iterate 2 (refine wpO_step0 rfl rfl (fun K hK => ?_); go_simp; refine hK _ _ ?_; clear hK K)
    refine wpO_loadW (t := 102) (ad := ⟨w.heap.size, 0, none⟩) rfl rfl ?hw rfl rfl ((fun w0 hS => ((upd_at hx hS).all _ (Below.refl _ _)).pfx)) ?_
    case hw => go_simp
    iterate 1 (refine wpO_step0 rfl rfl (fun K hK => ?_); go_simp; refine hK _ _ ?_; clear hK K)
    refine wpO_loadW (t := 3) (ad := ⟨w.heap.size, 18, none⟩) rfl rfl ?hw rfl rfl ((fun w0 hS => ((upd_at hx hS).all _ (Below.refl _ _)).src)) ?_
    case hw => go_simp
    iterate 3 (refine wpO_step0 rfl rfl (fun K hK => ?_); go_simp; refine hK _ _ ?_; clear hK K)
    refine wpO_loadW (t := 3) (ad := ⟨w.heap.size, 20, none⟩) rfl rfl ?hw rfl rfl ((fun w0 hS => ((upd_at hx hS).all _ (Below.refl _ _)).prf)) ?_
    case hw => go_simp
    iterate 2 (refine wpO_step0 rfl rfl (fun K hK => ?_); go_simp; refine hK _ _ ?_; clear hK K)
    refine wpO_loadW (t := 3) (ad := ⟨w.heap.size, 21, none⟩) rfl rfl ?hw rfl rfl ((fun w0 hS => ((upd_at hx hS).all _ (Below.refl _ _)).hop)) ?_
    case hw => go_simp
    iterate 1 (refine wpO_step0 rfl rfl (fun K hK => ?_); go_simp; refine hK _ _ ?_; clear hK K)
    refine wpO_nil ⟨?_, ?_⟩
    · refine wpO_step2 rfl rfl (HS.out) (fun K hK => ?_)
      go_simp
      refine (lay_any x.p A n c xs base _ (HL.out.below (below_drew1 _)) hx HO.out (by omega) hn).mono ?_
      rintro e w2 ⟨A2, n2, c2, rfl, hO2, hn2, hA2, hK2⟩
      have HO2 := Lib.hid hO2
      have HA2 : Hid (A2 = A ∨ ∀ ad, A2 = some ad → w.heap.size + 1 ≤ ad.block) := Lib.hid (hA2.imp id (fun k ad e => Nat.le_trans (by omega) (k ad e)))
      have HK2 := Lib.hid (LayK.pre HBD.out hK2)
      have HS2 := Lib.hid (hK2.blk _ _ HS.out (fun ad e => by have := HLT.out ad e; omega))
      try replace HLB := Lib.hid (hK2.blk _ _ HLB.out (fun ad e => by have := HLT.out ad e; omega))
      have hz2 := hK2.size
      clear hO2 hA2 hK2
      refine hK _ _ ⟨HS2.out, ?_⟩
      clear hK K
      refine wpO_nil ?_
      rw [u8w x.s, u8w x.f, u8w x.h]
      refine wpO_step2 rfl rfl (HS2.out) (fun K hK => ?_)
      go_simp
      obtain ⟨w3, hw9⟩ : ∃ w9, World.alloc w2 (.cells (nums .u8 [x.s % 256, 1, x.f % 256, x.h % 256]).toArray 5) = w9 := ⟨_, rfl⟩
      have HLB := Lib.hid (show (World.heap w3)[(World.heap w2).size]? = some (.cells (nums .u8 [x.s % 256, 1, x.f % 256, x.h % 256]).toArray 5 (0, 0)) from hw9 ▸ blk_new _ _)
      have ha9 : Below (World.heap w2).size w2 w3 := hw9 ▸ below_alloc (Below.refl _ _) _
      have HS3 := Lib.hid (blk_below HS2.out ha9)
      have HB9 := Lib.hid ha9
      refine kw_cast hw9 ?_
      have hz9 := ha9.size
      clear hw9 ha9
      refine hK _ _ ⟨HS3.out, ?_⟩
      clear hK K
      have HO3 := Lib.hid (HO2.out.below HB9.out)
      have HK3 := Lib.hid (LayK.step HK2.out HB9.out)
      refine wpO_step2 rfl rfl (HS3.out) (fun K hK => ?_)
      rw [if_pos (show Region.wanted _ _ = true from rfl)]
      refine oper_append_bytes (.tmp 11) (.tmp 22) rfl rfl rfl HO3.out (rb_blk HLB.out (by simp) HM.out) (by omega) (by simp; omega) ?_
      intro A5 c5 w5 h1 h2 h3
      have HS5 := Lib.hid (blk_ownN HS3.out h2 (fun ad e => by
        rcases HA2.out with k | k
        · have := HLT.out ad (k ▸ e); omega
        · have := k ad e; omega))
      have HK5 := Lib.hid (LayK.app HK3.out (HA2.out.imp id (fun k ad e => Nat.le_of_succ_le (k ad e))) h2)
      have H5 := Lib.hid (And.intro h1 h3)
      clear h1 h2 h3
      refine hK _ _ ⟨HS5.out, ?_⟩
      clear hK K
      iterate 1 (refine wpO_step0 rfl rfl (fun K hK => ?_); go_simp; refine hK _ _ ?_; clear hK K)
      refine wpO_nil ?_
      go_wp2_with fail
      go_ret
      refine ⟨A5, _, c5, rfl, by unfold encUp; rw [show goneB x.g = 1 from HGB.out]; rw [← List.append_assoc]; exact H5.out.1, by simp; omega, ?_, HK5.out⟩
      rcases H5.out.2 with h | h
      · rcases HA2.out with k | k
        · exact .inl (h.trans k)
        · exact .inr (fun ad e => by have := k ad (h ▸ e); omega)
      · exact .inr (fun ad e => by have := h ad e; omega)
    · rw [u8w x.s, u8w x.f, u8w x.h]
      refine wpO_step2 rfl rfl (HS.out) (fun K hK => ?_)
      go_simp
      obtain ⟨w2, hw9⟩ : ∃ w9, World.alloc (w.alloc (.cells cs1 104)).drew (.cells (nums .u8 [x.s % 256, 1, x.f % 256, x.h % 256]).toArray 5) = w9 := ⟨_, rfl⟩
      have HLB := Lib.hid (show (World.heap w2)[(World.heap (w.alloc (.cells cs1 104)).drew).size]? = some (.cells (nums .u8 [x.s % 256, 1, x.f % 256, x.h % 256]).toArray 5 (0, 0)) from hw9 ▸ blk_new _ _)
      have ha9 : Below (World.heap (w.alloc (.cells cs1 104)).drew).size (w.alloc (.cells cs1 104)).drew w2 := hw9 ▸ below_alloc (Below.refl _ _) _
      have HS2 := Lib.hid (blk_below HS.out ha9)
      have HB9 := Lib.hid ha9
      refine kw_cast hw9 ?_
      have hz9 := ha9.size
      clear hw9 ha9
      refine hK _ _ ⟨HS2.out, ?_⟩
      clear hK K
      refine wpO_nil ?_
      rw [hsz] at HLB
      have HO3 := Lib.hid (HO.out.below HB9.out)
      have HB2 := Lib.hid (below_step HBD.out HB9.out)
      have HL2 := Lib.hid ((HL.out.below (below_drew1 _)).below HB9.out)
      refine wpO_step2 rfl rfl (HS2.out) (fun K hK => ?_)
      go_simp
      refine (lay_any x.p A n c xs base _ (HL2.out) hx HO3.out (by omega) hn).mono ?_
      rintro e w3 ⟨A2, n2, c2, rfl, hO2, hn2, hA2, hK2⟩
      have HO2 := Lib.hid hO2
      have HA2 : Hid (A2 = A ∨ ∀ ad, A2 = some ad → w.heap.size + 1 ≤ ad.block) := Lib.hid (hA2.imp id (fun k ad e => Nat.le_trans (by omega) (k ad e)))
      have HK3 := Lib.hid (LayK.pre HB2.out hK2)
      have HS3 := Lib.hid (hK2.blk _ _ HS2.out (fun ad e => by have := HLT.out ad e; omega))
      try replace HLB := Lib.hid (hK2.blk _ _ HLB.out (fun ad e => by have := HLT.out ad e; omega))
      have hz2 := hK2.size
      clear hO2 hA2 hK2
      refine hK _ _ ⟨HS3.out, ?_⟩
      clear hK K
      refine wpO_step2 rfl rfl (HS3.out) (fun K hK => ?_)
      rw [if_pos (show Region.wanted _ _ = true from rfl)]
      refine oper_append_bytes (.tmp 11) (.tmp 22) rfl rfl rfl HO2.out (rb_blk HLB.out (by simp) HM.out) (by omega) (by simp; omega) ?_
      intro A5 c5 w5 h1 h2 h3
      have HS5 := Lib.hid (blk_ownN HS3.out h2 (fun ad e => by
        rcases HA2.out with k | k
        · have := HLT.out ad (k ▸ e); omega
        · have := k ad e; omega))
      have HK5 := Lib.hid (LayK.app HK3.out (HA2.out.imp id (fun k ad e => Nat.le_of_succ_le (k ad e))) h2)
      have H5 := Lib.hid (And.intro h1 h3)
      clear h1 h2 h3
      refine hK _ _ ⟨HS5.out, ?_⟩
      clear hK K
      iterate 1 (refine wpO_step0 rfl rfl (fun K hK => ?_); go_simp; refine hK _ _ ?_; clear hK K)
      refine wpO_nil ?_
      go_wp2_with fail
      go_ret
      refine ⟨A5, _, c5, rfl, by unfold encUp; rw [show goneB x.g = 1 from HGB.out]; rw [← List.append_assoc]; exact H5.out.1, by simp; omega, ?_, HK5.out⟩
      rcases H5.out.2 with h | h
      · rcases HA2.out with k | k
        · exact .inl (h.trans k)
        · exact .inr (fun ad e => by have := k ad (h ▸ e); omega)
      · exact .inr (fun ad e => by have := h ad e; omega)
  | false =>
    have HGB : Hid (goneB x.g = 0) := Lib.hid (by rw [hg]; rfl)
    have HM : Hid (Bytes [x.s % 256, 0, x.f % 256, x.h % 256]) := Lib.hid (fun y hy => by
      simp only [List.mem_cons, List.not_mem_nil, or_false] at hy
      rcases hy with rfl | rfl | rfl | rfl <;> omega)
    have hgl := (HP1.out.all _ (Below.refl _ _)).gon
    rw [hg] at hgl
    clear hg
    go_upto_region 4 with (first | ((with_reducible show wpList _ _ _ (Oper.mk _ (Op.load _ _) _ _ _ _ :: _) _ _); refine wpList_load_g hgl _ rfl rfl (by go_simp) ?_))
    clear hgl
    refine wp_region_fork ((fun w0 => w0.heap[w.heap.size]? = some (.cells (updV x) 104 (0, 0)))) (OrdT.fork [0, 1, 2, 4, 5, 6, 7, 8, 9, 10, 11, 12, 13] 3 14 (OrdT.lin [14, 15, 16]) (OrdT.lin [3, 15, 16])) [(0, 0), (1, 0), (2, 0), (3, 2), (4, 0), (5, 0), (6, 0), (7, 0), (8, 0), (9, 0), (10, 0), (11, 0), (12, 0), (13, 0), (14, 2), (15, 2), (16, 0)] (by kernel_rfl) (by kernel_rfl) (HS.out) ?_
    simp only [wpF]
    iterate 2 (refine wpO_step0 rfl rfl (fun K hK => ?_); go_simp; refine hK _ _ ?_; clear hK K)
    refine wpO_loadW (t := 102) (ad := ⟨w.heap.size, 0, none⟩) rfl rfl ?hw rfl rfl ((fun w0 hS => ((upd_at hx hS).all _ (Below.refl _ _)).pfx)) ?_
    case hw => go_simp
    iterate 1 (refine wpO_step0 rfl rfl (fun K hK => ?_); go_simp; refine hK _ _ ?_; clear hK K)
    refine wpO_loadW (t := 3) (ad := ⟨w.heap.size, 18, none⟩) rfl rfl ?hw rfl rfl ((fun w0 hS => ((upd_at hx hS).all _ (Below.refl _ _)).src)) ?_
    case hw => go_simp
    iterate 3 (refine wpO_step0 rfl rfl (fun K hK => ?_); go_simp; refine hK _ _ ?_; clear hK K)
    refine wpO_loadW (t := 3) (ad := ⟨w.heap.size, 20, none⟩) rfl rfl ?hw rfl rfl ((fun w0 hS => ((upd_at hx hS).all _ (Below.refl _ _)).prf)) ?_
    case hw => go_simp
    iterate 2 (refine wpO_step0 rfl rfl (fun K hK => ?_); go_simp; refine hK _ _ ?_; clear hK K)
    refine wpO_loadW (t := 3) (ad := ⟨w.heap.size, 21, none⟩) rfl rfl ?hw rfl rfl ((fun w0 hS => ((upd_at hx hS).all _ (Below.refl _ _)).hop)) ?_
    case hw => go_simp
    iterate 1 (refine wpO_step0 rfl rfl (fun K hK => ?_); go_simp; refine hK _ _ ?_; clear hK K)
    refine wpO_nil ⟨?_, ?_⟩
    · refine wpO_step2 rfl rfl (HS.out) (fun K hK => ?_)
      go_simp
      refine (lay_any x.p A n c xs base _ (HL.out.below (below_drew1 _)) hx HO.out (by omega) hn).mono ?_
      rintro e w2 ⟨A2, n2, c2, rfl, hO2, hn2, hA2, hK2⟩
      have HO2 := Lib.hid hO2
      have HA2 : Hid (A2 = A ∨ ∀ ad, A2 = some ad → w.heap.size + 1 ≤ ad.block) := Lib.hid (hA2.imp id (fun k ad e => Nat.le_trans (by omega) (k ad e)))
      have HK2 := Lib.hid (LayK.pre HBD.out hK2)
      have HS2 := Lib.hid (hK2.blk _ _ HS.out (fun ad e => by have := HLT.out ad e; omega))
      try replace HLB := Lib.hid (hK2.blk _ _ HLB.out (fun ad e => by have := HLT.out ad e; omega))
      have hz2 := hK2.size
      clear hO2 hA2 hK2
      refine hK _ _ ⟨HS2.out, ?_⟩
      clear hK K
      refine wpO_nil ?_
      rw [u8w x.s, u8w x.f, u8w x.h]
      refine wpO_step2 rfl rfl (HS2.out) (fun K hK => ?_)
      go_simp
      obtain ⟨w3, hw9⟩ : ∃ w9, World.alloc w2 (.cells (nums .u8 [x.s % 256, 0, x.f % 256, x.h % 256]).toArray 5) = w9 := ⟨_, rfl⟩
      have HLB := Lib.hid (show (World.heap w3)[(World.heap w2).size]? = some (.cells (nums .u8 [x.s % 256, 0, x.f % 256, x.h % 256]).toArray 5 (0, 0)) from hw9 ▸ blk_new _ _)
      have ha9 : Below (World.heap w2).size w2 w3 := hw9 ▸ below_alloc (Below.refl _ _) _
      have HS3 := Lib.hid (blk_below HS2.out ha9)
      have HB9 := Lib.hid ha9
      refine kw_cast hw9 ?_
      have hz9 := ha9.size
      clear hw9 ha9
      refine hK _ _ ⟨HS3.out, ?_⟩
      clear hK K
      have HO3 := Lib.hid (HO2.out.below HB9.out)
      have HK3 := Lib.hid (LayK.step HK2.out HB9.out)
      refine wpO_step2 rfl rfl (HS3.out) (fun K hK => ?_)
      rw [if_pos (show Region.wanted _ _ = true from rfl)]
      refine oper_append_bytes (.tmp 11) (.tmp 22) rfl rfl rfl HO3.out (rb_blk HLB.out (by simp) HM.out) (by omega) (by simp; omega) ?_
      intro A5 c5 w5 h1 h2 h3
      have HS5 := Lib.hid (blk_ownN HS3.out h2 (fun ad e => by
        rcases HA2.out with k | k
        · have := HLT.out ad (k ▸ e); omega
        · have := k ad e; omega))
      have HK5 := Lib.hid (LayK.app HK3.out (HA2.out.imp id (fun k ad e => Nat.le_of_succ_le (k ad e))) h2)
      have H5 := Lib.hid (And.intro h1 h3)
      clear h1 h2 h3
      refine hK _ _ ⟨HS5.out, ?_⟩
      clear hK K
      iterate 1 (refine wpO_step0 rfl rfl (fun K hK => ?_); go_simp; refine hK _ _ ?_; clear hK K)
      refine wpO_nil ?_
      go_wp2_with fail
      go_ret
      refine ⟨A5, _, c5, rfl, by unfold encUp; rw [show goneB x.g = 0 from HGB.out]; rw [← List.append_assoc]; exact H5.out.1, by simp; omega, ?_, HK5.out⟩
      rcases H5.out.2 with h | h
      · rcases HA2.out with k | k
        · exact .inl (h.trans k)
        · exact .inr (fun ad e => by have := k ad (h ▸ e); omega)
      · exact .inr (fun ad e => by have := h ad e; omega)
    · rw [u8w x.s, u8w x.f, u8w x.h]
      refine wpO_step2 rfl rfl (HS.out) (fun K hK => ?_)
      go_simp
      obtain ⟨w2, hw9⟩ : ∃ w9, World.alloc (w.alloc (.cells cs1 104)).drew (.cells (nums .u8 [x.s % 256, 0, x.f % 256, x.h % 256]).toArray 5) = w9 := ⟨_, rfl⟩
      have HLB := Lib.hid (show (World.heap w2)[(World.heap (w.alloc (.cells cs1 104)).drew).size]? = some (.cells (nums .u8 [x.s % 256, 0, x.f % 256, x.h % 256]).toArray 5 (0, 0)) from hw9 ▸ blk_new _ _)
      have ha9 : Below (World.heap (w.alloc (.cells cs1 104)).drew).size (w.alloc (.cells cs1 104)).drew w2 := hw9 ▸ below_alloc (Below.refl _ _) _
      have HS2 := Lib.hid (blk_below HS.out ha9)
      have HB9 := Lib.hid ha9
      refine kw_cast hw9 ?_
      have hz9 := ha9.size
      clear hw9 ha9
      refine hK _ _ ⟨HS2.out, ?_⟩
      clear hK K
      refine wpO_nil ?_
      rw [hsz] at HLB
      have HO3 := Lib.hid (HO.out.below HB9.out)
      have HB2 := Lib.hid (below_step HBD.out HB9.out)
      have HL2 := Lib.hid ((HL.out.below (below_drew1 _)).below HB9.out)
      refine wpO_step2 rfl rfl (HS2.out) (fun K hK => ?_)
      go_simp
      refine (lay_any x.p A n c xs base _ (HL2.out) hx HO3.out (by omega) hn).mono ?_
      rintro e w3 ⟨A2, n2, c2, rfl, hO2, hn2, hA2, hK2⟩
      have HO2 := Lib.hid hO2
      have HA2 : Hid (A2 = A ∨ ∀ ad, A2 = some ad → w.heap.size + 1 ≤ ad.block) := Lib.hid (hA2.imp id (fun k ad e => Nat.le_trans (by omega) (k ad e)))
      have HK3 := Lib.hid (LayK.pre HB2.out hK2)
      have HS3 := Lib.hid (hK2.blk _ _ HS2.out (fun ad e => by have := HLT.out ad e; omega))
      try replace HLB := Lib.hid (hK2.blk _ _ HLB.out (fun ad e => by have := HLT.out ad e; omega))
      have hz2 := hK2.size
      clear hO2 hA2 hK2
      refine hK _ _ ⟨HS3.out, ?_⟩
      clear hK K
      refine wpO_step2 rfl rfl (HS3.out) (fun K hK => ?_)
      rw [if_pos (show Region.wanted _ _ = true from rfl)]
      refine oper_append_bytes (.tmp 11) (.tmp 22) rfl rfl rfl HO2.out (rb_blk HLB.out (by simp) HM.out) (by omega) (by simp; omega) ?_
      intro A5 c5 w5 h1 h2 h3
      have HS5 := Lib.hid (blk_ownN HS3.out h2 (fun ad e => by
        rcases HA2.out with k | k
        · have := HLT.out ad (k ▸ e); omega
        · have := k ad e; omega))
      have HK5 := Lib.hid (LayK.app HK3.out (HA2.out.imp id (fun k ad e => Nat.le_of_succ_le (k ad e))) h2)
      have H5 := Lib.hid (And.intro h1 h3)
      clear h1 h2 h3
      refine hK _ _ ⟨HS5.out, ?_⟩
      clear hK K
      iterate 1 (refine wpO_step0 rfl rfl (fun K hK => ?_); go_simp; refine hK _ _ ?_; clear hK K)
      refine wpO_nil ?_
      go_wp2_with fail
      go_ret
      refine ⟨A5, _, c5, rfl, by unfold encUp; rw [show goneB x.g = 0 from HGB.out]; rw [← List.append_assoc]; exact H5.out.1, by simp; omega, ?_, HK5.out⟩
      rcases H5.out.2 with h | h
      · rcases HA2.out with k | k
        · exact .inl (h.trans k)
        · exact .inr (fun ad e => by have := k ad (h ▸ e); omega)
      · exact .inr (fun ad e => by have := h ad e; omega)
end Go.Proofs.YtifejiclenpfoaaDoor

/- Layer 11 (route): list, Encode, EncodeBatch. -/
namespace Go.Proofs.YtifejiclenpfoaaDoor
open Go.RowKit
set_option linter.unusedVariables false
set_option linter.unusedSimpArgs false
set_option maxRecDepth 4000
set_option maxHeartbeats 2000000 in
theorem listu_any (A : Option Addr) (n c : Nat) (l : List Upd) (w : World) (hL : Laid w) (hr : RS updK w A n c l) (ok : ∀ a ∈ l, a.ok) (hn : n ≤ 200) :
    Calls Tryd.prog 100 #[.slice A n c, .func (Fn.func 101) #[] #[]] w fun e w' => ∃ A' n' c', e = .returned (.slice A' n' c') ∧ OB w' w.heap.size A' n' c' ((n : Int) :: l.flatMap encUp) ∧ n' ≤ 5000 ∧ 1 ≤ n' ∧ Below w.heap.size w w' := by
  have HR := Lib.hid hr
  have OK := Lib.hid ok
  have HL := Lib.hid hL
  have hw8 : IntKind.u8.wrap (n : Int) = n := by rw [u8w]; omega
  have HO0 := Lib.hid (OB.one w (n : Int) (by omega) w.heap.size (Nat.le_refl _))
  clear hr ok hL
  go_enter Tryd.func100, Tryd.ntmps100
  go_wp2_with fail
  go_loopw [5, 14] (fun s5 s14 wr => ∃ (i : Nat) (A1 : Option Addr) (n1 c1 : Nat), s14 = .int .i64 i ∧ s5 = .slice A1 n1 c1 ∧ Hid (i ≤ n ∧ n1 ≤ 1 + 22 * i ∧ 1 ≤ n1 ∧ OB wr w.heap.size A1 n1 c1 ((n : Int) :: (l.take i).flatMap encUp) ∧ Below w.heap.size w wr)) (fun _ y _ => n - (intOf y).toNat)
  case atStart => exact ⟨0, _, 1, 1, rfl, rfl, Nat.zero_le _, by omega, by omega, HO0.out, below_alloc (Below.refl _ _) _⟩
  case round =>
    obtain ⟨i, A1, n1, c1, rfl, rfl, HI⟩ := hrel
    obtain ⟨wk, rfl⟩ : ∃ wk, wk = wr := ⟨wr, rfl⟩
    have hn1 := HI.out.2.1
    by_cases hlt : i < n
    · have hlt' : (i : Int) < n := by omega
      obtain ⟨b, o, rfl, hc⟩ := RS.at_ HR.out (by omega)
      have hil : i < l.length := by rw [HR.out.len]; exact hlt
      have HXO := Lib.hid (OK.out _ (getD_mem (z := (updK).z) hil))
      have hla := Shape.ld updK wk b _ _ (RS.fits_at HR.out hlt) ((hc i hlt).below HI.out.2.2.2.2)
      have hla : (Instr.loadAt 104 (.pointer (some ⟨b, o + i * 22, none⟩))).run Tryd.prog wk = .ok (.agg (updV (l.getD i (updK).z))) wk := hla
      have HTS : Hid ((l.take (i + 1)).flatMap encUp = (l.take i).flatMap encUp ++ encUp (l.getD i (updK).z)) := Lib.hid (by rw [take_getD (updK).z hil]; simp)
      obtain ⟨x, hx⟩ : ∃ x, l.getD i (updK).z = x := ⟨_, rfl⟩
      rw [hx] at hla HXO HTS
      have HB2f := Lib.hid (fun (W : World) (h : (wk.alloc (.cells (updV updZ) 104)).grownBy W (some wk.heap.size)) => below_grown (below_alloc (Below.refl wk.heap.size wk) (.cells (updV updZ) 104)) h (Nat.le_refl _))
      clear hc hil hx
      go_wp2_with (first | ((with_reducible show wpList _ _ _ (Oper.mk _ (Op.load _ _) _ _ _ _ :: _) _ _); refine wpList_load_g hla _ rfl rfl (by go_simp) ?_) | ((with_reducible show wpList _ _ _ (Oper.mk _ (Op.store _ _ _) _ _ _ _ :: _) _ _); refine wpList_store_blk (blk_new wk _) 104 0 (updV x) (store_upd_fit HXO.out.fits rfl) (info_upd HXO.out.fits) (updV_one _) _ _ rfl rfl rfl rfl ?_; intro w2 hg9 hs9 hb9; rw [splice_upd HXO.out.fits rfl] at hb9; have H2 := Lib.hid (And.intro hg9 hb9); clear hg9 hs9 hb9) | ((with_reducible show wpList _ _ _ (Oper.mk _ (Op.load _ _) _ _ _ _ :: _) _ _); refine wpList_load_g (((upd_at HXO.out.fits H2.out.2).all _ (Below.refl _ _)).all) _ rfl rfl (by go_simp) ?_))
      have HB2 := Lib.hid (HB2f.out _ H2.out.1)
      have HBW := Lib.hid (below_step HI.out.2.2.2.2 HB2.out)
      refine (enc2_any x A1 n1 c1 _ w.heap.size w2 (HL.out.below HBW.out) HXO.out.fits (HI.out.2.2.2.1.below HB2.out) HBW.out.size (by omega)).mono ?_
      rintro e w3 ⟨A3, n3, c3, rfl, hO3, hn3, hA3, hK3⟩
      have HO3 := Lib.hid hO3
      have HB3 := Lib.hid (hK3.bel w HBW.out HI.out.2.2.2.1.base_)
      have HN3 : Hid (n1 ≤ n3) := Lib.hid (by
        have h1 := hO3.len
        have h2 := HI.out.2.2.2.1.len
        rw [List.length_append, h2] at h1
        omega)
      clear hO3 hA3 hK3 hla HB2f H2
      go_wp2_with fail
      go_roundw
      case measure => simp [intOf]; omega
      case rel => exact ⟨i + 1, A3, n3, c3, by go_num, rfl, by omega, by omega, by have h1 := HN3.out; have h2 := HI.out.2.2.1; omega, by rw [HTS.out]; exact HO3.out, HB3.out⟩
    · have hlt' : decide (i < n) = false := decide_eq_false hlt
      have hi : i = l.length := by rw [HR.out.len]; have := HI.out.1; omega
      have HT : Hid (l.take i = l) := Lib.hid (by rw [hi, List.take_length])
      clear hlt hi
      go_wp2_with fail
      go_ret
      refine ⟨A1, n1, c1, rfl, ?_, by have := HI.out.1; omega, HI.out.2.2.1, HI.out.2.2.2.2⟩
      have h := HI.out.2.2.2.1
      rwa [HT.out] at h
def encBat (l : List Upd) : List Int := if batB l then (l.length : Int) :: l.flatMap encUp else []
set_option maxHeartbeats 2000000 in
theorem rencodeb_any (A : Option Addr) (n c : Nat) (l : List Upd) (w : World) (hL : Laid w) (hr : RS updK w A n c l) (ok : Oku l) (hn : n ≤ 10000) :
    Calls Tryd.prog 75 #[.agg (tabV A n c)] w fun e w' => ∃ A' n' c', e = .returned (.tuple #[.slice A' n' c', .int .i64 (batE l)]) ∧ OB w' w.heap.size A' n' c' (encBat l) ∧ n' ≤ 5000 ∧ Below w.heap.size w w' := by
  have hblk1 := blk_new w (.cells (tabV A n c) 25)
  have hbel1 : Below w.heap.size w (w.alloc (.cells (tabV A n c) 25)) := below_alloc (Below.refl _ _) _
  have HP1 := Lib.hid (bat_at hblk1)
  have HBK1 := Lib.hid hblk1
  have HBE := Lib.hid hbel1
  have HL := Lib.hid (hL.below HBE.out)
  obtain ⟨cs1, hcs1⟩ : ∃ cs, tabV A n c = cs := ⟨_, rfl⟩
  simp only [hcs1] at HBE HL HP1 HBK1 ⊢
  have HC1 := Lib.hid hcs1
  clear hL hcs1 hblk1 hbel1
  have HR := Lib.hid (hr.below HBE.out)
  have OK := Lib.hid ok
  clear hr ok
  go_enter Tryd.func75, Tryd.ntmps75
  go_wp2_with (first | ((with_reducible show wpList _ _ _ (Oper.mk _ (Op.load _ _) _ _ _ _ :: _) _ _); refine wpList_load_g ((HP1.out.all _ (Below.refl _ _)).1) _ rfl rfl (by go_simp) ?_))
  refine (rcheckb_any A n c l _ HL.out HR.out OK.out (by omega)).mono ?_
  rintro e w1 ⟨rfl, hb1⟩
  have HB1 := Lib.hid hb1
  clear hb1
  cases hrb : batB l with
  | false =>
    have HE : Hid (batE l = 210 ∧ encBat l = []) := Lib.hid ⟨by unfold batE; rw [hrb]; rfl, by unfold encBat; rw [hrb]; rfl⟩
    rw [HE.out.1]
    clear hrb
    go_wp2
    go_ret2
    rw [HE.out.1, HE.out.2]
    exact ⟨_, _, _, rfl, OB.nil _ _, by omega, below_step HBE.out HB1.out⟩
  | true =>
    have HE : Hid (batE l = 0 ∧ encBat l = (n : Int) :: l.flatMap encUp) := Lib.hid ⟨by unfold batE; rw [hrb]; rfl, by unfold encBat; rw [hrb, if_pos rfl, HR.out.len]⟩
    have hn8 : n ≤ 8 := by
      rw [← HR.out.len]
      unfold batB at hrb
      simp only [Bool.and_eq_true, decide_eq_true_eq] at hrb
      exact hrb.1.2
    rw [HE.out.1]
    clear hrb
    go_wp2_with (first | ((with_reducible show wpList _ _ _ (Oper.mk _ (Op.load _ _) _ _ _ _ :: _) _ _); refine wpList_load_g ((HP1.out.all _ HB1.out).2) _ rfl rfl (by go_simp) ?_))
    refine (listu_any A n c l w1 (HL.out.below HB1.out) (HR.out.below HB1.out) OK.out (by omega)).mono ?_
    rintro e w2 ⟨A2, n2, c2, rfl, hO2, hn2, _, hb2⟩
    have HO2 := Lib.hid (hO2.lower (below_step HBE.out HB1.out).size)
    have HB2 := Lib.hid (below_step HBE.out (below_step HB1.out hb2))
    clear hO2 hb2
    go_wp2
    go_ret2
    rw [HE.out.1, HE.out.2]
    exact ⟨A2, n2, c2, rfl, HO2.out, hn2, HB2.out⟩
end Go.Proofs.YtifejiclenpfoaaDoor

/- Layer 15 (frame), for what a client asks: lay, Check. -/
namespace Go.Proofs.YtifejiclenpfoaaDoor
open Go.RowKit
set_option linter.unusedVariables false
set_option linter.unusedSimpArgs false
set_option maxRecDepth 4000
theorem OB.three (W : World) (x y z : Int) (hx : 0 ≤ x ∧ x < 256) (hy : 0 ≤ y ∧ y < 256) (hz : 0 ≤ z ∧ z < 256) (base : Nat) (hb : base ≤ W.heap.size) : OB (W.alloc (.cells #[.int .u8 x, .int .u8 y, .int .u8 z] 5)) base (some ⟨W.heap.size, 0, none⟩) 3 3 [x, y, z] :=
  OB.new W base [x, y, z] hb (by simp) (fun v hv => by
    simp only [List.mem_cons, List.not_mem_nil, or_false] at hv
    rcases hv with rfl | rfl | rfl <;> assumption)
theorem encBat_len {b : List Upd} (ok : Oku b) (hb : batB b = true) : (encBat b).length ≤ 177 := by
  have key : ∀ l : List Upd, Oku l → (l.flatMap encUp).length ≤ 22 * l.length := fun l => by
    induction l with
    | nil => intro _; simp
    | cons u l ih =>
      intro ho
      have h1 := encPE_len (ho u (by simp)).p.l
      have h2 := ih (fun v hv => ho v (by simp [hv]))
      rw [List.flatMap_cons, List.length_append, List.length_cons]
      have h3 : (encUp u).length = (encPE u.p).length + 4 := by simp [encUp]
      omega
  have h1 := key b ok
  have h2 : b.length ≤ 8 := by
    unfold batB at hb
    simp only [Bool.and_eq_true, decide_eq_true_eq] at hb
    exact hb.1.2
  unfold encBat
  rw [if_pos hb, List.length_cons]
  omega
set_option maxHeartbeats 8000000 in
set_option maxRecDepth 100000 in
theorem flay_any (m : Gm) (A : Option Addr) (n c : Nat) (w : World) (hL : Laid w) (hr : RS updK w A n c m.t) (ok : Oku m.t) (hn : n ≤ 10000) (h : AskOk m) (hsq : (Lit.int .u32 m.seq).wf = true) (hb : batB m.t = true) : Calls Tryd.prog 45 #[.agg (gmV m A n c)] w fun e w' => ∃ A' n' c', e = .returned (.slice A' n' c') ∧ n' ≤ 3000 ∧ Below w.heap.size w w' := by
  have hblk1 := blk_new w (.cells (gmV m A n c) 45)
  have hbel1 : Below w.heap.size w (w.alloc (.cells (gmV m A n c) 45)) := below_alloc (Below.refl _ _) _
  have HP1 := Lib.hid (gm_at hblk1)
  have HBK1 := Lib.hid hblk1
  have HBE := Lib.hid hbel1
  have HL := Lib.hid (hL.below HBE.out)
  obtain ⟨cs1, hcs1⟩ : ∃ cs, gmV m A n c = cs := ⟨_, rfl⟩
  simp only [hcs1] at HBE HL HP1 HBK1 ⊢
  have HC1 := Lib.hid hcs1
  clear hL hcs1 hblk1 hbel1
  have HR := Lib.hid (hr.below HBE.out)
  have OK := Lib.hid ok
  have HA := Lib.hid h
  have HBB := Lib.hid hb
  have hs := u32_wf hsq
  have hwf : IntKind.u8.wrap m.frm = m.frm := by show m.frm % 256 = _; have := h.frm; omega
  have hwt : IntKind.u8.wrap m.tgt = m.tgt := by show m.tgt % 256 = _; have := h.tgt; omega
  have HKf : Hid (∀ w0, Below (w.alloc (.cells cs1 45)).heap.size (w.alloc (.cells cs1 45)) w0 → (Instr.loadAt 3 (.pointer (some ⟨w.heap.size, 0, none⟩))).run Tryd.prog w0 = .ok (.int .i64 6) w0) := Lib.hid (fun w0 hb => by have := (HP1.out.all w0 hb).kind; rw [HA.out.kd] at this; exact this)
  have HO1 := Lib.hid (OB.three (w.alloc (.cells cs1 45)) 6 m.frm m.tgt (by omega) (by have := h.frm; omega) (by have := h.tgt; omega) 0 (Nat.zero_le _)).reads
  have hs0 : (w.alloc (.cells cs1 45)).heap.size = w.heap.size + 1 := by simp
  rw [hs0] at HO1
  have hbz := below_alloc (Below.refl (w.alloc (.cells cs1 45)).heap.size (w.alloc (.cells cs1 45))) (.cells #[.int .u8 6, .int .u8 m.frm, .int .u8 m.tgt] 5)
  have HBZ := Lib.hid hbz
  clear hr ok h hb hbz hs0
  go_enter Tryd.func45, Tryd.ntmps45
  go_wp2_with (first | ((with_reducible show wpList _ _ _ (Oper.mk _ (Op.load _ _) _ _ _ _ :: _) _ _); refine wpList_load_g (HKf.out _ (Below.refl _ _)) _ rfl rfl (by go_simp) ?_) | ((with_reducible show wpList _ _ _ (Oper.mk _ (Op.load _ _) _ _ _ _ :: _) _ _); refine wpList_load_g (HKf.out _ HBZ.out) _ rfl rfl (by go_simp) ?_) | ((with_reducible show wpList _ _ _ (Oper.mk _ (Op.load _ _) _ _ _ _ :: _) _ _); refine wpList_load_g ((HP1.out.all _ (Below.refl _ _)).frm) _ rfl rfl (by go_simp) ?_) | ((with_reducible show wpList _ _ _ (Oper.mk _ (Op.load _ _) _ _ _ _ :: _) _ _); refine wpList_load_g ((HP1.out.all _ (Below.refl _ _)).tgt) _ rfl rfl (by go_simp) ?_) | ((with_reducible show wpList _ _ _ (Oper.mk _ (Op.load _ _) _ _ _ _ :: _) _ _); refine wpList_load_g ((HP1.out.all _ HBZ.out).epoch) _ rfl rfl (by go_simp) ?_))
  refine (put64_any (some ⟨w.heap.size + 1, 0, none⟩) 3 3 [6, m.frm, m.tgt] 0 _ HO1.out (by omega) (by omega) (by omega)).mono ?_
  rintro e w2 ⟨A2, rfl, hO2, hb2⟩
  have HB2 := Lib.hid (below_step HBZ.out hb2)
  have HO2 := Lib.hid hO2.reads
  clear hb2 hO2
  go_wp2_with (first | ((with_reducible show wpList _ _ _ (Oper.mk _ (Op.load _ _) _ _ _ _ :: _) _ _); refine wpList_load_g (HKf.out _ HB2.out) _ rfl rfl (by go_simp) ?_) | ((with_reducible show wpList _ _ _ (Oper.mk _ (Op.load _ _) _ _ _ _ :: _) _ _); refine wpList_load_g ((HP1.out.all _ HB2.out).bat) _ rfl rfl (by go_simp) ?_))
  refine (rencodeb_any A n c m.t w2 (HL.out.below HB2.out) (HR.out.below HB2.out) OK.out hn).mono ?_
  rw [show batE m.t = 0 by unfold batE; rw [HBB.out]; rfl]
  rintro e w3 ⟨A3, n3, c3, rfl, hO3, hn3, hb3⟩
  have HB3 := Lib.hid (below_step HB2.out hb3)
  have HO3 := Lib.hid hO3.reads
  have HN3 : Hid (n3 ≤ 177) := Lib.hid (by rw [← hO3.len]; exact encBat_len OK.out HBB.out)
  have HP3 := Lib.hid (HO2.out.below hb3)
  clear hb3 hO3 hn3
  go_wp2_with (first | ((with_reducible show wpList _ _ _ (Oper.mk _ (Op.load _ _) _ _ _ _ :: _) _ _); refine wpList_load_g ((HP1.out.all _ HB3.out).seq) _ rfl rfl (by go_simp) ?_))
  refine (put32_any A2 11 11 _ m.seq w3 HP3.out (by omega) (by omega) (by omega)).mono ?_
  rintro e w4 ⟨A4, rfl, hO4, hb4⟩
  have HB4 := Lib.hid (below_step HB3.out hb4)
  have HO4 := Lib.hid hO4
  have HR4 := Lib.hid (HO3.out.below hb4)
  have HS4 := Lib.hid hb4.size
  have hn4 : n3 ≤ 177 := HN3.out
  clear hb4 hO4
  have hb34 : w3.heap.size ≤ w4.heap.size := HS4.out
  go_wp2_with (at_builtin; refine wpList_append_bytes rfl (.tmp 104) (.tmp 105) rfl rfl rfl HO4.out HR4.out hb34 (by omega) ?_; intro A5 c5 w5 h1 h2 h3; have H5 := Lib.hid h2; clear h1 h2 h3)
  go_ret
  exact ⟨_, _, _, rfl, by omega, below_own (below_step HBE.out HB4.out) H5.out (fun ad e => by have h1 := HO4.out.base_ ad e; have h2 := HB3.out.size; have h3 := HBE.out.size; omega)⟩
end Go.Proofs.YtifejiclenpfoaaDoor

/- Layer 15 (frame), for what a client asks: Check. -/
namespace Go.Proofs.YtifejiclenpfoaaDoor
open Go.RowKit
set_option linter.unusedVariables false
set_option linter.unusedSimpArgs false
set_option maxRecDepth 4000
theorem fcheck_ask (m : Gm) (A : Option Addr) (n c : Nat) (w : World) (hL : Laid w) (hr : RS updK w A n c m.t) (ok : Oku m.t) (hn : n ≤ 10000) (h : AskOk m) (hsq : (Lit.int .u32 m.seq).wf = true) (hs : 0 < m.seq) (hb : batB m.t = true) : Calls Tryd.prog 21 #[.agg (gmV m A n c)] w fun e w' => e = .returned (.int .i64 0) ∧ Below w.heap.size w w' := by
  have hblk1 := blk_new w (.cells (gmV m A n c) 45)
  have hbel1 : Below w.heap.size w (w.alloc (.cells (gmV m A n c) 45)) := below_alloc (Below.refl _ _) _
  have HP1 := Lib.hid (gm_at hblk1)
  have HBK1 := Lib.hid hblk1
  have HBE := Lib.hid hbel1
  have HL := Lib.hid (hL.below HBE.out)
  obtain ⟨cs1, hcs1⟩ : ∃ cs, gmV m A n c = cs := ⟨_, rfl⟩
  simp only [hcs1] at HBE HL HP1 HBK1 ⊢
  have HC1 := Lib.hid hcs1
  clear hL hcs1 hblk1 hbel1
  have HR := Lib.hid (hr.below HBE.out)
  have OK := Lib.hid ok
  have HA := Lib.hid h
  clear hr ok h
  go_enter Tryd.func21, Tryd.ntmps21
  go_wp2_with (first | ((with_reducible show wpList _ _ _ (Oper.mk _ (Op.load _ _) _ _ _ _ :: _) _ _); refine wpList_load_g ((HP1.out.all _ (Below.refl _ _)).all) _ rfl rfl (by go_simp) ?_))
  refine (ffits_any m A n c _ HL.out HR.out OK.out (by omega) HA.out hs hb).mono ?_
  rintro e w2 ⟨rfl, hb2⟩
  have HB2 := Lib.hid hb2
  clear hb2
  go_wp2_with (first | ((with_reducible show wpList _ _ _ (Oper.mk _ (Op.load _ _) _ _ _ _ :: _) _ _); refine wpList_load_g ((HP1.out.all _ HB2.out).all) _ rfl rfl (by go_simp) ?_))
  refine (flay_any m A n c w2 (HL.out.below HB2.out) (HR.out.below HB2.out) OK.out hn HA.out hsq hb).mono ?_
  rintro e w3 ⟨A3, n3, c3, rfl, hn3, hb3⟩
  have HB3 := Lib.hid (below_step HB2.out hb3)
  have hw3 : IntKind.i64.wrap ((n3 : Int) + 4) = (n3 : Int) + 4 := IntWalk.i64_in _ (by omega)
  have hl3 : decide ((4000 : Int) < (n3 : Int) + 4) = false := decide_eq_false (by omega)
  clear hb3
  go_wp2_with fail
  go_ret
  exact ⟨rfl, below_step HBE.out HB3.out⟩
end Go.Proofs.YtifejiclenpfoaaDoor

/- Layer 20 (client): plain laws of the law's wakes. -/
namespace Go.Proofs.YtifejiclenpfoaaDoor
open Go.RowKit
set_option linter.unusedVariables false
set_option linter.unusedSimpArgs false
set_option maxRecDepth 4000
theorem newC_in {num : Int} (h : 1 ≤ num ∧ num ≤ 2) : newC num = newK num := by unfold newC; rw [if_pos h]
theorem newE_in {num : Int} (h : 1 ≤ num ∧ num ≤ 2) : newE num = 0 := by unfold newE; rw [if_pos h]
theorem ckB_new {num : Int} (h : 1 ≤ num ∧ num ≤ 2) : ckB (newK num) = true := by simp [ckB, newK, h.1, h.2]
theorem sub_new {num : Int} {b : List Upd} (h : 1 ≤ num ∧ num ≤ 2) (hb : batB b = true) : subN (newK num) b = 0 ∧ subK (newK num) b = ⟨num, 1, true, b⟩ := by
  have h0 : subN (newK num) b = 0 := by unfold subN; rw [ckB_new h, hb]; simp [newK]
  exact ⟨h0, by unfold subK; rw [if_pos h0]; rfl⟩
theorem ckB_away {num seq : Int} {b : List Upd} (h : 1 ≤ num ∧ num ≤ 2) (hs : 0 < seq) (hb : batB b = true) : ckB ⟨num, seq, true, b⟩ = true := by simp [ckB, h.1, h.2, hs, hb]
theorem ask_away {k : Ck} {tg : Int} (hc : ckB k = true) (ha : k.away = true) (ht : 1 ≤ tg ∧ tg ≤ 2) : askN k tg = 0 ∧ askM k tg = ⟨6, 2 + k.num, tg, k.seq, k.t⟩ := by
  have h0 : askN k tg = 0 := by unfold askN; rw [hc, if_pos rfl, if_pos ht, ha]; rfl
  exact ⟨h0, by unfold askM; rw [if_pos h0]⟩
def mw : Mg := ⟨7, 2, 3, 0, [.int .u64 0, .int .u64 0, .slice none 0 0, .int .u64 0], false, 7, [.int .u64 0, .int .u64 0, .int .u64 0, .slice none 0 0, .int .u32 0, .int .u64 0, .int .u32 0, .int .u64 0, .int .u32 0, .int .u64 0], 1, none, 0, 0, 0, []⟩
theorem mw_fits : mw.fits := ⟨rfl, rfl, by simp [mw, Value.oneCell'], by simp [mw, Value.oneCell']⟩
theorem run_build_mw (w : World) : (Instr.build 45 #[(0, .int .i64 7), (1, .int .i64 2), (2, .int .i64 3), (11, .int .u32 1), (8, .int .u64 7)]).run Tryd.prog w = .ok (.agg (msgV mw)) w := run_build w _ _ _ (by kernel_rfl)
theorem load_hdf {w : World} {g : Nat} {k : Hd} {A : Option Addr} {n c : Nat} (h : w.heap[g]? = some (.cells (hdV k A n c) 61 (0, 0))) : (Instr.loadAt 4 (.pointer (some ⟨g, 0, none⟩))).run Tryd.prog w = .ok (.bool k.done) w ∧ (Instr.loadAt 31 (.pointer (some ⟨g, 4, none⟩))).run Tryd.prog w = .ok (.int .u64 k.index) w :=
  ⟨loadr_bool (by rw [blk_cell h]; rfl), load_u64k (by rw [blk_cell h]; rfl)⟩
theorem subK_small {k : Ck} {b : List Upd} (ho : Oku b) (hl : b.length ≤ 10) : Oku (subK k b).t ∧ (subK k b).t.length ≤ 10 := by
  unfold subK
  split
  · exact ⟨ho, hl⟩
  · exact ⟨fun u hu => (by cases hu), by simp [ckZ]⟩
theorem subK_ok {k : Ck} {b : List Upd} (hk : k.ok) (hb : Oku b) (h : subN k b = 0) : (subK k b).ok := by
  unfold subK
  rw [if_pos h]
  refine ⟨hk.num, ?_, hb⟩
  unfold subN at h
  have hs := u32_wf hk.seq
  split at h
  · split at h
    · omega
    · split at h
      · split at h
        · omega
        · simp [Lit.wf, IntKind.min, IntKind.max, IntKind.bits, IntKind.signed]
          omega
      · omega
  · omega
theorem hearK_ok {k : Ck} (hk : k.ok) (b : Bool) (h : ckB k = true) : (hearK k b).ok := by
  unfold hearK
  rw [if_pos h]
  split
  · exact ⟨hk.num, hk.seq, fun u hu => (by cases hu)⟩
  · exact hk
theorem hearK_t {k : Ck} (hk : Oku k.t) (hl : k.t.length ≤ 10) (b : Bool) : Oku (hearK k b).t ∧ (hearK k b).t.length ≤ 10 := by
  unfold hearK
  split
  · split
    · exact ⟨fun u hu => (by cases hu), by simp⟩
    · exact ⟨hk, hl⟩
  · exact ⟨fun u hu => (by cases hu), by simp [ckZ]⟩
theorem hearH_t {k : Ck} (hk : Oku k.t) (hl : k.t.length ≤ 10) (b : Bool) (e i : Int) : Oku (hearH k b e i).t ∧ (hearH k b e i).t.length ≤ 10 := by
  unfold hearH
  split
  · exact ⟨hk, hl⟩
  · exact ⟨fun u hu => (by cases hu), by simp [hdZ]⟩
theorem hear_or0 (k : Ck) (b : Bool) (e i : Int) : (hearK k b).t = [] ∨ (hearH k b e i).t = [] := by
  unfold hearK hearH
  cases b
  · right; simp [hdZ]
  · left
    split
    · rfl
    · rfl
theorem cliB_self (k : Ck) : cliB k k = true := by simp [cliB, (ShapeEq.eqL_iff updE k.t k.t).2 rfl]
theorem oneB_bat : batB oneB = true := by decide +kernel
end Go.Proofs.YtifejiclenpfoaaDoor

/- Layer 20 (client): the law's wakes. -/
namespace Go.Proofs.YtifejiclenpfoaaDoor
open Go.RowKit
set_option linter.unusedVariables false
set_option linter.unusedSimpArgs false
set_option maxRecDepth 4000
set_option maxHeartbeats 8000000 in
set_option maxRecDepth 100000 in
theorem wakes20_any (w : World) (hL : Laid w) : Calls Tryd.prog 10 #[] w fun e w' => e = .returned (.bool true) ∧ Below w.heap.size w w' := by
  have HL := Lib.hid hL
  clear hL
  obtain ⟨b, hb⟩ : ∃ b, b = oneB := ⟨_, rfl⟩
  have HBB : Hid (batB b = true) := Lib.hid (hb ▸ oneB_bat)
  have HBO : Hid (Oku b) := Lib.hid (hb ▸ oneB_ok)
  have HBE := Lib.hid hb
  have hin : (1 : Int) ≤ 1 ∧ (1 : Int) ≤ 2 := by decide
  have HIN := Lib.hid hin
  obtain ⟨k1, hk1⟩ : ∃ k, k = newK 1 := ⟨_, rfl⟩
  have HK1 := Lib.hid hk1
  have HO1 : Hid k1.ok := Lib.hid (hk1 ▸ ⟨by decide, by decide, fun r hr => by cases hr⟩)
  have HS1 : Hid (subN k1 b = 0 ∧ subK k1 b = ⟨1, 1, true, b⟩) := Lib.hid (hk1 ▸ sub_new hin HBB.out)
  have hcall := cnew_any 1 w HL.out
  rw [newC_in hin, newE_in hin, ← hk1] at hcall
  clear hb hk1 hin
  go_enter Tryd.func10, Tryd.ntmps10
  go_wp2_with fail
  refine hcall.mono ?_
  clear hcall
  rintro e w1 ⟨rfl, hb1⟩
  have HB1 := Lib.hid hb1
  obtain ⟨W2, hW2⟩ : ∃ W2, w1.alloc (.cells (cliV ckZ none 0 0) 27) = W2 := ⟨_, rfl⟩
  have HZ2 : Hid (W2.heap[w1.heap.size]? = some (.cells (cliV ckZ none 0 0) 27 (0, 0))) := Lib.hid (by rw [← hW2]; exact blk_new _ _)
  have HB2 : Hid (Below w.heap.size w W2) := Lib.hid (hW2 ▸ below_alloc hb1 _)
  have hw2 : w1.alloc (.cells #[.int .i64 0, .int .u32 0, .slice none 0 0, .bool false] 27) = W2 := hW2
  clear hb1 hW2
  go_upto_region 4 with (first | ((with_reducible show wpList _ _ _ (Oper.mk _ (Op.store _ _ _) _ _ _ _ :: _) _ _); refine wpList_store_blk HZ2.out 27 0 (cliV k1 none 0 0) (Nat.le_refl _) (info_cli _ _ _ _) (cli_one _ _ _ _) _ _ rfl rfl rfl rfl ?_; intro w3 hg9 hs9 hb9; rw [splice_cli] at hb9; have H3 := Lib.hid (And.intro hg9 hb9); clear hg9 hs9 hb9))
  try dsimp only [Act.put]
  have HX3 := Lib.hid H3.out.2
  have HB3 := Lib.hid (below_grown HB2.out H3.out.1 HB1.out.size)
  clear H3 hw2 HZ2 HB2
  refine wp_region_mix ((fun w0 => Below w3.heap.size w3 w0)) [(0, 0), (1, 2), (2, 2), (3, 4), (4, 4), (5, 4), (6, 3), (7, 3)] (by kernel_rfl) (by kernel_rfl) ((below_drew1 _)) ?_
  simp only [List.map_cons, List.map_nil]
  refine wpO_loadW (t := 27) (ad := ⟨w1.heap.size, 0, none⟩) rfl rfl ?hw rfl rfl ((fun w0 hS => load_cli (blk_below HX3.out hS))) ?_
  case hw => go_simp
  refine wpO_step2 rfl rfl (below_drew1 _) (fun K hK => ?_)
  go_simp
  refine (one20_any _).mono ?_
  rintro e w4 ⟨A4, rfl, hO4, hb4⟩
  rw [← HBE.out] at hO4
  have HV4 := Lib.hid (below_step (below_drew1 w3) hb4)
  have HO4 := Lib.hid (hO4.lower HB3.out.size)
  clear hO4 hb4
  refine hK _ _ ⟨HV4.out, ?_⟩
  clear hK K
  refine wpO_step2 rfl rfl (HV4.out) (fun K hK => ?_)
  go_simp
  refine (csubmit_any k1 none 0 0 A4 1 1 b w4 (HL.out.below (below_step HB3.out HV4.out)) (HK1.out ▸ RS.nil _ _ _ _) HO1.out (by omega) HO4.out.reads HBO.out (by omega)).mono ?_
  rw [HS1.out.1, HS1.out.2]
  rintro e w5 ⟨A5, n5, c5, rfl, hO5, hb5⟩
  have HV5 := Lib.hid (below_step HV4.out hb5)
  have HO5 := Lib.hid (hO5.lower (below_step HB3.out HV4.out).size)
  have HN5 : Hid (n5 = 1) := Lib.hid (by have := hO5.len; rw [← this]; show b.length = 1; rw [HBE.out]; rfl)
  have HA5 := Lib.hid hO5.base_
  clear hO5 hb5 HO4
  refine hK _ _ ⟨HV5.out, ?_⟩
  clear hK K
  iterate 3 (refine wpO_step4 rfl rfl (fun K hK => ?_); go_simp; refine hK _ _ ?_; clear hK K)
  refine wpO_step3 rfl rfl (fun K hK => ?_)
  rw [if_pos (show Region.wanted _ _ = true from rfl)]
  refine oper_store_blk (blk_below HX3.out HV5.out) 27 0 (cliV ⟨1, 1, true, b⟩ A5 n5 c5) (Nat.le_refl _) (info_cli _ _ _ _) (cli_one _ _ _ _) _ _ rfl rfl rfl ?_
  intro w6 hg9 hs9 hb9
  rw [splice_cli] at hb9
  have HX6 := Lib.hid hb9
  have HB6 := Lib.hid (below_grown (below_step HB3.out HV5.out) hg9 HB1.out.size)
  have HO6 : Hid (OS updK w6 w.heap.size A5 n5 c5 b) := Lib.hid (OS.grown HO5.out hg9 (fun ad e h => by have h1 := HA5.out ad e; have := blk_lt HX3.out; have := HV4.out.size; injection h with h; omega))
  clear hg9 hs9 hb9 HX3 HO5 HA5
  refine hK _ _ ?_
  clear hK K
  refine wpO_step3 rfl rfl (fun K hK => ?_); go_simp; refine hK _ _ ?_; clear hK K
  refine wpO_nil ?_
  have hca : ckB ⟨1, 1, true, b⟩ = true := ckB_away HIN.out (by decide) HBB.out
  have hok : Ck.ok ⟨1, 1, true, b⟩ := ⟨(by decide : (Lit.int .i64 (1 : Int)).wf = true), (by decide : (Lit.int .u32 (1 : Int)).wf = true), HBO.out⟩
  have hcall := cask_any ⟨1, 1, true, b⟩ A5 n5 c5 2 w6 (HL.out.below HB6.out) HO6.out.reads hok (by have := HN5.out; omega)
  have hak := ask_away (tg := 2) hca rfl (by decide)
  rw [hak.1, hak.2] at hcall
  obtain ⟨m, hm⟩ : ∃ m, (⟨6, 2 + (⟨1, 1, true, b⟩ : Ck).num, 2, (⟨1, 1, true, b⟩ : Ck).seq, (⟨1, 1, true, b⟩ : Ck).t⟩ : Gm) = m := ⟨_, rfl⟩
  rw [hm] at hcall
  have HM := Lib.hid hm
  have HMO : Hid (AskOk m) := Lib.hid (hm ▸ ⟨rfl, (by decide : (2 : Int) < 2 + 1 ∧ (2 : Int) + 1 ≤ 4), (by decide : (1 : Int) ≤ 2 ∧ (2 : Int) ≤ 2)⟩)
  have HMT : Hid (m.t = b) := Lib.hid (hm ▸ rfl)
  have HM6 : Hid (m.kd = 6 ∧ m.frm = 3 ∧ m.seq = 1) := Lib.hid (hm ▸ ⟨rfl, rfl, rfl⟩)
  have HCA := Lib.hid hca
  have HOK := Lib.hid hok
  clear hca hak hok hm
  go_wp2_with (first | ((with_reducible show wpList _ _ _ (Oper.mk _ (Op.load _ _) _ _ _ _ :: _) _ _); refine wpList_load_g (load_cli HX6.out) _ rfl rfl (by go_simp) ?_))
  refine hcall.mono ?_
  clear hcall
  rintro e w7 ⟨A7, n7, c7, rfl, hO7, hb7⟩
  have HB7 := Lib.hid (below_step HB6.out hb7)
  have HX7 := Lib.hid (blk_below HX6.out hb7)
  have HO7 := Lib.hid (HO6.out.below hb7)
  have HT7 := Lib.hid hO7.reads
  have HA7 := Lib.hid hO7.base_
  have HS7 := Lib.hid hb7.size
  clear hO7 hb7 HX6 HO6 HB6
  go_upto_region 6 with (first | ((with_reducible show wpList _ _ _ (Oper.mk _ (Op.store _ _ _) _ _ _ _ :: _) _ _); refine wpList_store_blk (blk_new w7 (.cells (gmV gmZ none 0 0) 45)) 45 0 (gmV m A7 n7 c7) (Nat.le_refl _) (info_gm _ _ _ _) (gm_one _ _ _ _) _ _ rfl rfl rfl rfl ?_; intro w8 hg9 hs9 hb9; rw [splice_gm] at hb9; have H8 := Lib.hid (And.intro hg9 hb9); clear hg9 hs9 hb9))
  try dsimp only [Act.put]
  have hb78 := below_grown (below_alloc (Below.refl w7.heap.size w7) (.cells (gmV gmZ none 0 0) 45)) H8.out.1 (Nat.le_refl _)
  have HB8 := Lib.hid (below_step HB7.out hb78)
  have HX8 := Lib.hid (blk_below HX7.out hb78)
  have HO8 := Lib.hid (HO7.out.below hb78)
  have HT8 := Lib.hid (HT7.out.below hb78)
  have HG8 := Lib.hid H8.out.2
  obtain ⟨g8, hg8⟩ : ∃ g, w7.heap.size = g := ⟨_, rfl⟩
  rw [hg8] at HG8 ⊢
  have HLD := Lib.hid (gm_ld HG8.out)
  have HKD := Lib.hid HLD.out.kind
  have HSQ := Lib.hid HLD.out.seq
  have HFR := Lib.hid HLD.out.frm
  rw [HM6.out.1] at HKD
  rw [HM6.out.2.2] at HSQ
  rw [HM6.out.2.1] at HFR
  have HN7 : Hid (n7 = 1) := Lib.hid (by have := HT8.out.len; rw [HMT.out, HBE.out] at this; rw [← this]; rfl)
  have hcall := fcheck_ask m A7 n7 c7 w8 (HL.out.below HB8.out) HT8.out (by rw [HMT.out]; exact HBO.out) (by have := HN7.out; omega) HMO.out (by rw [HM6.out.2.2]; decide) (by rw [HM6.out.2.2]; decide) (by rw [HMT.out]; exact HBB.out)
  clear hb78 H8 HX7 HO7 HT7 HB7 hg8 HA7 HS7
  go_wp2_with (first | ((with_reducible show wpList _ _ _ (Oper.mk _ (Op.load _ _) _ _ _ _ :: _) _ _); refine wpList_load_g (HKD.out) _ rfl rfl (by go_simp) ?_) | ((with_reducible show wpList _ _ _ (Oper.mk _ (Op.load _ _) _ _ _ _ :: _) _ _); refine wpList_load_g (HSQ.out) _ rfl rfl (by go_simp) ?_) | ((with_reducible show wpList _ _ _ (Oper.mk _ (Op.load _ _) _ _ _ _ :: _) _ _); refine wpList_load_g (HFR.out) _ rfl rfl (by go_simp) ?_) | ((with_reducible show wpList _ _ _ (Oper.mk _ (Op.load _ _) _ _ _ _ :: _) _ _); refine wpList_load_g (HLD.out.all) _ rfl rfl (by go_simp) ?_))
  refine hcall.mono ?_
  clear hcall
  rintro e w9 ⟨rfl, hb9⟩
  have HB9 := Lib.hid (below_step HB8.out hb9)
  have HX9 := Lib.hid (blk_below HX8.out hb9)
  have HO9 := Lib.hid (HO8.out.below hb9)
  clear hb9 HB8 HX8 HO8 HT8 HG8 HLD HKD HSQ HFR
  obtain ⟨q, hq⟩ : ∃ q, mw = q := ⟨_, rfl⟩
  have HQ : Hid (∀ W : World, (Instr.build 45 #[(0, .int .i64 7), (1, .int .i64 2), (2, .int .i64 3), (11, .int .u32 1), (8, .int .u64 7)]).run Tryd.prog W = .ok (.agg (msgV q)) W) := Lib.hid (fun W => by rw [← hq]; exact run_build_mw W)
  have hcall := chear_any ⟨1, 1, true, b⟩ A5 n5 c5 mw w9 (HL.out.below HB9.out) HO9.out.reads HOK.out (by have := HN5.out; omega) mw_fits
  rw [show hearB ⟨1, 1, true, b⟩ mw.kind mw.tgt mw.seq mw.err = true from rfl, show hearK ⟨1, 1, true, b⟩ true = ⟨1, 1, false, []⟩ by unfold hearK; rw [HCA.out]; rfl, show hearH ⟨1, 1, true, b⟩ true mw.err mw.index = ⟨true, 0, 1, 7, b⟩ by unfold hearH; rw [HCA.out]; rfl, show ckE ⟨1, 1, true, b⟩ = 0 by unfold ckE; rw [HCA.out]; rfl, hq] at hcall
  clear hq
  go_wp2_with (first | ((with_reducible show wpList _ _ _ (Oper.mk _ (Op.load _ _) _ _ _ _ :: _) _ _); refine wpList_load_g (load_cli HX9.out) _ rfl rfl (by go_simp) ?_) | ((with_reducible show wpList _ _ _ (Oper.mk _ (Op.build 45 _) _ _ _ _ :: _) _ _); refine wpList_exw rfl (exec_build5 rfl rfl rfl rfl rfl rfl (HQ.out _)) ?_))
  refine hcall.mono ?_
  clear hcall
  rintro e w10 ⟨A1, n1, c1, A2, n2, c2, rfl, hO1, hO2, hb10⟩
  have HB10 := Lib.hid (below_step HB9.out hb10)
  have HX10 := Lib.hid (blk_below HX9.out hb10)
  have hn1 : n1 = 0 := hO1.len.symm
  subst hn1
  have hxa := blk_below HX10.out (below_alloc (Below.refl _ _) (.cells (hdV hdZ none 0 0) 61))
  have hha := blk_new w10 (.cells (hdV hdZ none 0 0) 61)
  have HSZ : Hid (w1.heap.size < w10.heap.size) := Lib.hid (blk_lt HX10.out)
  clear hO1 hO2 hb10 HX9 HO9
  go_upto_region 9 with (first | ((with_reducible show wpList _ _ _ (Oper.mk _ (Op.store _ _ _) _ _ _ _ :: _) _ _); refine wpList_store_blk hxa 27 0 (cliV ⟨1, 1, false, []⟩ A1 0 c1) (Nat.le_refl _) (info_cli _ _ _ _) (cli_one _ _ _ _) _ _ rfl rfl rfl rfl ?_; intro w11 hg9 hs9 hb9; rw [splice_cli] at hb9; have H11 := Lib.hid (And.intro hg9 hb9); clear hg9 hs9 hb9) | ((with_reducible show wpList _ _ _ (Oper.mk _ (Op.store _ _ _) _ _ _ _ :: _) _ _); refine wpList_store_blk (blk_grown hha H11.out.1 (fun e => by injection e with e; have := HSZ.out; omega)) 61 0 (hdV ⟨true, 0, 1, 7, b⟩ A2 n2 c2) (Nat.le_refl _) (info_hd _ _ _ _) (hd_one _ _ _ _) _ _ rfl rfl rfl rfl ?_; intro w12 hg9 hs9 hb9; rw [splice_hd] at hb9; have H12 := Lib.hid (And.intro hg9 hb9); clear hg9 hs9 hb9))
  try dsimp only [Act.put]
  have HC12 := Lib.hid ((cli_at (blk_grown H11.out.2 H12.out.1 (fun e => by injection e with e; have := HSZ.out; omega))).all _ (Below.refl _ _))
  have HD12 := Lib.hid (load_hdf H12.out.2)
  have HB12 := Lib.hid (below_grown (below_grown (below_alloc HB10.out (.cells (hdV hdZ none 0 0) 61)) H11.out.1 HB1.out.size) H12.out.1 HB10.out.size)
  clear hxa hha H11 H12 HX10 HB10
  go_wp2_with (first | ((with_reducible show wpList _ _ _ (Oper.mk _ (Op.load _ _) _ _ _ _ :: _) _ _); refine wpList_load_g (HD12.out.1) _ rfl rfl (by go_simp) ?_) | ((with_reducible show wpList _ _ _ (Oper.mk _ (Op.load _ _) _ _ _ _ :: _) _ _); refine wpList_load_g (HD12.out.2) _ rfl rfl (by go_simp) ?_) | ((with_reducible show wpList _ _ _ (Oper.mk _ (Op.load _ _) _ _ _ _ :: _) _ _); refine wpList_load_g (HC12.out.away) _ rfl rfl (by go_simp) ?_) | ((with_reducible show wpList _ _ _ (Oper.mk _ (Op.load _ _) _ _ _ _ :: _) _ _); refine wpList_load_g (HC12.out.upd) _ rfl rfl (by go_simp) ?_))
  go_ret
  exact ⟨rfl, HB12.out⟩
end Go.Proofs.YtifejiclenpfoaaDoor

/- Layer 20 (client): what the law's ops need: msg, spoil; the document's Copy, SameHeard. -/
namespace Go.Proofs.YtifejiclenpfoaaDoor
open Go.RowKit
set_option linter.unusedVariables false
set_option linter.unusedSimpArgs false
set_option maxRecDepth 4000
/-- A message of what counts, with no more than ten updates. -/
def cutM (m : Fm) (A : Option Addr) (n c : Nat) : Fm := ⟨m.kd, m.frm, m.tgt, m.epo, 0, 0, none, 0, 0, 0, m.ok, m.idx, 0, 0, 0, none, 0, 0, 0, 0, 0, 0, 0, 0, m.seq, A, n, c, m.err, [], [], m.t.take 10⟩
theorem run_build_cutM (w : World) (m : Fm) (A : Option Addr) (n c : Nat) : (Instr.build 45 #[(0, .int .i64 m.kd), (1, .int .i64 m.frm), (2, .int .i64 m.tgt), (3, .int .u64 m.epo), (7, .bool m.ok), (8, .int .u64 m.idx), (11, .int .u32 m.seq), (13, .int .i64 m.err), (12, .agg (tabV A n c))]).run Tryd.prog w = .ok (.agg (fmV (cutM m A n c))) w := run_build w _ _ _ (by kernel_rfl)
theorem load_fm {w : World} {g : Nat} {m : Fm} (h : w.heap[g]? = some (.cells (fmV m) 45 (0, 0))) : (Instr.loadAt 45 (.pointer (some ⟨g, 0, none⟩))).run Tryd.prog w = .ok (.agg (fmV m)) w := (fm_ld h).all
set_option maxHeartbeats 4000000 in
theorem lmsg_any (m : Fm) (w : World) (hr : RS updK w m.BA m.bn m.bc m.t) (hn : m.bn ≤ 140737488355328) :
    Calls Tryd.prog 26 #[.agg (fmV m)] w fun e w' => ∃ A' c', e = .returned (.agg (fmV (cutM m A' (min m.bn 10) c'))) ∧ OS updK w' w.heap.size A' (min m.bn 10) c' (m.t.take 10) ∧ Below w.heap.size w w' := by
  have hblk1 := blk_new w (.cells (fmV m) 45)
  have hbel1 : Below w.heap.size w (w.alloc (.cells (fmV m) 45)) := below_alloc (Below.refl _ _) _
  have HP1 := Lib.hid (fm_at hblk1)
  have HBK1 := Lib.hid hblk1
  have HBE := Lib.hid hbel1
  obtain ⟨cs1, hcs1⟩ : ∃ cs, fmV m = cs := ⟨_, rfl⟩
  simp only [hcs1] at HBE HP1 HBK1 ⊢
  have HC1 := Lib.hid hcs1
  clear hcs1 hblk1 hbel1
  have hs0 : (w.alloc (.cells cs1 45)).heap.size = w.heap.size + 1 := by simp
  obtain ⟨W1, hW1⟩ : ∃ W1, (w.alloc (.cells cs1 45)).alloc (.cells #[.int .i64 0, .int .i64 0, .int .i64 0, .int .u64 0, .int .u64 0, .int .u64 0, .slice none 0 0, .int .u64 0, .bool false, .int .u64 0, .int .u64 0, .int .u64 0, .int .u64 0, .slice none 0 0, .int .u32 0, .int .u64 0, .int .u32 0, .int .u64 0, .int .u32 0, .int .u64 0, .int .u32 0, .slice none 0 0, .int .i64 0] 45) = W1 := ⟨_, rfl⟩
  have HBR : Hid (Below (w.alloc (.cells cs1 45)).heap.size (w.alloc (.cells cs1 45)) W1) := Lib.hid (hW1 ▸ below_alloc (Below.refl _ _) _)
  have HB1 : Hid (Below w.heap.size w W1) := Lib.hid (below_step HBE.out HBR.out)
  have HZ1 : Hid (W1.heap[w.heap.size + 1]? = some (.cells (fmV fmZ) 45 (0, 0))) := Lib.hid (by rw [← hW1, ← hs0]; exact blk_new _ _)
  have HR := Lib.hid (hr.below HB1.out)
  have HS1 : Hid (w.heap.size + 2 ≤ W1.heap.size) := Lib.hid (by rw [← hW1]; simp)
  obtain ⟨q, hq⟩ : ∃ q, min m.bn 10 = q := ⟨_, rfl⟩
  have HQ := Lib.hid hq
  rw [hq]
  clear hr hs0 hq
  go_enter Tryd.func26, Tryd.ntmps26
  go_upto_region 1 with fail
  clear hW1
  refine wp_region_mix ((fun w0 => Below W1.heap.size W1 w0)) [(0, 4), (1, 0), (2, 4), (3, 0), (4, 4), (5, 0), (6, 4), (7, 0), (8, 4), (9, 0), (10, 4), (11, 0), (12, 4), (13, 0), (14, 4), (15, 0), (16, 4), (17, 0), (18, 2), (19, 0), (20, 3)] (by kernel_rfl) (by kernel_rfl) ((below_drew1 _)) ?_
  simp only [List.map_cons, List.map_nil]
  iterate 1 (refine wpO_step4 rfl rfl (fun K hK => ?_); go_simp; refine hK _ _ ?_; clear hK K)
  refine wpO_loadW (t := 3) (ad := ⟨w.heap.size, 0, none⟩) rfl rfl ?hw rfl rfl ((fun w0 hS => (HP1.out.all w0 (below_step HBR.out hS)).kind)) ?_
  case hw => go_simp
  iterate 1 (refine wpO_step4 rfl rfl (fun K hK => ?_); go_simp; refine hK _ _ ?_; clear hK K)
  refine wpO_loadW (t := 3) (ad := ⟨w.heap.size, 1, none⟩) rfl rfl ?hw rfl rfl ((fun w0 hS => (HP1.out.all w0 (below_step HBR.out hS)).frm)) ?_
  case hw => go_simp
  iterate 1 (refine wpO_step4 rfl rfl (fun K hK => ?_); go_simp; refine hK _ _ ?_; clear hK K)
  refine wpO_loadW (t := 3) (ad := ⟨w.heap.size, 2, none⟩) rfl rfl ?hw rfl rfl ((fun w0 hS => (HP1.out.all w0 (below_step HBR.out hS)).tgt)) ?_
  case hw => go_simp
  iterate 1 (refine wpO_step4 rfl rfl (fun K hK => ?_); go_simp; refine hK _ _ ?_; clear hK K)
  refine wpO_loadW (t := 31) (ad := ⟨w.heap.size, 3, none⟩) rfl rfl ?hw rfl rfl ((fun w0 hS => (HP1.out.all w0 (below_step HBR.out hS)).epoch)) ?_
  case hw => go_simp
  iterate 1 (refine wpO_step4 rfl rfl (fun K hK => ?_); go_simp; refine hK _ _ ?_; clear hK K)
  refine wpO_loadW (t := 4) (ad := ⟨w.heap.size, 8, none⟩) rfl rfl ?hw rfl rfl ((fun w0 hS => (HP1.out.all w0 (below_step HBR.out hS)).ok)) ?_
  case hw => go_simp
  iterate 1 (refine wpO_step4 rfl rfl (fun K hK => ?_); go_simp; refine hK _ _ ?_; clear hK K)
  refine wpO_loadW (t := 31) (ad := ⟨w.heap.size, 9, none⟩) rfl rfl ?hw rfl rfl ((fun w0 hS => (HP1.out.all w0 (below_step HBR.out hS)).index)) ?_
  case hw => go_simp
  iterate 1 (refine wpO_step4 rfl rfl (fun K hK => ?_); go_simp; refine hK _ _ ?_; clear hK K)
  refine wpO_loadW (t := 22) (ad := ⟨w.heap.size, 20, none⟩) rfl rfl ?hw rfl rfl ((fun w0 hS => (HP1.out.all w0 (below_step HBR.out hS)).seq)) ?_
  case hw => go_simp
  iterate 1 (refine wpO_step4 rfl rfl (fun K hK => ?_); go_simp; refine hK _ _ ?_; clear hK K)
  refine wpO_loadW (t := 43) (ad := ⟨w.heap.size, 22, none⟩) rfl rfl ?hw rfl rfl ((fun w0 hS => (HP1.out.all w0 (below_step HBR.out hS)).err)) ?_
  case hw => go_simp
  iterate 1 (refine wpO_step4 rfl rfl (fun K hK => ?_); go_simp; refine hK _ _ ?_; clear hK K)
  refine wpO_loadW (t := 25) (ad := ⟨w.heap.size, 21, none⟩) rfl rfl ?hw rfl rfl ((fun w0 hS => (HP1.out.all w0 (below_step HBR.out hS)).bat)) ?_
  case hw => go_simp
  refine wpO_step2 rfl rfl (below_drew1 _) (fun K hK => ?_)
  go_simp
  refine (lbatch_any m.BA m.bn m.bc m.t _ (HR.out.below (below_drew1 _)) hn).mono ?_
  rw [HQ.out]
  rintro e w2 ⟨A2, c2, rfl, hO2, hb2⟩
  have HV2 := Lib.hid (below_step (below_drew1 W1) hb2)
  have HO2 := Lib.hid (hO2.lower HS1.out)
  have HZ2 := Lib.hid (blk_below HZ1.out HV2.out)
  clear hO2 hb2
  refine hK _ _ ⟨HV2.out, ?_⟩
  clear hK K
  refine wpO_step0 rfl rfl (fun K hK => ?_)
  rw [if_pos (show Region.wanted _ _ = true from rfl)]
  refine ⟨_, fun w0 => exec_build9 rfl rfl rfl rfl rfl rfl rfl rfl rfl rfl (run_build_cutM w0 m A2 q c2), hK _ _ ?_⟩
  clear hK K
  refine wpO_step3 rfl rfl (fun K hK => ?_)
  rw [if_pos (show Region.wanted _ _ = true from rfl)]
  refine oper_store_blk HZ2.out 45 0 (fmV (cutM m A2 q c2)) (Nat.le_refl _) (info_fm _) (fm_one _) _ _ rfl rfl rfl ?_
  intro w5 hg5 hs5 hb5
  rw [splice_fm] at hb5
  have H5 := Lib.hid (And.intro hg5 hb5)
  clear hg5 hs5 hb5
  refine hK _ _ ?_
  clear hK K
  refine wpO_nil ?_
  go_wp2_with fail
  refine bodyPost_ret (results_c1 rfl rfl (load_fm H5.out.2)) rfl ?_
  exact ⟨A2, c2, rfl, (HO2.out.grown H5.out.1 (fun ad e h => by have h1 := HO2.out.base_ ad e; injection h with h; omega)).lower (by omega), below_grown (below_step HB1.out HV2.out) H5.out.1 (by omega)⟩
structure HdLd (w : World) (g : Nat) (h : Hd) (A : Option Addr) (n c : Nat) : Prop where
  all : (Instr.loadAt 61 (.pointer (some ⟨g, 0, none⟩))).run Tryd.prog w = .ok (.agg (hdV h A n c)) w
  done : (Instr.loadAt 4 (.pointer (some ⟨g, 0, none⟩))).run Tryd.prog w = .ok (.bool h.done) w
  err : (Instr.loadAt 43 (.pointer (some ⟨g, 1, none⟩))).run Tryd.prog w = .ok (.int .i64 h.err) w
  seq : (Instr.loadAt 22 (.pointer (some ⟨g, 2, none⟩))).run Tryd.prog w = .ok (.int .u32 h.seq) w
  bat : (Instr.loadAt 25 (.pointer (some ⟨g, 3, none⟩))).run Tryd.prog w = .ok (.agg (tabV A n c)) w
  idx : (Instr.loadAt 31 (.pointer (some ⟨g, 4, none⟩))).run Tryd.prog w = .ok (.int .u64 h.index) w
structure HdAt (w : World) (g : Nat) (h : Hd) (A : Option Addr) (n c : Nat) : Prop where
  all : ∀ w0, Below w.heap.size w w0 → HdLd w0 g h A n c
theorem hd_ld {w : World} {g : Nat} {h : Hd} {A : Option Addr} {n c : Nat} (hb : w.heap[g]? = some (.cells (hdV h A n c) 61 (0, 0))) : HdLd w g h A n c := by
  have h0 : CellsAt w g 0 [.bool h.done, .int .i64 h.err, .int .u32 h.seq, .slice A n c, .int .u64 h.index] := cells_blk hb
  exact ⟨load_hd hb, loadr_bool (h0 0 _ rfl), load_errk (h0 1 _ rfl), load_u32k (h0 2 _ rfl), load_cells (cs := tabV A n c) (cells_mid h0 3 1) Tryd.underlying25 rfl (info_bat _ _ _), load_u64k (h0 4 _ rfl)⟩
theorem hd_at {w : World} {g : Nat} {h : Hd} {A : Option Addr} {n c : Nat} (hb : w.heap[g]? = some (.cells (hdV h A n c) 61 (0, 0))) : HdAt w g h A n c := ⟨fun w0 hs => hd_ld (blk_below hb hs)⟩
set_option maxHeartbeats 2000000 in
theorem samehd_any (h : Hd) (A : Option Addr) (n c : Nat) (A2 : Option Addr) (m c2 : Nat) (w : World) (ha : RS updK w A n c h.t) (hb : RS updK w A2 m c2 h.t) (oa : Oku h.t) (hn : n ≤ 100000) (hm : m ≤ 100000) :
    Calls Tryd.prog 38 #[.agg (hdV h A n c), .agg (hdV h A2 m c2)] w fun e w' => e = .returned (.bool true) ∧ Below w.heap.size w w' := by
  have hblk1 := blk_new w (.cells (hdV h A n c) 61)
  have hbel1 : Below w.heap.size w (w.alloc (.cells (hdV h A n c) 61)) := below_alloc (Below.refl _ _) _
  have hblk2 := blk_new (w.alloc (.cells (hdV h A n c) 61)) (.cells (hdV h A2 m c2) 61)
  have hbel2 : Below w.heap.size w ((w.alloc (.cells (hdV h A n c) 61)).alloc (.cells (hdV h A2 m c2) 61)) := below_alloc (hbel1) _
  rw [show (w.alloc (.cells (hdV h A n c) 61)).heap.size = w.heap.size + 1 by simp] at hblk2
  replace hblk1 := blk_below hblk1 (below_alloc (Below.refl _ _) (.cells (hdV h A2 m c2) 61))
  have HP1 := Lib.hid (hd_at hblk1)
  have HBK1 := Lib.hid hblk1
  have HP2 := Lib.hid (hd_at hblk2)
  have HBK2 := Lib.hid hblk2
  have HBE := Lib.hid hbel2
  obtain ⟨cs1, hcs1⟩ : ∃ cs, hdV h A n c = cs := ⟨_, rfl⟩
  obtain ⟨cs2, hcs2⟩ : ∃ cs, hdV h A2 m c2 = cs := ⟨_, rfl⟩
  simp only [hcs1, hcs2] at HBE HP1 HP2 HBK1 HBK2 ⊢
  have HC1 := Lib.hid hcs1
  have HC2 := Lib.hid hcs2
  clear hcs1 hblk1 hbel1 hcs2 hblk2 hbel2
  have H1 := Lib.hid (ha.below HBE.out)
  have H2 := Lib.hid (hb.below HBE.out)
  have HX := Lib.hid (HP1.out.all _ (Below.refl _ _))
  have HY := Lib.hid (HP2.out.all _ (Below.refl _ _))
  clear ha hb
  go_enter Tryd.func38, Tryd.ntmps38
  go_wp2_with (first | ((with_reducible show wpList _ _ _ (Oper.mk _ (Op.load _ _) _ _ _ _ :: _) _ _); refine wpList_load_g (HX.out.done) _ rfl rfl (by go_simp) ?_) | ((with_reducible show wpList _ _ _ (Oper.mk _ (Op.load _ _) _ _ _ _ :: _) _ _); refine wpList_load_g (HY.out.done) _ rfl rfl (by go_simp) ?_) | ((with_reducible show wpList _ _ _ (Oper.mk _ (Op.load _ _) _ _ _ _ :: _) _ _); refine wpList_load_g (HX.out.err) _ rfl rfl (by go_simp) ?_) | ((with_reducible show wpList _ _ _ (Oper.mk _ (Op.load _ _) _ _ _ _ :: _) _ _); refine wpList_load_g (HY.out.err) _ rfl rfl (by go_simp) ?_) | ((with_reducible show wpList _ _ _ (Oper.mk _ (Op.load _ _) _ _ _ _ :: _) _ _); refine wpList_load_g (HX.out.seq) _ rfl rfl (by go_simp) ?_) | ((with_reducible show wpList _ _ _ (Oper.mk _ (Op.load _ _) _ _ _ _ :: _) _ _); refine wpList_load_g (HY.out.seq) _ rfl rfl (by go_simp) ?_) | ((with_reducible show wpList _ _ _ (Oper.mk _ (Op.load _ _) _ _ _ _ :: _) _ _); refine wpList_load_g (HX.out.idx) _ rfl rfl (by go_simp) ?_) | ((with_reducible show wpList _ _ _ (Oper.mk _ (Op.load _ _) _ _ _ _ :: _) _ _); refine wpList_load_g (HY.out.idx) _ rfl rfl (by go_simp) ?_) | ((with_reducible show wpList _ _ _ (Oper.mk _ (Op.load _ _) _ _ _ _ :: _) _ _); refine wpList_load_g (HX.out.bat) _ rfl rfl (by go_simp) ?_) | ((with_reducible show wpList _ _ _ (Oper.mk _ (Op.load _ _) _ _ _ _ :: _) _ _); refine wpList_load_g (HY.out.bat) _ rfl rfl (by go_simp) ?_))
  refine (refsameU_any A n c h.t A2 m c2 h.t _ H1.out H2.out oa oa hn hm).mono ?_
  rw [(ShapeEq.eqL_iff updE _ _).2 rfl]
  rintro e w1 ⟨rfl, hb1⟩
  have HB1 := Lib.hid hb1
  clear hb1
  go_wp2_with fail
  go_ret
  exact ⟨rfl, below_step HBE.out HB1.out⟩
/-- What may be written over: a row in cells of its own. -/
structure Soft (w : World) (A : Option Addr) (n c : Nat) : Prop where
  bare : A = none → n = 0
  cap : n ≤ c
  small : n ≤ 281474976710656
  form : ∀ ad, A = some ad → ad.spot = none ∧ ∃ cur t, w.heap[ad.block]? = some (.cells cur t (0, 0)) ∧ ad.off + c * 22 ≤ cur.size
theorem OS.soft {w : World} {base : Nat} {A : Option Addr} {n c : Nat} {l : List Upd} (h : OS updK w base A n c l) : Soft w A n c :=
  ⟨fun e => by have := h.ov.bare e; have := h.cap; omega, h.cap, h.small, fun ad e => by
    obtain ⟨_, h2, cur, h3, h4, _⟩ := h.ov.form ad e
    exact ⟨h2, cur, _, h3, h4⟩⟩
theorem Soft.grown {w w1 : World} {A : Option Addr} {n c : Nat} (h : Soft w A n c) {row : Option Nat} (hg : w.grownBy w1 row) (hne : ∀ ad, A = some ad → some ad.block ≠ row) : Soft w1 A n c :=
  ⟨h.bare, h.cap, h.small, fun ad e => by
    obtain ⟨h2, cur, t, h3, h4⟩ := h.form ad e
    exact ⟨h2, cur, t, blk_grown h3 hg (hne ad e), h4⟩⟩
theorem Soft.below {w w1 : World} {A : Option Addr} {n c : Nat} (h : Soft w A n c) (hb : Below w.heap.size w w1) : Soft w1 A n c := h.grown (grown_of_below hb none) (fun _ _ => by simp)
set_option maxHeartbeats 4000000 in
theorem lspoil_any (A : Option Addr) (n c : Nat) (w : World) (hs : Soft w A n c) :
    Calls Tryd.prog 34 #[.agg (tabV A n c)] w fun e w' => e = .returned (.tuple #[]) ∧ w.grownBy w' ((Value.slice A n c).ownBlock) := by
  have hblk1 := blk_new w (.cells (tabV A n c) 25)
  have hbel1 : Below w.heap.size w (w.alloc (.cells (tabV A n c) 25)) := below_alloc (Below.refl _ _) _
  have HP1 := Lib.hid (bat_at hblk1)
  have HBK1 := Lib.hid hblk1
  have HBE := Lib.hid hbel1
  obtain ⟨cs1, hcs1⟩ : ∃ cs, tabV A n c = cs := ⟨_, rfl⟩
  simp only [hcs1] at HBE HP1 HBK1 ⊢
  have HC1 := Lib.hid hcs1
  clear hcs1 hblk1 hbel1
  have HS := Lib.hid (hs.below HBE.out)
  have HNE : Hid (∀ ad, A = some ad → ad.block ≠ w.heap.size) := Lib.hid (fun ad e => by
    obtain ⟨_, cur, t, h3, _⟩ := hs.form ad e
    have := blk_lt h3
    omega)
  clear hs
  obtain ⟨W0, hW0⟩ : ∃ W, w.alloc (.cells cs1 25) = W := ⟨_, rfl⟩
  go_enter Tryd.func34, Tryd.ntmps34
  rw [hW0] at HBE HP1 HBK1 HS
  have HX0 : Hid (W0.heap[w.heap.size]? = some (.cells (tabV A n c) 25 (0, 0))) := Lib.hid (HBK1.out.trans (by rw [HC1.out]))
  go_wp2_with (first | ((with_reducible show wpList _ _ _ (Oper.mk _ (Op.load _ _) _ _ _ _ :: _) _ _); refine wpList_load_g ((HP1.out.all _ (Below.refl _ _)).2) _ rfl rfl (by go_simp) ?_))
  clear hW0
  go_loopw [6] (fun s6 wr => ∃ k : Nat, s6 = .int .i64 k ∧ Hid (k ≤ n ∧ Soft wr A n c ∧ W0.grownBy wr ((Value.slice A n c).ownBlock) ∧ wr.heap[w.heap.size]? = some (.cells (tabV A n c) 25 (0, 0)))) (fun x _ => n - (intOf x).toNat)
  case atStart => exact ⟨0, rfl, Nat.zero_le _, HS.out, grown_refl _ _, HX0.out⟩
  case round =>
    obtain ⟨k, rfl, HI⟩ := hrel
    obtain ⟨wk, rfl⟩ : ∃ wk, wk = wr := ⟨wr, rfl⟩
    by_cases hlt : k < n
    · have hlt' : (k : Int) < n := by omega
      obtain ⟨b, o, hA⟩ : ∃ b o, A = some ⟨b, o, none⟩ := by
        cases A with
        | none => have := HI.out.2.1.bare rfl; omega
        | some ad =>
          obtain ⟨b, o, s⟩ := ad
          obtain ⟨h2, _⟩ := HI.out.2.1.form _ rfl
          simp only at h2
          exact ⟨b, o, by rw [h2]⟩
      subst hA
      obtain ⟨_, cur, t, hblk, hfit⟩ := HI.out.2.1.form _ rfl
      have HBLK := Lib.hid hblk
      have HFIT := Lib.hid hfit
      have hcap := HI.out.2.1.cap
      have hsm := HI.out.2.1.small
      clear hblk hfit
      go_wp2_with (first | ((with_reducible show wpList _ _ _ (Oper.mk _ (Op.load _ _) _ _ _ _ :: _) _ _); refine wpList_load_g ((bat_at HI.out.2.2.2).all _ (Below.refl _ _) |>.2) _ rfl rfl (by go_simp) ?_) | ((with_reducible show wpList _ _ _ (Oper.mk _ (Op.store _ _ _) _ _ _ _ :: _) _ _); refine wpList_store_cell HBLK.out 3 (o + k * 22 + 21) (.int .i64 99) (by have := HFIT.out; simp only at this; omega) (by kernel_rfl) rfl rfl _ _ rfl rfl rfl rfl ?_; intro w5 hg9 hs9 hb9; have H5 := Lib.hid (And.intro hg9 hb9); clear hg9 hs9 hb9))
      go_roundw
      case measure => simp [intOf]; omega
      case rel =>
        have hsoft : Soft w5 (some ⟨b, o, none⟩) n c := ⟨fun e => (by cases e), hcap, hsm, fun ad e => by
          injection e with e
          subst e
          exact ⟨rfl, _, t, H5.out.2, by rw [Array.size_setIfInBounds]; exact HFIT.out⟩⟩
        exact ⟨k + 1, by go_num, by omega, hsoft, grown_trans HI.out.2.2.1 H5.out.1, blk_grown HI.out.2.2.2 H5.out.1 (fun e => by injection e with e; exact HNE.out _ rfl e.symm)⟩
    · have hlt' : decide (k < n) = false := decide_eq_false hlt
      clear hlt
      go_wp2_with fail
      refine bodyPost_end (results_none rfl _ _ _) rfl ?_
      exact ⟨rfl, grown_trans (grown_of_below HBE.out _) HI.out.2.2.1⟩
end Go.Proofs.YtifejiclenpfoaaDoor

/- Layer 20 (client): the document's Copy, Ask. -/
namespace Go.Proofs.YtifejiclenpfoaaDoor
open Go.RowKit
set_option linter.unusedVariables false
set_option linter.unusedSimpArgs false
set_option maxRecDepth 4000
set_option maxHeartbeats 2000000 in
theorem refcopy_any (k : Ck) (A : Option Addr) (n c : Nat) (w : World) (hr : RS updK w A n c k.t) (hn : n ≤ 1000000) :
    Calls Tryd.prog 39 #[.agg (cliV k A n c)] w fun e w' => ∃ A' c', e = .returned (.agg (cliV k A' n c')) ∧ OS updK w' w.heap.size A' n c' k.t ∧ Below w.heap.size w w' := by
  have hblk1 := blk_new w (.cells (cliV k A n c) 27)
  have hbel1 : Below w.heap.size w (w.alloc (.cells (cliV k A n c) 27)) := below_alloc (Below.refl _ _) _
  have HP1 := Lib.hid (cli_at hblk1)
  have HBK1 := Lib.hid hblk1
  have HBE := Lib.hid hbel1
  obtain ⟨cs1, hcs1⟩ : ∃ cs, cliV k A n c = cs := ⟨_, rfl⟩
  simp only [hcs1] at HBE HP1 HBK1 ⊢
  have HC1 := Lib.hid hcs1
  clear hcs1 hblk1 hbel1
  have hs0 : (w.alloc (.cells cs1 27)).heap.size = w.heap.size + 1 := by simp
  obtain ⟨W1, hW1⟩ : ∃ W1, (w.alloc (.cells cs1 27)).alloc (.cells #[.int .i64 0, .int .u32 0, .slice none 0 0, .bool false] 27) = W1 := ⟨_, rfl⟩
  have HBR : Hid (Below (w.alloc (.cells cs1 27)).heap.size (w.alloc (.cells cs1 27)) W1) := Lib.hid (hW1 ▸ below_alloc (Below.refl _ _) _)
  have HB1 : Hid (Below w.heap.size w W1) := Lib.hid (below_step HBE.out HBR.out)
  have HZ1 : Hid (W1.heap[w.heap.size + 1]? = some (.cells (cliV ckZ none 0 0) 27 (0, 0))) := Lib.hid (by rw [← hW1, ← hs0]; exact blk_new _ _)
  have HX1 : Hid (W1.heap[w.heap.size]? = some (.cells (cliV k A n c) 27 (0, 0))) := Lib.hid ((blk_below HBK1.out HBR.out).trans (by rw [HC1.out]))
  have HR := Lib.hid (hr.below HB1.out)
  have HS1 : Hid (w.heap.size + 2 ≤ W1.heap.size) := Lib.hid (by rw [← hW1]; simp)
  clear hr hs0
  go_enter Tryd.func39, Tryd.ntmps39
  go_wp2_with (first | ((with_reducible show wpList _ _ _ (Oper.mk _ (Op.load _ _) _ _ _ _ :: _) _ _); refine wpList_load_g ((HP1.out.all _ HBR.out).bat) _ rfl rfl (by go_simp) ?_))
  clear hW1
  refine (refbatchc_any A n c k.t W1 HR.out hn).mono ?_
  rintro e w2 ⟨A2, c2, rfl, hO2, hb2⟩
  have HO2 := Lib.hid (hO2.lower HS1.out)
  have HX2 := Lib.hid (blk_below HX1.out hb2)
  have HZ2 := Lib.hid (blk_below HZ1.out hb2)
  have HB2 := Lib.hid (below_step HB1.out hb2)
  clear hO2 hb2 HX1 HZ1
  go_wp2_with (first | ((with_reducible show wpList _ _ _ (Oper.mk _ (Op.store _ _ _) _ _ _ _ :: _) _ _); refine wpList_store_blk HX2.out 25 2 (tabV A2 n c2) (by show 2 + 1 ≤ 4; omega) (info_bat _ _ _) (tab_one _ _ _) _ _ rfl rfl rfl rfl ?_; intro w3 hg9 hs9 hb9; have H3 := Lib.hid (And.intro hg9 (show (World.heap w3)[w.heap.size]? = some (.cells (cliV k A2 n c2) 27 (0, 0)) from hb9)); clear hg9 hs9 hb9) | ((with_reducible show wpList _ _ _ (Oper.mk _ (Op.load _ _) _ _ _ _ :: _) _ _); refine wpList_load_g (load_cli H3.out.2) _ rfl rfl (by go_simp) ?_) | ((with_reducible show wpList _ _ _ (Oper.mk _ (Op.store _ _ _) _ _ _ _ :: _) _ _); refine wpList_store_blk (blk_grown HZ2.out H3.out.1 (fun e => by injection e with e; omega)) 27 0 (cliV k A2 n c2) (Nat.le_refl _) (info_cli _ _ _ _) (cli_one _ _ _ _) _ _ rfl rfl rfl rfl ?_; intro w4 hg9 hs9 hb9; rw [splice_cli] at hb9; have H4 := Lib.hid (And.intro hg9 hb9); clear hg9 hs9 hb9))
  refine bodyPost_ret (results_c1 rfl rfl (load_cli H4.out.2)) rfl ?_
  have HO4 : OS updK w4 w.heap.size A2 n c2 k.t := OS.lower ((HO2.out.grown H3.out.1 (fun ad e h => by have := HO2.out.base_ ad e; injection h with h; omega)).grown H4.out.1 (fun ad e h => by have := HO2.out.base_ ad e; injection h with h; omega)) (by omega)
  exact ⟨A2, c2, rfl, HO4, below_grown (below_grown HB2.out H3.out.1 (Nat.le_refl _)) H4.out.1 (by omega)⟩
set_option maxHeartbeats 4000000 in
set_option maxRecDepth 100000 in
theorem refask_any (k : Ck) (A : Option Addr) (n c : Nat) (tg : Int) (w : World) (hr : RS updK w A n c k.t) (ok : k.ok) (hn : n ≤ 100000) :
    Calls Tryd.prog 59 #[.agg (cliV k A n c), .int .i64 tg] w fun e w' => ∃ A' n' c', e = .returned (.tuple #[.agg (gmV (askM k tg) A' n' c'), .int .i64 (askN k tg)]) ∧ OS updK w' w.heap.size A' n' c' (askM k tg).t ∧ Below w.heap.size w w' := by
  have hblk1 := blk_new w (.cells (cliV k A n c) 27)
  have hbel1 : Below w.heap.size w (w.alloc (.cells (cliV k A n c) 27)) := below_alloc (Below.refl _ _) _
  have HP1 := Lib.hid (cli_at hblk1)
  have HBK1 := Lib.hid hblk1
  have HBE := Lib.hid hbel1
  obtain ⟨cs1, hcs1⟩ : ∃ cs, cliV k A n c = cs := ⟨_, rfl⟩
  simp only [hcs1] at HBE HP1 HBK1 ⊢
  have HC1 := Lib.hid hcs1
  clear hcs1 hblk1 hbel1
  have hs0 : (w.alloc (.cells cs1 27)).heap.size = w.heap.size + 1 := by simp
  obtain ⟨W1, hW1⟩ : ∃ W1, (w.alloc (.cells cs1 27)).alloc (.cells #[.int .i64 0, .int .i64 0, .int .i64 0, .int .u64 0, .int .u64 0, .int .u64 0, .slice none 0 0, .int .u64 0, .bool false, .int .u64 0, .int .u64 0, .int .u64 0, .int .u64 0, .slice none 0 0, .int .u32 0, .int .u64 0, .int .u32 0, .int .u64 0, .int .u32 0, .int .u64 0, .int .u32 0, .slice none 0 0, .int .i64 0] 45) = W1 := ⟨_, rfl⟩
  have HBR : Hid (Below (w.alloc (.cells cs1 27)).heap.size (w.alloc (.cells cs1 27)) W1) := Lib.hid (hW1 ▸ below_alloc (Below.refl _ _) _)
  have HB1 : Hid (Below w.heap.size w W1) := Lib.hid (below_step HBE.out HBR.out)
  have HZ1 : Hid (W1.heap[w.heap.size + 1]? = some (.cells (gmV gmZ none 0 0) 45 (0, 0))) := Lib.hid (by rw [← hW1, ← hs0]; exact blk_new _ _)
  have HR := Lib.hid (hr.below HB1.out)
  have OK := Lib.hid ok
  have hnw := wf_i64 ok.num
  clear hr ok hs0
  go_enter Tryd.func59, Tryd.ntmps59
  go_wp2_with (first | ((with_reducible show wpList _ _ _ (Oper.mk _ (Op.load _ _) _ _ _ _ :: _) _ _); refine wpList_load_g ((HP1.out.all _ HBR.out).all) _ rfl rfl (by go_simp) ?_))
  clear hW1
  refine (refck_any k A n c W1 HR.out OK.out.t hn).mono ?_
  rintro e w2 ⟨rfl, hb2⟩
  have HB2 := Lib.hid (below_step HB1.out hb2)
  have HBR2 := Lib.hid (below_step HBR.out hb2)
  have HZ2 := Lib.hid (blk_below HZ1.out hb2)
  have HR2 := Lib.hid (HR.out.below hb2)
  clear hb2
  cases hc : ckB k with
  | false =>
    have HE := Lib.hid (ask_no (k := k) (tg := tg) (e := 300) (by unfold askN; rw [hc]; rfl) (by decide))
    clear hc
    go_wp2_with (first | ((with_reducible show wpList _ _ _ (Oper.mk _ (Op.build _ _) _ _ _ _ :: _) _ _); refine wpList_exw rfl (exec_build 45 #[] rfl #[] rfl ((run_build_gm_nil _))) ?_) | ((with_reducible show wpList _ _ _ (Oper.mk _ (Op.store _ _ _) _ _ _ _ :: _) _ _); refine wpList_store_blk HZ2.out 45 0 (gmV gmZ none 0 0) (Nat.le_refl _) (info_gm _ _ _ _) (gm_one _ _ _ _) _ _ rfl rfl rfl rfl ?_; intro w9 hg9 hs9 hb9; rw [splice_gm] at hb9; have H9 := Lib.hid (And.intro hg9 hb9); clear hg9 hs9 hb9))
    refine bodyPost_ret (results_c2 rfl rfl (load_gm H9.out.2)) rfl ?_
    rw [HE.out.1, HE.out.2]
    exact ⟨none, 0, 0, rfl, OS.nil _ _ _, below_grown HB2.out H9.out.1 (by omega)⟩
  | true =>
    have hk2 : 1 ≤ k.num ∧ k.num ≤ 2 := by
      unfold ckB at hc
      simp only [Bool.and_eq_true, decide_eq_true_eq] at hc
      exact hc.1
    by_cases ht : 1 ≤ tg ∧ tg ≤ 2
    · have htz : ((tg != 1) && (tg != 2)) = false := by
        have : tg = 1 ∨ tg = 2 := by omega
        rcases this with rfl | rfl <;> rfl
      cases ha : k.away with
      | false =>
        have HAW := Lib.hid (HP1.out.all _ HBR2.out).away
        rw [ha] at HAW
        have HE := Lib.hid (ask_no (k := k) (tg := tg) (e := 4) (by unfold askN; rw [hc, if_pos rfl, if_pos ht, ha]; rfl) (by decide))
        have h12 : tg = 1 ∨ tg = 2 := by omega
        clear hc ha ht
        rcases h12 with h12 | h12
        · subst h12
          go_wp2_with (first | ((with_reducible show wpList _ _ _ (Oper.mk _ (Op.load _ _) _ _ _ _ :: _) _ _); refine wpList_load_g (HAW.out) _ rfl rfl (by go_simp) ?_) | ((with_reducible show wpList _ _ _ (Oper.mk _ (Op.build _ _) _ _ _ _ :: _) _ _); refine wpList_exw rfl (exec_build 45 #[] rfl #[] rfl ((run_build_gm_nil _))) ?_) | ((with_reducible show wpList _ _ _ (Oper.mk _ (Op.store _ _ _) _ _ _ _ :: _) _ _); refine wpList_store_blk HZ2.out 45 0 (gmV gmZ none 0 0) (Nat.le_refl _) (info_gm _ _ _ _) (gm_one _ _ _ _) _ _ rfl rfl rfl rfl ?_; intro w9 hg9 hs9 hb9; rw [splice_gm] at hb9; have H9 := Lib.hid (And.intro hg9 hb9); clear hg9 hs9 hb9))
          refine bodyPost_ret (results_c2 rfl rfl (load_gm H9.out.2)) rfl ?_
          rw [HE.out.1, HE.out.2]
          exact ⟨none, 0, 0, rfl, OS.nil _ _ _, below_grown HB2.out H9.out.1 (by omega)⟩
        · subst h12
          go_wp2_with (first | ((with_reducible show wpList _ _ _ (Oper.mk _ (Op.load _ _) _ _ _ _ :: _) _ _); refine wpList_load_g (HAW.out) _ rfl rfl (by go_simp) ?_) | ((with_reducible show wpList _ _ _ (Oper.mk _ (Op.build _ _) _ _ _ _ :: _) _ _); refine wpList_exw rfl (exec_build 45 #[] rfl #[] rfl ((run_build_gm_nil _))) ?_) | ((with_reducible show wpList _ _ _ (Oper.mk _ (Op.store _ _ _) _ _ _ _ :: _) _ _); refine wpList_store_blk HZ2.out 45 0 (gmV gmZ none 0 0) (Nat.le_refl _) (info_gm _ _ _ _) (gm_one _ _ _ _) _ _ rfl rfl rfl rfl ?_; intro w9 hg9 hs9 hb9; rw [splice_gm] at hb9; have H9 := Lib.hid (And.intro hg9 hb9); clear hg9 hs9 hb9))
          refine bodyPost_ret (results_c2 rfl rfl (load_gm H9.out.2)) rfl ?_
          rw [HE.out.1, HE.out.2]
          exact ⟨none, 0, 0, rfl, OS.nil _ _ _, below_grown HB2.out H9.out.1 (by omega)⟩
      | true =>
        have HAW := Lib.hid (HP1.out.all _ HBR2.out).away
        rw [ha] at HAW
        have HE0 : Hid (askN k tg = 0) := Lib.hid (by unfold askN; rw [hc, if_pos rfl, if_pos ht, ha]; rfl)
        have HE : Hid (askN k tg = 0 ∧ askM k tg = ⟨6, 2 + k.num, tg, k.seq, k.t⟩) := Lib.hid ⟨HE0.out, by unfold askM; rw [if_pos HE0.out]⟩
        have hwn : IntKind.i64.wrap (2 + k.num) = 2 + k.num := IntWalk.i64_in _ (by omega)
        have h12 : tg = 1 ∨ tg = 2 := by omega
        clear hc ha ht
        rcases h12 with h12 | h12
        · subst h12
          go_upto_region 7 with (first | ((with_reducible show wpList _ _ _ (Oper.mk _ (Op.load _ _) _ _ _ _ :: _) _ _); refine wpList_load_g (HAW.out) _ rfl rfl (by go_simp) ?_))
          refine wp_region_mix ((fun w0 => Below w2.heap.size w2 w0)) [(0, 4), (1, 0), (2, 0), (3, 4), (4, 4), (5, 0), (6, 4), (7, 0), (8, 2), (9, 0), (10, 3), (11, 3)] (by kernel_rfl) (by kernel_rfl) ((below_drew1 _)) ?_
          simp only [List.map_cons, List.map_nil]
          iterate 1 (refine wpO_step4 rfl rfl (fun K hK => ?_); go_simp; refine hK _ _ ?_; clear hK K)
          refine wpO_loadW (t := 3) (ad := ⟨w.heap.size, 0, none⟩) rfl rfl ?hw rfl rfl ((fun w0 hS => (HP1.out.all w0 (below_step HBR2.out hS)).num)) ?_
          case hw => go_simp
          iterate 1 (refine wpO_step0 rfl rfl (fun K hK => ?_); go_simp; refine hK _ _ ?_; clear hK K)
          iterate 2 (refine wpO_step4 rfl rfl (fun K hK => ?_); go_simp; refine hK _ _ ?_; clear hK K)
          refine wpO_loadW (t := 22) (ad := ⟨w.heap.size, 1, none⟩) rfl rfl ?hw rfl rfl ((fun w0 hS => (HP1.out.all w0 (below_step HBR2.out hS)).seq)) ?_
          case hw => go_simp
          iterate 1 (refine wpO_step4 rfl rfl (fun K hK => ?_); go_simp; refine hK _ _ ?_; clear hK K)
          refine wpO_loadW (t := 25) (ad := ⟨w.heap.size, 2, none⟩) rfl rfl ?hw rfl rfl ((fun w0 hS => (HP1.out.all w0 (below_step HBR2.out hS)).bat)) ?_
          case hw => go_simp
          refine wpO_step2 rfl rfl (below_drew1 _) (fun K hK => ?_)
          go_simp
          refine (refbatchc_any A n c k.t _ (HR2.out.below (below_drew1 _)) (by omega)).mono ?_
          rintro e w4 ⟨A4, c4, rfl, hO4, hb4⟩
          have HV4 := Lib.hid (below_step (below_drew1 w2) hb4)
          have HO4 := Lib.hid (hO4.lower HB2.out.size)
          have HZ4 := Lib.hid (blk_below HZ2.out HV4.out)
          have HA4 := Lib.hid hO4.base_
          clear hO4 hb4
          refine hK _ _ ⟨HV4.out, ?_⟩
          clear hK K
          refine wpO_step0 rfl rfl (fun K hK => ?_)
          rw [if_pos (show Region.wanted _ _ = true from rfl)]
          refine ⟨_, fun w0 => exec_build5 rfl rfl rfl rfl rfl rfl (run_build_gm w0 ⟨6, 2 + k.num, 1, k.seq, k.t⟩ A4 n c4), hK _ _ ?_⟩
          clear hK K
          refine wpO_step3 rfl rfl (fun K hK => ?_)
          rw [if_pos (show Region.wanted _ _ = true from rfl)]
          refine oper_store_blk HZ4.out 45 0 (gmV ⟨6, 2 + k.num, 1, k.seq, k.t⟩ A4 n c4) (Nat.le_refl _) (info_gm _ _ _ _) (gm_one _ _ _ _) _ _ rfl rfl rfl ?_
          intro w5 hg5 hs5 hb5
          rw [splice_gm] at hb5
          have H5 := Lib.hid (And.intro hg5 hb5)
          clear hg5 hs5 hb5
          refine hK _ _ ?_
          clear hK K
          refine wpO_step3 rfl rfl (fun K hK => ?_); go_simp; refine hK _ _ ?_; clear hK K
          refine wpO_nil ?_
          go_wp2_with fail
          refine bodyPost_ret (results_c2 rfl rfl (load_gm H5.out.2)) rfl ?_
          rw [HE.out.1, HE.out.2]
          exact ⟨A4, n, c4, rfl, (HO4.out.grown H5.out.1 (fun ad e h => by have h1 : w2.heap.size ≤ ad.block := HA4.out ad e; have := blk_lt HZ2.out; injection h with h; omega)).lower (Nat.le_refl _), below_grown (below_step HB2.out HV4.out) H5.out.1 (by omega)⟩
        · subst h12
          go_upto_region 7 with (first | ((with_reducible show wpList _ _ _ (Oper.mk _ (Op.load _ _) _ _ _ _ :: _) _ _); refine wpList_load_g (HAW.out) _ rfl rfl (by go_simp) ?_))
          refine wp_region_mix ((fun w0 => Below w2.heap.size w2 w0)) [(0, 4), (1, 0), (2, 0), (3, 4), (4, 4), (5, 0), (6, 4), (7, 0), (8, 2), (9, 0), (10, 3), (11, 3)] (by kernel_rfl) (by kernel_rfl) ((below_drew1 _)) ?_
          simp only [List.map_cons, List.map_nil]
          iterate 1 (refine wpO_step4 rfl rfl (fun K hK => ?_); go_simp; refine hK _ _ ?_; clear hK K)
          refine wpO_loadW (t := 3) (ad := ⟨w.heap.size, 0, none⟩) rfl rfl ?hw rfl rfl ((fun w0 hS => (HP1.out.all w0 (below_step HBR2.out hS)).num)) ?_
          case hw => go_simp
          iterate 1 (refine wpO_step0 rfl rfl (fun K hK => ?_); go_simp; refine hK _ _ ?_; clear hK K)
          iterate 2 (refine wpO_step4 rfl rfl (fun K hK => ?_); go_simp; refine hK _ _ ?_; clear hK K)
          refine wpO_loadW (t := 22) (ad := ⟨w.heap.size, 1, none⟩) rfl rfl ?hw rfl rfl ((fun w0 hS => (HP1.out.all w0 (below_step HBR2.out hS)).seq)) ?_
          case hw => go_simp
          iterate 1 (refine wpO_step4 rfl rfl (fun K hK => ?_); go_simp; refine hK _ _ ?_; clear hK K)
          refine wpO_loadW (t := 25) (ad := ⟨w.heap.size, 2, none⟩) rfl rfl ?hw rfl rfl ((fun w0 hS => (HP1.out.all w0 (below_step HBR2.out hS)).bat)) ?_
          case hw => go_simp
          refine wpO_step2 rfl rfl (below_drew1 _) (fun K hK => ?_)
          go_simp
          refine (refbatchc_any A n c k.t _ (HR2.out.below (below_drew1 _)) (by omega)).mono ?_
          rintro e w4 ⟨A4, c4, rfl, hO4, hb4⟩
          have HV4 := Lib.hid (below_step (below_drew1 w2) hb4)
          have HO4 := Lib.hid (hO4.lower HB2.out.size)
          have HZ4 := Lib.hid (blk_below HZ2.out HV4.out)
          have HA4 := Lib.hid hO4.base_
          clear hO4 hb4
          refine hK _ _ ⟨HV4.out, ?_⟩
          clear hK K
          refine wpO_step0 rfl rfl (fun K hK => ?_)
          rw [if_pos (show Region.wanted _ _ = true from rfl)]
          refine ⟨_, fun w0 => exec_build5 rfl rfl rfl rfl rfl rfl (run_build_gm w0 ⟨6, 2 + k.num, 2, k.seq, k.t⟩ A4 n c4), hK _ _ ?_⟩
          clear hK K
          refine wpO_step3 rfl rfl (fun K hK => ?_)
          rw [if_pos (show Region.wanted _ _ = true from rfl)]
          refine oper_store_blk HZ4.out 45 0 (gmV ⟨6, 2 + k.num, 2, k.seq, k.t⟩ A4 n c4) (Nat.le_refl _) (info_gm _ _ _ _) (gm_one _ _ _ _) _ _ rfl rfl rfl ?_
          intro w5 hg5 hs5 hb5
          rw [splice_gm] at hb5
          have H5 := Lib.hid (And.intro hg5 hb5)
          clear hg5 hs5 hb5
          refine hK _ _ ?_
          clear hK K
          refine wpO_step3 rfl rfl (fun K hK => ?_); go_simp; refine hK _ _ ?_; clear hK K
          refine wpO_nil ?_
          go_wp2_with fail
          refine bodyPost_ret (results_c2 rfl rfl (load_gm H5.out.2)) rfl ?_
          rw [HE.out.1, HE.out.2]
          exact ⟨A4, n, c4, rfl, (HO4.out.grown H5.out.1 (fun ad e h => by have h1 : w2.heap.size ≤ ad.block := HA4.out ad e; have := blk_lt HZ2.out; injection h with h; omega)).lower (Nat.le_refl _), below_grown (below_step HB2.out HV4.out) H5.out.1 (by omega)⟩
    · have HE := Lib.hid (ask_no (k := k) (tg := tg) (e := 2) (by unfold askN; rw [hc, if_pos rfl, if_neg ht]) (by decide))
      have ht1 : (tg != 1) = true := by simp; omega
      have ht2 : (tg != 2) = true := by simp; omega
      clear hc ht
      go_wp2_with (first | ((with_reducible show wpList _ _ _ (Oper.mk _ (Op.build _ _) _ _ _ _ :: _) _ _); refine wpList_exw rfl (exec_build 45 #[] rfl #[] rfl ((run_build_gm_nil _))) ?_) | ((with_reducible show wpList _ _ _ (Oper.mk _ (Op.store _ _ _) _ _ _ _ :: _) _ _); refine wpList_store_blk HZ2.out 45 0 (gmV gmZ none 0 0) (Nat.le_refl _) (info_gm _ _ _ _) (gm_one _ _ _ _) _ _ rfl rfl rfl rfl ?_; intro w9 hg9 hs9 hb9; rw [splice_gm] at hb9; have H9 := Lib.hid (And.intro hg9 hb9); clear hg9 hs9 hb9))
      refine bodyPost_ret (results_c2 rfl rfl (load_gm H9.out.2)) rfl ?_
      rw [HE.out.1, HE.out.2]
      exact ⟨none, 0, 0, rfl, OS.nil _ _ _, below_grown HB2.out H9.out.1 (by omega)⟩
end Go.Proofs.YtifejiclenpfoaaDoor

/- Layer 20 (client): the document's Hear. -/
namespace Go.Proofs.YtifejiclenpfoaaDoor
open Go.RowKit
set_option linter.unusedVariables false
set_option linter.unusedSimpArgs false
set_option maxRecDepth 4000
theorem run_build_cli2 (w : World) (num seq : Int) : (Instr.build 27 #[(0, .int .i64 num), (1, .int .u32 seq)]).run Tryd.prog w = .ok (.agg (cliV ⟨num, seq, false, []⟩ none 0 0)) w := run_build w _ _ _ (by kernel_rfl)
set_option maxHeartbeats 8000000 in
set_option maxRecDepth 100000 in
theorem refhear_any (k : Ck) (A : Option Addr) (n c : Nat) (m : Mg) (w : World) (hr : RS updK w A n c k.t) (ok : k.ok) (hn : n ≤ 100000) (hm : m.fits) (hc : ckB k = true) :
    Calls Tryd.prog 37 #[.agg (cliV k A n c), .agg (msgV m)] w fun e w' => ∃ A1 n1 c1 A2 n2 c2, e = .returned (.tuple #[.agg (cliV (hearK k (hearB k m.kind m.tgt m.seq m.err)) A1 n1 c1), .agg (hdV (hearH k (hearB k m.kind m.tgt m.seq m.err) m.err m.index) A2 n2 c2)]) ∧
      OS updK w' w.heap.size A1 n1 c1 (hearK k (hearB k m.kind m.tgt m.seq m.err)).t ∧ OS updK w' w.heap.size A2 n2 c2 (hearH k (hearB k m.kind m.tgt m.seq m.err) m.err m.index).t ∧ Below w.heap.size w w' := by
  have hblk1 := blk_new w (.cells (cliV k A n c) 27)
  have hbel1 : Below w.heap.size w (w.alloc (.cells (cliV k A n c) 27)) := below_alloc (Below.refl _ _) _
  have hblk2 := blk_new (w.alloc (.cells (cliV k A n c) 27)) (.cells (msgV m) 45)
  have hbel2 : Below w.heap.size w ((w.alloc (.cells (cliV k A n c) 27)).alloc (.cells (msgV m) 45)) := below_alloc (hbel1) _
  rw [show (w.alloc (.cells (cliV k A n c) 27)).heap.size = w.heap.size + 1 by simp] at hblk2
  replace hblk1 := blk_below hblk1 (below_alloc (Below.refl _ _) (.cells (msgV m) 45))
  have HP1 := Lib.hid (cli_at hblk1)
  have HBK1 := Lib.hid hblk1
  have HP2 := Lib.hid (msg_at hm hblk2)
  have HBK2 := Lib.hid hblk2
  have HBE := Lib.hid hbel2
  obtain ⟨cs1, hcs1⟩ : ∃ cs, cliV k A n c = cs := ⟨_, rfl⟩
  obtain ⟨cs2, hcs2⟩ : ∃ cs, msgV m = cs := ⟨_, rfl⟩
  simp only [hcs1, hcs2] at HBE HP1 HP2 HBK1 HBK2 ⊢
  have HC1 := Lib.hid hcs1
  have HC2 := Lib.hid hcs2
  clear hcs1 hblk1 hbel1 hcs2 hblk2 hbel2
  have hs0 : ((w.alloc (.cells cs1 27)).alloc (.cells cs2 45)).heap.size = w.heap.size + 2 := by simp
  obtain ⟨W0, hW0⟩ : ∃ W0, ((w.alloc (.cells cs1 27)).alloc (.cells cs2 45)).alloc (.cells #[.int .i64 0, .int .u32 0, .slice none 0 0, .bool false] 27) = W0 := ⟨_, rfl⟩
  have hs1 : W0.heap.size = w.heap.size + 3 := by rw [← hW0]; simp
  obtain ⟨W1, hW1⟩ : ∃ W1, W0.alloc (.cells #[.bool false, .int .i64 0, .int .u32 0, .slice none 0 0, .int .u64 0] 61) = W1 := ⟨_, rfl⟩
  have HBR : Hid (Below ((w.alloc (.cells cs1 27)).alloc (.cells cs2 45)).heap.size ((w.alloc (.cells cs1 27)).alloc (.cells cs2 45)) W1) := Lib.hid (hW1 ▸ below_alloc (hW0 ▸ below_alloc (Below.refl _ _) _) _)
  have HB1 : Hid (Below w.heap.size w W1) := Lib.hid (below_step HBE.out HBR.out)
  have HX1 : Hid (W1.heap[w.heap.size]? = some (.cells (cliV k A n c) 27 (0, 0))) := Lib.hid ((blk_below HBK1.out HBR.out).trans (by rw [HC1.out]))
  have HZ1 : Hid (W1.heap[w.heap.size + 2]? = some (.cells (cliV ckZ none 0 0) 27 (0, 0))) := Lib.hid (by rw [← hW1, ← hs0]; refine blk_below ?_ (below_alloc (Below.refl _ _) _); rw [← hW0]; exact blk_new _ _)
  have HH1 : Hid (W1.heap[W0.heap.size]? = some (.cells (hdV hdZ none 0 0) 61 (0, 0))) := Lib.hid (by rw [← hW1]; exact blk_new _ _)
  have HW0 := Lib.hid hs1
  have HY1 : Hid (W1.heap[w.heap.size + 1]? = some (.cells (msgV m) 45 (0, 0))) := Lib.hid ((blk_below HBK2.out HBR.out).trans (by rw [HC2.out]))
  have HM := Lib.hid (msg_ld hm HY1.out)
  have HC := Lib.hid ((cli_at HX1.out).all _ (Below.refl _ _))
  have HAW := Lib.hid HC.out.away
  have HS1 : Hid (w.heap.size + 4 ≤ W1.heap.size) := Lib.hid (by rw [← hW1]; simp; omega)
  have HR := Lib.hid (hr.below HB1.out)
  have HMF := Lib.hid hm
  have hnw := wf_i64 ok.num
  have HHB : Hid (hearB k m.kind m.tgt m.seq m.err = (decide (m.kind = 7) && decide (m.tgt = 2 + k.num) && decide (m.seq = k.seq) && k.away && !decide (m.err = 270))) := Lib.hid rfl
  have hk2 : 1 ≤ k.num ∧ k.num ≤ 2 := by
    unfold ckB at hc
    simp only [Bool.and_eq_true, decide_eq_true_eq] at hc
    exact hc.1
  have hwn : IntKind.i64.wrap (2 + k.num) = 2 + k.num := IntWalk.i64_in _ (by omega)
  have HCB := Lib.hid hc
  clear hr ok hm hs0 hs1 hc
  go_enter Tryd.func37, Tryd.ntmps37
  go_upto_region 1 with fail
  clear hW1 hW0
  cases h1 : (m.kind != 7) with
  | true =>
    have HN : Hid (hearB k m.kind m.tgt m.seq m.err = false) := Lib.hid (by rw [HHB.out, decide_eq_false (show ¬ m.kind = 7 by simpa using h1)]; rfl)
    have HK : Hid (hearK k false = k) := Lib.hid (by unfold hearK; rw [HCB.out]; rfl)
    have HD : Hid (∀ e i, hearH k false e i = hdZ) := Lib.hid (fun e i => by unfold hearH; rw [Bool.and_false]; rfl)
    go_wp2_with (first | ((with_reducible show wpList _ _ _ (Oper.mk _ (Op.load _ _) _ _ _ _ :: _) _ _); refine wpList_load_g (HM.out.kind) _ rfl rfl (by go_simp) ?_) | ((with_reducible show wpList _ _ _ (Oper.mk _ (Op.load _ _) _ _ _ _ :: _) _ _); refine wpList_load_g (HM.out.tgt) _ rfl rfl (by go_simp) ?_) | ((with_reducible show wpList _ _ _ (Oper.mk _ (Op.load _ _) _ _ _ _ :: _) _ _); refine wpList_load_g (HM.out.seq) _ rfl rfl (by go_simp) ?_) | ((with_reducible show wpList _ _ _ (Oper.mk _ (Op.load _ _) _ _ _ _ :: _) _ _); refine wpList_load_g (HM.out.err) _ rfl rfl (by go_simp) ?_) | ((with_reducible show wpList _ _ _ (Oper.mk _ (Op.load _ _) _ _ _ _ :: _) _ _); refine wpList_load_g (HC.out.num) _ rfl rfl (by go_simp) ?_) | ((with_reducible show wpList _ _ _ (Oper.mk _ (Op.load _ _) _ _ _ _ :: _) _ _); refine wpList_load_g (HC.out.seq) _ rfl rfl (by go_simp) ?_) | ((with_reducible show wpList _ _ _ (Oper.mk _ (Op.load _ _) _ _ _ _ :: _) _ _); refine wpList_load_g (HAW.out) _ rfl rfl (by go_simp) ?_) | ((with_reducible show wpList _ _ _ (Oper.mk _ (Op.load _ _) _ _ _ _ :: _) _ _); refine wpList_load_g (HC.out.all) _ rfl rfl (by go_simp) ?_))
    refine (refcopy_any k A n c W1 HR.out (by omega)).mono ?_
    rintro e w2 ⟨A2, c2, rfl, hO2, hb2⟩
    have HO2 := Lib.hid (hO2.lower HS1.out)
    have HZ2 := Lib.hid (blk_below HZ1.out hb2)
    have HH2 := Lib.hid (blk_below HH1.out hb2)
    have HB2 := Lib.hid (below_step HB1.out hb2)
    clear hO2 hb2
    go_wp2_with (first | ((with_reducible show wpList _ _ _ (Oper.mk _ (Op.build _ _) _ _ _ _ :: _) _ _); refine wpList_exw rfl (exec_build 61 #[] rfl #[] rfl ((run_build_hd_nil _))) ?_) | ((with_reducible show wpList _ _ _ (Oper.mk _ (Op.store _ _ _) _ _ _ _ :: _) _ _); refine wpList_store_blk HZ2.out 27 0 (cliV k A2 n c2) (Nat.le_refl _) (info_cli _ _ _ _) (cli_one _ _ _ _) _ _ rfl rfl rfl rfl ?_; intro w8 hg9 hs9 hb9; rw [splice_cli] at hb9; have H8 := Lib.hid (And.intro hg9 hb9); clear hg9 hs9 hb9) | ((with_reducible show wpList _ _ _ (Oper.mk _ (Op.store _ _ _) _ _ _ _ :: _) _ _); refine wpList_store_blk (blk_grown HH2.out H8.out.1 (fun e => by injection e with e; have := HW0.out; omega)) 61 0 (hdV hdZ none 0 0) (Nat.le_refl _) (info_hd _ _ _ _) (hd_one _ _ _ _) _ _ rfl rfl rfl rfl ?_; intro w9 hg9 hs9 hb9; rw [splice_hd] at hb9; have H9 := Lib.hid (And.intro hg9 hb9); clear hg9 hs9 hb9))
    refine bodyPost_ret (results_c2c rfl rfl (load_cli (blk_grown H8.out.2 H9.out.1 (fun e => by injection e with e; have := HW0.out; omega))) rfl (load_hd H9.out.2)) rfl ?_
    rw [HN.out, HK.out, HD.out]
    exact ⟨A2, n, c2, none, 0, 0, rfl, ((HO2.out.grown H8.out.1 (fun ad e h => by have := HO2.out.base_ ad e; injection h with h; omega)).grown H9.out.1 (fun ad e h => by have := HO2.out.base_ ad e; have := HW0.out; injection h with h; omega)).lower (by omega), OS.nil _ _ _, below_grown (below_grown HB2.out H8.out.1 (by omega)) H9.out.1 (by have := HW0.out; omega)⟩
  | false =>
    cases h2 : (m.tgt != 2 + k.num) with
    | true =>
      have HN : Hid (hearB k m.kind m.tgt m.seq m.err = false) := Lib.hid (by rw [HHB.out, decide_eq_false (show ¬ m.tgt = 2 + k.num by simpa using h2)]; simp)
      have HK : Hid (hearK k false = k) := Lib.hid (by unfold hearK; rw [HCB.out]; rfl)
      have HD : Hid (∀ e i, hearH k false e i = hdZ) := Lib.hid (fun e i => by unfold hearH; rw [Bool.and_false]; rfl)
      go_wp2_with (first | ((with_reducible show wpList _ _ _ (Oper.mk _ (Op.load _ _) _ _ _ _ :: _) _ _); refine wpList_load_g (HM.out.kind) _ rfl rfl (by go_simp) ?_) | ((with_reducible show wpList _ _ _ (Oper.mk _ (Op.load _ _) _ _ _ _ :: _) _ _); refine wpList_load_g (HM.out.tgt) _ rfl rfl (by go_simp) ?_) | ((with_reducible show wpList _ _ _ (Oper.mk _ (Op.load _ _) _ _ _ _ :: _) _ _); refine wpList_load_g (HM.out.seq) _ rfl rfl (by go_simp) ?_) | ((with_reducible show wpList _ _ _ (Oper.mk _ (Op.load _ _) _ _ _ _ :: _) _ _); refine wpList_load_g (HM.out.err) _ rfl rfl (by go_simp) ?_) | ((with_reducible show wpList _ _ _ (Oper.mk _ (Op.load _ _) _ _ _ _ :: _) _ _); refine wpList_load_g (HC.out.num) _ rfl rfl (by go_simp) ?_) | ((with_reducible show wpList _ _ _ (Oper.mk _ (Op.load _ _) _ _ _ _ :: _) _ _); refine wpList_load_g (HC.out.seq) _ rfl rfl (by go_simp) ?_) | ((with_reducible show wpList _ _ _ (Oper.mk _ (Op.load _ _) _ _ _ _ :: _) _ _); refine wpList_load_g (HAW.out) _ rfl rfl (by go_simp) ?_) | ((with_reducible show wpList _ _ _ (Oper.mk _ (Op.load _ _) _ _ _ _ :: _) _ _); refine wpList_load_g (HC.out.all) _ rfl rfl (by go_simp) ?_))
      refine (refcopy_any k A n c W1 HR.out (by omega)).mono ?_
      rintro e w2 ⟨A2, c2, rfl, hO2, hb2⟩
      have HO2 := Lib.hid (hO2.lower HS1.out)
      have HZ2 := Lib.hid (blk_below HZ1.out hb2)
      have HH2 := Lib.hid (blk_below HH1.out hb2)
      have HB2 := Lib.hid (below_step HB1.out hb2)
      clear hO2 hb2
      go_wp2_with (first | ((with_reducible show wpList _ _ _ (Oper.mk _ (Op.build _ _) _ _ _ _ :: _) _ _); refine wpList_exw rfl (exec_build 61 #[] rfl #[] rfl ((run_build_hd_nil _))) ?_) | ((with_reducible show wpList _ _ _ (Oper.mk _ (Op.store _ _ _) _ _ _ _ :: _) _ _); refine wpList_store_blk HZ2.out 27 0 (cliV k A2 n c2) (Nat.le_refl _) (info_cli _ _ _ _) (cli_one _ _ _ _) _ _ rfl rfl rfl rfl ?_; intro w8 hg9 hs9 hb9; rw [splice_cli] at hb9; have H8 := Lib.hid (And.intro hg9 hb9); clear hg9 hs9 hb9) | ((with_reducible show wpList _ _ _ (Oper.mk _ (Op.store _ _ _) _ _ _ _ :: _) _ _); refine wpList_store_blk (blk_grown HH2.out H8.out.1 (fun e => by injection e with e; have := HW0.out; omega)) 61 0 (hdV hdZ none 0 0) (Nat.le_refl _) (info_hd _ _ _ _) (hd_one _ _ _ _) _ _ rfl rfl rfl rfl ?_; intro w9 hg9 hs9 hb9; rw [splice_hd] at hb9; have H9 := Lib.hid (And.intro hg9 hb9); clear hg9 hs9 hb9))
      refine bodyPost_ret (results_c2c rfl rfl (load_cli (blk_grown H8.out.2 H9.out.1 (fun e => by injection e with e; have := HW0.out; omega))) rfl (load_hd H9.out.2)) rfl ?_
      rw [HN.out, HK.out, HD.out]
      exact ⟨A2, n, c2, none, 0, 0, rfl, ((HO2.out.grown H8.out.1 (fun ad e h => by have := HO2.out.base_ ad e; injection h with h; omega)).grown H9.out.1 (fun ad e h => by have := HO2.out.base_ ad e; have := HW0.out; injection h with h; omega)).lower (by omega), OS.nil _ _ _, below_grown (below_grown HB2.out H8.out.1 (by omega)) H9.out.1 (by have := HW0.out; omega)⟩
    | false =>
      cases h3 : (m.seq != k.seq) with
      | true =>
        have HN : Hid (hearB k m.kind m.tgt m.seq m.err = false) := Lib.hid (by rw [HHB.out, decide_eq_false (show ¬ m.seq = k.seq by simpa using h3)]; simp)
        have HK : Hid (hearK k false = k) := Lib.hid (by unfold hearK; rw [HCB.out]; rfl)
        have HD : Hid (∀ e i, hearH k false e i = hdZ) := Lib.hid (fun e i => by unfold hearH; rw [Bool.and_false]; rfl)
        go_wp2_with (first | ((with_reducible show wpList _ _ _ (Oper.mk _ (Op.load _ _) _ _ _ _ :: _) _ _); refine wpList_load_g (HM.out.kind) _ rfl rfl (by go_simp) ?_) | ((with_reducible show wpList _ _ _ (Oper.mk _ (Op.load _ _) _ _ _ _ :: _) _ _); refine wpList_load_g (HM.out.tgt) _ rfl rfl (by go_simp) ?_) | ((with_reducible show wpList _ _ _ (Oper.mk _ (Op.load _ _) _ _ _ _ :: _) _ _); refine wpList_load_g (HM.out.seq) _ rfl rfl (by go_simp) ?_) | ((with_reducible show wpList _ _ _ (Oper.mk _ (Op.load _ _) _ _ _ _ :: _) _ _); refine wpList_load_g (HM.out.err) _ rfl rfl (by go_simp) ?_) | ((with_reducible show wpList _ _ _ (Oper.mk _ (Op.load _ _) _ _ _ _ :: _) _ _); refine wpList_load_g (HC.out.num) _ rfl rfl (by go_simp) ?_) | ((with_reducible show wpList _ _ _ (Oper.mk _ (Op.load _ _) _ _ _ _ :: _) _ _); refine wpList_load_g (HC.out.seq) _ rfl rfl (by go_simp) ?_) | ((with_reducible show wpList _ _ _ (Oper.mk _ (Op.load _ _) _ _ _ _ :: _) _ _); refine wpList_load_g (HAW.out) _ rfl rfl (by go_simp) ?_) | ((with_reducible show wpList _ _ _ (Oper.mk _ (Op.load _ _) _ _ _ _ :: _) _ _); refine wpList_load_g (HC.out.all) _ rfl rfl (by go_simp) ?_))
        refine (refcopy_any k A n c W1 HR.out (by omega)).mono ?_
        rintro e w2 ⟨A2, c2, rfl, hO2, hb2⟩
        have HO2 := Lib.hid (hO2.lower HS1.out)
        have HZ2 := Lib.hid (blk_below HZ1.out hb2)
        have HH2 := Lib.hid (blk_below HH1.out hb2)
        have HB2 := Lib.hid (below_step HB1.out hb2)
        clear hO2 hb2
        go_wp2_with (first | ((with_reducible show wpList _ _ _ (Oper.mk _ (Op.build _ _) _ _ _ _ :: _) _ _); refine wpList_exw rfl (exec_build 61 #[] rfl #[] rfl ((run_build_hd_nil _))) ?_) | ((with_reducible show wpList _ _ _ (Oper.mk _ (Op.store _ _ _) _ _ _ _ :: _) _ _); refine wpList_store_blk HZ2.out 27 0 (cliV k A2 n c2) (Nat.le_refl _) (info_cli _ _ _ _) (cli_one _ _ _ _) _ _ rfl rfl rfl rfl ?_; intro w8 hg9 hs9 hb9; rw [splice_cli] at hb9; have H8 := Lib.hid (And.intro hg9 hb9); clear hg9 hs9 hb9) | ((with_reducible show wpList _ _ _ (Oper.mk _ (Op.store _ _ _) _ _ _ _ :: _) _ _); refine wpList_store_blk (blk_grown HH2.out H8.out.1 (fun e => by injection e with e; have := HW0.out; omega)) 61 0 (hdV hdZ none 0 0) (Nat.le_refl _) (info_hd _ _ _ _) (hd_one _ _ _ _) _ _ rfl rfl rfl rfl ?_; intro w9 hg9 hs9 hb9; rw [splice_hd] at hb9; have H9 := Lib.hid (And.intro hg9 hb9); clear hg9 hs9 hb9))
        refine bodyPost_ret (results_c2c rfl rfl (load_cli (blk_grown H8.out.2 H9.out.1 (fun e => by injection e with e; have := HW0.out; omega))) rfl (load_hd H9.out.2)) rfl ?_
        rw [HN.out, HK.out, HD.out]
        exact ⟨A2, n, c2, none, 0, 0, rfl, ((HO2.out.grown H8.out.1 (fun ad e h => by have := HO2.out.base_ ad e; injection h with h; omega)).grown H9.out.1 (fun ad e h => by have := HO2.out.base_ ad e; have := HW0.out; injection h with h; omega)).lower (by omega), OS.nil _ _ _, below_grown (below_grown HB2.out H8.out.1 (by omega)) H9.out.1 (by have := HW0.out; omega)⟩
      | false =>
        cases ha : k.away with
        | false =>
          rw [ha] at HAW
          have HN : Hid (hearB k m.kind m.tgt m.seq m.err = false) := Lib.hid (by rw [HHB.out, ha]; simp)
          have HK : Hid (hearK k false = k) := Lib.hid (by unfold hearK; rw [HCB.out]; rfl)
          have HD : Hid (∀ e i, hearH k false e i = hdZ) := Lib.hid (fun e i => by unfold hearH; rw [Bool.and_false]; rfl)
          go_wp2_with (first | ((with_reducible show wpList _ _ _ (Oper.mk _ (Op.load _ _) _ _ _ _ :: _) _ _); refine wpList_load_g (HM.out.kind) _ rfl rfl (by go_simp) ?_) | ((with_reducible show wpList _ _ _ (Oper.mk _ (Op.load _ _) _ _ _ _ :: _) _ _); refine wpList_load_g (HM.out.tgt) _ rfl rfl (by go_simp) ?_) | ((with_reducible show wpList _ _ _ (Oper.mk _ (Op.load _ _) _ _ _ _ :: _) _ _); refine wpList_load_g (HM.out.seq) _ rfl rfl (by go_simp) ?_) | ((with_reducible show wpList _ _ _ (Oper.mk _ (Op.load _ _) _ _ _ _ :: _) _ _); refine wpList_load_g (HM.out.err) _ rfl rfl (by go_simp) ?_) | ((with_reducible show wpList _ _ _ (Oper.mk _ (Op.load _ _) _ _ _ _ :: _) _ _); refine wpList_load_g (HC.out.num) _ rfl rfl (by go_simp) ?_) | ((with_reducible show wpList _ _ _ (Oper.mk _ (Op.load _ _) _ _ _ _ :: _) _ _); refine wpList_load_g (HC.out.seq) _ rfl rfl (by go_simp) ?_) | ((with_reducible show wpList _ _ _ (Oper.mk _ (Op.load _ _) _ _ _ _ :: _) _ _); refine wpList_load_g (HAW.out) _ rfl rfl (by go_simp) ?_) | ((with_reducible show wpList _ _ _ (Oper.mk _ (Op.load _ _) _ _ _ _ :: _) _ _); refine wpList_load_g (HC.out.all) _ rfl rfl (by go_simp) ?_))
          refine (refcopy_any k A n c W1 HR.out (by omega)).mono ?_
          rintro e w2 ⟨A2, c2, rfl, hO2, hb2⟩
          have HO2 := Lib.hid (hO2.lower HS1.out)
          have HZ2 := Lib.hid (blk_below HZ1.out hb2)
          have HH2 := Lib.hid (blk_below HH1.out hb2)
          have HB2 := Lib.hid (below_step HB1.out hb2)
          clear hO2 hb2
          go_wp2_with (first | ((with_reducible show wpList _ _ _ (Oper.mk _ (Op.build _ _) _ _ _ _ :: _) _ _); refine wpList_exw rfl (exec_build 61 #[] rfl #[] rfl ((run_build_hd_nil _))) ?_) | ((with_reducible show wpList _ _ _ (Oper.mk _ (Op.store _ _ _) _ _ _ _ :: _) _ _); refine wpList_store_blk HZ2.out 27 0 (cliV k A2 n c2) (Nat.le_refl _) (info_cli _ _ _ _) (cli_one _ _ _ _) _ _ rfl rfl rfl rfl ?_; intro w8 hg9 hs9 hb9; rw [splice_cli] at hb9; have H8 := Lib.hid (And.intro hg9 hb9); clear hg9 hs9 hb9) | ((with_reducible show wpList _ _ _ (Oper.mk _ (Op.store _ _ _) _ _ _ _ :: _) _ _); refine wpList_store_blk (blk_grown HH2.out H8.out.1 (fun e => by injection e with e; have := HW0.out; omega)) 61 0 (hdV hdZ none 0 0) (Nat.le_refl _) (info_hd _ _ _ _) (hd_one _ _ _ _) _ _ rfl rfl rfl rfl ?_; intro w9 hg9 hs9 hb9; rw [splice_hd] at hb9; have H9 := Lib.hid (And.intro hg9 hb9); clear hg9 hs9 hb9))
          refine bodyPost_ret (results_c2c rfl rfl (load_cli (blk_grown H8.out.2 H9.out.1 (fun e => by injection e with e; have := HW0.out; omega))) rfl (load_hd H9.out.2)) rfl ?_
          rw [HN.out, HK.out, HD.out]
          exact ⟨A2, n, c2, none, 0, 0, rfl, ((HO2.out.grown H8.out.1 (fun ad e h => by have := HO2.out.base_ ad e; injection h with h; omega)).grown H9.out.1 (fun ad e h => by have := HO2.out.base_ ad e; have := HW0.out; injection h with h; omega)).lower (by omega), OS.nil _ _ _, below_grown (below_grown HB2.out H8.out.1 (by omega)) H9.out.1 (by have := HW0.out; omega)⟩
        | true =>
          rw [ha] at HAW
          cases h4 : (m.err == 270) with
          | true =>
            have HN : Hid (hearB k m.kind m.tgt m.seq m.err = false) := Lib.hid (by rw [HHB.out, decide_eq_true (show m.err = 270 by simpa using h4)]; simp)
            have HK : Hid (hearK k false = k) := Lib.hid (by unfold hearK; rw [HCB.out]; rfl)
            have HD : Hid (∀ e i, hearH k false e i = hdZ) := Lib.hid (fun e i => by unfold hearH; rw [Bool.and_false]; rfl)
            go_wp2_with (first | ((with_reducible show wpList _ _ _ (Oper.mk _ (Op.load _ _) _ _ _ _ :: _) _ _); refine wpList_load_g (HM.out.kind) _ rfl rfl (by go_simp) ?_) | ((with_reducible show wpList _ _ _ (Oper.mk _ (Op.load _ _) _ _ _ _ :: _) _ _); refine wpList_load_g (HM.out.tgt) _ rfl rfl (by go_simp) ?_) | ((with_reducible show wpList _ _ _ (Oper.mk _ (Op.load _ _) _ _ _ _ :: _) _ _); refine wpList_load_g (HM.out.seq) _ rfl rfl (by go_simp) ?_) | ((with_reducible show wpList _ _ _ (Oper.mk _ (Op.load _ _) _ _ _ _ :: _) _ _); refine wpList_load_g (HM.out.err) _ rfl rfl (by go_simp) ?_) | ((with_reducible show wpList _ _ _ (Oper.mk _ (Op.load _ _) _ _ _ _ :: _) _ _); refine wpList_load_g (HC.out.num) _ rfl rfl (by go_simp) ?_) | ((with_reducible show wpList _ _ _ (Oper.mk _ (Op.load _ _) _ _ _ _ :: _) _ _); refine wpList_load_g (HC.out.seq) _ rfl rfl (by go_simp) ?_) | ((with_reducible show wpList _ _ _ (Oper.mk _ (Op.load _ _) _ _ _ _ :: _) _ _); refine wpList_load_g (HAW.out) _ rfl rfl (by go_simp) ?_) | ((with_reducible show wpList _ _ _ (Oper.mk _ (Op.load _ _) _ _ _ _ :: _) _ _); refine wpList_load_g (HC.out.all) _ rfl rfl (by go_simp) ?_))
            refine (refcopy_any k A n c W1 HR.out (by omega)).mono ?_
            rintro e w2 ⟨A2, c2, rfl, hO2, hb2⟩
            have HO2 := Lib.hid (hO2.lower HS1.out)
            have HZ2 := Lib.hid (blk_below HZ1.out hb2)
            have HH2 := Lib.hid (blk_below HH1.out hb2)
            have HB2 := Lib.hid (below_step HB1.out hb2)
            clear hO2 hb2
            go_wp2_with (first | ((with_reducible show wpList _ _ _ (Oper.mk _ (Op.build _ _) _ _ _ _ :: _) _ _); refine wpList_exw rfl (exec_build 61 #[] rfl #[] rfl ((run_build_hd_nil _))) ?_) | ((with_reducible show wpList _ _ _ (Oper.mk _ (Op.store _ _ _) _ _ _ _ :: _) _ _); refine wpList_store_blk HZ2.out 27 0 (cliV k A2 n c2) (Nat.le_refl _) (info_cli _ _ _ _) (cli_one _ _ _ _) _ _ rfl rfl rfl rfl ?_; intro w8 hg9 hs9 hb9; rw [splice_cli] at hb9; have H8 := Lib.hid (And.intro hg9 hb9); clear hg9 hs9 hb9) | ((with_reducible show wpList _ _ _ (Oper.mk _ (Op.store _ _ _) _ _ _ _ :: _) _ _); refine wpList_store_blk (blk_grown HH2.out H8.out.1 (fun e => by injection e with e; have := HW0.out; omega)) 61 0 (hdV hdZ none 0 0) (Nat.le_refl _) (info_hd _ _ _ _) (hd_one _ _ _ _) _ _ rfl rfl rfl rfl ?_; intro w9 hg9 hs9 hb9; rw [splice_hd] at hb9; have H9 := Lib.hid (And.intro hg9 hb9); clear hg9 hs9 hb9))
            refine bodyPost_ret (results_c2c rfl rfl (load_cli (blk_grown H8.out.2 H9.out.1 (fun e => by injection e with e; have := HW0.out; omega))) rfl (load_hd H9.out.2)) rfl ?_
            rw [HN.out, HK.out, HD.out]
            exact ⟨A2, n, c2, none, 0, 0, rfl, ((HO2.out.grown H8.out.1 (fun ad e h => by have := HO2.out.base_ ad e; injection h with h; omega)).grown H9.out.1 (fun ad e h => by have := HO2.out.base_ ad e; have := HW0.out; injection h with h; omega)).lower (by omega), OS.nil _ _ _, below_grown (below_grown HB2.out H8.out.1 (by omega)) H9.out.1 (by have := HW0.out; omega)⟩
          | false =>
            have HN : Hid (hearB k m.kind m.tgt m.seq m.err = true) := Lib.hid (by rw [HHB.out, decide_eq_true (show m.kind = 7 by simpa using h1), decide_eq_true (show m.tgt = 2 + k.num by simpa using h2), decide_eq_true (show m.seq = k.seq by simpa using h3), ha, decide_eq_false (show ¬ m.err = 270 by simpa using h4)]; rfl)
            have HK : Hid (hearK k true = ⟨k.num, k.seq, false, []⟩) := Lib.hid (by unfold hearK; rw [HCB.out]; rfl)
            have HD : Hid (hearH k true m.err m.index = ⟨true, m.err, k.seq, if m.err = 0 then m.index else 0, k.t⟩) := Lib.hid (by unfold hearH; rw [HCB.out]; rfl)
            clear ha
            go_upto_region 3 with (first | ((with_reducible show wpList _ _ _ (Oper.mk _ (Op.load _ _) _ _ _ _ :: _) _ _); refine wpList_load_g (HM.out.kind) _ rfl rfl (by go_simp) ?_) | ((with_reducible show wpList _ _ _ (Oper.mk _ (Op.load _ _) _ _ _ _ :: _) _ _); refine wpList_load_g (HM.out.tgt) _ rfl rfl (by go_simp) ?_) | ((with_reducible show wpList _ _ _ (Oper.mk _ (Op.load _ _) _ _ _ _ :: _) _ _); refine wpList_load_g (HM.out.seq) _ rfl rfl (by go_simp) ?_) | ((with_reducible show wpList _ _ _ (Oper.mk _ (Op.load _ _) _ _ _ _ :: _) _ _); refine wpList_load_g (HM.out.err) _ rfl rfl (by go_simp) ?_) | ((with_reducible show wpList _ _ _ (Oper.mk _ (Op.load _ _) _ _ _ _ :: _) _ _); refine wpList_load_g (HC.out.num) _ rfl rfl (by go_simp) ?_) | ((with_reducible show wpList _ _ _ (Oper.mk _ (Op.load _ _) _ _ _ _ :: _) _ _); refine wpList_load_g (HC.out.seq) _ rfl rfl (by go_simp) ?_) | ((with_reducible show wpList _ _ _ (Oper.mk _ (Op.load _ _) _ _ _ _ :: _) _ _); refine wpList_load_g (HAW.out) _ rfl rfl (by go_simp) ?_))
            try dsimp only [Act.put]
            clear h1 h2 h3 h4
            go_cut [6] (fun s6 wx => ∃ (g : Nat) (A5 : Option Addr) (n5 c5 : Nat), s6 = .pointer (some ⟨g, 0, none⟩) ∧ Hid (wx.heap[g]? = some (.cells (hdV ⟨true, m.err, k.seq, 0, k.t⟩ A5 n5 c5) 61 (0, 0)) ∧ OS updK wx W1.heap.size A5 n5 c5 k.t ∧ Below W1.heap.size W1 wx ∧ W1.heap.size ≤ g ∧ (∀ ad, A5 = some ad → ad.block ≠ g)))
            case first =>
              have HBD := Lib.hid (below_drew1 W1)
              refine wp_region_fork ((fun w0 => Below W1.heap.size W1 w0)) (OrdT.fork [0, 1, 2, 3, 4, 5] 6 8 (OrdT.lin [7, 8, 9]) (OrdT.lin [6, 7, 9])) [(0, 0), (1, 0), (2, 0), (3, 0), (4, 0), (5, 0), (6, 2), (7, 0), (8, 2), (9, 2)] (by kernel_rfl) (by kernel_rfl) ((below_drew1 _)) ?_
              simp only [wpF]
              iterate 1 (refine wpO_step0 rfl rfl (fun K hK => ?_); go_simp; refine hK _ _ ?_; clear hK K)
              refine wpO_loadW (t := 43) (ad := ⟨(w.heap.size+1), 22, none⟩) rfl rfl ?hw rfl rfl ((fun w0 hS => (msg_ld HMF.out (blk_below HY1.out hS)).err)) ?_
              case hw => go_simp
              iterate 1 (refine wpO_step0 rfl rfl (fun K hK => ?_); go_simp; refine hK _ _ ?_; clear hK K)
              refine wpO_loadW (t := 22) (ad := ⟨w.heap.size, 1, none⟩) rfl rfl ?hw rfl rfl ((fun w0 hS => ((cli_at HX1.out).all _ hS).seq)) ?_
              case hw => go_simp
              iterate 1 (refine wpO_step0 rfl rfl (fun K hK => ?_); go_simp; refine hK _ _ ?_; clear hK K)
              refine wpO_loadW (t := 25) (ad := ⟨w.heap.size, 2, none⟩) rfl rfl ?hw rfl rfl ((fun w0 hS => ((cli_at HX1.out).all _ hS).bat)) ?_
              case hw => go_simp
              refine wpO_nil ⟨?_, ?_⟩
              · refine wpO_step2 rfl rfl (HBD.out) (fun K hK => ?_)
                go_simp
                refine (refbatchc_any A n c k.t W1.drew (HR.out.below HBD.out) (by omega)).mono ?_
                rintro e w2 ⟨A9, c9, rfl, hO9, hb9⟩
                have HBC := Lib.hid (below_step HBD.out hb9)
                have HLT9 := Lib.hid hO9.lt
                have HBA9 := Lib.hid hO9.base_
                have HO9 : Hid (OS updK w2 W1.heap.size A9 n c9 k.t) := Lib.hid (hO9.lower HBD.out.size)
                try replace HZ9 := Lib.hid (blk_below HZ9.out hb9)
                have hszc := hb9.size
                clear hO9 hb9
                refine hK _ _ ⟨HBC.out, ?_⟩
                clear hK K
                refine wpO_nil ?_
                refine wpO_step0 rfl rfl (fun K hK => ?_)
                rw [if_pos (show Region.wanted _ _ = true from rfl)]
                refine ⟨_, fun w0 => exec_build4 rfl rfl rfl rfl rfl (run_build_hd w0 m.err k.seq k.t A9 n c9), hK _ _ ?_⟩
                clear hK K
                refine wpO_step2 rfl rfl (HBC.out) (fun K hK => ?_)
                go_simp
                have hz9 := blk_new w2 (.cells (hdV hdZ none 0 0) 61)
                obtain ⟨w3, hw9⟩ : ∃ w9, World.alloc w2 (.cells (hdV hdZ none 0 0) 61) = w9 := ⟨_, rfl⟩
                have ha9 : Below (World.heap w2).size w2 w3 := hw9 ▸ below_alloc (Below.refl _ _) _
                have HBK := Lib.hid (below_step HBC.out ha9)
                refine kw_cast hw9 ?_
                rw [hw9] at hz9
                have hzl9 := blk_lt hz9
                have HZ9 := Lib.hid hz9
                try replace HCP := Lib.hid (HCP.out.below ha9)
                try replace HO9 := Lib.hid (HO9.out.below ha9)
                try replace HLV := Lib.hid (HLV.out.below ha9)
                try replace HKP := Lib.hid (HKP.out.below ha9)
                clear hw9 hz9 ha9
                refine hK _ _ ⟨HBK.out, ?_⟩
                clear hK K
                refine wpO_step2 rfl rfl (HBK.out) (fun K hK => ?_)
                rw [if_pos (show Region.wanted _ _ = true from rfl)]
                refine oper_store_blk HZ9.out 61 0 (hdV ⟨true, m.err, k.seq, 0, k.t⟩ A9 n c9) (Nat.le_refl _) (info_hd _ _ _ _) (hd_one _ _ _ _) _ _ rfl rfl rfl ?_
                intro w4 hg9 hs9 hb9
                rw [splice_hd] at hb9
                have HBL := Lib.hid (below_grown HBK.out hg9 (by have h1 := HBC.out.size; have h2 := HBK.out.size; omega))
                have HNE9 : Hid (∀ ad, A9 = some ad → ad.block ≠ w2.heap.size) := Lib.hid (fun ad e => by have h1 := HLT9.out ad e; have h2 := HBA9.out ad e; first | omega)
                have HGE9 : Hid (W1.heap.size ≤ w2.heap.size) := Lib.hid (by have h1 := HBC.out.size; have h2 := HBK.out.size; first | omega | exact Nat.le_refl _)
                replace HO9 := Lib.hid (HO9.out.grown hg9 (fun ad e h => by injection h with h; exact HNE9.out ad e h))
                replace HZ9 := Lib.hid hb9
                clear hg9 hs9 hb9
                refine hK _ _ ⟨HBL.out, ?_⟩
                clear hK K
                iterate 0 (refine wpO_step0 rfl rfl (fun K hK => ?_); go_simp; refine hK _ _ ?_; clear hK K)
                refine wpO_nil ?_
                go_wp2_with fail
                go_meet
                exact ⟨w2.heap.size, A9, n, c9, rfl, HZ9.out, HO9.out, HBL.out, HGE9.out, HNE9.out⟩
              · refine wpO_step2 rfl rfl (HBD.out) (fun K hK => ?_)
                go_simp
                have hz9 := blk_new W1 (.cells (hdV hdZ none 0 0) 61)
                obtain ⟨w2, hw9⟩ : ∃ w9, (World.alloc W1 (.cells (hdV hdZ none 0 0) 61)).drew = w9 := ⟨_, rfl⟩
                have ha9 : Below (World.heap W1).size W1 w2 := hw9 ▸ below_step (below_alloc (Below.refl _ _) _) (below_drew1 _)
                have HBC := Lib.hid ha9
                refine kw_cast hw9 ?_
                replace hz9 : (World.heap w2)[(World.heap W1).size]? = some (.cells (hdV hdZ none 0 0) 61 (0, 0)) := by rw [← hw9]; exact hz9
                have hzl9 := blk_lt hz9
                have HZ9 := Lib.hid hz9
                clear hw9 hz9 ha9
                refine hK _ _ ⟨HBC.out, ?_⟩
                clear hK K
                refine wpO_nil ?_
                refine wpO_step2 rfl rfl (HBC.out) (fun K hK => ?_)
                go_simp
                refine (refbatchc_any A n c k.t w2 (HR.out.below HBC.out) (by omega)).mono ?_
                rintro e w3 ⟨A9, c9, rfl, hO9, hb9⟩
                have HBK := Lib.hid (below_step HBC.out hb9)
                have HLT9 := Lib.hid hO9.lt
                have HBA9 := Lib.hid hO9.base_
                have HO9 : Hid (OS updK w3 W1.heap.size A9 n c9 k.t) := Lib.hid (hO9.lower HBC.out.size)
                try replace HZ9 := Lib.hid (blk_below HZ9.out hb9)
                have hszc := hb9.size
                clear hO9 hb9
                refine hK _ _ ⟨HBK.out, ?_⟩
                clear hK K
                refine wpO_step0 rfl rfl (fun K hK => ?_)
                rw [if_pos (show Region.wanted _ _ = true from rfl)]
                refine ⟨_, fun w0 => exec_build4 rfl rfl rfl rfl rfl (run_build_hd w0 m.err k.seq k.t A9 n c9), hK _ _ ?_⟩
                clear hK K
                refine wpO_step2 rfl rfl (HBK.out) (fun K hK => ?_)
                rw [if_pos (show Region.wanted _ _ = true from rfl)]
                refine oper_store_blk HZ9.out 61 0 (hdV ⟨true, m.err, k.seq, 0, k.t⟩ A9 n c9) (Nat.le_refl _) (info_hd _ _ _ _) (hd_one _ _ _ _) _ _ rfl rfl rfl ?_
                intro w4 hg9 hs9 hb9
                rw [splice_hd] at hb9
                have HBL := Lib.hid (below_grown HBK.out hg9 (by have h1 := HBC.out.size; have h2 := HBK.out.size; omega))
                have HNE9 : Hid (∀ ad, A9 = some ad → ad.block ≠ W1.heap.size) := Lib.hid (fun ad e => by have h1 := HLT9.out ad e; have h2 := HBA9.out ad e; first | omega)
                have HGE9 : Hid (W1.heap.size ≤ W1.heap.size) := Lib.hid (by have h1 := HBC.out.size; have h2 := HBK.out.size; first | omega | exact Nat.le_refl _)
                replace HO9 := Lib.hid (HO9.out.grown hg9 (fun ad e h => by injection h with h; exact HNE9.out ad e h))
                replace HZ9 := Lib.hid hb9
                clear hg9 hs9 hb9
                refine hK _ _ ⟨HBL.out, ?_⟩
                clear hK K
                iterate 0 (refine wpO_step0 rfl rfl (fun K hK => ?_); go_simp; refine hK _ _ ?_; clear hK K)
                refine wpO_nil ?_
                go_wp2_with fail
                go_meet
                exact ⟨W1.heap.size, A9, n, c9, rfl, HZ9.out, HO9.out, HBL.out, HGE9.out, HNE9.out⟩
            case rest =>
              obtain ⟨g5, A5, n5, c5, rfl, HC5⟩ := hcut
              obtain ⟨w5, rfl⟩ : ∃ w9, w9 = wc := ⟨wc, rfl⟩
              have HI5 := Lib.hid HC5.out.1
              have HO5 := Lib.hid HC5.out.2.1
              have HB5 := Lib.hid HC5.out.2.2.1
              have HG5 := Lib.hid HC5.out.2.2.2.1
              have HNE := Lib.hid HC5.out.2.2.2.2
              have HM5 := Lib.hid (msg_ld HMF.out (blk_below HY1.out HB5.out))
              clear HC5
              by_cases he : m.err = 0
              · have hez : (m.err == 0) = true := by simpa using he
                have HD2 : Hid ((⟨true, m.err, k.seq, if m.err = 0 then m.index else 0, k.t⟩ : Hd) = ⟨true, m.err, k.seq, m.index, k.t⟩) := Lib.hid (by rw [if_pos he])
                clear he
                go_upto_region 6 with (first | ((with_reducible show wpList _ _ _ (Oper.mk _ (Op.load _ _) _ _ _ _ :: _) _ _); refine wpList_load_g (HM5.out.err) _ rfl rfl (by go_simp) ?_) | ((with_reducible show wpList _ _ _ (Oper.mk _ (Op.load _ _) _ _ _ _ :: _) _ _); refine wpList_load_g (HM5.out.index) _ rfl rfl (by go_simp) ?_) | ((with_reducible show wpList _ _ _ (Oper.mk _ (Op.store _ _ _) _ _ _ _ :: _) _ _); refine wpList_store_cell HI5.out 31 4 (.int .u64 m.index) (by show 4 < 5; omega) (by kernel_rfl) rfl rfl _ _ rfl rfl rfl rfl ?_; intro w6 hg9 hs9 hb9; have H6 := Lib.hid (And.intro hg9 (show (World.heap w6)[g5]? = some (.cells (hdV ⟨true, m.err, k.seq, m.index, k.t⟩ A5 n5 c5) 61 (0, 0)) from hb9)); clear hg9 hs9 hb9))
                try dsimp only [Act.put]
                have HI6 := Lib.hid H6.out.2
                have HB6 := Lib.hid (below_grown HB5.out H6.out.1 HG5.out)
                have HO6 : Hid (OS updK w6 W1.heap.size A5 n5 c5 k.t) := Lib.hid (HO5.out.grown H6.out.1 (fun ad e h => HNE.out ad e (by injection h)))
                clear H6 HI5 HB5 HO5 HM5
                refine wp_region_mix ((fun w0 => w0.heap[w.heap.size]? = some (.cells (cliV k A n c) 27 (0, 0)) ∧ w0.heap[g5]? = some (.cells (hdV ⟨true, m.err, k.seq, m.index, k.t⟩ A5 n5 c5) 61 (0, 0)))) [(0, 0), (1, 0), (2, 0), (3, 0), (4, 0), (5, 0), (6, 2), (7, 2)] (by kernel_rfl) (by kernel_rfl) ((⟨blk_below (blk_below HX1.out HB6.out) (below_drew1 _), blk_below HI6.out (below_drew1 _)⟩)) ?_
                simp only [List.map_cons, List.map_nil]
                iterate 1 (refine wpO_step0 rfl rfl (fun K hK => ?_); go_simp; refine hK _ _ ?_; clear hK K)
                refine wpO_loadW (t := 3) (ad := ⟨w.heap.size, 0, none⟩) rfl rfl ?hw rfl rfl ((fun w0 hS => ((cli_at hS.1).all _ (Below.refl _ _)).num)) ?_
                case hw => go_simp
                iterate 1 (refine wpO_step0 rfl rfl (fun K hK => ?_); go_simp; refine hK _ _ ?_; clear hK K)
                refine wpO_loadW (t := 22) (ad := ⟨w.heap.size, 1, none⟩) rfl rfl ?hw rfl rfl ((fun w0 hS => ((cli_at hS.1).all _ (Below.refl _ _)).seq)) ?_
                case hw => go_simp
                refine wpO_step0 rfl rfl (fun K hK => ?_)
                rw [if_pos (show Region.wanted _ _ = true from rfl)]
                refine ⟨_, fun w0 => exec_build2 rfl rfl rfl (run_build_cli2 w0 k.num k.seq), hK _ _ ?_⟩
                clear hK K
                refine wpO_loadW (t := 61) (ad := ⟨g5, 0, none⟩) rfl rfl ?hw rfl rfl ((fun w0 hS => load_hd hS.2)) ?_
                case hw => go_simp
                refine wpO_step2 rfl rfl ((⟨blk_below (blk_below HX1.out HB6.out) (below_drew1 _), blk_below HI6.out (below_drew1 _)⟩)) (fun K hK => ?_)
                rw [if_pos (show Region.wanted _ _ = true from rfl)]
                refine oper_store_blk (blk_below (blk_below HZ1.out HB6.out) (below_drew1 _)) 27 0 (cliV ⟨k.num, k.seq, false, []⟩ none 0 0) (Nat.le_refl _) (info_cli _ _ _ _) (cli_one _ _ _ _) _ _ rfl rfl rfl ?_
                intro w9 hg9 hs9 hb9
                rw [splice_cli] at hb9
                have H9 := Lib.hid (And.intro hg9 hb9)
                clear hg9 hs9 hb9
                refine hK _ _ ⟨⟨blk_grown (blk_below (blk_below HX1.out HB6.out) (below_drew1 _)) H9.out.1 (fun e => by injection e with e; omega), blk_grown (blk_below HI6.out (below_drew1 _)) H9.out.1 (fun e => by injection e with e; have := HG5.out; have := HS1.out; omega)⟩, ?_⟩
                clear hK K
                refine wpO_step2 rfl rfl ((⟨blk_grown (blk_below (blk_below HX1.out HB6.out) (below_drew1 _)) H9.out.1 (fun e => by injection e with e; omega), blk_grown (blk_below HI6.out (below_drew1 _)) H9.out.1 (fun e => by injection e with e; have := HG5.out; have := HS1.out; omega)⟩)) (fun K hK => ?_)
                rw [if_pos (show Region.wanted _ _ = true from rfl)]
                refine oper_store_blk (blk_grown (blk_below (blk_below HH1.out HB6.out) (below_drew1 _)) H9.out.1 (fun e => by injection e with e; have := HW0.out; omega)) 61 0 (hdV ⟨true, m.err, k.seq, m.index, k.t⟩ A5 n5 c5) (Nat.le_refl _) (info_hd _ _ _ _) (hd_one _ _ _ _) _ _ rfl rfl rfl ?_
                intro w10 hg9 hs9 hb9
                rw [splice_hd] at hb9
                have H10 := Lib.hid (And.intro hg9 hb9)
                clear hg9 hs9 hb9
                refine hK _ _ ⟨⟨blk_grown (blk_grown (blk_below (blk_below HX1.out HB6.out) (below_drew1 _)) H9.out.1 (fun e => by injection e with e; omega)) H10.out.1 (fun e => by injection e with e; have := HW0.out; omega), blk_grown (blk_grown (blk_below HI6.out (below_drew1 _)) H9.out.1 (fun e => by injection e with e; have := HG5.out; have := HS1.out; omega)) H10.out.1 (fun e => by injection e with e; have := HW0.out; have := HG5.out; have := HS1.out; omega)⟩, ?_⟩
                clear hK K
                refine wpO_nil ?_
                go_wp2_with fail
                refine bodyPost_ret (results_c2c rfl rfl (load_cli (blk_grown H9.out.2 H10.out.1 (fun e => by injection e with e; have := HW0.out; omega))) rfl (load_hd H10.out.2)) rfl ?_
                rw [HN.out, HK.out, HD.out, HD2.out]
                exact ⟨none, 0, 0, A5, n5, c5, rfl, OS.nil _ _ _, (((HO6.out.below (below_drew1 _)).grown H9.out.1 (fun ad e h => by have := HO6.out.base_ ad e; have := HS1.out; injection h with h; omega)).grown H10.out.1 (fun ad e h => by have := HO6.out.base_ ad e; have := HS1.out; have := HW0.out; injection h with h; omega)).lower (by have := HS1.out; omega), below_grown (below_grown (below_step (below_step HB1.out HB6.out) (below_drew1 _)) H9.out.1 (by omega)) H10.out.1 (by have := HW0.out; omega)⟩
              · have hez : (m.err == 0) = false := by simpa using he
                have HD2 : Hid ((⟨true, m.err, k.seq, if m.err = 0 then m.index else 0, k.t⟩ : Hd) = ⟨true, m.err, k.seq, 0, k.t⟩) := Lib.hid (by rw [if_neg he])
                clear he
                go_upto_region 6 with (first | ((with_reducible show wpList _ _ _ (Oper.mk _ (Op.load _ _) _ _ _ _ :: _) _ _); refine wpList_load_g (HM5.out.err) _ rfl rfl (by go_simp) ?_))
                try dsimp only [Act.put]
                have HI6 := HI5
                have HB6 := HB5
                have HO6 := HO5
                refine wp_region_mix ((fun w0 => w0.heap[w.heap.size]? = some (.cells (cliV k A n c) 27 (0, 0)) ∧ w0.heap[g5]? = some (.cells (hdV ⟨true, m.err, k.seq, 0, k.t⟩ A5 n5 c5) 61 (0, 0)))) [(0, 0), (1, 0), (2, 0), (3, 0), (4, 0), (5, 0), (6, 2), (7, 2)] (by kernel_rfl) (by kernel_rfl) ((⟨blk_below (blk_below HX1.out HB6.out) (below_drew1 _), blk_below HI6.out (below_drew1 _)⟩)) ?_
                simp only [List.map_cons, List.map_nil]
                iterate 1 (refine wpO_step0 rfl rfl (fun K hK => ?_); go_simp; refine hK _ _ ?_; clear hK K)
                refine wpO_loadW (t := 3) (ad := ⟨w.heap.size, 0, none⟩) rfl rfl ?hw rfl rfl ((fun w0 hS => ((cli_at hS.1).all _ (Below.refl _ _)).num)) ?_
                case hw => go_simp
                iterate 1 (refine wpO_step0 rfl rfl (fun K hK => ?_); go_simp; refine hK _ _ ?_; clear hK K)
                refine wpO_loadW (t := 22) (ad := ⟨w.heap.size, 1, none⟩) rfl rfl ?hw rfl rfl ((fun w0 hS => ((cli_at hS.1).all _ (Below.refl _ _)).seq)) ?_
                case hw => go_simp
                refine wpO_step0 rfl rfl (fun K hK => ?_)
                rw [if_pos (show Region.wanted _ _ = true from rfl)]
                refine ⟨_, fun w0 => exec_build2 rfl rfl rfl (run_build_cli2 w0 k.num k.seq), hK _ _ ?_⟩
                clear hK K
                refine wpO_loadW (t := 61) (ad := ⟨g5, 0, none⟩) rfl rfl ?hw rfl rfl ((fun w0 hS => load_hd hS.2)) ?_
                case hw => go_simp
                refine wpO_step2 rfl rfl ((⟨blk_below (blk_below HX1.out HB6.out) (below_drew1 _), blk_below HI6.out (below_drew1 _)⟩)) (fun K hK => ?_)
                rw [if_pos (show Region.wanted _ _ = true from rfl)]
                refine oper_store_blk (blk_below (blk_below HZ1.out HB6.out) (below_drew1 _)) 27 0 (cliV ⟨k.num, k.seq, false, []⟩ none 0 0) (Nat.le_refl _) (info_cli _ _ _ _) (cli_one _ _ _ _) _ _ rfl rfl rfl ?_
                intro w9 hg9 hs9 hb9
                rw [splice_cli] at hb9
                have H9 := Lib.hid (And.intro hg9 hb9)
                clear hg9 hs9 hb9
                refine hK _ _ ⟨⟨blk_grown (blk_below (blk_below HX1.out HB6.out) (below_drew1 _)) H9.out.1 (fun e => by injection e with e; omega), blk_grown (blk_below HI6.out (below_drew1 _)) H9.out.1 (fun e => by injection e with e; have := HG5.out; have := HS1.out; omega)⟩, ?_⟩
                clear hK K
                refine wpO_step2 rfl rfl ((⟨blk_grown (blk_below (blk_below HX1.out HB6.out) (below_drew1 _)) H9.out.1 (fun e => by injection e with e; omega), blk_grown (blk_below HI6.out (below_drew1 _)) H9.out.1 (fun e => by injection e with e; have := HG5.out; have := HS1.out; omega)⟩)) (fun K hK => ?_)
                rw [if_pos (show Region.wanted _ _ = true from rfl)]
                refine oper_store_blk (blk_grown (blk_below (blk_below HH1.out HB6.out) (below_drew1 _)) H9.out.1 (fun e => by injection e with e; have := HW0.out; omega)) 61 0 (hdV ⟨true, m.err, k.seq, 0, k.t⟩ A5 n5 c5) (Nat.le_refl _) (info_hd _ _ _ _) (hd_one _ _ _ _) _ _ rfl rfl rfl ?_
                intro w10 hg9 hs9 hb9
                rw [splice_hd] at hb9
                have H10 := Lib.hid (And.intro hg9 hb9)
                clear hg9 hs9 hb9
                refine hK _ _ ⟨⟨blk_grown (blk_grown (blk_below (blk_below HX1.out HB6.out) (below_drew1 _)) H9.out.1 (fun e => by injection e with e; omega)) H10.out.1 (fun e => by injection e with e; have := HW0.out; omega), blk_grown (blk_grown (blk_below HI6.out (below_drew1 _)) H9.out.1 (fun e => by injection e with e; have := HG5.out; have := HS1.out; omega)) H10.out.1 (fun e => by injection e with e; have := HW0.out; have := HG5.out; have := HS1.out; omega)⟩, ?_⟩
                clear hK K
                refine wpO_nil ?_
                go_wp2_with fail
                refine bodyPost_ret (results_c2c rfl rfl (load_cli (blk_grown H9.out.2 H10.out.1 (fun e => by injection e with e; have := HW0.out; omega))) rfl (load_hd H10.out.2)) rfl ?_
                rw [HN.out, HK.out, HD.out, HD2.out]
                exact ⟨none, 0, 0, A5, n5, c5, rfl, OS.nil _ _ _, (((HO6.out.below (below_drew1 _)).grown H9.out.1 (fun ad e h => by have := HO6.out.base_ ad e; have := HS1.out; injection h with h; omega)).grown H10.out.1 (fun ad e h => by have := HO6.out.base_ ad e; have := HS1.out; have := HW0.out; injection h with h; omega)).lower (by have := HS1.out; omega), below_grown (below_grown (below_step (below_step HB1.out HB6.out) (below_drew1 _)) H9.out.1 (by omega)) H10.out.1 (by have := HW0.out; omega)⟩
end Go.Proofs.YtifejiclenpfoaaDoor

/- Layer 20 (client): the law's asks. -/
namespace Go.Proofs.YtifejiclenpfoaaDoor
open Go.RowKit
set_option linter.unusedVariables false
set_option linter.unusedSimpArgs false
set_option maxRecDepth 4000
theorem short_eq {k : Ck} (h : k.t.length ≤ 10) : shortK k = k := by
  unfold shortK
  rw [List.take_of_length_le h]
theorem askM_t (k : Ck) (tg : Int) (ho : Oku k.t) (hl : k.t.length ≤ 10) : Oku (askM k tg).t ∧ (askM k tg).t.length ≤ 10 := by
  unfold askM
  split
  · exact ⟨ho, hl⟩
  · exact ⟨fun u hu => (by cases hu), by simp [gmZ]⟩
set_option maxHeartbeats 8000000 in
set_option maxRecDepth 100000 in
theorem asks20_any (k : Ck) (A : Option Addr) (n c : Nat) (tg : Int) (w : World) (hL : Laid w) (hr : RS updK w A n c k.t) (ok : k.ok) (hn : n ≤ 10) :
    Calls Tryd.prog 36 #[.agg (cliV k A n c), .int .i64 tg] w fun e w' => e = .returned (.bool true) ∧ Below w.heap.size w w' := by
  have hblk1 := blk_new w (.cells (cliV k A n c) 27)
  have hbel1 : Below w.heap.size w (w.alloc (.cells (cliV k A n c) 27)) := below_alloc (Below.refl _ _) _
  have HP1 := Lib.hid (cli_at hblk1)
  have HBK1 := Lib.hid hblk1
  have HBE := Lib.hid hbel1
  have HL := Lib.hid (hL.below HBE.out)
  obtain ⟨cs1, hcs1⟩ : ∃ cs, cliV k A n c = cs := ⟨_, rfl⟩
  simp only [hcs1] at HBE HL HP1 HBK1 ⊢
  have HC1 := Lib.hid hcs1
  clear hL hcs1 hblk1 hbel1
  have HR := Lib.hid (hr.below HBE.out)
  have HX0 : Hid ((w.alloc (.cells cs1 27)).heap[w.heap.size]? = some (.cells (cliV k A n c) 27 (0, 0))) := Lib.hid (HBK1.out.trans (by rw [HC1.out]))
  have OK := Lib.hid ok
  have HSK : Hid (shortK k = k ∧ min n 10 = n) := Lib.hid ⟨short_eq (by rw [hr.len]; exact hn), by omega⟩
  have HAT := Lib.hid (askM_t k tg ok.t (by rw [hr.len]; exact hn))
  obtain ⟨W0, hW0⟩ : ∃ W, w.alloc (.cells cs1 27) = W := ⟨_, rfl⟩
  clear hr ok
  go_enter Tryd.func36, Tryd.ntmps36
  rw [hW0] at HBE HL HP1 HBK1 HR HX0
  go_wp2_with (first | ((with_reducible show wpList _ _ _ (Oper.mk _ (Op.load _ _) _ _ _ _ :: _) _ _); refine wpList_load_g (load_cli HX0.out) _ rfl rfl (by go_simp) ?_))
  clear hW0
  refine (lshort_any k A n c W0 HR.out (by omega)).mono ?_
  rw [HSK.out.1, HSK.out.2]
  rintro e w1 ⟨A1, c1, rfl, hO1, hb1⟩
  have HO1 := Lib.hid hO1.reads
  have HB := Lib.hid hb1
  have HX := Lib.hid (blk_below HX0.out hb1)
  clear hO1 hb1
  have hz1 := blk_new w1 (.cells (cliV ckZ none 0 0) 27)
  have HBA1 := Lib.hid (below_alloc (Below.refl w1.heap.size w1) (.cells (cliV ckZ none 0 0) 27))
  go_wp2_with (first | ((with_reducible show wpList _ _ _ (Oper.mk _ (Op.store _ _ _) _ _ _ _ :: _) _ _); refine wpList_store_blk hz1 27 0 (cliV k A1 n c1) (Nat.le_refl _) (info_cli _ _ _ _) (cli_one _ _ _ _) _ _ rfl rfl rfl rfl ?_; intro w2 hg9 hs9 hb9; rw [splice_cli] at hb9; have H2 := Lib.hid (And.intro hg9 hb9); clear hg9 hs9 hb9) | ((with_reducible show wpList _ _ _ (Oper.mk _ (Op.load _ _) _ _ _ _ :: _) _ _); refine wpList_load_g (load_cli (blk_below HX.out (below_grown HBA1.out H2.out.1 (Nat.le_refl _)))) _ rfl rfl (by go_simp) ?_))
  have hb2 := below_grown HBA1.out H2.out.1 (Nat.le_refl _)
  have HY := Lib.hid H2.out.2
  (first | replace HB := Lib.hid (RS.below HB.out hb2) | replace HB := Lib.hid (blk_below HB.out hb2) | replace HB := Lib.hid (below_step HB.out hb2) | replace HB := Lib.hid (HB.out.below hb2))
  (first | replace HX := Lib.hid (RS.below HX.out hb2) | replace HX := Lib.hid (blk_below HX.out hb2) | replace HX := Lib.hid (below_step HX.out hb2) | replace HX := Lib.hid (HX.out.below hb2))
  (first | replace HO1 := Lib.hid (RS.below HO1.out hb2) | replace HO1 := Lib.hid (blk_below HO1.out hb2) | replace HO1 := Lib.hid (below_step HO1.out hb2) | replace HO1 := Lib.hid (HO1.out.below hb2))
  have HLY : Hid (w1.heap.size < w2.heap.size) := Lib.hid (blk_lt HY.out)
  obtain ⟨gy, hgy⟩ : ∃ g, w1.heap.size = g := ⟨_, rfl⟩
  rw [hgy] at HY HLY ⊢
  clear hz1 HBA1 H2 hb2 hgy
  have HBW := Lib.hid (below_step HBE.out HB.out)
  have HRK := Lib.hid (HR.out.below HB.out)
  have HL2 := Lib.hid (HL.out.below HB.out)
  clear HL HR HX0 HB
  refine (cask_any k A n c tg w2 HL2.out HRK.out OK.out (by omega)).mono ?_
  rintro e w3 ⟨A3, n3, c3, rfl, hO3, hb3⟩
  have HO3 := Lib.hid hO3
  have HV3 := Lib.hid hb3
  clear hO3 hb3
  have hz1 := blk_new w3 (.cells (gmV gmZ none 0 0) 45)
  have HBA3 := Lib.hid (below_alloc (Below.refl w3.heap.size w3) (.cells (gmV gmZ none 0 0) 45))
  obtain ⟨mm, hmm⟩ : ∃ mm, askM k tg = mm := ⟨_, rfl⟩
  obtain ⟨ee, hee⟩ : ∃ ee, askN k tg = ee := ⟨_, rfl⟩
  have HEM := Lib.hid (And.intro hmm hee)
  rw [hmm] at HAT HO3
  rw [hmm, hee]
  clear hmm hee
  go_wp2_with (first | ((with_reducible show wpList _ _ _ (Oper.mk _ (Op.store _ _ _) _ _ _ _ :: _) _ _); refine wpList_store_blk hz1 45 0 (gmV mm A3 n3 c3) (Nat.le_refl _) (info_gm _ _ _ _) (gm_one _ _ _ _) _ _ rfl rfl rfl rfl ?_; intro w4 hg9 hs9 hb9; rw [splice_gm] at hb9; have H4 := Lib.hid (And.intro hg9 hb9); clear hg9 hs9 hb9) | ((with_reducible show wpList _ _ _ (Oper.mk _ (Op.load _ _) _ _ _ _ :: _) _ _); refine wpList_load_g (load_cli (blk_below HY.out (below_step HV3.out (below_grown HBA3.out H4.out.1 (Nat.le_refl _))))) _ rfl rfl (by go_simp) ?_))
  have hb34 := below_grown HBA3.out H4.out.1 (Nat.le_refl _)
  have HG := Lib.hid H4.out.2
  have HO4 := Lib.hid (HO3.out.below hb34)
  have HV4 := Lib.hid (below_step HV3.out hb34)
  have HLT := Lib.hid HO3.out.lt
  have hs34 := hb34.size
  obtain ⟨g3, hg3⟩ : ∃ g, w3.heap.size = g := ⟨_, rfl⟩
  rw [hg3] at HG ⊢
  have HNE3 : Hid (∀ ad, A3 = some ad → ad.block < g3) := Lib.hid (fun ad e => hg3 ▸ HO3.out.lt ad e)
  clear hz1 HBA3 H4 hb34 HO3 HV3 hg3 HLT hs34
  refine (refask_any k A1 n c1 tg w4 (HO1.out.below HV4.out) OK.out (by omega)).mono ?_
  rw [HEM.out.1, HEM.out.2]
  rintro e w5 ⟨A5, n5, c5, rfl, hO5, hb5⟩
  have HO5 := Lib.hid hO5.reads
  have HV5 := Lib.hid (below_step HV4.out hb5)
  have HO4 := Lib.hid (HO4.out.below hb5)
  (first | replace HG := Lib.hid (RS.below HG.out hb5) | replace HG := Lib.hid (blk_below HG.out hb5) | replace HG := Lib.hid (below_step HG.out hb5) | replace HG := Lib.hid (HG.out.below hb5))
  clear hO5 hb5 HV4
  have hz1 := blk_new w5 (.cells (gmV gmZ none 0 0) 45)
  have HBA5 := Lib.hid (below_alloc (Below.refl w5.heap.size w5) (.cells (gmV gmZ none 0 0) 45))
  go_upto_region 4 with (first | ((with_reducible show wpList _ _ _ (Oper.mk _ (Op.store _ _ _) _ _ _ _ :: _) _ _); refine wpList_store_blk hz1 45 0 (gmV mm A5 n5 c5) (Nat.le_refl _) (info_gm _ _ _ _) (gm_one _ _ _ _) _ _ rfl rfl rfl rfl ?_; intro w6 hg9 hs9 hb9; rw [splice_gm] at hb9; have H6 := Lib.hid (And.intro hg9 hb9); clear hg9 hs9 hb9))
  try dsimp only [Act.put]
  have hb56 := below_grown HBA5.out H6.out.1 (Nat.le_refl _)
  have HG6 := Lib.hid H6.out.2
  have HO6 := Lib.hid (HO4.out.below hb56)
  have HV6 := Lib.hid (below_step HV5.out hb56)
  (first | replace HG := Lib.hid (RS.below HG.out hb56) | replace HG := Lib.hid (blk_below HG.out hb56) | replace HG := Lib.hid (below_step HG.out hb56) | replace HG := Lib.hid (HG.out.below hb56))
  (first | replace HO5 := Lib.hid (RS.below HO5.out hb56) | replace HO5 := Lib.hid (blk_below HO5.out hb56) | replace HO5 := Lib.hid (below_step HO5.out hb56) | replace HO5 := Lib.hid (HO5.out.below hb56))
  obtain ⟨g5, hg5⟩ : ∃ g, w5.heap.size = g := ⟨_, rfl⟩
  rw [hg5] at HG6 ⊢
  clear hz1 HBA5 H6 hb56 HO4 HV5 hg5
  have HLA := Lib.hid (gm_ld HG.out)
  have HLB := Lib.hid (gm_ld HG6.out)
  have hn3 : n3 ≤ 10 := by rw [← HO6.out.len]; exact HAT.out.2
  have hn5 : n5 ≤ 10 := by rw [← HO5.out.len]; exact HAT.out.2
  go_wp2_with (first | ((with_reducible show wpList _ _ _ (Oper.mk _ (Op.load _ _) _ _ _ _ :: _) _ _); refine wpList_load_g (HLA.out.kind) _ rfl rfl (by go_simp) ?_) | ((with_reducible show wpList _ _ _ (Oper.mk _ (Op.load _ _) _ _ _ _ :: _) _ _); refine wpList_load_g (HLB.out.kind) _ rfl rfl (by go_simp) ?_) | ((with_reducible show wpList _ _ _ (Oper.mk _ (Op.load _ _) _ _ _ _ :: _) _ _); refine wpList_load_g (HLA.out.frm) _ rfl rfl (by go_simp) ?_) | ((with_reducible show wpList _ _ _ (Oper.mk _ (Op.load _ _) _ _ _ _ :: _) _ _); refine wpList_load_g (HLB.out.frm) _ rfl rfl (by go_simp) ?_) | ((with_reducible show wpList _ _ _ (Oper.mk _ (Op.load _ _) _ _ _ _ :: _) _ _); refine wpList_load_g (HLA.out.tgt) _ rfl rfl (by go_simp) ?_) | ((with_reducible show wpList _ _ _ (Oper.mk _ (Op.load _ _) _ _ _ _ :: _) _ _); refine wpList_load_g (HLB.out.tgt) _ rfl rfl (by go_simp) ?_) | ((with_reducible show wpList _ _ _ (Oper.mk _ (Op.load _ _) _ _ _ _ :: _) _ _); refine wpList_load_g (HLA.out.seq) _ rfl rfl (by go_simp) ?_) | ((with_reducible show wpList _ _ _ (Oper.mk _ (Op.load _ _) _ _ _ _ :: _) _ _); refine wpList_load_g (HLB.out.seq) _ rfl rfl (by go_simp) ?_) | ((with_reducible show wpList _ _ _ (Oper.mk _ (Op.load _ _) _ _ _ _ :: _) _ _); refine wpList_load_g (HLA.out.epoch) _ rfl rfl (by go_simp) ?_) | ((with_reducible show wpList _ _ _ (Oper.mk _ (Op.load _ _) _ _ _ _ :: _) _ _); refine wpList_load_g (HLA.out.index) _ rfl rfl (by go_simp) ?_) | ((with_reducible show wpList _ _ _ (Oper.mk _ (Op.load _ _) _ _ _ _ :: _) _ _); refine wpList_load_g (HLA.out.err) _ rfl rfl (by go_simp) ?_) | ((with_reducible show wpList _ _ _ (Oper.mk _ (Op.load _ _) _ _ _ _ :: _) _ _); refine wpList_load_g (HLA.out.ents) _ rfl rfl (by go_simp) ?_) | ((with_reducible show wpList _ _ _ (Oper.mk _ (Op.load _ _) _ _ _ _ :: _) _ _); refine wpList_load_g (HLA.out.bat) _ rfl rfl (by go_simp) ?_) | ((with_reducible show wpList _ _ _ (Oper.mk _ (Op.load _ _) _ _ _ _ :: _) _ _); refine wpList_load_g (HLB.out.bat) _ rfl rfl (by go_simp) ?_))
  refine (refsameU_any A3 n3 c3 mm.t A5 n5 c5 mm.t w6 HO6.out.reads HO5.out HAT.out.1 HAT.out.1 (by omega) (by omega)).mono ?_
  rw [(ShapeEq.eqL_iff updE _ _).2 rfl]
  rintro e w7 ⟨rfl, hb7⟩
  have HV7 := Lib.hid (below_step HV6.out hb7)
  have HO7 := Lib.hid (HO6.out.below hb7)
  have HL7 := Lib.hid (gm_ld (blk_below HG.out hb7))
  clear hb7 HLA HLB HV6 HO6
  go_wp2_with (first | ((with_reducible show wpList _ _ _ (Oper.mk _ (Op.load _ _) _ _ _ _ :: _) _ _); refine wpList_load_g (HL7.out.bat) _ rfl rfl (by go_simp) ?_))
  refine (lspoil_any A3 n3 c3 w7 HO7.out.soft).mono ?_
  rintro e w8 ⟨rfl, hg8⟩
  have HV8 := Lib.hid (below_own HV7.out hg8 (fun ad e => HO7.out.base_ ad e))
  clear hg8 HV7 HO7 HL7
  go_wp2_with (first | ((with_reducible show wpList _ _ _ (Oper.mk _ (Op.load _ _) _ _ _ _ :: _) _ _); refine wpList_load_g (load_cli (blk_below HX.out HV8.out)) _ rfl rfl (by go_simp) ?_) | ((with_reducible show wpList _ _ _ (Oper.mk _ (Op.load _ _) _ _ _ _ :: _) _ _); refine wpList_load_g (load_cli (blk_below HY.out HV8.out)) _ rfl rfl (by go_simp) ?_))
  refine (refsame20_any k A n c k A1 n c1 w8 (HRK.out.below HV8.out) (HO1.out.below HV8.out) OK.out.t OK.out.t (by omega) (by omega)).mono ?_
  rw [cliB_self]
  rintro e w9 ⟨rfl, hb9⟩
  have HV9 := Lib.hid (below_step HV8.out hb9)
  clear hb9
  go_wp2
  go_ret
  exact ⟨rfl, below_step HBW.out HV9.out⟩
end Go.Proofs.YtifejiclenpfoaaDoor

/- A region that draws its order, where two or three operations that act may stand in any order: all orders are walked. -/
namespace Go.Proofs.YtifejiclenpfoaaDoor
open Go.RowKit
set_option linter.unusedVariables false
set_option linter.unusedSimpArgs false
set_option maxRecDepth 4000

section
variable {P : Program} {S : World → Prop} {ops : Array Oper} {md : Region.Mode} {cl : Nat → Nat}
inductive OrdN where
  | lin (l : List Nat)
  | fork (l : List Nat) (i j : Nat) (r s : OrdN)
  | fork3 (l : List Nat) (i j k : Nat) (r s t : OrdN)
def OrdN.len : OrdN → Nat
  | .lin l => l.length
  | .fork l _ _ r _ => l.length + (r.len + 1)
  | .fork3 l _ _ _ r _ _ => l.length + (r.len + 1)
def wpN (P : Program) (S : World → Prop) (ops : Array Oper) (cl : Nat → Nat) (K : Act → World → Prop) : OrdN → Act → World → Prop
  | .lin l, a, w => wpO P S ops (onlyNormal K) cl l a w
  | .fork l i j r s, a, w => wpO P S ops (onlyNormal fun a w => wpO P S ops (onlyNormal (wpN P S ops cl K r)) cl [i] a w ∧ wpO P S ops (onlyNormal (wpN P S ops cl K s)) cl [j] a w) cl l a w
  | .fork3 l i j k r s t, a, w => wpO P S ops (onlyNormal fun a w => wpO P S ops (onlyNormal (wpN P S ops cl K r)) cl [i] a w ∧ wpO P S ops (onlyNormal (wpN P S ops cl K s)) cl [j] a w ∧ wpO P S ops (onlyNormal (wpN P S ops cl K t)) cl [k] a w) cl l a w
def ordN (md : Region.Mode) (ops : Array Oper) (cl : Nat → Nat) : OrdN → Array Bool → Bool
  | .lin l, listed => ordB md ops cl l listed
  | .fork l i j r s, listed => ordP md ops cl l listed && (Region.ready md ops (afterL l listed) == [i, j]) && decide (r.len = s.len) && ordN md ops cl r ((afterL l listed).setIfInBounds i true) && ordN md ops cl s ((afterL l listed).setIfInBounds j true)
  | .fork3 l i j k r s t, listed => ordP md ops cl l listed && (Region.ready md ops (afterL l listed) == [i, j, k]) && decide (r.len = s.len) && decide (r.len = t.len) && ordN md ops cl r ((afterL l listed).setIfInBounds i true) && ordN md ops cl s ((afterL l listed).setIfInBounds j true) && ordN md ops cl t ((afterL l listed).setIfInBounds k true)

theorem wpM_of_wpN (hf : Fin md ops cl) (hs : Region.noSelect ops = true) {K : Act → World → Prop} : ∀ (t : OrdN) (listed : Array Bool) (a : Act) (w : World), Closed md ops listed → ordN md ops cl t listed = true → wpN P S ops cl K t a w →
    wpM P S md ops (onlyNormal K) cl t.len listed a w
  | .lin l, listed, a, w, hcl, hB, h => wpM_of_wpO hf hs (fun c dst v a w h => h) l listed a w hcl hB h
  | .fork l i j r s, listed, a, w, hcl, hB, h => by
    simp only [ordN, Bool.and_eq_true, decide_eq_true_eq, beq_iff_eq] at hB
    obtain ⟨⟨⟨⟨h1, h2⟩, h3⟩, h4⟩, h5⟩ := hB
    show wpM P S md ops (onlyNormal K) cl (l.length + (r.len + 1)) listed a w
    rw [Nat.add_comm]
    refine wpM_prefix hf hs l listed a w hcl h1 h (fun a w hc hx => ?_)
    refine ⟨fun h => (by rw [h2] at h; cases h), fun k hk => ?_⟩
    have hri : i ∈ Region.ready md ops (afterL l listed) := by rw [h2]; simp
    have hrj : j ∈ Region.ready md ops (afterL l listed) := by rw [h2]; simp
    rw [h2] at hk
    rcases List.mem_cons.1 hk with rfl | hk
    · exact mOp_normal (fun a' w' h' => wpM_of_wpN hf hs r _ a' w' (hc.set hri) h4 h') hx.1
    · rw [List.mem_singleton] at hk
      subst hk
      exact mOp_normal (fun a' w' h' => by rw [h3]; exact wpM_of_wpN hf hs s _ a' w' (hc.set hrj) h5 h') hx.2
  | .fork3 l i j k r s t, listed, a, w, hcl, hB, h => by
    simp only [ordN, Bool.and_eq_true, decide_eq_true_eq, beq_iff_eq] at hB
    obtain ⟨⟨⟨⟨⟨⟨h1, h2⟩, h3⟩, h6⟩, h4⟩, h5⟩, h7⟩ := hB
    show wpM P S md ops (onlyNormal K) cl (l.length + (r.len + 1)) listed a w
    rw [Nat.add_comm]
    refine wpM_prefix hf hs l listed a w hcl h1 h (fun a w hc hx => ?_)
    refine ⟨fun h => (by rw [h2] at h; cases h), fun q hq => ?_⟩
    have hri : i ∈ Region.ready md ops (afterL l listed) := by rw [h2]; simp
    have hrj : j ∈ Region.ready md ops (afterL l listed) := by rw [h2]; simp
    have hrk : k ∈ Region.ready md ops (afterL l listed) := by rw [h2]; simp
    rw [h2] at hq
    rcases List.mem_cons.1 hq with rfl | hq
    · exact mOp_normal (fun a' w' h' => wpM_of_wpN hf hs r _ a' w' (hc.set hri) h4 h') hx.1
    · rcases List.mem_cons.1 hq with rfl | hq
      · exact mOp_normal (fun a' w' h' => by rw [h3]; exact wpM_of_wpN hf hs s _ a' w' (hc.set hrj) h5 h') hx.2.1
      · rw [List.mem_singleton] at hq
        subst hq
        exact mOp_normal (fun a' w' h' => by rw [h6]; exact wpM_of_wpN hf hs t _ a' w' (hc.set hrk) h7 h') hx.2.2
end
theorem wp_region_forkN {P : Program} (S : World → Prop) {ops : Array Oper} {id : Nat} {Q : Exit → Act → World → Prop} {a : Act} {w : World} (t : OrdN) (l : List (Nat × Nat)) (hm : P.follows .mixedOrders = true)
    (hB : (finB .any ops l && Region.noSelect ops && decide (t.len = ops.size) && ordN .any ops (clOf l) t (Array.replicate ops.size false)) = true)
    (hS : S w.drew) (h : wpN P S ops (clOf l) (Q .normal) t a w.drew) : (Code.region id ops true).wp P Q a w := by
  simp only [Bool.and_eq_true, decide_eq_true_eq] at hB
  refine wp_mono (Q := onlyNormal (Q .normal)) (wp_region_any hm (wpAny_of_wpM (S := S) (cl := clOf l) (fin_of hB.1.1.1) _ _ _ _ (Closed.start _) hS ?_)) (fun e a w hq => ?_)
  · have := wpM_of_wpN (P := P) (S := S) (md := .any) (cl := clOf l) (fin_of hB.1.1.1) hB.1.1.2 t (Array.replicate ops.size false) a w.drew (Closed.start _) hB.2 h
    rw [hB.1.2] at this
    exact this
  · cases e <;> first | exact hq | exact hq.elim
end Go.Proofs.YtifejiclenpfoaaDoor

/- Layer 20 (client): the law's ops in memory. -/
namespace Go.Proofs.YtifejiclenpfoaaDoor
open Go.RowKit
set_option linter.unusedVariables false
set_option linter.unusedSimpArgs false
set_option maxRecDepth 4000
/-- What happens, and where its batch lies. -/
structure Opn where
  kind : Int
  tg : Int
  A : Option Addr
  n : Nat
  c : Nat
  t : List Upd
  m : Fm
def opC (o : Opn) : List Value := [.int .i64 o.kind, .int .i64 o.tg, .slice o.A o.n o.c] ++ fmC o.m
def opV (o : Opn) : Array Value := (opC o).toArray
def opZ : Opn := ⟨0, 0, none, 0, 0, [], fmZ⟩
theorem info_op (o : Opn) : (Tryd.prog.info? 47).map (·.size) = some (opV o).size := by show _ = some 26; kernel_rfl
theorem op_one (o : Opn) : (opV o).all (·.oneCell') = true := by simp [opV, opC, fmC, Value.oneCell']
theorem splice_op (m m2 : Opn) : splice (opV m) 0 (opV m2).toList = opV m2 := splice_all _ _ rfl
theorem zero_op : (Tryd.prog.info? 47).map (fun i => (i.zero, i.size, i.bytes)) = some (some (.agg (opV opZ)), 26, 272) := by kernel_rfl
structure OpLd (w : World) (g : Nat) (o : Opn) : Prop where
  all : (Instr.loadAt 47 (.pointer (some ⟨g, 0, none⟩))).run Tryd.prog w = .ok (.agg (opV o)) w
  kind : (Instr.loadAt 3 (.pointer (some ⟨g, 0, none⟩))).run Tryd.prog w = .ok (.int .i64 o.kind) w
  tg : (Instr.loadAt 3 (.pointer (some ⟨g, 1, none⟩))).run Tryd.prog w = .ok (.int .i64 o.tg) w
  bat : (Instr.loadAt 25 (.pointer (some ⟨g, 2, none⟩))).run Tryd.prog w = .ok (.agg (tabV o.A o.n o.c)) w
  msg : (Instr.loadAt 45 (.pointer (some ⟨g, 3, none⟩))).run Tryd.prog w = .ok (.agg (fmV o.m)) w
theorem op_ld {w : World} {g : Nat} {o : Opn} (hb : w.heap[g]? = some (.cells (opV o) 47 (0, 0))) : OpLd w g o := by
  have h : CellsAt w g 0 (opC o) := cells_blk hb
  exact ⟨load_cells (cs := opV o) h Tryd.underlying47 rfl (info_op _), load_int (h 0 _ rfl), load_int (h 1 _ rfl), load_cells (cs := tabV o.A o.n o.c) (cells_mid h 2 1) Tryd.underlying25 rfl (info_bat _ _ _), load_cells (cs := fmV o.m) (cells_mid h 3 23) Tryd.underlying45 rfl (info_fm _)⟩
structure OpAt (w : World) (g : Nat) (o : Opn) : Prop where
  all : ∀ w0, Below w.heap.size w w0 → OpLd w0 g o
theorem op_at {w : World} {g : Nat} {o : Opn} (hb : w.heap[g]? = some (.cells (opV o) 47 (0, 0))) : OpAt w g o := ⟨fun w0 hs => op_ld (blk_below hb hs)⟩
def opK : Shape Opn where
  t := 47
  ts := 28
  sz := 26
  bytes := 272
  z := opZ
  ok := fun _ => True
  enc := opC
  val := fun x => .agg (opV x)
  len := fun _ _ => rfl
  one := fun x u hu => by
    have h := op_one x
    rw [← Array.all_toList, List.all_eq_true] at h
    exact h u (by simpa [opV] using hu)
  okz := trivial
  pos := by omega
  bpos := by omega
  blt := by omega
  und := Tryd.underlying28
  info := zero_op
  venc := fun _ => rfl
  ld := fun w b o x _ h => load_cells (cs := opV x) h Tryd.underlying47 rfl (info_op _)
/-- What holds of an op that was handed in. -/
structure OpIn (W : World) (o : Opn) : Prop where
  rs : RS updK W o.A o.n o.c o.t
  oku : Oku o.t
  small : o.n * 64 ≤ 140737488351232
  m : FmIn W o.m
theorem OpIn.below {W W1 : World} {o : Opn} (h : OpIn W o) (hb : Below W.heap.size W W1) : OpIn W1 o := ⟨h.rs.below hb, h.oku, h.small, h.m.below hb⟩
/-- A block of another type is another block. -/
theorem OS.apart {α : Type} {S : Shape α} {w : World} {base : Nat} {A : Option Addr} {n c : Nat} {l : List α} (h : OS S w base A n c l) {g : Nat} {cs : Array Value} {t : TypeId} (hz : w.heap[g]? = some (.cells cs t (0, 0))) (hne : S.t ≠ t) : ∀ ad, A = some ad → ad.block ≠ g := fun ad e hg => by
  obtain ⟨_, _, cur, hh, _⟩ := h.ov.form ad e
  rw [hg, hz] at hh
  injection hh with hh
  injection hh with h1 h2
  exact hne h2.symm
theorem OS.grownT {α : Type} {S : Shape α} {w w1 : World} {base : Nat} {A : Option Addr} {n c : Nat} {l : List α} (h : OS S w base A n c l) {g : Nat} {cs : Array Value} {t : TypeId} (hz : w.heap[g]? = some (.cells cs t (0, 0))) (hne : S.t ≠ t) (hg : w.grownBy w1 (some g)) : OS S w1 base A n c l :=
  h.grown hg (fun ad e k => h.apart hz hne ad e (by injection k))
end Go.Proofs.YtifejiclenpfoaaDoor

/- Arguments that are slices of the law's ops, opened. -/
namespace Go.Proofs.YtifejiclenpfoaaDoor
open Go.ChangeShapes Go.WideShapes Go.ChangeAt Go.RowKit
set_option linter.unusedVariables false
set_option linter.unusedSimpArgs false
set_option maxRecDepth 4000
section
variable {H : Type} {enc : TypeId × Value → H} {W : World} {base : Nat} {spare : Nat → Bool} {held : Bool}
theorem open_op_cells {fuel : Nat} {cs : List Value} {y : DataW H × List MemPlace} (h : DataW.trod enc Tryd.prog W base spare held fuel 47 cs = some y) (hl : Light Tryd.prog 47 y.1) : ∃ o : Opn, cs = opC o ∧ OpIn W o := by
  obtain ⟨xs, m, -, hx, hlen, hxl, hg⟩ := DataW.trod_struct Tryd.underlying47 h
  have cI : Tryd.prog.cellsOf 3 = 1 := by kernel_rfl
  have cT : Tryd.prog.cellsOf 25 = 1 := by kernel_rfl
  have cM : Tryd.prog.cellsOf 45 = 23 := by kernel_rfl
  have cO : Tryd.prog.cellsOf 47 = 26 := by kernel_rfl
  have h0 : DataW.trod enc Tryd.prog W base spare held m 3 ((cs.drop 0).take (Tryd.prog.cellsOf 3)) = xs[0]? := hg 0 _ rfl
  have h1 : DataW.trod enc Tryd.prog W base spare held m 3 ((cs.drop 1).take (Tryd.prog.cellsOf 3)) = xs[1]? := hg 1 _ rfl
  have h2 : DataW.trod enc Tryd.prog W base spare held m 25 ((cs.drop 2).take (Tryd.prog.cellsOf 25)) = xs[2]? := hg 2 _ rfl
  have h3 : DataW.trod enc Tryd.prog W base spare held m 45 ((cs.drop 3).take (Tryd.prog.cellsOf 45)) = xs[3]? := hg 3 _ rfl
  rw [cO] at hlen
  rw [cI] at h0 h1
  rw [cT] at h2
  rw [cM] at h3
  have hx4 : xs.length = 4 := hxl
  subst hx
  match cs, hlen, xs, hx4 with
  | [d0, d1, d2, d3, d4, d5, d6, d7, d8, d9, d10, d11, d12, d13, d14, d15, d16, d17, d18, d19, d20, d21, d22, d23, d24, d25], _, [x0, x1, x2, x3], _ =>
    obtain ⟨kd, hv0, -, hw0⟩ := DataW.trod_int Tryd.underlying3 (show DataW.trod enc Tryd.prog W base spare held m 3 [d0] = some x0 from h0)
    obtain ⟨tg, hv1, -, hw1⟩ := DataW.trod_int Tryd.underlying3 (show DataW.trod enc Tryd.prog W base spare held m 3 [d1] = some x1 from h1)
    have hl2 : Light Tryd.prog 25 x2.1 := light_field Tryd.underlying47 hl (i := 2) (f := _) rfl rfl
    obtain ⟨BA, bn, bc, t, hv2, hr2, ho2, hs2⟩ := open_bat_cells (show DataW.trod enc Tryd.prog W base spare held m 25 [d2] = some x2 from h2) hl2
    have hl3 : Light Tryd.prog 45 x3.1 := light_field Tryd.underlying47 hl (i := 3) (f := _) rfl rfl
    obtain ⟨q, hv3, hq⟩ := open_msg_cells (show DataW.trod enc Tryd.prog W base spare held m 45 [d3, d4, d5, d6, d7, d8, d9, d10, d11, d12, d13, d14, d15, d16, d17, d18, d19, d20, d21, d22, d23, d24, d25] = some x3 from h3) hl3
    refine ⟨⟨kd, tg, BA, bn, bc, t, q⟩, ?_, hr2, ho2, hs2, hq⟩
    simp only [List.cons.injEq, and_true] at hv0 hv1 hv2
    subst hv0 hv1 hv2
    show _ = [Value.int .i64 kd, .int .i64 tg, .slice BA bn bc] ++ fmC q
    rw [← hv3]
    rfl
end
theorem open_ops20 {H : Type} {enc : TypeId × Value → H} {W : World} {base b0 : Nat} {spare : Nat → Bool} {held : Bool} {v : Value} {d : DataW H} {p : List MemPlace} (hv : Value.okWide Tryd.prog W .any b0 28 v)
    (h : DataW.Trod enc Tryd.prog W base spare held 28 v d p) (hl : Light Tryd.prog 28 d) : ∃ A n c l, v = .slice A n c ∧ RS opK W A n c l ∧ (∀ x ∈ l, OpIn W x) ∧ n * 272 ≤ 140737488351232 := by
  obtain ⟨a, len, cap, rfl⟩ := okWide_slice Tryd.underlying28 hv
  obtain ⟨fuel, hf⟩ := h
  obtain ⟨A, n, c, t, e1, e2, e3, e4⟩ := open_shp opK (fun x => OpIn W x) (by show Tryd.prog.cellsOf 47 = 26; kernel_rfl) (by show 0 < Tryd.prog.bytesOf 47; exact of_decide_eq_true (by kernel_rfl)) (fun fuel cs y hy hly => by
    obtain ⟨o, f1, f2⟩ := open_op_cells hy hly
    exact ⟨o, f1, trivial, f2⟩) hf hl
  have hb : Tryd.prog.bytesOf opK.t = 272 := by show Tryd.prog.bytesOf 47 = 272; kernel_rfl
  rw [hb] at e4
  have e1 : [Value.slice a len cap] = [.slice A n c] := e1
  injection e1 with e1
  exact ⟨A, n, c, t, e1, e2, e3, e4⟩
end Go.Proofs.YtifejiclenpfoaaDoor

/- Layer 20 (client): what the frame of the law's does holds. -/
namespace Go.Proofs.YtifejiclenpfoaaDoor
open Go.RowKit
set_option linter.unusedVariables false
set_option linter.unusedSimpArgs false
set_option maxRecDepth 4000
structure Hl where
  h : Hd
  A : Option Addr
  n : Nat
  c : Nat
def cliZ20 : Cli := ⟨ckZ, none, 0, 0⟩
def hlZ : Hl := ⟨hdZ, none, 0, 0⟩
def Cli.vv (x : Cli) : Array Value := cliV x.k x.A x.n x.c
def Hl.vv (x : Hl) : Array Value := hdV x.h x.A x.n x.c
/-- The cells of does: c, the op, the result, was, n, want, h, told. -/
structure DoesS (w wx : World) (gr gw gn gt gh gd : Nat) (k : Ck) (A : Option Addr) (n c : Nat) (o : Opn) (A2 : Option Addr) (c2 : Nat) (N T : Cli) (H D : Hl) : Prop where
  bel : Below w.heap.size w wx
  ord : w.heap.size + 1 < gr ∧ gr < gw ∧ gw < gn ∧ gn < gt ∧ gt < gh ∧ gh < gd ∧ gd < wx.heap.size
  x : wx.heap[w.heap.size]? = some (.cells (cliV k A n c) 27 (0, 0))
  y : wx.heap[w.heap.size + 1]? = some (.cells (opV o) 47 (0, 0))
  z : wx.heap[gr]? = some (.cells (cliV ckZ none 0 0) 27 (0, 0))
  w_ : wx.heap[gw]? = some (.cells (cliV k A2 n c2) 27 (0, 0))
  was : OS updK wx 0 A2 n c2 k.t
  lt : ∀ ad, A2 = some ad → ad.block < gw
  n_ : wx.heap[gn]? = some (.cells N.vv 27 (0, 0))
  t_ : wx.heap[gt]? = some (.cells T.vv 27 (0, 0))
  h_ : wx.heap[gh]? = some (.cells H.vv 61 (0, 0))
  d_ : wx.heap[gd]? = some (.cells D.vv 61 (0, 0))
section
variable {w wx wy : World} {gr gw gn gt gh gd : Nat} {k : Ck} {A : Option Addr} {n c : Nat} {o : Opn} {A2 : Option Addr} {c2 : Nat} {N T : Cli} {H D : Hl}
theorem DoesS.step (h : DoesS w wx gr gw gn gt gh gd k A n c o A2 c2 N T H D) (hb : Below wx.heap.size wx wy) : DoesS w wy gr gw gn gt gh gd k A n c o A2 c2 N T H D :=
  ⟨below_step h.bel hb, ⟨h.ord.1, h.ord.2.1, h.ord.2.2.1, h.ord.2.2.2.1, h.ord.2.2.2.2.1, h.ord.2.2.2.2.2.1, Nat.lt_of_lt_of_le h.ord.2.2.2.2.2.2 hb.size⟩, blk_below h.x hb, blk_below h.y hb, blk_below h.z hb, blk_below h.w_ hb, h.was.below hb, h.lt, blk_below h.n_ hb, blk_below h.t_ hb, blk_below h.h_ hb, blk_below h.d_ hb⟩
theorem DoesS.setN (h : DoesS w wx gr gw gn gt gh gd k A n c o A2 c2 N T H D) (hg : wx.grownBy wy (some gn)) {N' : Cli} (hn : wy.heap[gn]? = some (.cells N'.vv 27 (0, 0))) : DoesS w wy gr gw gn gt gh gd k A n c o A2 c2 N' T H D := by
  obtain ⟨o1, o2, o3, o4, o5, o6, o7⟩ := h.ord
  exact ⟨below_grown h.bel hg (by omega), ⟨o1, o2, o3, o4, o5, o6, Nat.lt_of_lt_of_le o7 hg.size⟩, blk_grown h.x hg (fun e => by injection e with e; omega), blk_grown h.y hg (fun e => by injection e with e; omega), blk_grown h.z hg (fun e => by injection e with e; omega), blk_grown h.w_ hg (fun e => by injection e with e; omega), h.was.grown hg (fun ad e k => by have := h.lt ad e; injection k with k; omega), h.lt, hn, blk_grown h.t_ hg (fun e => by injection e with e; omega), blk_grown h.h_ hg (fun e => by injection e with e; omega), blk_grown h.d_ hg (fun e => by injection e with e; omega)⟩
theorem DoesS.setT (h : DoesS w wx gr gw gn gt gh gd k A n c o A2 c2 N T H D) (hg : wx.grownBy wy (some gt)) {T' : Cli} (hn : wy.heap[gt]? = some (.cells T'.vv 27 (0, 0))) : DoesS w wy gr gw gn gt gh gd k A n c o A2 c2 N T' H D := by
  obtain ⟨o1, o2, o3, o4, o5, o6, o7⟩ := h.ord
  exact ⟨below_grown h.bel hg (by omega), ⟨o1, o2, o3, o4, o5, o6, Nat.lt_of_lt_of_le o7 hg.size⟩, blk_grown h.x hg (fun e => by injection e with e; omega), blk_grown h.y hg (fun e => by injection e with e; omega), blk_grown h.z hg (fun e => by injection e with e; omega), blk_grown h.w_ hg (fun e => by injection e with e; omega), h.was.grown hg (fun ad e k => by have := h.lt ad e; injection k with k; omega), h.lt, blk_grown h.n_ hg (fun e => by injection e with e; omega), hn, blk_grown h.h_ hg (fun e => by injection e with e; omega), blk_grown h.d_ hg (fun e => by injection e with e; omega)⟩
theorem DoesS.setH (h : DoesS w wx gr gw gn gt gh gd k A n c o A2 c2 N T H D) (hg : wx.grownBy wy (some gh)) {H' : Hl} (hn : wy.heap[gh]? = some (.cells H'.vv 61 (0, 0))) : DoesS w wy gr gw gn gt gh gd k A n c o A2 c2 N T H' D := by
  obtain ⟨o1, o2, o3, o4, o5, o6, o7⟩ := h.ord
  exact ⟨below_grown h.bel hg (by omega), ⟨o1, o2, o3, o4, o5, o6, Nat.lt_of_lt_of_le o7 hg.size⟩, blk_grown h.x hg (fun e => by injection e with e; omega), blk_grown h.y hg (fun e => by injection e with e; omega), blk_grown h.z hg (fun e => by injection e with e; omega), blk_grown h.w_ hg (fun e => by injection e with e; omega), h.was.grown hg (fun ad e k => by have := h.lt ad e; injection k with k; omega), h.lt, blk_grown h.n_ hg (fun e => by injection e with e; omega), blk_grown h.t_ hg (fun e => by injection e with e; omega), hn, blk_grown h.d_ hg (fun e => by injection e with e; omega)⟩
theorem DoesS.setD (h : DoesS w wx gr gw gn gt gh gd k A n c o A2 c2 N T H D) (hg : wx.grownBy wy (some gd)) {D' : Hl} (hn : wy.heap[gd]? = some (.cells D'.vv 61 (0, 0))) : DoesS w wy gr gw gn gt gh gd k A n c o A2 c2 N T H D' := by
  obtain ⟨o1, o2, o3, o4, o5, o6, o7⟩ := h.ord
  exact ⟨below_grown h.bel hg (by omega), ⟨o1, o2, o3, o4, o5, o6, Nat.lt_of_lt_of_le o7 hg.size⟩, blk_grown h.x hg (fun e => by injection e with e; omega), blk_grown h.y hg (fun e => by injection e with e; omega), blk_grown h.z hg (fun e => by injection e with e; omega), blk_grown h.w_ hg (fun e => by injection e with e; omega), h.was.grown hg (fun ad e k => by have := h.lt ad e; injection k with k; omega), h.lt, blk_grown h.n_ hg (fun e => by injection e with e; omega), blk_grown h.t_ hg (fun e => by injection e with e; omega), blk_grown h.h_ hg (fun e => by injection e with e; omega), hn⟩
/-- A row of one's own was written over. -/
theorem DoesS.own (h : DoesS w wx gr gw gn gt gh gd k A n c o A2 c2 N T H D) {B : Option Addr} {m d : Nat} (hg : wx.grownBy wy ((Value.slice B m d).ownBlock)) (hf : ∀ ad, B = some ad → gd < ad.block) : DoesS w wy gr gw gn gt gh gd k A n c o A2 c2 N T H D := by
  obtain ⟨o1, o2, o3, o4, o5, o6, o7⟩ := h.ord
  have hne : ∀ g, g ≤ gd → some g ≠ (Value.slice B m d).ownBlock := fun g hgd e => by
    obtain ⟨ad, e1, e2⟩ := own_of e.symm
    have := hf ad e1
    omega
  exact ⟨below_own h.bel hg (fun ad e => by have := hf ad e; omega), ⟨o1, o2, o3, o4, o5, o6, Nat.lt_of_lt_of_le o7 hg.size⟩, blk_grown h.x hg (hne _ (by omega)), blk_grown h.y hg (hne _ (by omega)), blk_grown h.z hg (hne _ (by omega)), blk_grown h.w_ hg (hne _ (by omega)), h.was.grown hg (fun ad e => hne _ (by have := h.lt ad e; omega)), h.lt, blk_grown h.n_ hg (hne _ (by omega)), blk_grown h.t_ hg (hne _ (by omega)), blk_grown h.h_ hg (hne _ (by omega)), blk_grown h.d_ hg (hne _ (by omega))⟩
end
/-- What stands behind the switch of does: what the code has made, and the document. -/
structure DoesE (wx : World) (gd : Nat) (N T : Cli) (H D : Hl) (NN : Int) : Prop where
  same : T.k = N.k
  sameh : D.h = H.h
  n_ : RS updK wx N.A N.n N.c N.k.t
  t_ : RS updK wx T.A T.n T.c N.k.t
  h_ : RS updK wx H.A H.n H.c H.h.t
  d_ : RS updK wx D.A D.n D.c H.h.t
  sn : Soft wx N.A N.n N.c
  sh : Soft wx H.A H.n H.c
  fn : ∀ ad, N.A = some ad → gd < ad.block
  fh : ∀ ad, H.A = some ad → gd < ad.block
  or0 : N.n = 0 ∨ H.n = 0
  okn : NN = 0 → N.k.ok
  oku : Oku N.k.t
  len : N.k.t.length ≤ 10
  okh : Oku H.h.t
  lenh : H.h.t.length ≤ 10
theorem lspoil0_any (A : Option Addr) (c : Nat) (w : World) :
    Calls Tryd.prog 34 #[.agg (tabV A 0 c)] w fun e w' => e = .returned (.tuple #[]) ∧ Below w.heap.size w w' := by
  obtain ⟨n, hn⟩ : ∃ n : Nat, n = 0 := ⟨0, rfl⟩
  rw [← hn]
  have hblk1 := blk_new w (.cells (tabV A n c) 25)
  have hbel1 : Below w.heap.size w (w.alloc (.cells (tabV A n c) 25)) := below_alloc (Below.refl _ _) _
  have HP1 := Lib.hid (bat_at hblk1)
  have HBK1 := Lib.hid hblk1
  have HBE := Lib.hid hbel1
  obtain ⟨cs1, hcs1⟩ : ∃ cs, tabV A n c = cs := ⟨_, rfl⟩
  simp only [hcs1] at HBE HP1 HBK1 ⊢
  have HC1 := Lib.hid hcs1
  clear hcs1 hblk1 hbel1
  have HN := Lib.hid hn
  clear hn
  go_enter Tryd.func34, Tryd.ntmps34
  go_wp2_with (first | ((with_reducible show wpList _ _ _ (Oper.mk _ (Op.load _ _) _ _ _ _ :: _) _ _); refine wpList_load_g ((HP1.out.all _ (Below.refl _ _)).2) _ rfl rfl (by go_simp) ?_))
  go_loopw [6] (fun s6 wr => s6 = .int .i64 0 ∧ Hid (Below w.heap.size w wr)) (fun x _ => n - (intOf x).toNat)
  case atStart => exact ⟨rfl, HBE.out⟩
  case round =>
    obtain ⟨rfl, HI⟩ := hrel
    have hlt' : decide (0 < n) = false := decide_eq_false (by rw [HN.out]; omega)
    go_wp2_with fail
    refine bodyPost_end (results_none rfl _ _ _) rfl ?_
    exact ⟨rfl, HI.out⟩
theorem lspoilE_any (A : Option Addr) (n c : Nat) (w : World) (hs : n = 0 ∨ Soft w A n c) :
    Calls Tryd.prog 34 #[.agg (tabV A n c)] w fun e w' => e = .returned (.tuple #[]) ∧ w.grownBy w' ((Value.slice A n c).ownBlock) ∧ (n = 0 → Below w.heap.size w w') := by
  by_cases h : n = 0
  · subst h
    exact (lspoil0_any A c w).mono (fun e w' h => ⟨h.1, grown_of_below h.2 _, fun _ => h.2⟩)
  · rcases hs with hs | hs
    · exact absurd hs h
    · exact (lspoil_any A n c w hs).mono (fun e w' k => ⟨k.1, k.2, fun e => absurd e h⟩)
theorem OS.ownE {α : Type} {S : Shape α} {w w1 : World} {base : Nat} {A B : Option Addr} {n c m d : Nat} {l : List α} (h : OS S w base A n c l) (hg : w.grownBy w1 ((Value.slice B m d).ownBlock)) (hne : ∀ a b, A = some a → B = some b → a.block ≠ b.block) : OS S w1 base A n c l :=
  h.grown hg (fun ad e k => by
    obtain ⟨b, e1, e2⟩ := own_of k.symm
    exact hne ad b e e1 e2.symm)
end Go.Proofs.YtifejiclenpfoaaDoor
