/- Layer 5 (prefix): EncodeAddr, Encode; the document's bytes. -/
import Derived.Test.YtcloepjeckbmoaaDoorPfxRefCmp
import Derived.Test.YtcloepjeckbmoaaDoorPureP6
namespace Go.Proofs.YtcloepjeckbmoaaDoor
open Go.RowKit
set_option linter.unusedVariables false
set_option linter.unusedSimpArgs false

def encA (v : Int) (l : List Int) : List Int := v % 256 :: l.take (widthA v / 8)
def encAE (v : Int) (l : List Int) : List Int := if rightA v l then encA v l else []
def encPE (p : Pfx) : List Int := if p.right then encP p else []
theorem encAE_no {v : Int} {l : List Int} (h : rightA v l = false) : encAE v l = [] := by unfold encAE; rw [h]; rfl
theorem encAE_yes {v : Int} {l : List Int} (h : rightA v l = true) : encAE v l = encA v l := by unfold encAE; rw [h]; rfl
theorem encPE_no {p : Pfx} (h : p.right = false) : encPE p = [] := by unfold encPE; rw [h]; rfl
theorem encPE_yes {p : Pfx} (h : p.right = true) : encPE p = encP p := by unfold encPE; rw [h]; rfl
theorem encA_bytes {v : Int} {l : List Int} (hl : B16 l) : Bytes (encA v l) := fun x hx => by
  rcases List.mem_cons.1 hx with rfl | h
  · omega
  · exact hl.rng x (List.mem_of_mem_take h)
theorem encP_bytes {p : Pfx} (hl : B16 p.l) : Bytes (encP p) := fun x hx => by
  rcases List.mem_cons.1 hx with rfl | h
  · omega
  · rcases List.mem_cons.1 h with rfl | h
    · omega
    · exact hl.rng x (List.mem_of_mem_take h)
theorem full_any (b : Int) (w : World) (h0 : 0 ≤ b) (h1 : b ≤ 128) : Calls Tryd.prog 48 #[.int .i64 b] w fun e w' => e = .returned (.int .i64 ((b + 7) / 8)) ∧ w = w' := by
  go_enter Tryd.func48, Tryd.ntmps48
  go_wp2
  go_ret
  exact ⟨rfl, rfl⟩
theorem rb_adr {w : World} {g : Nat} {t : TypeId} {v : Int} {l : List Int} (hl : B16 l) (h : w.heap[g]? = some (.cells (adrV v l) t (0, 0))) : RB w (some ⟨g, 1, none⟩) 16 16 l :=
  ⟨⟨by simp [nums, hl.len], Nat.le_refl _, by omega, fun _ => ⟨_, rfl, fun j u hj => by
    have hlt := (List.getElem?_eq_some_iff.1 hj).1
    simp only [nums, List.length_map, hl.len] at hlt
    rw [nums_get _ _ _ (by rw [hl.len]; exact hlt)] at hj
    rw [add_spot _ rfl, ← hj]
    exact adr_b h j (by rw [hl.len]; exact hlt)⟩⟩, hl.rng⟩
theorem OB.two (W : World) (x y : Int) (hx : 0 ≤ x ∧ x < 256) (hy : 0 ≤ y ∧ y < 256) (base : Nat) (hb : base ≤ W.heap.size) : OB (W.alloc (.cells #[.int .u8 x, .int .u8 y] 5)) base (some ⟨W.heap.size, 0, none⟩) 2 2 [x, y] :=
  OB.new W base [x, y] hb (by simp) (fun z hz => by simp at hz; omega)
theorem OB.one (W : World) (x : Int) (hx : 0 ≤ x ∧ x < 256) (base : Nat) (hb : base ≤ W.heap.size) : OB (W.alloc (.cells #[.int .u8 x] 5)) base (some ⟨W.heap.size, 0, none⟩) 1 1 [x] :=
  OB.new W base [x] hb (by simp) (fun z hz => by simp at hz; omega)

set_option maxHeartbeats 2000000 in
theorem encodeAddr_any (v : Int) (l : List Int) (w : World) (hL : Laid w) (hl : B16 l) : Calls Tryd.prog 31 #[.agg (adrV v l)] w fun e w' => ∃ A n c, e = .returned (.tuple #[.slice A n c, .int .i64 (errA v l)]) ∧ OB w' w.heap.size A n c (encAE v l) ∧ Below w.heap.size w w' := by
  have hblk1 := blk_new w (.cells (adrV v l) 24)
  have hbel1 : Below w.heap.size w (w.alloc (.cells (adrV v l) 24)) := below_alloc (Below.refl _ _) _
  have HP1 := Lib.hid (adr_at hl hblk1)
  have HBK1 := Lib.hid hblk1
  have HBE := Lib.hid hbel1
  have HL := Lib.hid (hL.below HBE.out)
  obtain ⟨cs1, hcs1⟩ : ∃ cs, adrV v l = cs := ⟨_, rfl⟩
  simp only [hcs1] at HBE HL HP1 HBK1 ⊢
  have HC1 := Lib.hid hcs1
  clear hL hcs1 hblk1 hbel1
  have hla := (HP1.out.all _ (Below.refl _ _)).1
  go_enter Tryd.func31, Tryd.ntmps31
  go_wp2_with (refine wpList_load_g hla _ rfl rfl (by go_simp) ?_)
  refine (checkAddr_any v l _ HL.out hl).mono ?_
  rintro e w1 ⟨rfl, hbb1⟩
  have HB1 := Lib.hid hbb1
  clear hbb1 hla
  cases hR : rightA v l with
  | false =>
    have HE := Lib.hid (encAE_no hR)
    have HE2 := Lib.hid (errA_false hR)
    rw [HE2.out]
    clear hR
    go_wp2
    go_ret2
    rw [HE.out, HE2.out]
    exact ⟨_, _, _, rfl, OB.nil _ _, below_step HBE.out HB1.out⟩
  | true =>
    have HY := Lib.hid (encAE_yes hR)
    have HE2 := Lib.hid (errA_true hR)
    rw [HE2.out]
    clear hR
    go_wp2_with fail
    have hwl := widthA_le v
    obtain ⟨nw, hnw⟩ : ∃ nw, widthA v = nw := ⟨_, rfl⟩
    have hwq := fun w0 h => hnw ▸ width_any v w0 h
    have HE : Hid (encA v l = v % 256 :: l.take (nw / 8)) := by unfold encA; rw [hnw]; exact rfl
    rw [hnw] at hwl
    clear hnw
    have hkb := blk_below HBK1.out HB1.out
    rw [← HC1.out] at hkb
    have HRB := Lib.hid (rb_adr hl hkb)
    clear hkb
    refine wp_region_mix (fun w0 => Below (w1).heap.size (w1) w0) [(0, 0), (1, 0), (2, 0), (4, 0), (5, 0), (6, 0), (7, 0), (8, 0), (9, 0), (3, 2), (10, 2), (11, 0), (12, 0)] (by kernel_rfl) (by kernel_rfl) (below_drew1 _) ?_
    simp only [List.map_cons, List.map_nil]
    iterate 1 (refine wpO_step0 rfl rfl (fun K hK => ?_); go_simp; refine hK _ _ ?_; clear hK K)
    refine wpO_loadW (t := 3) (ad := ⟨w.heap.size, 0, none⟩) rfl rfl ?hw rfl rfl ((fun w0 hS => (HP1.out.all w0 (below_step HB1.out hS)).2.1)) ?_
    case hw => go_simp
    iterate 3 (refine wpO_step0 rfl rfl (fun K hK => ?_); go_simp; refine hK _ _ ?_; clear hK K)
    refine wpO_loadW (t := 3) (ad := ⟨w.heap.size, 0, none⟩) rfl rfl ?hw rfl rfl ((fun w0 hS => (HP1.out.all w0 (below_step HB1.out hS)).2.1)) ?_
    case hw => go_simp
    refine wpO_quiet rfl rfl ?hw Tryd.func15 (by kernel_rfl) (by kernel_rfl) rfl rfl (fun w0 hS => hwq w0 (HL.out.below (below_step HB1.out hS))) ?_
    case hw => go_simp
    obtain ⟨k, hk⟩ : ∃ k, nw / 8 = k := ⟨_, rfl⟩
    have hq0 : IntKind.i64.wrap ((nw : Int) / 8) = (k : Int) := by rw [IntWalk.i64_in _ (by omega)]; omega
    have hv8 : IntKind.u8.wrap v = v % 256 := by simp [IntKind.wrap, IntKind.bits, IntKind.signed]
    have hk16 : (k : Int) ≤ 16 := by omega
    have hk0 : 0 ≤ (k : Int) := by omega
    rw [hk] at HE
    clear hk
    rw [hv8]
    iterate 2 (refine wpO_step0 rfl rfl (fun K hK => ?_); go_simp; refine hK _ _ ?_; clear hK K)
    refine wpO_step2 rfl rfl (below_drew1 _) (fun K hK => ?_)
    go_simp
    have hsz := HB1.out.size
    simp at hsz
    have HO := Lib.hid ((OB.one w1 (v % 256) (by omega) w.heap.size (by omega)).below (below_drew1 _))
    refine hK _ _ ⟨(below_alloc (Below.refl _ _) _).drew, ?_⟩
    clear hK K
    have HR := Lib.hid ((HRB.out.take k (by omega)).below (below_step (below_alloc (Below.refl _ _) (.cells #[.int .u8 (v % 256)] 5)) (below_drew1 _)))
    refine wpO_step2 rfl rfl ((below_alloc (Below.refl _ _) _).drew) (fun K hK => ?_)
    rw [if_pos (show Region.wanted _ _ = true from rfl)]
    refine oper_append_bytes (.tmp 13) (.tmp 19) rfl rfl rfl HO.out HR.out (by simp; omega) (by omega) ?_
    intro A3 c3 w3 h1 h2 h3
    have hb3 : Below w1.heap.size w1 w3 := (below_step (below_alloc (Below.refl _ _) (.cells #[.int .u8 (v % 256)] 5)) (below_drew1 _)).grown h2 (by simp) (own_row (fun ad e => by injection e with e; rw [← e]; exact Nat.le_refl _))
    have H3 := Lib.hid (And.intro h1 hb3)
    clear h1 h2 h3 hb3
    refine hK _ _ ⟨H3.out.2, ?_⟩
    clear hK K
    iterate 2 (refine wpO_step0 rfl rfl (fun K hK => ?_); go_simp; refine hK _ _ ?_; clear hK K)
    refine wpO_nil ?_
    go_wp2
    go_ret2
    rw [HY.out, HE.out, HE2.out]
    exact ⟨_, _, _, rfl, H3.out.1, below_step HBE.out (below_step HB1.out H3.out.2)⟩

set_option maxHeartbeats 2000000 in
theorem encode_any (p : Pfx) (w : World) (hL : Laid w) (hp : B16 p.l) : Calls Tryd.prog 18 #[.agg (pfxV p.v p.l p.b)] w fun e w' => ∃ A n c, e = .returned (.tuple #[.slice A n c, .int .i64 (errP p.v p.l p.b)]) ∧ OB w' w.heap.size A n c (encPE p) ∧ Below w.heap.size w w' := by
  have hblk1 := blk_new w (.cells (pfxV p.v p.l p.b) 26)
  have hbel1 : Below w.heap.size w (w.alloc (.cells (pfxV p.v p.l p.b) 26)) := below_alloc (Below.refl _ _) _
  have HP1 := Lib.hid (pfx_at hp hblk1)
  have HBK1 := Lib.hid hblk1
  have HBE := Lib.hid hbel1
  have HL := Lib.hid (hL.below HBE.out)
  obtain ⟨cs1, hcs1⟩ : ∃ cs, pfxV p.v p.l p.b = cs := ⟨_, rfl⟩
  simp only [hcs1] at HBE HL HP1 HBK1 ⊢
  have HC1 := Lib.hid hcs1
  clear hL hcs1 hblk1 hbel1
  have hla := (HP1.out.all _ (Below.refl _ _)).2.2.2.2
  go_enter Tryd.func18, Tryd.ntmps18
  go_wp2_with (refine wpList_load_g hla _ rfl rfl (by go_simp) ?_)
  refine (check_any p.v p.l p.b _ HL.out hp).mono ?_
  rintro e w1 ⟨rfl, hbb1⟩
  have HB1 := Lib.hid hbb1
  clear hbb1 hla
  cases hR : rightP p.v p.l p.b with
  | false =>
    have HE := Lib.hid (encPE_no (p := p) hR)
    have HE2 := Lib.hid (errP_false hR)
    rw [HE2.out]
    clear hR
    go_wp2
    go_ret2
    rw [HE.out, HE2.out]
    exact ⟨_, _, _, rfl, OB.nil _ _, below_step HBE.out HB1.out⟩
  | true =>
    have HY := Lib.hid (encPE_yes (p := p) hR)
    have HE2 := Lib.hid (errP_true hR)
    rw [HE2.out]
    have hb0 := (p.right_iff.1 hR).2.1
    have hb1 : p.b ≤ 128 := by have := (p.right_iff.1 hR).2.2.1; have := widthA_le p.v; omega
    clear hR
    go_wp2_with fail
    have hfq := fun w0 => full_any p.b w0 hb0 hb1
    have hkb := blk_below HBK1.out HB1.out
    rw [← HC1.out] at hkb
    have HRB := Lib.hid (rb_pfx hp hkb)
    obtain ⟨k, hk⟩ : ∃ k, fullB p.b = k := ⟨_, rfl⟩
    have hkk : (p.b + 7) / 8 = (k : Int) := by rw [← hk]; unfold fullB; omega
    have HE : Hid (encP p = p.v % 256 :: p.b % 256 :: p.l.take k) := by unfold encP; rw [hk]; exact rfl
    have hk16 : (k : Int) ≤ 16 := by omega
    have hk0 : 0 ≤ (k : Int) := by omega
    have hv8 : IntKind.u8.wrap p.v = p.v % 256 := by simp [IntKind.wrap, IntKind.bits, IntKind.signed]
    have hv9 : IntKind.u8.wrap p.b = p.b % 256 := by simp [IntKind.wrap, IntKind.bits, IntKind.signed]
    rw [hkk] at hfq
    clear hkb hk hkk hb0 hb1
    refine wp_region_mix (fun w0 => Below (w1).heap.size (w1) w0) [(0, 0), (1, 0), (2, 0), (3, 0), (4, 0), (5, 0), (6, 0), (8, 0), (9, 0), (10, 0), (11, 0), (12, 0), (13, 0), (7, 2), (14, 2), (15, 0), (16, 0)] (by kernel_rfl) (by kernel_rfl) (below_drew1 _) ?_
    simp only [List.map_cons, List.map_nil]
    iterate 2 (refine wpO_step0 rfl rfl (fun K hK => ?_); go_simp; refine hK _ _ ?_; clear hK K)
    refine wpO_loadW (t := 3) (ad := ⟨w.heap.size, 0, none⟩) rfl rfl ?hw rfl rfl ((fun w0 hS => (HP1.out.all w0 (below_step HB1.out hS)).2.2.1)) ?_
    case hw => go_simp
    iterate 2 (refine wpO_step0 rfl rfl (fun K hK => ?_); go_simp; refine hK _ _ ?_; clear hK K)
    refine wpO_loadW (t := 3) (ad := ⟨w.heap.size, 17, none⟩) rfl rfl ?hw rfl rfl ((fun w0 hS => (HP1.out.all w0 (below_step HB1.out hS)).2.1)) ?_
    case hw => go_simp
    iterate 4 (refine wpO_step0 rfl rfl (fun K hK => ?_); go_simp; refine hK _ _ ?_; clear hK K)
    refine wpO_loadW (t := 3) (ad := ⟨w.heap.size, 17, none⟩) rfl rfl ?hw rfl rfl ((fun w0 hS => (HP1.out.all w0 (below_step HB1.out hS)).2.1)) ?_
    case hw => go_simp
    refine wpO_quiet rfl rfl ?hw Tryd.func48 (by kernel_rfl) (by kernel_rfl) rfl rfl (fun w0 hS => hfq w0) ?_
    case hw => go_simp
    iterate 1 (refine wpO_step0 rfl rfl (fun K hK => ?_); go_simp; refine hK _ _ ?_; clear hK K)
    refine wpO_step2 rfl rfl (below_drew1 _) (fun K hK => ?_)
    go_simp
    have hsz := HB1.out.size
    simp at hsz
    have HO := Lib.hid ((OB.two w1 (p.v % 256) (p.b % 256) (by omega) (by omega) w.heap.size (by omega)).below (below_drew1 _))
    refine hK _ _ ⟨(below_alloc (Below.refl _ _) _).drew, ?_⟩
    clear hK K
    have HR := Lib.hid ((HRB.out.take k (by omega)).below (below_step (below_alloc (Below.refl _ _) (.cells #[.int .u8 (p.v % 256), .int .u8 (p.b % 256)] 5)) (below_drew1 _)))
    refine wpO_step2 rfl rfl ((below_alloc (Below.refl _ _) _).drew) (fun K hK => ?_)
    rw [if_pos (show Region.wanted _ _ = true from rfl)]
    refine oper_append_bytes (.tmp 17) (.tmp 23) rfl rfl rfl HO.out HR.out (by simp; omega) (by omega) ?_
    intro A3 c3 w3 h1 h2 h3
    have hb3 : Below w1.heap.size w1 w3 := (below_step (below_alloc (Below.refl _ _) (.cells #[.int .u8 (p.v % 256), .int .u8 (p.b % 256)] 5)) (below_drew1 _)).grown h2 (by simp) (own_row (fun ad e => by injection e with e; rw [← e]; exact Nat.le_refl _))
    have H3 := Lib.hid (And.intro h1 hb3)
    clear h1 h2 h3 hb3
    refine hK _ _ ⟨H3.out.2, ?_⟩
    clear hK K
    iterate 2 (refine wpO_step0 rfl rfl (fun K hK => ?_); go_simp; refine hK _ _ ?_; clear hK K)
    refine wpO_nil ?_
    go_wp2
    go_ret2
    rw [HY.out, HE.out, HE2.out]
    exact ⟨_, _, _, rfl, H3.out.1, below_step HBE.out (below_step HB1.out H3.out.2)⟩

set_option maxHeartbeats 2000000 in
theorem refaddrbytes_any (v : Int) (l : List Int) (w : World) (hl : B16 l) : Calls Tryd.prog 33 #[.agg (adrV v l)] w fun e w' => ∃ A n c, e = .returned (.slice A n c) ∧ OB w' w.heap.size A n c (encA v l) ∧ Below w.heap.size w w' := by
  have hblk1 := blk_new w (.cells (adrV v l) 24)
  have hbel1 : Below w.heap.size w (w.alloc (.cells (adrV v l) 24)) := below_alloc (Below.refl _ _) _
  have HP1 := Lib.hid (adr_at hl hblk1)
  have HBK1 := Lib.hid hblk1
  have HBE := Lib.hid hbel1
  obtain ⟨cs1, hcs1⟩ : ∃ cs, adrV v l = cs := ⟨_, rfl⟩
  simp only [hcs1] at HBE HP1 HBK1 ⊢
  have HC1 := Lib.hid hcs1
  clear hcs1 hblk1 hbel1
  have hlv := (HP1.out.all _ (Below.refl _ _)).2.1
  have hv8 : IntKind.u8.wrap v = v % 256 := by simp [IntKind.wrap, IntKind.bits, IntKind.signed]
  have hv0 : 0 ≤ v % 256 ∧ v % 256 < 256 := by omega
  have hob := OB.one (w.alloc (.cells cs1 24)) (v % 256) hv0 (w.heap.size + 1) (by simp)
  rw [show (w.alloc (.cells cs1 24)).heap.size = w.heap.size + 1 by simp] at hob
  have HOB := Lib.hid hob
  clear hob
  go_enter Tryd.func33, Tryd.ntmps33
  go_wp2_with (refine wpList_load_g hlv _ rfl rfl (by go_simp) ?_)
  clear hv8 hlv
  obtain ⟨nw, hnw⟩ : ∃ nw, widthA v = nw := ⟨_, rfl⟩
  have hwl := widthA_le v
  have hwq := fun w0 => hnw ▸ refwidth_any v w0
  have HE : Hid (encA v l = v % 256 :: l.take (nw / 8)) := by unfold encA; rw [hnw]; exact rfl
  rw [hnw] at hwl
  clear hnw
  go_loopw [3, 4] (fun x i wr => ∃ (k : Nat) (A : Option Addr) (c : Nat), i = .int .i64 k ∧ x = .slice A (1 + k) c ∧ Hid (k ≤ nw / 8 ∧ OB wr (w.heap.size + 1) A (1 + k) c (v % 256 :: l.take k) ∧ Below (w.alloc (.cells cs1 24)).heap.size (w.alloc (.cells cs1 24)) wr)) (fun _ i _ => 16 - (intOf i).toNat)
  case atStart => exact ⟨0, _, 1, rfl, rfl, Nat.zero_le _, HOB.out, below_alloc (Below.refl _ _) _⟩
  case round =>
    obtain ⟨k, A, c, rfl, rfl, HH⟩ := hrel
    clear HOB
    have hk := HH.out.1
    have hlv := (HP1.out.all wr HH.out.2.2).2.1
    go_wp2_with (refine wpList_load_g hlv _ rfl rfl (by go_simp) ?_)
    refine (hwq wr).mono ?_
    rintro e w1 ⟨rfl, rfl⟩
    have hsz := HH.out.2.2.size
    simp at hsz
    by_cases hlt : k < nw / 8
    · have hlt' : (k : Int) < (nw : Int) / 8 := by omega
      have hk16 : k < 16 := by omega
      have hkb := blk_below HBK1.out HH.out.2.2
      rw [← HC1.out] at hkb
      have hc := adr_b hkb k (by rw [hl.len]; exact hk16)
      have hr := hl.rd (k : Int)
      clear hkb hlv
      go_wp2_with (at_builtin; refine wpList_append_bytes rfl (.tmp 17) (.tmp 22) rfl rfl rfl (HH.out.2.1.below (below_alloc (Below.refl _ _) _)) (RB.one _ _ hr.1 hr.2) (by simp; omega) (by omega) ?_; intro A3 c3 w3 h1 h2 h3; have H3 := Lib.hid (And.intro h1 ((HH.out.2.2.alloc HH.out.2.2.size _).grown h2 (by simp; omega) (own_row (fun ad e => by have := HH.out.2.1.base_ ad e; simpa using this)))); clear h1 h2 h3)
      go_roundw
      case measure => simp [intOf]; omega
      case rel =>
        refine ⟨k + 1, A3, c3, by go_num, rfl, by omega, ?_, H3.out.2⟩
        have e := H3.out.1
        rw [List.cons_append, ← take_rd l k (by rw [hl.len]; exact hk16)] at e
        exact e
    · obtain rfl : k = nw / 8 := by omega
      have hm1 : decide (((nw / 8 : Nat) : Int) < (nw : Int) / 8) = false := decide_eq_false (by omega)
      have hm2 : decide ((nw : Int) / 8 < (nw : Int) / 8) = false := decide_eq_false (by omega)
      clear hlt hk hlv
      go_wp2
      go_ret
      rw [HE.out]
      exact ⟨_, _, _, rfl, HH.out.2.1.lower (by omega), below_step HBE.out HH.out.2.2⟩
set_option maxHeartbeats 2000000 in
theorem refbytes_any (p : Pfx) (w : World) (hp : B16 p.l) (hb0 : 0 ≤ p.b) (hb1 : p.b ≤ 128) : Calls Tryd.prog 34 #[.agg (pfxV p.v p.l p.b)] w fun e w' => ∃ A n c, e = .returned (.slice A n c) ∧ OB w' w.heap.size A n c (encP p) ∧ Below w.heap.size w w' := by
  have hblk1 := blk_new w (.cells (pfxV p.v p.l p.b) 26)
  have hbel1 : Below w.heap.size w (w.alloc (.cells (pfxV p.v p.l p.b) 26)) := below_alloc (Below.refl _ _) _
  have HP1 := Lib.hid (pfx_at hp hblk1)
  have HBK1 := Lib.hid hblk1
  have HBE := Lib.hid hbel1
  obtain ⟨cs1, hcs1⟩ : ∃ cs, pfxV p.v p.l p.b = cs := ⟨_, rfl⟩
  simp only [hcs1] at HBE HP1 HBK1 ⊢
  have HC1 := Lib.hid hcs1
  clear hcs1 hblk1 hbel1
  have hlv := (HP1.out.all _ (Below.refl _ _)).2.2.1
  have hlw := (HP1.out.all _ (Below.refl _ _)).2.1
  have hob := OB.two (w.alloc (.cells cs1 26)) (p.v % 256) (p.b % 256) (by omega) (by omega) (w.heap.size + 1) (by simp)
  have hv8 : IntKind.u8.wrap p.v = p.v % 256 := by simp [IntKind.wrap, IntKind.bits, IntKind.signed]
  have hv9 : IntKind.u8.wrap p.b = p.b % 256 := by simp [IntKind.wrap, IntKind.bits, IntKind.signed]
  rw [show (w.alloc (.cells cs1 26)).heap.size = w.heap.size + 1 by simp] at hob
  have HOB := Lib.hid hob
  clear hob
  go_enter Tryd.func34, Tryd.ntmps34
  go_wp2_with (first | (refine wpList_load_g hlv _ rfl rfl (by go_simp) ?_) | (refine wpList_load_g hlw _ rfl rfl (by go_simp) ?_))
  clear hv8 hlv hlw hv9
  obtain ⟨nb, hnb⟩ : ∃ nb, fullB p.b = nb := ⟨_, rfl⟩
  have hbb : (p.b + 7) / 8 = (nb : Int) := by rw [← hnb]; unfold fullB; omega
  have hn16 : nb ≤ 16 := by omega
  have HE : Hid (encP p = p.v % 256 :: p.b % 256 :: p.l.take nb) := by unfold encP; rw [hnb]; exact rfl
  have HBB := Lib.hid hbb
  clear hbb hnb
  go_loopw [3, 4] (fun x i wr => ∃ (k : Nat) (A : Option Addr) (c : Nat), i = .int .i64 k ∧ x = .slice A (2 + k) c ∧ Hid (k ≤ nb ∧ OB wr (w.heap.size + 1) A (2 + k) c (p.v % 256 :: p.b % 256 :: p.l.take k) ∧ Below (w.alloc (.cells cs1 26)).heap.size (w.alloc (.cells cs1 26)) wr)) (fun _ i _ => 16 - (intOf i).toNat)
  case atStart => exact ⟨0, _, 2, rfl, rfl, Nat.zero_le _, HOB.out, below_alloc (Below.refl _ _) _⟩
  case round =>
    obtain ⟨k, A, c, rfl, rfl, HH⟩ := hrel
    clear HOB
    have hk := HH.out.1
    have hlv := (HP1.out.all wr HH.out.2.2).2.1
    have hsz := HH.out.2.2.size
    simp at hsz
    by_cases hlt : k < nb
    · have hlt' : (k : Int) < (p.b + 7) / 8 := by rw [HBB.out]; omega
      have hk16 : k < 16 := by omega
      have hkb := blk_below HBK1.out HH.out.2.2
      rw [← HC1.out] at hkb
      have hc := pfx_byte hp hkb k hk16
      have hr := hp.rd (k : Int)
      clear hkb
      go_wp2_with (first | (refine wpList_load_g hlv _ rfl rfl (by go_simp) ?_) | (at_builtin; refine wpList_append_bytes rfl (.tmp 21) (.tmp 27) rfl rfl rfl (HH.out.2.1.below (below_alloc (Below.refl _ _) _)) (RB.one _ _ hr.1 hr.2) (by simp; omega) (by omega) ?_; intro A3 c3 w3 h1 h2 h3; have H3 := Lib.hid (And.intro h1 ((HH.out.2.2.alloc HH.out.2.2.size _).grown h2 (by simp; omega) (own_row (fun ad e => by have := HH.out.2.1.base_ ad e; simpa using this)))); clear h1 h2 h3))
      go_roundw
      case measure => simp [intOf]; omega
      case rel =>
        refine ⟨k + 1, A3, c3, by go_num, rfl, by omega, ?_, H3.out.2⟩
        have e := H3.out.1
        rw [List.cons_append, List.cons_append, ← take_rd p.l k (by rw [hp.len]; exact hk16)] at e
        exact e
    · obtain rfl : k = nb := by omega
      have hm1 : decide ((k : Int) < (p.b + 7) / 8) = false := decide_eq_false (by rw [HBB.out]; omega)
      clear hlt hk
      go_wp2_with (refine wpList_load_g hlv _ rfl rfl (by go_simp) ?_)
      go_ret
      rw [HE.out]
      exact ⟨_, _, _, rfl, HH.out.2.1.lower (by omega), below_step HBE.out HH.out.2.2⟩
end Go.Proofs.YtcloepjeckbmoaaDoor
