/- Layer 11 (route): the law RouteFolds. -/
import Derived.Test.YtnpeedmicjeleaaDoorRouteFoldsD
namespace Go.Proofs.YtnpeedmicjeleaaDoor
open Go.RowKit
set_option linter.unusedVariables false
set_option linter.unusedSimpArgs false
set_option maxRecDepth 4000
set_option maxHeartbeats 4000000 in
set_option maxRecDepth 100000 in
theorem folds11_any (A : Option Addr) (n c : Nat) (bs : List Bt) (w : World) (hL : Laid w) (hr : RS btK w A n c bs) (hb : ∀ b ∈ bs, RS updK w b.A b.n b.c b.t ∧ Oku b.t) :
    Calls Tryd.prog 5 #[.slice A n c] w fun e w' => e = .returned (.bool true) ∧ Below w.heap.size w w' := by
  have HR := Lib.hid hr
  have HB := Lib.hid hb
  have HL := Lib.hid hL
  have hsm := hr.small
  have hcap := hr.cap
  clear hr hb hL
  go_enter Tryd.func5, Tryd.ntmps5
  go_wp2_with fail
  refine (wakes11_any _ HL.out).mono ?_
  rintro e w1 ⟨rfl, hb1⟩
  have HB1 := Lib.hid hb1
  clear hb1
  obtain ⟨n2, hn2⟩ : ∃ n2, min n 30 = n2 := ⟨_, rfl⟩
  have hn2n : n2 ≤ n := by omega
  have hn30 : n2 ≤ 30 := by omega
  have HN2 := Lib.hid hn2
  clear hn2
  go_upto_if 13 with fail
  try go_simp
  go_cut [0] (fun s0 wx => s0 = .slice A n2 c ∧ wx = w1)
  case first =>
    by_cases h30 : 30 < n
    · have h30b : decide ((30 : Int) < n) = true := decide_eq_true (by omega)
      obtain ⟨b, o, rfl, _⟩ := RS.at_ HR.out (by omega)
      have he : n2 = 30 := by have := HN2.out; omega
      have hc30 : 30 ≤ c := by omega
      have hc30' : (30 : Int) ≤ c := by omega
      subst he
      go_wp2_with fail
      go_meet
      exact ⟨rfl, rfl⟩
    · have h30b : decide ((30 : Int) < n) = false := decide_eq_false (by omega)
      have he : n2 = n := by have := HN2.out; omega
      subst he
      go_wp2_with fail
      go_meet
      exact ⟨rfl, rfl⟩
  case rest =>
    obtain ⟨rfl, rfl⟩ := hcut
    obtain ⟨ts, hts⟩ : ∃ ts, bs.take n2 = ts := ⟨_, rfl⟩
    have HT : Hid (RS btK w A n2 c ts) := Lib.hid (by rw [← hts]; exact RS.take HR.out n2 hn2n)
    have HBT : Hid (∀ b ∈ ts, RS updK w b.A b.n b.c b.t ∧ Oku b.t) := Lib.hid (fun b hm => HB.out b (List.mem_of_mem_take (hts ▸ hm)))
    clear hts
    obtain ⟨w2, rfl⟩ : ∃ w2, w2 = wc := ⟨wc, rfl⟩
    go_wp2_with fail
    go_loopw [18] (fun s18 wr => ∃ k : Nat, s18 = .int .i64 k ∧ Hid (k ≤ n2 ∧ (∀ j, j < k → (ts.getD j btK.z).n ≤ 100) ∧ Below w.heap.size w wr)) (fun x _ => n2 - (intOf x).toNat)
    case atStart => exact ⟨0, rfl, Nat.zero_le _, fun j h => by omega, HB1.out⟩
    case round =>
      obtain ⟨k, rfl, HI⟩ := hrel
      obtain ⟨wk, rfl⟩ : ∃ wk, wk = wr := ⟨wr, rfl⟩
      have HBK := Lib.hid HI.out.2.2
      by_cases hlt : k < n2
      · have hlt' : (k : Int) < n2 := by omega
        obtain ⟨b, o, rfl, hc⟩ := RS.at_ HT.out (by omega)
        have hla := Shape.ld btK wk b _ _ (RS.fits_at HT.out hlt) ((hc k hlt).below HBK.out)
        have hla : (Instr.loadAt 27 (.pointer (some ⟨b, o + k * 1, none⟩))).run Tryd.prog wk = .ok (.agg (tabV (ts.getD k btK.z).A (ts.getD k btK.z).n (ts.getD k btK.z).c)) wk := hla
        obtain ⟨x, hx⟩ : ∃ x, ts.getD k btK.z = x := ⟨_, rfl⟩
        rw [hx] at hla
        rw [Nat.mul_one] at hla
        have HX := Lib.hid hx
        clear hc hx
        have HB6f := Lib.hid (fun (W : World) (h : (wk.alloc (.cells (tabV none 0 0) 27)).grownBy W (some wk.heap.size)) => below_grown (below_alloc (Below.refl wk.heap.size wk) (.cells (tabV none 0 0) 27)) h (Nat.le_refl _))
        by_cases h100 : 100 < x.n
        · have h1b : decide ((100 : Int) < x.n) = true := decide_eq_true (by omega)
          clear h100
          go_wp2_with (first | ((with_reducible show wpList _ _ _ (Oper.mk _ (Op.load _ _) _ _ _ _ :: _) _ _); refine wpList_load_g hla _ rfl rfl (by go_simp) ?_) | ((with_reducible show wpList _ _ _ (Oper.mk _ (Op.store _ _ _) _ _ _ _ :: _) _ _); refine wpList_store_blk (blk_new wk (.cells (tabV none 0 0) 27)) 27 0 (tabV x.A x.n x.c) (Nat.le_refl _) (info_bat _ _ _) (tab_one _ _ _) _ _ rfl rfl rfl rfl ?_; intro w6 hg9 hs9 hb9; rw [splice_tab] at hb9; have H6 := Lib.hid (And.intro hg9 hb9); clear hg9 hs9 hb9) | ((with_reducible show wpList _ _ _ (Oper.mk _ (Op.load _ _) _ _ _ _ :: _) _ _); refine wpList_load_g (((bat_at H6.out.2).all _ (Below.refl _ _)).2) _ rfl rfl (by go_simp) ?_))
          go_ret
          exact ⟨rfl, below_step HBK.out (HB6f.out _ H6.out.1)⟩
        · have h1b : decide ((100 : Int) < x.n) = false := decide_eq_false (by omega)
          have HXN : Hid (x.n ≤ 100) := Lib.hid (by omega)
          clear h100
          go_wp2_with (first | ((with_reducible show wpList _ _ _ (Oper.mk _ (Op.load _ _) _ _ _ _ :: _) _ _); refine wpList_load_g hla _ rfl rfl (by go_simp) ?_) | ((with_reducible show wpList _ _ _ (Oper.mk _ (Op.store _ _ _) _ _ _ _ :: _) _ _); refine wpList_store_blk (blk_new wk (.cells (tabV none 0 0) 27)) 27 0 (tabV x.A x.n x.c) (Nat.le_refl _) (info_bat _ _ _) (tab_one _ _ _) _ _ rfl rfl rfl rfl ?_; intro w6 hg9 hs9 hb9; rw [splice_tab] at hb9; have H6 := Lib.hid (And.intro hg9 hb9); clear hg9 hs9 hb9) | ((with_reducible show wpList _ _ _ (Oper.mk _ (Op.load _ _) _ _ _ _ :: _) _ _); refine wpList_load_g (((bat_at H6.out.2).all _ (Below.refl _ _)).2) _ rfl rfl (by go_simp) ?_))
          go_roundw
          case measure => simp [intOf]; omega
          case rel => exact ⟨k + 1, by go_num, by omega, fun j hj => by
            rcases Nat.lt_or_ge j k with h | h
            · exact HI.out.2.1 j h
            · obtain rfl : j = k := by omega
              rw [HX.out]
              exact HXN.out, below_step HBK.out (HB6f.out _ H6.out.1)⟩
      · have hlt' : decide (k < n2) = false := decide_eq_false hlt
        have HBS : Hid (Bts wk ts) := Lib.hid (fun b hm => by
          obtain ⟨i, hi, he⟩ := mem_getD (z := btK.z) hm
          have h1 := HI.out.2.1 i (by have h2 := HT.out.len; have h3 := HI.out.1; omega)
          rw [he] at h1
          exact ⟨(HBT.out b hm).1.below HBK.out, (HBT.out b hm).2, h1⟩)
        have HOK := Lib.hid (fold_ok (l := ts) (r := []) (fun r hr => by cases hr) (fun b hm => (HBT.out b hm).2)).1
        have HLN : Hid ((foldR [] ts).length ≤ 240) := Lib.hid (by
          have h1 := (fold_ok (l := ts) (r := []) (fun r hr => by cases hr) (fun b hm => (HBT.out b hm).2)).2
          rw [HT.out.len] at h1
          simp at h1
          omega)
        clear hlt
        go_wp2_with fail
        refine (rfold_any A n2 c ts wk (HL.out.below HBK.out) (HT.out.below HBK.out) HBS.out hn30).mono ?_
        rintro e w5 ⟨A5, n5, c5, rfl, hO5, hb5⟩
        have HO5 := Lib.hid hO5
        have HB5 := Lib.hid (below_step HBK.out hb5)
        have HBS5 := Lib.hid (HBS.out.below hb5)
        clear hO5 hb5
        obtain ⟨N, hN⟩ : ∃ N, foldN [] ts = N := ⟨_, rfl⟩
        have HN := Lib.hid hN
        rw [hN]
        clear hN
        have HB6f := Lib.hid (fun (W : World) (h : (w5.alloc (.cells (tabV none 0 0) 24)).grownBy W (some w5.heap.size)) => below_grown (below_alloc (Below.refl w5.heap.size w5) (.cells (tabV none 0 0) 24)) h (Nat.le_refl _))
        go_wp2_with (first | ((with_reducible show wpList _ _ _ (Oper.mk _ (Op.store _ _ _) _ _ _ _ :: _) _ _); refine wpList_store_blk (blk_new w5 (.cells (tabV none 0 0) 24)) 24 0 (tabV A5 n5 c5) (Nat.le_refl _) (info_rib _ _ _) (tab_one _ _ _) _ _ rfl rfl rfl rfl ?_; intro w6 hg9 hs9 hb9; rw [splice_tab] at hb9; have H6 := Lib.hid (And.intro hg9 hb9); clear hg9 hs9 hb9))
        have HB56 := Lib.hid (HB6f.out _ H6.out.1)
        have HB6 := Lib.hid (below_step HB5.out HB56.out)
        have HG6 := Lib.hid H6.out.2
        have HO6 := Lib.hid (HO5.out.below HB56.out)
        have HBS6 := Lib.hid (HBS5.out.below HB56.out)
        obtain ⟨g5, hg5⟩ : ∃ g, w5.heap.size = g := ⟨_, rfl⟩
        rw [hg5] at HG6 ⊢
        clear HB6f H6 HB56 hg5
        refine (reffold_any A n2 c ts w6 (HT.out.below HB6.out) HBS6.out hn30).mono ?_
        rintro e w7 ⟨A7, n7, c7, rfl, hO7, hb7⟩
        rw [HN.out]
        have HO7 := Lib.hid hO7
        have HB7 := Lib.hid (below_step HB6.out hb7)
        have HG7 := Lib.hid (blk_below HG6.out hb7)
        have HP7 := Lib.hid (HO6.out.below hb7)
        have hn5 : n5 ≤ 240 := by rw [← hO7.len] at *; have := HP7.out.len; have := HLN.out; omega
        have hn7 : n7 ≤ 240 := by have := HO7.out.len; have := HLN.out; omega
        clear hO7 hb7
        go_upto_region 13 with (first | ((with_reducible show wpList _ _ _ (Oper.mk _ (Op.store _ _ _) _ _ _ _ :: _) _ _); refine wpList_store_blk (blk_new w7 (.cells (tabV none 0 0) 24)) 24 0 (tabV A7 n7 c7) (Nat.le_refl _) (info_rib _ _ _) (tab_one _ _ _) _ _ rfl rfl rfl rfl ?_; intro w8 hg9 hs9 hb9; rw [splice_tab] at hb9; have H8 := Lib.hid (And.intro hg9 hb9); clear hg9 hs9 hb9))
        have HB78 := Lib.hid (below_grown (below_alloc (Below.refl w7.heap.size w7) (.cells (tabV none 0 0) 24)) H8.out.1 (Nat.le_refl _))
        have HB8 := Lib.hid (below_step HB7.out HB78.out)
        have hl5 := load_rib (blk_below HG7.out HB78.out)
        have hl7 := load_rib H8.out.2
        go_wp2_with (first | ((with_reducible show wpList _ _ _ (Oper.mk _ (Op.load _ _) _ _ _ _ :: _) _ _); refine wpList_load_g hl5 _ rfl rfl (by go_simp) ?_) | ((with_reducible show wpList _ _ _ (Oper.mk _ (Op.load _ _) _ _ _ _ :: _) _ _); refine wpList_load_g hl7 _ rfl rfl (by go_simp) ?_))
        refine (refsameQ_any A5 n5 c5 (foldR [] ts) A7 n7 c7 (foldR [] ts) w8 (HP7.out.below HB78.out) (HO7.out.below HB78.out) HOK.out HOK.out (by omega) (by omega)).mono ?_
        rintro e w9 ⟨rfl, hb9⟩
        rw [eqL_self]
        have HB9 := Lib.hid (below_step HB8.out hb9)
        clear hb9 hl5 hl7
        go_wp2_with fail
        go_ret
        exact ⟨rfl, HB9.out⟩
end Go.Proofs.YtnpeedmicjeleaaDoor

/- The walk of RouteFolds, as the row asks it. -/
namespace Go.Proofs.YtnpeedmicjeleaaDoor
open Go.RowKit
set_option linter.unusedVariables false
set_option linter.unusedSimpArgs false
set_option maxRecDepth 4000
theorem routeFolds_walk (A : Option Addr) (n c : Nat) (bs : List Bt) (w : World) (hL : Laid w) (hr : RS btK w A n c bs) (hb : ∀ b ∈ bs, RS updK w b.A b.n b.c b.t ∧ Oku b.t) (h0 : n * 24 ≤ 140737488351232) : Calls Tryd.prog 5 #[.slice A n c] w fun e w' => e = .returned (.bool true) ∧ Below w.heap.size w w' := folds11_any A n c bs w hL hr hb
end Go.Proofs.YtnpeedmicjeleaaDoor
