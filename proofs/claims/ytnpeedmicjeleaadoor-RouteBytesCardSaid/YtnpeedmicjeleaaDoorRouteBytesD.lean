/- Slices of elements of whatever shape: made, cut, one element stored. -/
import Derived.IntWalk
import Derived.Test.YtnpeedmicjeleaaDoorRouteBytesA
import Derived.Test.YtnpeedmicjeleaaDoorRouteBytesB
import Derived.Test.YtnpeedmicjeleaaDoorRouteBytesC
namespace Go.Proofs.YtnpeedmicjeleaaDoor
open Go.RowKit
set_option linter.unusedVariables false
set_option linter.unusedSimpArgs false
set_option maxRecDepth 4000
theorem OS.made {α : Type} (S : Shape α) (W : World) (base n : Nat) (hb : base ≤ W.heap.size) (hn : n ≤ 1000000000) : OS S (W.alloc (.cells (S.cells (List.replicate n S.z)).toArray S.t)) base (some ⟨W.heap.size, 0, none⟩) n n (List.replicate n S.z) := by
  have := OS.new S W base (List.replicate n S.z) hb (fun a ha => by rw [List.eq_of_mem_replicate ha]; exact S.okz) (by simp; omega)
  rwa [List.length_replicate] at this
theorem wpList_store_elem {α : Type} {S : Shape α} {w : World} {base n c : Nat} {ad : Addr} {l : List α} {ops : Array Oper} {rest : List Oper} {op : Oper} {a : Act} {Q : Exit → Act → World → Prop} (h : OS S w base (some ad) n c l) (j : Nat) (hj : j < n) (b : α) (hb : S.ok b) (hv : S.val b = .agg (S.enc b).toArray)
    (x y : Operand) (ho : op.op = .store S.t x y) (hx : a.eval x = .pointer (some ⟨ad.block, ad.off + j * S.sz, none⟩)) (hy : a.eval y = S.val b) (hw : Region.wanted op (yielded ops a.tmps) = true)
    (hk : ∀ w', w.grownBy w' (some ad.block) → w'.heap.size = w.heap.size → OS S w' base (some ad) n c (l.take j ++ [b] ++ l.drop (j + 1)) → wpList Tryd.prog ops Q rest (a.put op.dst undef) w') : wpList Tryd.prog ops Q (op :: rest) a w := by
  obtain ⟨_, _, cur, hh, hfit, _⟩ := h.ov.form ad rfl
  have hcap := h.cap
  have h2 : (j + 1) * S.sz ≤ c * S.sz := Nat.mul_le_mul_right _ (by omega)
  rw [Nat.add_mul, Nat.one_mul] at h2
  have hsz : (S.enc b).toArray.size = S.sz := by rw [List.size_toArray, S.len _ hb]
  have hr := run_storeAt_mid (P := Tryd.prog) w ad.block (ad.off + j * S.sz) S.t (S.enc b).toArray (blk_there hh _ _ (by rw [hsz]; omega)) (by rw [hsz]; exact S.size) (by rw [← Array.all_toList, List.all_eq_true]; exact fun u hu => S.one b u hu)
  have hO := h.put j [b] (Shape.all_one hb) (by simp; omega)
  rw [Shape.cells_one] at hO
  refine wpList_step (fun K hK => ?_)
  rw [if_pos hw]
  unfold Oper.wp execOp
  simp only [ho, hx, hy, hv, Sem.run_bind, hr, Result.andThen_ok, Sem.run_pure]
  exact hK _ _ (hk _ (setCells_grown _ _ _ _) (setCells_same _ _ _ _).2.2.2 hO)
theorem blk_ownN {w w1 : World} {g : Nat} {o : Obj} {A : Option Addr} {n c : Nat} (h : w.heap[g]? = some o) (hg : w.grownBy w1 ((Value.slice A n c).ownBlock)) (ha : ∀ ad, A = some ad → ad.block ≠ g) : w1.heap[g]? = some o :=
  blk_grown h hg (fun e => by
    obtain ⟨ad, e1, e2⟩ := own_of e.symm
    exact ha ad e1 e2)
theorem kw_cast {α : Type} {K : α → World → Prop} {a : α} {w v : World} (h : w = v) (k : K a v) : K a w := h ▸ k
theorem exec_lit2 {α : Type} (S : Shape α) {r : Operand → Value} {o : Oper} {x y : Operand} (ho : o.op = .buildSlice S.ts 2 #[(0, x), (1, y)]) (a b : α) (hx : r x = S.val a) (hy : r y = S.val b) (ha : S.ok a) (hb : S.ok b) (hs : S.sz ≤ 1000000) (W : World) :
    (execOp r o).run Tryd.prog W = .ok (.value (.slice (some ⟨W.heap.size, 0, none⟩) 2 2)) (W.alloc (.cells (S.cells [a, b]).toArray S.t)) := by
  have h := run_lit_shp S W [a, b] (fun c hc => by
    rcases List.mem_cons.1 hc with rfl | hc
    · exact ha
    · rw [List.mem_singleton] at hc; rw [hc]; exact hb) (by simp) (by simp; omega) #[(0, S.val a), (1, S.val b)] rfl
  unfold execOp
  have e : (#[(0, x), (1, y)].map fun (p : Nat × Operand) => (p.1, r p.2)) = #[(0, S.val a), (1, S.val b)] := by simp [hx, hy]
  simp only [ho, Sem.run_bind]
  have h2 : (Instr.buildSlice S.ts 2 (#[(0, x), (1, y)].map fun (p : Nat × Operand) => (p.1, r p.2))).run Tryd.prog W = .ok (.slice (some ⟨W.heap.size, 0, none⟩) 2 2) (W.alloc (.cells (S.cells [a, b]).toArray S.t)) := by rw [e]; exact h
  rw [h2]
  rfl
theorem OS.two {α : Type} (S : Shape α) (W : World) (base : Nat) (a b : α) (hb : base ≤ W.heap.size) (ha : S.ok a) (hbo : S.ok b) : OS S (W.alloc (.cells (S.cells [a, b]).toArray S.t)) base (some ⟨W.heap.size, 0, none⟩) 2 2 [a, b] :=
  OS.new S W base [a, b] hb (fun c hc => by
    rcases List.mem_cons.1 hc with rfl | hc
    · exact ha
    · rw [List.mem_singleton] at hc; rw [hc]; exact hbo) (by simp)
end Go.Proofs.YtnpeedmicjeleaaDoor

/- Layer 11 (route): Apply. -/
namespace Go.Proofs.YtnpeedmicjeleaaDoor
open Go.RowKit
set_option linter.unusedVariables false
set_option linter.unusedSimpArgs false
set_option maxRecDepth 4000
theorem info_rib (A : Option Addr) (n c : Nat) : (Tryd.prog.info? 24).map (·.size) = some (tabV A n c).size := by show _ = some 1; kernel_rfl
theorem load_rib {w : World} {g : Nat} {A : Option Addr} {n c : Nat} (h : w.heap[g]? = some (.cells (tabV A n c) 24 (0, 0))) : (Instr.loadAt 24 (.pointer (some ⟨g, 0, none⟩))).run Tryd.prog w = .ok (.agg (tabV A n c)) w := ((rib_at h).all _ (Below.refl _ _)).1
theorem run_build_rib_nil (w : World) : (Instr.build 24 #[]).run Tryd.prog w = .ok (.agg (tabV none 0 0)) w := run_build w _ _ _ (by kernel_rfl)
theorem run_build_rib (w : World) (A : Option Addr) (n c : Nat) : (Instr.build 24 #[(0, .slice A n c)]).run Tryd.prog w = .ok (.agg (tabV A n c)) w := run_build w _ _ _ (by kernel_rfl)
/-- What the loop of Apply keeps: the rows of its own, and the cell that holds them. -/
structure AppS (w0 w : World) (g : Nat) (A : Option Addr) (n c : Nat) (l : List Rte) : Prop where
  own : OS rteK w w0.heap.size A n c l
  cell : w.heap[g]? = some (.cells (tabV A n c) 24 (0, 0))
  ne : ∀ ad, A = some ad → ad.block ≠ g
  bel : Below w0.heap.size w0 w
  gle : w0.heap.size ≤ g
theorem AppS.step {w0 w w1 : World} {g : Nat} {A : Option Addr} {n c : Nat} {l : List Rte} (h : AppS w0 w g A n c l) (hb : Below w.heap.size w w1) : AppS w0 w1 g A n c l := ⟨h.own.below hb, blk_below h.cell hb, h.ne, below_step h.bel hb, h.gle⟩
theorem AppS.turn {w0 w w1 w2 : World} {g : Nat} {A A' : Option Addr} {n c n' c' : Nat} {l l' : List Rte} (h : AppS w0 w g A n c l) (ho : OS rteK w1 w0.heap.size A' n' c' l') (hg : w.grownBy w1 ((Value.slice A n c).ownBlock)) (ha : A' = A ∨ ∀ ad, A' = some ad → w.heap.size ≤ ad.block) (hg2 : w1.grownBy w2 (some g)) (hc : w2.heap[g]? = some (.cells (tabV A' n' c') 24 (0, 0))) : AppS w0 w2 g A' n' c' l' := by
  have hlt := blk_lt h.cell
  have hne : ∀ ad, A' = some ad → ad.block ≠ g := fun ad e => by
    rcases ha with ha | ha
    · exact h.ne ad (ha ▸ e)
    · have := ha ad e; omega
  exact ⟨ho.grown hg2 (fun ad e k => by injection k with k; exact hne ad e k), hc, hne, below_grown (below_own h.bel hg h.own.base_) hg2 h.gle, h.gle⟩
theorem AppS.put {w0 w w1 : World} {g : Nat} {ad : Addr} {n c : Nat} {l l' : List Rte} (h : AppS w0 w g (some ad) n c l) (ho : OS rteK w1 w0.heap.size (some ad) n c l') (hg : w.grownBy w1 (some ad.block)) : AppS w0 w1 g (some ad) n c l' :=
  ⟨ho, blk_grown h.cell hg (fun e => by injection e with e; exact h.ne ad rfl e.symm), h.ne, below_grown h.bel hg (h.own.base_ ad rfl), h.gle⟩
theorem appN_no {l : List Rte} {b : List Upd} (h1 : ribB l = true) (h2 : batB b = true) (h3 : appL l b = none) : appN l b = 4 ∧ appR l b = [] := by
  have : appN l b = 4 := by unfold appN; rw [if_pos h1, if_pos h2, h3]
  exact ⟨this, by unfold appR; rw [this]; rfl⟩
theorem appN_rib {l : List Rte} {b : List Upd} (h1 : ribB l = false) : appN l b = 211 ∧ appR l b = [] := by
  have : appN l b = 211 := by unfold appN; rw [if_neg (by rw [h1]; decide)]
  exact ⟨this, by unfold appR; rw [this]; rfl⟩
theorem appN_bat {l : List Rte} {b : List Upd} (h1 : ribB l = true) (h2 : batB b = false) : appN l b = 210 ∧ appR l b = [] := by
  have : appN l b = 210 := by unfold appN; rw [if_pos h1, if_neg (by rw [h2]; decide)]
  exact ⟨this, by unfold appR; rw [this]; rfl⟩
theorem appN_full {l m : List Rte} {b : List Upd} (h1 : ribB l = true) (h2 : batB b = true) (h3 : appL l b = some m) (h4 : ¬ pfxsN m ≤ 40) : appN l b = 6 ∧ appR l b = [] := by
  have : appN l b = 6 := by unfold appN; rw [if_pos h1, if_pos h2, h3]; exact if_neg h4
  exact ⟨this, by unfold appR; rw [this]; rfl⟩
theorem appN_yes {l m : List Rte} {b : List Upd} (h1 : ribB l = true) (h2 : batB b = true) (h3 : appL l b = some m) (h4 : pfxsN m ≤ 40) : appN l b = 0 ∧ appR l b = m := by
  have : appN l b = 0 := by unfold appN; rw [if_pos h1, if_pos h2, h3]; exact if_pos h4
  exact ⟨this, by unfold appR; rw [this, h3]; rfl⟩
theorem appL_take {l m : List Rte} {b : List Upd} {k : Nat} (hk : k < b.length) (h : appL l (b.take k) = some m) : appL l (b.take (k + 1)) = appS m (updAt b k) := by
  rw [take_getD updZ hk, appL_snoc, h]
  rfl
theorem batB_len {b : List Upd} (h : batB b = true) : b.length ≤ 8 := by
  unfold batB at h
  rw [Bool.and_eq_true, Bool.and_eq_true, decide_eq_true_eq, decide_eq_true_eq] at h
  exact h.1.2
theorem ribB_ris {l : List Rte} (h : ribB l = true) : ribsB l = true ∧ pfxsN l ≤ 40 := by
  unfold ribB at h
  rwa [Bool.and_eq_true, decide_eq_true_eq] at h
set_option maxHeartbeats 8000000 in
set_option maxRecDepth 100000 in
theorem rapply_any (A : Option Addr) (n c : Nat) (l : List Rte) (A2 : Option Addr) (m c2 : Nat) (b : List Upd) (w : World) (hL : Laid w) (hr : RS rteK w A n c l) (ok : Okr l) (hn : n ≤ 10000) (hu : RS updK w A2 m c2 b) (oku : Oku b) (hm : m ≤ 10000) :
    Calls Tryd.prog 13 #[.agg (tabV A n c), .agg (tabV A2 m c2)] w fun e w' => ∃ A' n' c', e = .returned (.tuple #[.agg (tabV A' n' c'), .int .i64 (appN l b)]) ∧ OS rteK w' w.heap.size A' n' c' (appR l b) ∧ Below w.heap.size w w' := by
  have hblk1 := blk_new w (.cells (tabV A n c) 24)
  have hbel1 : Below w.heap.size w (w.alloc (.cells (tabV A n c) 24)) := below_alloc (Below.refl _ _) _
  have hblk2 := blk_new (w.alloc (.cells (tabV A n c) 24)) (.cells (tabV A2 m c2) 27)
  have hbel2 : Below w.heap.size w ((w.alloc (.cells (tabV A n c) 24)).alloc (.cells (tabV A2 m c2) 27)) := below_alloc (hbel1) _
  rw [show (w.alloc (.cells (tabV A n c) 24)).heap.size = w.heap.size + 1 by simp] at hblk2
  replace hblk1 := blk_below hblk1 (below_alloc (Below.refl _ _) (.cells (tabV A2 m c2) 27))
  have HP1 := Lib.hid (rib_at hblk1)
  have HBK1 := Lib.hid hblk1
  have HP2 := Lib.hid (bat_at hblk2)
  have HBK2 := Lib.hid hblk2
  have HBE := Lib.hid hbel2
  have HL := Lib.hid (hL.below HBE.out)
  obtain ⟨cs1, hcs1⟩ : ∃ cs, tabV A n c = cs := ⟨_, rfl⟩
  obtain ⟨cs2, hcs2⟩ : ∃ cs, tabV A2 m c2 = cs := ⟨_, rfl⟩
  simp only [hcs1, hcs2] at HBE HL HP1 HP2 HBK1 HBK2 ⊢
  have HC1 := Lib.hid hcs1
  have HC2 := Lib.hid hcs2
  clear hL hcs1 hblk1 hbel1 hcs2 hblk2 hbel2
  have HR := Lib.hid (hr.below HBE.out)
  have HU := Lib.hid (hu.below HBE.out)
  have OK := Lib.hid ok
  have OKU := Lib.hid oku
  have hs0 : ((w.alloc (.cells cs1 24)).alloc (.cells cs2 27)).heap.size = w.heap.size + 1 + 1 := by simp
  obtain ⟨W1, hW1⟩ : ∃ W1, ((w.alloc (.cells cs1 24)).alloc (.cells cs2 27)).alloc (.cells #[.slice none 0 0] 24) = W1 := ⟨_, rfl⟩
  have HZ : Hid (W1.heap[w.heap.size + 1 + 1]? = some (.cells (tabV none 0 0) 24 (0, 0))) := Lib.hid (by rw [← hW1, ← hs0]; exact blk_new _ _)
  have HB1 : Hid (Below ((w.alloc (.cells cs1 24)).alloc (.cells cs2 27)).heap.size ((w.alloc (.cells cs1 24)).alloc (.cells cs2 27)) W1) := Lib.hid (hW1 ▸ below_alloc (Below.refl _ _) _)
  have HZL : Hid (w.heap.size ≤ w.heap.size + 1 + 1) := Lib.hid (by omega)
  have HS1 : Hid (W1.heap.size = w.heap.size + 3) := Lib.hid (by rw [← hW1]; simp)
  clear hr hu ok oku hs0
  go_enter Tryd.func13, Tryd.ntmps13
  go_wp2_with (first | ((with_reducible show wpList _ _ _ (Oper.mk _ (Op.load _ _) _ _ _ _ :: _) _ _); refine wpList_load_g ((HP1.out.all _ HB1.out).1) _ rfl rfl (by go_simp) ?_))
  clear hW1
  have hck := rcheck_any A n c l W1 (HL.out.below HB1.out) (HR.out.below HB1.out) OK.out (by omega)
  refine hck.mono ?_
  clear hck
  rintro e w2 ⟨rfl, hb2⟩
  have HB2 := Lib.hid (below_step HB1.out hb2)
  have HZ2 := Lib.hid (blk_below HZ.out hb2)
  have HS2 : Hid (w.heap.size + 3 ≤ w2.heap.size) := Lib.hid (by rw [← HS1.out]; exact hb2.size)
  clear hb2 HZ HB1 HS1
  cases hrb : ribB l with
  | false =>
    rw [show ribE l = 211 by unfold ribE; rw [hrb]; rfl]
    have HE := Lib.hid (appN_rib (b := b) hrb)
    clear hrb
    go_wp2_with (first | ((with_reducible show wpList _ _ _ (Oper.mk _ (Op.build _ _) _ _ _ _ :: _) _ _); refine wpList_exw rfl (exec_build 24 #[] rfl #[] rfl ((run_build_rib_nil _))) ?_) | ((with_reducible show wpList _ _ _ (Oper.mk _ (Op.store _ _ _) _ _ _ _ :: _) _ _); refine wpList_store_blk HZ2.out 24 0 (tabV none 0 0) (Nat.le_refl _) (info_rib _ _ _) (tab_one _ _ _) _ _ rfl rfl rfl rfl ?_; intro w9 hg9 hs9 hb9; rw [splice_tab] at hb9; have H9 := Lib.hid (And.intro hg9 hb9); clear hg9 hs9 hb9))
    refine bodyPost_ret (results_c2 rfl rfl (load_rib H9.out.2)) rfl ?_
    rw [HE.out.1, HE.out.2]
    exact ⟨none, 0, 0, rfl, OS.nil _ _ _, below_grown (below_step HBE.out HB2.out) H9.out.1 HZL.out⟩
  | true =>
    rw [show ribE l = 0 by unfold ribE; rw [hrb]; rfl]
    have HRB := Lib.hid hrb
    clear hrb
    go_wp2_with (first | ((with_reducible show wpList _ _ _ (Oper.mk _ (Op.load _ _) _ _ _ _ :: _) _ _); refine wpList_load_g ((HP2.out.all _ HB2.out).1) _ rfl rfl (by go_simp) ?_))
    have hck := rcheckb_any A2 m c2 b w2 (HL.out.below HB2.out) (HU.out.below HB2.out) OKU.out (by omega)
    refine hck.mono ?_
    clear hck
    rintro e w3 ⟨rfl, hb3⟩
    have HB3 := Lib.hid (below_step HB2.out hb3)
    have HZ3 := Lib.hid (blk_below HZ2.out hb3)
    have HS3 : Hid (w.heap.size + 3 ≤ w3.heap.size) := Lib.hid (Nat.le_trans HS2.out hb3.size)
    clear hb3 HZ2 HB2 HS2
    cases hbb : batB b with
    | false =>
      rw [show batE b = 210 by unfold batE; rw [hbb]; rfl]
      have HE := Lib.hid (appN_bat HRB.out hbb)
      clear hbb
      go_wp2_with (first | ((with_reducible show wpList _ _ _ (Oper.mk _ (Op.build _ _) _ _ _ _ :: _) _ _); refine wpList_exw rfl (exec_build 24 #[] rfl #[] rfl ((run_build_rib_nil _))) ?_) | ((with_reducible show wpList _ _ _ (Oper.mk _ (Op.store _ _ _) _ _ _ _ :: _) _ _); refine wpList_store_blk HZ3.out 24 0 (tabV none 0 0) (Nat.le_refl _) (info_rib _ _ _) (tab_one _ _ _) _ _ rfl rfl rfl rfl ?_; intro w9 hg9 hs9 hb9; rw [splice_tab] at hb9; have H9 := Lib.hid (And.intro hg9 hb9); clear hg9 hs9 hb9))
      refine bodyPost_ret (results_c2 rfl rfl (load_rib H9.out.2)) rfl ?_
      rw [HE.out.1, HE.out.2]
      exact ⟨none, 0, 0, rfl, OS.nil _ _ _, below_grown (below_step HBE.out HB3.out) H9.out.1 HZL.out⟩
    | true =>
      rw [show batE b = 0 by unfold batE; rw [hbb]; rfl]
      have HBB := Lib.hid hbb
      have hm8 : m ≤ 8 := by rw [← HU.out.len]; exact batB_len hbb
      clear hbb
      go_wp2_with (first | ((with_reducible show wpList _ _ _ (Oper.mk _ (Op.load _ _) _ _ _ _ :: _) _ _); refine wpList_load_g ((HP1.out.all _ HB3.out).2) _ rfl rfl (by go_simp) ?_))
      refine (cloneQ_any A n c l w3 (HR.out.below HB3.out) (by omega)).mono ?_
      rintro e w4 ⟨A4, c4, rfl, hO4, hb4⟩
      have HB34 := Lib.hid hb4
      have HO4 := Lib.hid hO4
      have HL4 := Lib.hid hO4.lt
      have HB5f := Lib.hid (fun (W : World) (h : (w4.alloc (.cells (tabV none 0 0) 24)).grownBy W (some w4.heap.size)) => below_grown (below_alloc (Below.refl w4.heap.size w4) (.cells (tabV none 0 0) 24)) h (Nat.le_refl _))
      clear hb4 hO4
      go_wp2_with (first | ((with_reducible show wpList _ _ _ (Oper.mk _ (Op.build _ _) _ _ _ _ :: _) _ _); refine wpList_exw rfl (exec_build1 rfl rfl (run_build_rib _ A4 n c4)) ?_) | ((with_reducible show wpList _ _ _ (Oper.mk _ (Op.store _ _ _) _ _ _ _ :: _) _ _); refine wpList_store_blk (blk_new w4 (.cells (tabV none 0 0) 24)) 24 0 (tabV A4 n c4) (Nat.le_refl _) (info_rib _ _ _) (tab_one _ _ _) _ _ rfl rfl rfl rfl ?_; intro w5 hg9 hs9 hb9; rw [splice_tab] at hb9; have H5 := Lib.hid (And.intro hg9 hb9); clear hg9 hs9 hb9) | ((with_reducible show wpList _ _ _ (Oper.mk _ (Op.load _ _) _ _ _ _ :: _) _ _); refine wpList_load_g ((HP2.out.all _ (below_step HB3.out (below_step HB34.out (HB5f.out _ H5.out.1)))).2) _ rfl rfl (by go_simp) ?_))
      have HB45 := Lib.hid (HB5f.out _ H5.out.1)
      have hAS : AppS w3 w5 w4.heap.size A4 n c4 l := ⟨(HO4.out.below (below_alloc (Below.refl _ _) (.cells (tabV none 0 0) 24))).grown H5.out.1 (fun ad e k => by injection k with k; have := HL4.out ad e; omega), H5.out.2, fun ad e => (by have := HL4.out ad e; omega), below_step HB34.out HB45.out, HB34.out.size⟩
      have HAS := Lib.hid hAS
      have HRK : Hid (Rok l) := Lib.hid ⟨OK.out, ribs_ris (ribB_ris HRB.out).1⟩
      obtain ⟨g6, hg6⟩ : ∃ g, w4.heap.size = g := ⟨_, rfl⟩
      rw [hg6] at HAS ⊢
      clear HB5f H5 HO4 HL4 HB34 HB45 hAS hg6
      go_loopw [29] (fun s29 wr => ∃ (k : Nat) (Ak : Option Addr) (nk ck : Nat) (lk : List Rte), s29 = .int .i64 k ∧ Hid (k ≤ m ∧ AppS w3 wr g6 Ak nk ck lk ∧ appL l (b.take k) = some lk)) (fun x _ => m - (intOf x).toNat)
      case atStart => exact ⟨0, A4, n, c4, l, rfl, Nat.zero_le _, HAS.out, rfl⟩
      case round =>
        obtain ⟨k, Ak, nk, ck, lk, rfl, HI⟩ := hrel
        obtain ⟨wk, rfl⟩ : ∃ wk, wk = wr := ⟨wr, rfl⟩
        have HBK := Lib.hid (below_step HB3.out HI.out.2.1.bel)
        have hrok := appL_rok HRK.out (fun u hu => OKU.out u (List.mem_of_mem_take hu)) HI.out.2.2
        have HROK := Lib.hid hrok.1
        have hnk : nk ≤ 10100 := by
          have h1 := hrok.2
          rw [HI.out.2.1.own.len, List.length_take, HR.out.len] at h1
          have h2 := HI.out.1
          omega
        clear hrok
        by_cases hlt : k < m
        · have hlt' : (k : Int) < m := by omega
          obtain ⟨bb, ob, hA, hc⟩ := RS.at_ HU.out (by omega)
          have hkl : k < b.length := by rw [HU.out.len]; exact hlt
          have HXO := Lib.hid (OKU.out.at_ hkl)
          have hla := Shape.ld updK wk bb _ _ HXO.out.fits ((hc k hlt).below HBK.out)
          have hla : (Instr.loadAt 75 (.pointer (some ⟨bb, ob + k * 22, none⟩))).run Tryd.prog wk = .ok (.agg (updV (updAt b k))) wk := hla
          have HAT := Lib.hid (appL_take hkl HI.out.2.2)
          have HTN : Hid (appL l (b.take (k + 1)) = none → appL l b = none) := Lib.hid appL_none
          obtain ⟨x, hx⟩ : ∃ x, updAt b k = x := ⟨_, rfl⟩
          rw [hx] at hla HXO HAT
          have HB6f := Lib.hid (fun (W : World) (h : (wk.alloc (.cells (updV updZ) 75)).grownBy W (some wk.heap.size)) => below_grown (below_alloc (Below.refl wk.heap.size wk) (.cells (updV updZ) 75)) h (Nat.le_refl _))
          subst hA
          clear hc hx hkl
          go_upto_region 10 with (first | ((with_reducible show wpList _ _ _ (Oper.mk _ (Op.load _ _) _ _ _ _ :: _) _ _); refine wpList_load_g hla _ rfl rfl (by go_simp) ?_) | ((with_reducible show wpList _ _ _ (Oper.mk _ (Op.store _ _ _) _ _ _ _ :: _) _ _); refine wpList_store_blk (blk_new wk _) 75 0 (updV x) (store_upd_fit HXO.out.fits rfl) (info_upd HXO.out.fits) (updV_one _) _ _ rfl rfl rfl rfl ?_; intro w6 hg9 hs9 hb9; rw [splice_upd HXO.out.fits rfl] at hb9; have H6 := Lib.hid (And.intro hg9 hb9); clear hg9 hs9 hb9) | ((with_reducible show wpList _ _ _ (Oper.mk _ (Op.load _ _) _ _ _ _ :: _) _ _); refine wpList_load_g (((upd_at HXO.out.fits H6.out.2).all _ (Below.refl _ _)).pfx) _ rfl rfl (by go_simp) ?_) | ((with_reducible show wpList _ _ _ (Oper.mk _ (Op.load _ _) _ _ _ _ :: _) _ _); refine wpList_load_g (((upd_at HXO.out.fits H6.out.2).all _ (Below.refl _ _)).src) _ rfl rfl (by go_simp) ?_) | ((with_reducible show wpList _ _ _ (Oper.mk _ (Op.load _ _) _ _ _ _ :: _) _ _); refine wpList_load_g (((upd_at HXO.out.fits H6.out.2).all _ (Below.refl _ _)).prf) _ rfl rfl (by go_simp) ?_) | ((with_reducible show wpList _ _ _ (Oper.mk _ (Op.load _ _) _ _ _ _ :: _) _ _); refine wpList_load_g (((upd_at HXO.out.fits H6.out.2).all _ (Below.refl _ _)).hop) _ rfl rfl (by go_simp) ?_) | ((with_reducible show wpList _ _ _ (Oper.mk _ (Op.build _ _) _ _ _ _ :: _) _ _); refine wpList_exw rfl (exec_build4 rfl rfl rfl rfl rfl (run_build_rte _ x.p x.s x.f x.h HXO.out.fits.len)) ?_) | ((with_reducible show wpList _ _ _ (Oper.mk _ (Op.store _ _ _) _ _ _ _ :: _) _ _); refine wpList_store_blk (blk_new w6 _) 51 0 (rteV (Upd.rte x)) (store_rte_fit (show (Upd.rte x).fits from HXO.out.fits) rfl) (info_rte (show (Upd.rte x).fits from HXO.out.fits)) (rteV_one _) _ _ rfl rfl rfl rfl ?_; intro w7 hg9 hs9 hb9; rw [splice_rte (show (Upd.rte x).fits from HXO.out.fits) rfl] at hb9; have H7 := Lib.hid (And.intro hg9 hb9); clear hg9 hs9 hb9))
          dsimp only [Act.put]
          have HB6 := Lib.hid (HB6f.out _ H6.out.1)
          have HB7 := Lib.hid (below_grown (below_alloc (Below.refl w6.heap.size w6) (.cells (rteV rteZ) 51)) H7.out.1 (Nat.le_refl _))
          have HA7 := Lib.hid ((HI.out.2.1.step HB6.out).step HB7.out)
          have HU7 := Lib.hid (blk_below H6.out.2 HB7.out)
          have HX7 := Lib.hid H7.out.2
          have HBK7 := Lib.hid (below_step HB6.out HB7.out)
          have HRF : Hid (Upd.rte x).fits := Lib.hid HXO.out.fits
          obtain ⟨gu, hgu⟩ : ∃ g, wk.heap.size = g := ⟨_, rfl⟩
          obtain ⟨gx, hgx⟩ : ∃ g, w6.heap.size = g := ⟨_, rfl⟩
          rw [hgu] at HU7 ⊢
          rw [hgx] at HX7 ⊢
          obtain ⟨r, hr⟩ : ∃ r, Upd.rte x = r := ⟨_, rfl⟩
          have HRE := Lib.hid hr
          have HRO : Hid r.ok := Lib.hid (by rw [← hr]; exact HXO.out.rte)
          rw [hr] at HX7 HRF
          rw [show (⟨x.p, x.s, x.f, x.h⟩ : Rte) = r from hr]
          clear HB6f H6 H7 hla hgu hgx hr HB6 HB7
          go_wp2_with (first | ((with_reducible show wpList _ _ _ (Oper.mk _ (Op.load _ _) _ _ _ _ :: _) _ _); refine wpList_load_g (((rib_at HA7.out.cell).all _ (Below.refl _ _)).2) _ rfl rfl (by go_simp) ?_) | ((with_reducible show wpList _ _ _ (Oper.mk _ (Op.load _ _) _ _ _ _ :: _) _ _); refine wpList_load_g (((rte_at HRF.out HX7.out).all _ (Below.refl _ _)).all) _ rfl rfl (by go_simp) ?_))
          refine (bsearchQ_any Ak nk ck lk r w7 HA7.out.own.reads HROK.out.ris HRF.out (by omega)).mono ?_
          rintro e w8 ⟨rfl, hb8⟩
          have HA8 := Lib.hid (HA7.out.step hb8)
          have HU8 := Lib.hid (blk_below HU7.out hb8)
          have HX8 := Lib.hid (blk_below HX7.out hb8)
          have HBK8 := Lib.hid (below_step HBK7.out hb8)
          have HSP : Hid (appS lk x = if x.g then (if thereR lk r then some (dropK Rte.key lk r) else none) else some (setK Rte.key lk r)) := Lib.hid (by rw [← HRE.out]; rfl)
          have HDK : Hid (dropK Rte.key lk r = lk.take (lowR lk r) ++ lk.drop (lowR lk r + 1)) := Lib.hid rfl
          have HSK : Hid (setK Rte.key lk r = lk.take (lowR lk r) ++ r :: lk.drop (if thereR lk r then lowR lk r + 1 else lowR lk r)) := Lib.hid rfl
          have HJL : Hid (thereR lk r = true → lowR lk r < lk.length) := Lib.hid thereK_lt
          have HJE : Hid (lowR lk r ≤ lk.length) := Lib.hid (lowK_le lk r)
          obtain ⟨j, hj⟩ : ∃ j, lowR lk r = j := ⟨_, rfl⟩
          rw [hj] at HDK HSK HJL HJE ⊢
          have hlk : lk.length = nk := HA8.out.own.len
          have hjn : j ≤ nk := by rw [← hlk]; exact HJE.out
          clear hb8 hj HA7 HU7 HX7 HBK7 hlk
          cases hg : x.g with
          | true =>
            cases ht : thereR lk r with
            | false =>
              have HE := Lib.hid (appN_no HRB.out HBB.out (HTN.out (by rw [HAT.out, HSP.out, hg, ht]; rfl)))
              clear ht
              go_wp2_with (first | ((with_reducible show wpList _ _ _ (Oper.mk _ (Op.load _ _) _ _ _ _ :: _) _ _); refine wpList_load_g (((upd_at HXO.out.fits HU8.out).all _ (Below.refl _ _)).gon) _ rfl rfl (by go_simp) ?_) | ((with_reducible show wpList _ _ _ (Oper.mk _ (Op.build _ _) _ _ _ _ :: _) _ _); refine wpList_exw rfl (exec_build 24 #[] rfl #[] rfl ((run_build_rib_nil _))) ?_) | ((with_reducible show wpList _ _ _ (Oper.mk _ (Op.store _ _ _) _ _ _ _ :: _) _ _); refine wpList_store_blk (blk_below HZ3.out HA8.out.bel) 24 0 (tabV none 0 0) (Nat.le_refl _) (info_rib _ _ _) (tab_one _ _ _) _ _ rfl rfl rfl rfl ?_; intro w9 hg9 hs9 hb9; rw [splice_tab] at hb9; have H9 := Lib.hid (And.intro hg9 hb9); clear hg9 hs9 hb9))
              refine bodyPost_ret (results_c2 rfl rfl (load_rib H9.out.2)) rfl ?_
              rw [HE.out.1, HE.out.2]
              exact ⟨none, 0, 0, rfl, OS.nil _ _ _, below_grown (below_step HBE.out (below_step HB3.out HA8.out.bel)) H9.out.1 HZL.out⟩
            | true =>
              have hjlt : j < nk := by have h1 := HJL.out ht; rwa [HA8.out.own.len] at h1
              have HN : Hid (appL l (b.take (k + 1)) = some (lk.take j ++ lk.drop (j + 1))) := Lib.hid (by rw [HAT.out, HSP.out, hg, ht, ← HDK.out]; rfl)
              clear ht
              go_wp2_with (first | ((with_reducible show wpList _ _ _ (Oper.mk _ (Op.load _ _) _ _ _ _ :: _) _ _); refine wpList_load_g (((upd_at HXO.out.fits HU8.out).all _ (Below.refl _ _)).gon) _ rfl rfl (by go_simp) ?_) | ((with_reducible show wpList _ _ _ (Oper.mk _ (Op.load _ _) _ _ _ _ :: _) _ _); refine wpList_load_g (((rib_at HA8.out.cell).all _ (Below.refl _ _)).2) _ rfl rfl (by go_simp) ?_))
              refine (deleteQ_any w3.heap.size Ak nk ck j lk w8 HA8.out.own hjlt (by omega)).mono ?_
              rintro e w9 ⟨rfl, hO9, hg9⟩
              have HO9 := Lib.hid (And.intro hO9 hg9)
              clear hO9 hg9
              go_wp2_with (first | ((with_reducible show wpList _ _ _ (Oper.mk _ (Op.store _ _ _) _ _ _ _ :: _) _ _); refine wpList_store_cell (blk_ownN HA8.out.cell HO9.out.2 HA8.out.ne) 22 0 (.slice Ak (nk - 1) ck) (Nat.le_refl _) (by kernel_rfl) rfl rfl _ _ rfl rfl rfl rfl ?_; intro w10 hg9 hs9 hb9; have H10 := Lib.hid (And.intro hg9 (show (World.heap w10)[g6]? = some (.cells (tabV Ak (nk - 1) ck) 24 (0, 0)) from hb9)); clear hg9 hs9 hb9))
              go_roundw
              case measure => simp [intOf]; omega
              case rel => exact ⟨k + 1, Ak, nk - 1, ck, _, by go_num, by omega, HA8.out.turn HO9.out.1 HO9.out.2 (.inl rfl) H10.out.1 H10.out.2, HN.out⟩
          | false =>
            cases ht : thereR lk r with
            | true =>
              have hjlt : j < nk := by have h1 := HJL.out ht; rwa [HA8.out.own.len] at h1
              have hjlt' : (j : Int) < nk := by omega
              have HN : Hid (appL l (b.take (k + 1)) = some (lk.take j ++ [r] ++ lk.drop (j + 1))) := Lib.hid (by rw [HAT.out, HSP.out, hg, if_neg (by decide), HSK.out, ht, if_pos rfl]; simp)
              obtain ⟨b9, o9, rfl, _⟩ := RS.at_ HA8.out.own.reads (by omega)
              clear ht
              go_wp2_with (first | ((with_reducible show wpList _ _ _ (Oper.mk _ (Op.load _ _) _ _ _ _ :: _) _ _); refine wpList_load_g (((upd_at HXO.out.fits HU8.out).all _ (Below.refl _ _)).gon) _ rfl rfl (by go_simp) ?_) | ((with_reducible show wpList _ _ _ (Oper.mk _ (Op.load _ _) _ _ _ _ :: _) _ _); refine wpList_load_g (((rib_at HA8.out.cell).all _ (Below.refl _ _)).2) _ rfl rfl (by go_simp) ?_) | ((with_reducible show wpList _ _ _ (Oper.mk _ (Op.load _ _) _ _ _ _ :: _) _ _); refine wpList_load_g (((rte_at HRF.out HX8.out).all _ (Below.refl _ _)).all) _ rfl rfl (by go_simp) ?_) | ((with_reducible show wpList _ _ _ (Oper.mk _ (Op.store _ _ _) _ _ _ _ :: _) _ _); refine wpList_store_elem (S := rteK) HA8.out.own j hjlt r HRF.out rfl _ _ rfl rfl rfl rfl ?_; intro w9 hg9 hs9 hO9; have H9 := Lib.hid (And.intro hg9 hO9); clear hg9 hs9 hO9))
              go_roundw
              case measure => simp [intOf]; omega
              case rel => exact ⟨k + 1, _, nk, ck, _, by go_num, by omega, HA8.out.put H9.out.2 H9.out.1, HN.out⟩
            | false =>
              have HN : Hid (appL l (b.take (k + 1)) = some (lk.take j ++ r :: lk.drop j)) := Lib.hid (by rw [HAT.out, HSP.out, hg, if_neg (by decide), HSK.out, ht, if_neg (by decide)])
              have HLT := Lib.hid HA8.out.own.lt
              have HBA := Lib.hid (below_alloc (Below.refl w8.heap.size w8) (.cells (rteK.enc r).toArray rteK.t))
              clear ht
              go_wp2_with (first | ((with_reducible show wpList _ _ _ (Oper.mk _ (Op.load _ _) _ _ _ _ :: _) _ _); refine wpList_load_g (((upd_at HXO.out.fits HU8.out).all _ (Below.refl _ _)).gon) _ rfl rfl (by go_simp) ?_) | ((with_reducible show wpList _ _ _ (Oper.mk _ (Op.load _ _) _ _ _ _ :: _) _ _); refine wpList_load_g (((rib_at HA8.out.cell).all _ (Below.refl _ _)).2) _ rfl rfl (by go_simp) ?_) | ((with_reducible show wpList _ _ _ (Oper.mk _ (Op.load _ _) _ _ _ _ :: _) _ _); refine wpList_load_g (((rte_at HRF.out HX8.out).all _ (Below.refl _ _)).all) _ rfl rfl (by go_simp) ?_) | ((with_reducible show wpList _ _ _ (Oper.mk _ (Op.buildSlice _ _ _) _ _ _ _ :: _) _ _); refine wpList_exw rfl (exec_lit1 rteK (x := .tmp 52) rfl r rfl HRF.out (by show 21 ≤ _; omega) _) ?_))
              refine (insertQ_any w3.heap.size Ak nk ck j w8.heap.size lk r _ (HA8.out.own.below HBA.out) hjn (by omega) (Nat.le_trans HA8.out.bel.size HBA.out.size) (blk_new w8 _) HRF.out (fun ad e => by have := HLT.out ad e; omega)).mono ?_
              rintro e w9 ⟨A9, c9, rfl, hO9, hg9, hA9⟩
              have HO9 := Lib.hid (And.intro hO9 (And.intro hg9 hA9))
              clear hO9 hg9 hA9
              go_wp2_with (first | ((with_reducible show wpList _ _ _ (Oper.mk _ (Op.store _ _ _) _ _ _ _ :: _) _ _); refine wpList_store_cell (blk_ownN (blk_below HA8.out.cell HBA.out) HO9.out.2.1 HA8.out.ne) 22 0 (.slice A9 (nk + 1) c9) (Nat.le_refl _) (by kernel_rfl) rfl rfl _ _ rfl rfl rfl rfl ?_; intro w10 hg9 hs9 hb9; have H10 := Lib.hid (And.intro hg9 (show (World.heap w10)[g6]? = some (.cells (tabV A9 (nk + 1) c9) 24 (0, 0)) from hb9)); clear hg9 hs9 hb9))
              go_roundw
              case measure => simp [intOf]; omega
              case rel => exact ⟨k + 1, A9, nk + 1, c9, _, by go_num, by omega, (HA8.out.step HBA.out).turn HO9.out.1 HO9.out.2.1 HO9.out.2.2 H10.out.1 H10.out.2, HN.out⟩
        · have hlt' : decide (k < m) = false := decide_eq_false hlt
          have HAL : Hid (appL l b = some lk) := Lib.hid (by
            have h1 := HI.out.2.2
            have h2 : k = b.length := by rw [HU.out.len]; have := HI.out.1; omega
            rwa [h2, List.take_length] at h1)
          have HAK := Lib.hid HI.out.2.1
          clear hlt
          go_wp2_with (first | ((with_reducible show wpList _ _ _ (Oper.mk _ (Op.load _ _) _ _ _ _ :: _) _ _); refine wpList_load_g (((rib_at HAK.out.cell).all _ (Below.refl _ _)).2) _ rfl rfl (by go_simp) ?_))
          refine (rprefixes_any Ak nk ck lk wk HAK.out.own.reads HROK.out.ok (by omega)).mono ?_
          rintro e w8 ⟨rfl, hb8⟩
          have HA8 := Lib.hid (HAK.out.step hb8)
          obtain ⟨q, hq⟩ : ∃ q, pfxsN lk = q := ⟨_, rfl⟩
          have HQ := Lib.hid hq
          rw [hq]
          clear hb8 hq
          by_cases h40 : 40 < q
          · have h40b : decide ((40 : Int) < q) = true := decide_eq_true (by omega)
            have HE := Lib.hid (appN_full HRB.out HBB.out HAL.out (by rw [HQ.out]; omega))
            clear h40
            go_wp2_with (first | ((with_reducible show wpList _ _ _ (Oper.mk _ (Op.build _ _) _ _ _ _ :: _) _ _); refine wpList_exw rfl (exec_build 24 #[] rfl #[] rfl ((run_build_rib_nil _))) ?_) | ((with_reducible show wpList _ _ _ (Oper.mk _ (Op.store _ _ _) _ _ _ _ :: _) _ _); refine wpList_store_blk (blk_below HZ3.out HA8.out.bel) 24 0 (tabV none 0 0) (Nat.le_refl _) (info_rib _ _ _) (tab_one _ _ _) _ _ rfl rfl rfl rfl ?_; intro w9 hg9 hs9 hb9; rw [splice_tab] at hb9; have H9 := Lib.hid (And.intro hg9 hb9); clear hg9 hs9 hb9))
            refine bodyPost_ret (results_c2 rfl rfl (load_rib H9.out.2)) rfl ?_
            rw [HE.out.1, HE.out.2]
            exact ⟨none, 0, 0, rfl, OS.nil _ _ _, below_grown (below_step HBE.out (below_step HB3.out HA8.out.bel)) H9.out.1 HZL.out⟩
          · have h40b : decide ((40 : Int) < q) = false := decide_eq_false (by omega)
            have HE := Lib.hid (appN_yes HRB.out HBB.out HAL.out (by rw [HQ.out]; omega))
            clear h40
            go_wp2_with (first | ((with_reducible show wpList _ _ _ (Oper.mk _ (Op.load _ _) _ _ _ _ :: _) _ _); refine wpList_load_g (load_rib HA8.out.cell) _ rfl rfl (by go_simp) ?_) | ((with_reducible show wpList _ _ _ (Oper.mk _ (Op.store _ _ _) _ _ _ _ :: _) _ _); refine wpList_store_blk (blk_below HZ3.out HA8.out.bel) 24 0 (tabV Ak nk ck) (Nat.le_refl _) (info_rib _ _ _) (tab_one _ _ _) _ _ rfl rfl rfl rfl ?_; intro w9 hg9 hs9 hb9; rw [splice_tab] at hb9; have H9 := Lib.hid (And.intro hg9 hb9); clear hg9 hs9 hb9))
            refine bodyPost_ret (results_c2 rfl rfl (load_rib H9.out.2)) rfl ?_
            rw [HE.out.1, HE.out.2]
            refine ⟨Ak, nk, ck, rfl, (HA8.out.own.grown H9.out.1 (fun ad e h => ?_)).lower (by have := HS3.out; omega), below_grown (below_step HBE.out (below_step HB3.out HA8.out.bel)) H9.out.1 HZL.out⟩
            have h1 := HA8.out.own.base_ ad e
            have h2 := HS3.out
            injection h with h
            omega
end Go.Proofs.YtnpeedmicjeleaaDoor

/- A region that draws its order, where two operations that act may stand in either order: both orders are walked. -/
namespace Go.Proofs.YtnpeedmicjeleaaDoor
open Go.RowKit
set_option linter.unusedVariables false
set_option linter.unusedSimpArgs false
set_option maxRecDepth 4000

section
variable {P : Program} {S : World → Prop} {ops : Array Oper} {md : Region.Mode} {cl : Nat → Nat}
theorem notOut (X : Act → World → Prop) : ¬ LetsOut (onlyNormal X) := fun ⟨_, _, h⟩ => h
theorem wpOp_normal {X Y K : Act → World → Prop} {i : Nat} {a : Act} {w : World} (h : wpOp P ops (onlyNormal X) i K a w) : wpOp P ops (onlyNormal Y) i K a w := by
  unfold wpOp at *
  cases hi : ops[i]? with
  | none => rw [hi] at h; exact h
  | some o =>
    rw [hi] at h
    simp only at h ⊢
    split
    · rename_i hw
      rw [if_pos hw] at h
      rcases h with h | ⟨_, h⟩
      · refine .inl ?_
        unfold Oper.wp at *
        generalize (execOp a.eval o).run P w = r at *
        cases r with
        | ok n w' =>
          cases n <;> simp only [Oper.upon] at h ⊢
          case value u => exact h
          case skip => exact h
          case defer d => exact h
          case enter f args =>
            refine Calls.mono h fun e w'' he => ?_
            cases e with
            | returned u => exact he
            | panicked c => exact he.elim
            | outgrown => exact (notOut _ he).elim
          case row row args => exact h
        | halt x w' =>
          cases x <;> simp only [Oper.upon] at h ⊢
          case panic u => exact h.elim
      · exact (notOut _ h).elim
    · rename_i hw
      rw [if_neg hw] at h
      exact h
theorem mOp_normal {X Y K K' : Act → World → Prop} {i : Nat} {a : Act} {w : World} (hk : ∀ a w, K a w → K' a w) (h : mOp P S ops (onlyNormal X) cl i K a w) : mOp P S ops (onlyNormal Y) cl i K' a w := by
  refine mOp_mono hk ?_
  unfold mOp at *
  cases hi : ops[i]? with
  | none => rw [hi] at h; exact h
  | some o =>
    rw [hi] at h
    simp only at h ⊢
    split at h
    · exact h
    · exact h
    · exact wpOp_normal h
    · exact h
    · exact wpOp_normal h

inductive OrdT where
  | lin (l : List Nat)
  | fork (l : List Nat) (i j : Nat) (r s : OrdT)
def OrdT.len : OrdT → Nat
  | .lin l => l.length
  | .fork l _ _ r _ => l.length + (r.len + 1)
def wpF (P : Program) (S : World → Prop) (ops : Array Oper) (cl : Nat → Nat) (K : Act → World → Prop) : OrdT → Act → World → Prop
  | .lin l, a, w => wpO P S ops (onlyNormal K) cl l a w
  | .fork l i j r s, a, w => wpO P S ops (onlyNormal fun a w => wpO P S ops (onlyNormal (wpF P S ops cl K r)) cl [i] a w ∧ wpO P S ops (onlyNormal (wpF P S ops cl K s)) cl [j] a w) cl l a w
def afterL (l : List Nat) (listed : Array Bool) : Array Bool := l.foldl (fun b i => b.setIfInBounds i true) listed
def ordP (md : Region.Mode) (ops : Array Oper) (cl : Nat → Nat) : List Nat → Array Bool → Bool
  | [], _ => true
  | i :: l, listed => (match cl i with
    | 0 => (Region.ready md ops listed).contains i && Region.free md ops listed i
    | 1 => (Region.ready md ops listed).contains i && Region.free md ops listed i && (List.range ops.size).all fun j => listed.getD j true || cl j == 0 || cl j == 1 || reach md ops i ops.size j
    | 4 => (Region.ready md ops listed).contains i && Region.free md ops listed i
    | _ => Region.ready md ops listed == [i]) && ordP md ops cl l (listed.setIfInBounds i true)
def ordF (md : Region.Mode) (ops : Array Oper) (cl : Nat → Nat) : OrdT → Array Bool → Bool
  | .lin l, listed => ordB md ops cl l listed
  | .fork l i j r s, listed => ordP md ops cl l listed && (Region.ready md ops (afterL l listed) == [i, j]) && decide (r.len = s.len) && ordF md ops cl r ((afterL l listed).setIfInBounds i true) && ordF md ops cl s ((afterL l listed).setIfInBounds j true)

theorem wpM_prefix (hf : Fin md ops cl) (hs : Region.noSelect ops = true) {X K : Act → World → Prop} {n : Nat} : ∀ (l : List Nat) (listed : Array Bool) (a : Act) (w : World), Closed md ops listed → ordP md ops cl l listed = true →
    wpO P S ops (onlyNormal X) cl l a w → (∀ a w, Closed md ops (afterL l listed) → X a w → wpM P S md ops (onlyNormal K) cl n (afterL l listed) a w) → wpM P S md ops (onlyNormal K) cl (n + l.length) listed a w
  | [], listed, a, w, hcl, _, h, hX => hX a w hcl h
  | i :: l, listed, a, w, hcl, hB, h, hX => by
    simp only [ordP, Bool.and_eq_true] at hB
    obtain ⟨hB1, hB2⟩ := hB
    simp only [wpO] at h
    have h0 := h
    have hX' : ∀ a w, Closed md ops (afterL l (listed.setIfInBounds i true)) → X a w → wpM P S md ops (onlyNormal K) cl n (afterL l (listed.setIfInBounds i true)) a w := fun a w hc hx => hX a w hc hx
    show wpM P S md ops (onlyNormal K) cl (n + l.length + 1) listed a w
    unfold mOp at h
    split at hB1
    · rename_i hc
      simp only [Bool.and_eq_true, List.contains_iff_mem] at hB1
      obtain ⟨_, oi, hoi, _⟩ := mem_ready.1 hB1.1
      rw [hoi] at h
      simp only [hc] at h
      obtain ⟨v, hy, hk⟩ := h
      exact wpM_first0 hf hoi hc (Region.noSelect_spec hs) (fun c a w h => h) (n + l.length) listed a w hcl (Region.free_spec hoi hB1.2) hB1.1 hy (wpM_prefix hf hs l _ _ w (hcl.set hB1.1) hB2 hk hX')
    · rename_i hc
      simp only [Bool.and_eq_true, List.contains_iff_mem, List.all_eq_true, List.mem_range, Bool.or_eq_true, beq_iff_eq] at hB1
      obtain ⟨_, oi, hoi, _⟩ := mem_ready.1 hB1.1.1
      rw [hoi] at h
      simp only [hc] at h
      obtain ⟨v, hy, hk⟩ := h
      refine wpM_first1 (N := ops.size) hoi hc (Region.noSelect_spec hs) (n + l.length) listed a hcl (fun j oj hj hun => ?_) (Region.free_spec hoi hB1.1.2) hB1.1.1 hy (wpM_prefix hf hs l _ _ w (hcl.set hB1.1.1) hB2 hk hX')
      have := hB1.2 j (Array.getElem?_eq_some_iff.1 hj).1
      rw [hun] at this
      simpa [or_assoc] using this
    · rename_i hc
      simp only [Bool.and_eq_true, List.contains_iff_mem] at hB1
      obtain ⟨_, oi, hoi, _⟩ := mem_ready.1 hB1.1
      rw [hoi] at h
      simp only [hc] at h
      obtain ⟨v, hy, hk⟩ := h
      exact wpM_first4 hoi hc (Region.noSelect_spec hs) (fun c a w h => h) (n + l.length) listed a w hcl (Region.free_spec hoi hB1.2) hB1.1 hy (wpM_prefix hf hs l _ _ w (hcl.set hB1.1) hB2 hk hX')
    · simp only [beq_iff_eq] at hB1
      have hr : i ∈ Region.ready md ops listed := by rw [hB1]; exact List.mem_singleton.2 rfl
      exact wpM_only hB1 (mOp_normal (fun a' w' h' => wpM_prefix hf hs l _ a' w' (hcl.set hr) hB2 h' hX') h0)
theorem wpM_of_wpF (hf : Fin md ops cl) (hs : Region.noSelect ops = true) {K : Act → World → Prop} : ∀ (t : OrdT) (listed : Array Bool) (a : Act) (w : World), Closed md ops listed → ordF md ops cl t listed = true → wpF P S ops cl K t a w →
    wpM P S md ops (onlyNormal K) cl t.len listed a w
  | .lin l, listed, a, w, hcl, hB, h => wpM_of_wpO hf hs (fun c dst v a w h => h) l listed a w hcl hB h
  | .fork l i j r s, listed, a, w, hcl, hB, h => by
    simp only [ordF, Bool.and_eq_true, decide_eq_true_eq, beq_iff_eq] at hB
    obtain ⟨⟨⟨⟨h1, h2⟩, h3⟩, h4⟩, h5⟩ := hB
    show wpM P S md ops (onlyNormal K) cl (l.length + (r.len + 1)) listed a w
    rw [Nat.add_comm]
    refine wpM_prefix hf hs l listed a w hcl h1 h (fun a w hc hx => ?_)
    refine ⟨fun h => (by rw [h2] at h; cases h), fun k hk => ?_⟩
    have hri : i ∈ Region.ready md ops (afterL l listed) := by rw [h2]; simp
    have hrj : j ∈ Region.ready md ops (afterL l listed) := by rw [h2]; simp
    rw [h2] at hk
    rcases List.mem_cons.1 hk with rfl | hk
    · exact mOp_normal (fun a' w' h' => wpM_of_wpF hf hs r _ a' w' (hc.set hri) h4 h') hx.1
    · rw [List.mem_singleton] at hk
      subst hk
      exact mOp_normal (fun a' w' h' => by rw [h3]; exact wpM_of_wpF hf hs s _ a' w' (hc.set hrj) h5 h') hx.2
end
theorem wp_region_fork {P : Program} (S : World → Prop) {ops : Array Oper} {id : Nat} {Q : Exit → Act → World → Prop} {a : Act} {w : World} (t : OrdT) (l : List (Nat × Nat)) (hm : P.follows .mixedOrders = true)
    (hB : (finB .any ops l && Region.noSelect ops && decide (t.len = ops.size) && ordF .any ops (clOf l) t (Array.replicate ops.size false)) = true)
    (hS : S w.drew) (h : wpF P S ops (clOf l) (Q .normal) t a w.drew) : (Code.region id ops true).wp P Q a w := by
  simp only [Bool.and_eq_true, decide_eq_true_eq] at hB
  refine wp_mono (Q := onlyNormal (Q .normal)) (wp_region_any hm (wpAny_of_wpM (S := S) (cl := clOf l) (fin_of hB.1.1.1) _ _ _ _ (Closed.start _) hS ?_)) (fun e a w hq => ?_)
  · have := wpM_of_wpF (P := P) (S := S) (md := .any) (cl := clOf l) (fin_of hB.1.1.1) hB.1.1.2 t (Array.replicate ops.size false) a w.drew (Closed.start _) hB.2 h
    rw [hB.1.2] at this
    exact this
  · cases e <;> first | exact hq | exact hq.elim
end Go.Proofs.YtnpeedmicjeleaaDoor

/- Layer 11 (route): Best. -/
namespace Go.Proofs.YtnpeedmicjeleaaDoor
open Go.RowKit
set_option linter.unusedVariables false
set_option linter.unusedSimpArgs false
set_option maxRecDepth 4000
/-- What the loop of Best keeps: a table of its own, and the cell that holds it. -/
structure TabS (w0 w : World) (g : Nat) (A : Option Addr) (n c : Nat) (t : List Row) : Prop where
  own : OS rowK w w0.heap.size A n c t
  cell : w.heap[g]? = some (.cells (tabV A n c) 39 (0, 0))
  bel : Below w0.heap.size w0 w
  gle : w0.heap.size ≤ g
theorem TabS.step {w0 w w1 : World} {g : Nat} {A : Option Addr} {n c : Nat} {t : List Row} (h : TabS w0 w g A n c t) (hb : Below w.heap.size w w1) : TabS w0 w1 g A n c t := ⟨h.own.below hb, blk_below h.cell hb, below_step h.bel hb, h.gle⟩
set_option maxHeartbeats 8000000 in
set_option maxRecDepth 100000 in
theorem rbest_any (A : Option Addr) (n c : Nat) (l : List Rte) (w : World) (hL : Laid w) (hr : RS rteK w A n c l) (ok : Okr l) (hn : n ≤ 10000) :
    Calls Tryd.prog 17 #[.agg (tabV A n c)] w fun e w' => ∃ A' n' c', e = .returned (.tuple #[.agg (tabV A' n' c'), .int .i64 (ribE l)]) ∧ OS rowK w' w.heap.size A' n' c' (bestR l) ∧ Below w.heap.size w w' := by
  have hblk1 := blk_new w (.cells (tabV A n c) 24)
  have hbel1 : Below w.heap.size w (w.alloc (.cells (tabV A n c) 24)) := below_alloc (Below.refl _ _) _
  have HP1 := Lib.hid (rib_at hblk1)
  have HBK1 := Lib.hid hblk1
  have HBE := Lib.hid hbel1
  have HL := Lib.hid (hL.below HBE.out)
  obtain ⟨cs1, hcs1⟩ : ∃ cs, tabV A n c = cs := ⟨_, rfl⟩
  simp only [hcs1] at HBE HL HP1 HBK1 ⊢
  have HC1 := Lib.hid hcs1
  clear hL hcs1 hblk1 hbel1
  have HR := Lib.hid (hr.below HBE.out)
  have OK := Lib.hid ok
  have hs0 : (w.alloc (.cells cs1 24)).heap.size = w.heap.size + 1 := by simp
  obtain ⟨W1, hW1⟩ : ∃ W1, (w.alloc (.cells cs1 24)).alloc (.cells #[.slice none 0 0] 39) = W1 := ⟨_, rfl⟩
  have HZ : Hid (W1.heap[w.heap.size + 1]? = some (.cells (tabV none 0 0) 39 (0, 0))) := Lib.hid (by rw [← hW1, ← hs0]; exact blk_new _ _)
  have HB1 : Hid (Below (w.alloc (.cells cs1 24)).heap.size (w.alloc (.cells cs1 24)) W1) := Lib.hid (hW1 ▸ below_alloc (Below.refl _ _) _)
  have HZL : Hid (w.heap.size ≤ w.heap.size + 1) := Lib.hid (by omega)
  have HS1 : Hid (W1.heap.size = w.heap.size + 2) := Lib.hid (by rw [← hW1]; simp)
  clear hr ok hs0
  go_enter Tryd.func17, Tryd.ntmps17
  go_wp2_with (first | ((with_reducible show wpList _ _ _ (Oper.mk _ (Op.load _ _) _ _ _ _ :: _) _ _); refine wpList_load_g ((HP1.out.all _ HB1.out).1) _ rfl rfl (by go_simp) ?_))
  clear hW1
  refine (rcheck_any A n c l W1 (HL.out.below HB1.out) (HR.out.below HB1.out) OK.out (by omega)).mono ?_
  rintro e w2 ⟨rfl, hb2⟩
  have HB2 := Lib.hid (below_step HB1.out hb2)
  have HZ2 := Lib.hid (blk_below HZ.out hb2)
  have HS2 : Hid (w.heap.size + 2 ≤ w2.heap.size) := Lib.hid (by rw [← HS1.out]; exact hb2.size)
  clear hb2 HZ HB1 HS1
  cases hrb : ribB l with
  | false =>
    have HE : Hid (ribE l = 211 ∧ bestR l = []) := Lib.hid ⟨by unfold ribE; rw [hrb]; rfl, by unfold bestR; rw [hrb]; rfl⟩
    rw [HE.out.1]
    clear hrb
    go_wp2_with (first | ((with_reducible show wpList _ _ _ (Oper.mk _ (Op.build _ _) _ _ _ _ :: _) _ _); refine wpList_exw rfl (exec_build 39 #[] rfl #[] rfl ((run_build_tab_nil _))) ?_) | ((with_reducible show wpList _ _ _ (Oper.mk _ (Op.store _ _ _) _ _ _ _ :: _) _ _); refine wpList_store_blk HZ2.out 39 0 (tabV none 0 0) (Nat.le_refl _) (info_tab _ _ _) (tab_one _ _ _) _ _ rfl rfl rfl rfl ?_; intro w9 hg9 hs9 hb9; rw [splice_tab] at hb9; have H9 := Lib.hid (And.intro hg9 hb9); clear hg9 hs9 hb9))
    refine bodyPost_ret (results_c2 rfl rfl (load_tab H9.out.2)) rfl ?_
    rw [HE.out.1, HE.out.2]
    exact ⟨none, 0, 0, rfl, OS.nil _ _ _, below_grown (below_step HBE.out HB2.out) H9.out.1 HZL.out⟩
  | true =>
    have HE : Hid (ribE l = 0 ∧ bestR l = bestT l) := Lib.hid ⟨by unfold ribE; rw [hrb]; rfl, by unfold bestR; rw [hrb]; rfl⟩
    rw [HE.out.1]
    have HRB := Lib.hid hrb
    clear hrb
    have hTS : TabS w2 (w2.alloc (.cells (tabV none 0 0) 39)) w2.heap.size none 0 0 (bk l 0) := ⟨OS.nil _ _ _, blk_new _ _, below_alloc (Below.refl _ _) _, Nat.le_refl _⟩
    have HTS := Lib.hid hTS
    clear hTS
    go_wp2_with (first | ((with_reducible show wpList _ _ _ (Oper.mk _ (Op.load _ _) _ _ _ _ :: _) _ _); refine wpList_load_g ((HP1.out.all _ (below_step HB2.out (below_alloc (Below.refl _ _) _))).2) _ rfl rfl (by go_simp) ?_))
    obtain ⟨g5, hg5⟩ : ∃ g, w2.heap.size = g := ⟨_, rfl⟩
    obtain ⟨w3, hw3⟩ : ∃ W, w2.alloc (.cells (tabV none 0 0) 39) = W := ⟨_, rfl⟩
    rw [hg5, hw3] at HTS
    rw [hg5]
    refine (show ∀ {P : World → Prop}, P w3 → P (w2.alloc (.cells #[.slice none 0 0] 39)) from fun {P} h => hw3 ▸ h) ?_
    clear hg5 hw3
    go_loopw [20] (fun s20 wr => ∃ (k : Nat) (Ak : Option Addr) (nk ck : Nat), s20 = .int .i64 k ∧ Hid (k ≤ n ∧ TabS w2 wr g5 Ak nk ck (bk l k))) (fun x _ => n - (intOf x).toNat)
    case atStart => exact ⟨0, none, 0, 0, rfl, Nat.zero_le _, HTS.out⟩
    case round =>
      obtain ⟨k, Ak, nk, ck, rfl, HI⟩ := hrel
      obtain ⟨wk, rfl⟩ : ∃ wk, wk = wr := ⟨wr, rfl⟩
      have HBK := Lib.hid (below_step HB2.out HI.out.2.bel)
      have hnk : nk ≤ 40 := by
        have h1 := HI.out.2.own.len
        have h2 := rib_to HRB.out
        have h3 := bk_len l k
        have h4 := best_len OK.out.fits h2.2.1
        omega
      by_cases hlt : k < n
      · have hlt' : (k : Int) < n := by omega
        obtain ⟨b, o, hA, hc⟩ := RS.at_ HR.out (by omega)
        have hil : k < l.length := by rw [HR.out.len]; exact hlt
        have HXO := Lib.hid (OK.out.at_ hil)
        have HCX : Hid (CellsAt wk b (o + k * 21) (rteC (rteAt l k))) := Lib.hid ((hc k hlt).below HBK.out)
        have HSB := Lib.hid (fun hu => set_bk OK.out.fits HRB.out hil hu)
        have HBS := Lib.hid (bk_succ l hil)
        obtain ⟨x, hx⟩ : ∃ x, rteAt l k = x := ⟨_, rfl⟩
        rw [hx] at HXO HCX HSB HBS
        have hla := (rteLd_of HXO.out.fits HCX.out).all
        have HB6f := Lib.hid (fun (W : World) (h : (wk.alloc (.cells (rteV rteZ) 51)).grownBy W (some wk.heap.size)) => below_grown (below_alloc (Below.refl wk.heap.size wk) (.cells (rteV rteZ) 51)) h (Nat.le_refl _))
        subst hA
        clear hc hx hil
        go_wp2_with (first | ((with_reducible show wpList _ _ _ (Oper.mk _ (Op.load _ _) _ _ _ _ :: _) _ _); refine wpList_load_g hla _ rfl rfl (by go_simp) ?_) | ((with_reducible show wpList _ _ _ (Oper.mk _ (Op.store _ _ _) _ _ _ _ :: _) _ _); refine wpList_store_blk (blk_new wk _) 51 0 (rteV x) (store_rte_fit HXO.out.fits rfl) (info_rte HXO.out.fits) (rteV_one _) _ _ rfl rfl rfl rfl ?_; intro w6 hg9 hs9 hb9; rw [splice_rte HXO.out.fits rfl] at hb9; have H6 := Lib.hid (And.intro hg9 hb9); clear hg9 hs9 hb9) | ((with_reducible show wpList _ _ _ (Oper.mk _ (Op.load _ _) _ _ _ _ :: _) _ _); refine wpList_load_g ((HP1.out.all _ (below_step HBK.out (HB6f.out _ H6.out.1))).2) _ rfl rfl (by go_simp) ?_))
        have HBR := Lib.hid (HB6f.out _ H6.out.1)
        have HB6 := Lib.hid (below_step HBK.out HBR.out)
        have HG6 := Lib.hid H6.out.2
        obtain ⟨gx, hgx⟩ : ∃ g, wk.heap.size = g := ⟨_, rfl⟩
        rw [hgx] at HG6 ⊢
        clear HB6f H6 hla hgx
        refine (containsQ_any (some ⟨b, o, none⟩) n c l w6 gx (HR.out.below HB6.out) (by omega) (fun y => beats y x) (fun i hi w1 hb => best1_any (rteK.at_ l i) x gx w1 (OK.out.at_ (by rw [HR.out.len]; exact hi)) HXO.out (rte_at HXO.out.fits (blk_below HG6.out hb)))).mono ?_
        rintro e w7 ⟨rfl, hb7⟩
        have HU : Hid (unb l x = !l.any (fun y => beats y x)) := Lib.hid rfl
        obtain ⟨T, hT⟩ : ∃ T, l.any (fun y => beats y x) = T := ⟨_, rfl⟩
        rw [hT] at HU ⊢
        have HS7 := Lib.hid ((HI.out.2.step HBR.out).step hb7)
        have HB7 := Lib.hid (below_step HB6.out hb7)
        have HBR7 := Lib.hid (below_step HBR.out hb7)
        have HX7 := Lib.hid (rte_at HXO.out.fits (blk_below HG6.out hb7))
        clear hb7 hT HG6 HBR HB6
        cases T with
        | true =>
          have HN : Hid (bk l (k + 1) = bk l k) := Lib.hid (by rw [HBS.out, if_neg (by rw [HU.out]; decide), List.append_nil])
          go_wp2_with fail
          go_roundw
          case measure => simp [intOf]; omega
          case rel => exact ⟨k + 1, Ak, nk, ck, by go_num, by omega, by rw [HN.out]; exact HS7.out⟩
        | false =>
          have HZS := Lib.hid (HSB.out HU.out)
          clear HU HSB
          go_upto_region 10 with fail
          go_cut [9, 10] (fun s9 s10 wx => ∃ (g : Nat) (A9 : Option Addr) (n9 c9 : Nat), s9 = .pointer (some ⟨g, 0, none⟩) ∧ s10 = .int .i64 0 ∧ Hid (wx.heap[g]? = some (.cells (tabV A9 n9 c9) 39 (0, 0)) ∧ OS rowK wx w7.heap.size A9 n9 c9 (bk l (k + 1)) ∧ (∀ ad, A9 = some ad → ad.block ≠ g) ∧ Below w7.heap.size w7 wx))
          case first =>
            have HBD := Lib.hid (below_drew1 w7)
            refine wp_region_fork ((fun w0 => Below w7.heap.size w7 w0)) (OrdT.fork [0, 1, 2, 3, 4, 5, 6, 7, 8] 9 13 (OrdT.lin [10, 11, 12, 13, 14, 15]) (OrdT.lin [9, 10, 11, 12, 14, 15])) [(0, 0), (1, 0), (2, 0), (3, 0), (4, 0), (5, 0), (6, 0), (7, 0), (8, 0), (9, 2), (10, 0), (11, 0), (12, 0), (13, 2), (14, 2), (15, 0)] (by kernel_rfl) (by kernel_rfl) ((below_drew1 _)) ?_
            simp only [wpF]
            refine wpO_loadW (t := 39) (ad := ⟨g5, 0, none⟩) rfl rfl ?hw rfl rfl ((fun w0 hS => load_tab (blk_below HS7.out.cell hS))) ?_
            case hw => go_simp
            iterate 1 (refine wpO_step0 rfl rfl (fun K hK => ?_); go_simp; refine hK _ _ ?_; clear hK K)
            refine wpO_loadW (t := 49) (ad := ⟨gx, 0, none⟩) rfl rfl ?hw rfl rfl ((fun w0 hS => (HX7.out.all w0 hS).pfx)) ?_
            case hw => go_simp
            iterate 1 (refine wpO_step0 rfl rfl (fun K hK => ?_); go_simp; refine hK _ _ ?_; clear hK K)
            refine wpO_loadW (t := 22) (ad := ⟨w.heap.size, 0, none⟩) rfl rfl ?hw rfl rfl ((fun w0 hS => (HP1.out.all w0 (below_step HB7.out hS)).2)) ?_
            case hw => go_simp
            iterate 3 (refine wpO_step0 rfl rfl (fun K hK => ?_); go_simp; refine hK _ _ ?_; clear hK K)
            refine wpO_loadW (t := 3) (ad := ⟨b, (o+k*21+20), none⟩) rfl rfl ?hw rfl rfl ((fun w0 hS => (rteLd_of HXO.out.fits (HCX.out.below (below_step HBR7.out hS))).hop)) ?_
            case hw => go_simp
            refine wpO_nil ⟨?_, ?_⟩
            · refine wpO_step2 rfl rfl (HBD.out) (fun K hK => ?_)
              go_simp
              refine (tset_any Ak nk ck (bk l k) x.p x.h w7.drew (HL.out.below (below_step HB7.out HBD.out)) (HS7.out.own.reads.below HBD.out) HXO.out.fits (by omega)).mono ?_
              rw [HZS.out.1, HZS.out.2]
              rintro e w2 ⟨A9, n9, c9, rfl, hO9, hb9⟩
              have HBC := Lib.hid (below_step HBD.out hb9)
              have HLT9 := Lib.hid hO9.lt
              have HBA9 := Lib.hid hO9.base_
              have HO9 := Lib.hid (hO9.lower HBD.out.size)
              try replace HZ9 := Lib.hid (blk_below HZ9.out hb9)
              clear hO9 hb9
              refine hK _ _ ⟨HBC.out, ?_⟩
              clear hK K
              refine wpO_nil ?_
              iterate 3 (refine wpO_step0 rfl rfl (fun K hK => ?_); go_simp; refine hK _ _ ?_; clear hK K)
              refine wpO_step2 rfl rfl (HBC.out) (fun K hK => ?_)
              go_simp
              have hz9 := blk_new w2 (.cells (tabV none 0 0) 39)
              obtain ⟨w3, hw9⟩ : ∃ w9, World.alloc w2 (.cells (tabV none 0 0) 39) = w9 := ⟨_, rfl⟩
              have ha9 : Below (World.heap w2).size w2 w3 := hw9 ▸ below_alloc (Below.refl _ _) _
              have HBK := Lib.hid (below_step HBC.out ha9)
              refine kw_cast hw9 ?_
              rw [hw9] at hz9
              have hzl9 := blk_lt hz9
              have HZ9 := Lib.hid hz9
              try replace HCP := Lib.hid (HCP.out.below ha9)
              try replace HO9 := Lib.hid (HO9.out.below ha9)
              try replace HLV := Lib.hid (HLV.out.below ha9)
              clear hw9 hz9 ha9
              refine hK _ _ ⟨HBK.out, ?_⟩
              clear hK K
              refine wpO_step2 rfl rfl (HBK.out) (fun K hK => ?_)
              rw [if_pos (show Region.wanted _ _ = true from rfl)]
              refine oper_store_blk HZ9.out 39 0 (tabV A9 n9 c9) (Nat.le_refl _) (info_tab _ _ _) (tab_one _ _ _) _ _ rfl rfl rfl ?_
              intro w4 hg9 hs9 hb9
              rw [splice_tab] at hb9
              have HBL := Lib.hid (below_grown HBK.out hg9 (by have h2 := HBC.out.size; omega))
              have HNE9 : Hid (∀ ad, A9 = some ad → ad.block ≠ w2.heap.size) := Lib.hid (fun ad e => by first | (have := HLT9.out ad e; omega) | (have := HBA9.out ad e; have h3 := blk_lt HZ9.out; omega))
              replace HO9 := Lib.hid (HO9.out.grown hg9 (fun ad e h => by injection h with h; exact HNE9.out ad e h))
              replace HZ9 := Lib.hid hb9
              clear hg9 hs9 hb9
              refine hK _ _ ⟨HBL.out, ?_⟩
              clear hK K
              iterate 1 (refine wpO_step0 rfl rfl (fun K hK => ?_); go_simp; refine hK _ _ ?_; clear hK K)
              refine wpO_nil ?_
              go_wp2_with fail
              go_meet
              exact ⟨w2.heap.size, A9, n9, c9, rfl, rfl, HZ9.out, HO9.out, HNE9.out, HBL.out⟩
            · refine wpO_step2 rfl rfl (HBD.out) (fun K hK => ?_)
              go_simp
              have hz9 := blk_new w7 (.cells (tabV none 0 0) 39)
              obtain ⟨w2, hw9⟩ : ∃ w9, (World.alloc w7 (.cells (tabV none 0 0) 39)).drew = w9 := ⟨_, rfl⟩
              have ha9 : Below (World.heap w7).size w7 w2 := hw9 ▸ below_step (below_alloc (Below.refl _ _) _) (below_drew1 _)
              have HBC := Lib.hid ha9
              refine kw_cast hw9 ?_
              replace hz9 : (World.heap w2)[(World.heap w7).size]? = some (.cells (tabV none 0 0) 39 (0, 0)) := by rw [← hw9]; exact hz9
              have hzl9 := blk_lt hz9
              have HZ9 := Lib.hid hz9
              clear hw9 hz9 ha9
              refine hK _ _ ⟨HBC.out, ?_⟩
              clear hK K
              refine wpO_nil ?_
              refine wpO_step2 rfl rfl (HBC.out) (fun K hK => ?_)
              go_simp
              refine (tset_any Ak nk ck (bk l k) x.p x.h w2 (HL.out.below (below_step HB7.out HBC.out)) (HS7.out.own.reads.below HBC.out) HXO.out.fits (by omega)).mono ?_
              rw [HZS.out.1, HZS.out.2]
              rintro e w3 ⟨A9, n9, c9, rfl, hO9, hb9⟩
              have HBK := Lib.hid (below_step HBC.out hb9)
              have HLT9 := Lib.hid hO9.lt
              have HBA9 := Lib.hid hO9.base_
              have HO9 := Lib.hid (hO9.lower HBC.out.size)
              try replace HZ9 := Lib.hid (blk_below HZ9.out hb9)
              clear hO9 hb9
              refine hK _ _ ⟨HBK.out, ?_⟩
              clear hK K
              iterate 3 (refine wpO_step0 rfl rfl (fun K hK => ?_); go_simp; refine hK _ _ ?_; clear hK K)
              refine wpO_step2 rfl rfl (HBK.out) (fun K hK => ?_)
              rw [if_pos (show Region.wanted _ _ = true from rfl)]
              refine oper_store_blk HZ9.out 39 0 (tabV A9 n9 c9) (Nat.le_refl _) (info_tab _ _ _) (tab_one _ _ _) _ _ rfl rfl rfl ?_
              intro w4 hg9 hs9 hb9
              rw [splice_tab] at hb9
              have HBL := Lib.hid (below_grown HBK.out hg9 (by have h2 := HBC.out.size; omega))
              have HNE9 : Hid (∀ ad, A9 = some ad → ad.block ≠ w7.heap.size) := Lib.hid (fun ad e => by first | (have := HLT9.out ad e; omega) | (have := HBA9.out ad e; have h3 := blk_lt HZ9.out; omega))
              replace HO9 := Lib.hid (HO9.out.grown hg9 (fun ad e h => by injection h with h; exact HNE9.out ad e h))
              replace HZ9 := Lib.hid hb9
              clear hg9 hs9 hb9
              refine hK _ _ ⟨HBL.out, ?_⟩
              clear hK K
              iterate 1 (refine wpO_step0 rfl rfl (fun K hK => ?_); go_simp; refine hK _ _ ?_; clear hK K)
              refine wpO_nil ?_
              go_wp2_with fail
              go_meet
              exact ⟨w7.heap.size, A9, n9, c9, rfl, rfl, HZ9.out, HO9.out, HNE9.out, HBL.out⟩
          case rest =>
            obtain ⟨g9, A9, n9, c9, rfl, rfl, HC⟩ := hcut
            obtain ⟨w9, rfl⟩ : ∃ w9, w9 = wc := ⟨wc, rfl⟩
            have HB79 := Lib.hid HC.out.2.2.2
            have HC5 := Lib.hid (blk_below HS7.out.cell HC.out.2.2.2)
            have HO9 := Lib.hid HC.out.2.1
            have HG9 := Lib.hid HC.out.1
            have HG5 := Lib.hid (blk_lt HS7.out.cell)
            have HSB9 := Lib.hid (below_step HS7.out.bel HC.out.2.2.2)
            have HGL := Lib.hid HS7.out.gle
            have HSZ := Lib.hid HS7.out.bel.size
            clear HC HZS
            go_wp2_with (first | ((with_reducible show wpList _ _ _ (Oper.mk _ (Op.load _ _) _ _ _ _ :: _) _ _); refine wpList_load_g (load_tab HG9.out) _ rfl rfl (by go_simp) ?_) | ((with_reducible show wpList _ _ _ (Oper.mk _ (Op.store _ _ _) _ _ _ _ :: _) _ _); refine wpList_store_blk HC5.out 39 0 (tabV A9 n9 c9) (Nat.le_refl _) (info_tab _ _ _) (tab_one _ _ _) _ _ rfl rfl rfl rfl ?_; intro w10 hg9 hs9 hb9; rw [splice_tab] at hb9; have H10 := Lib.hid (And.intro hg9 hb9); clear hg9 hs9 hb9))
            go_roundw
            case measure => simp [intOf]; omega
            case rel => exact ⟨k + 1, A9, n9, c9, by go_num, by omega, ⟨(HO9.out.grown H10.out.1 (fun ad e h => by have h1 := HO9.out.base_ ad e; have h2 := HG5.out; injection h with h; omega)).lower HSZ.out, H10.out.2, below_grown HSB9.out H10.out.1 HGL.out, HGL.out⟩⟩
      · have hlt' : decide (k < n) = false := decide_eq_false hlt
        have hkl : k = l.length := by rw [HR.out.len]; have := HI.out.1; omega
        have HN : Hid (bk l k = bestT l) := Lib.hid (by rw [hkl, bk_all])
        clear hlt hkl
        go_wp2_with (first | ((with_reducible show wpList _ _ _ (Oper.mk _ (Op.load _ _) _ _ _ _ :: _) _ _); refine wpList_load_g (load_tab HI.out.2.cell) _ rfl rfl (by go_simp) ?_) | ((with_reducible show wpList _ _ _ (Oper.mk _ (Op.store _ _ _) _ _ _ _ :: _) _ _); refine wpList_store_blk (blk_below HZ2.out HI.out.2.bel) 39 0 (tabV Ak nk ck) (Nat.le_refl _) (info_tab _ _ _) (tab_one _ _ _) _ _ rfl rfl rfl rfl ?_; intro w9 hg9 hs9 hb9; rw [splice_tab] at hb9; have H9 := Lib.hid (And.intro hg9 hb9); clear hg9 hs9 hb9))
        refine bodyPost_ret (results_c2 rfl rfl (load_tab H9.out.2)) rfl ?_
        rw [HE.out.1, HE.out.2, ← HN.out]
        refine ⟨Ak, nk, ck, rfl, (HI.out.2.own.grown H9.out.1 (fun ad e h => ?_)).lower (by have := HS2.out; omega), below_grown (below_step HBE.out HBK.out) H9.out.1 HZL.out⟩
        have h1 := HI.out.2.own.base_ ad e
        have h2 := HS2.out
        injection h with h
        omega
end Go.Proofs.YtnpeedmicjeleaaDoor

/- Layer 5 (prefix): Bit; the document's Bit. -/
namespace Go.Proofs.YtnpeedmicjeleaaDoor
open Go.RowKit
set_option linter.unusedVariables false
set_option linter.unusedSimpArgs false
set_option maxRecDepth 4000

end Go.Proofs.YtnpeedmicjeleaaDoor

/- Layer 5 (prefix): Nibble; the document's Nibble. -/
namespace Go.Proofs.YtnpeedmicjeleaaDoor
open Go.RowKit
set_option linter.unusedVariables false
set_option linter.unusedSimpArgs false
set_option maxRecDepth 4000

end Go.Proofs.YtnpeedmicjeleaaDoor

/- Layer 5 (prefix): a whole prefix out of a block. -/
namespace Go.Proofs.YtnpeedmicjeleaaDoor
open Go.RowKit
set_option linter.unusedVariables false
set_option linter.unusedSimpArgs false
set_option maxRecDepth 4000

end Go.Proofs.YtnpeedmicjeleaaDoor

/- Layer 5 (prefix): Has. -/
namespace Go.Proofs.YtnpeedmicjeleaaDoor
open Go.RowKit
set_option linter.unusedVariables false
set_option linter.unusedSimpArgs false
set_option maxRecDepth 4000

end Go.Proofs.YtnpeedmicjeleaaDoor

/- Layer 5 (prefix): Holds. -/
namespace Go.Proofs.YtnpeedmicjeleaaDoor
open Go.RowKit
set_option linter.unusedVariables false
set_option linter.unusedSimpArgs false
set_option maxRecDepth 4000

end Go.Proofs.YtnpeedmicjeleaaDoor

/- Layer 5 (prefix): EncodeAddr, Encode; the document's bytes. -/
namespace Go.Proofs.YtnpeedmicjeleaaDoor
open Go.RowKit
set_option linter.unusedVariables false
set_option linter.unusedSimpArgs false
set_option maxRecDepth 4000

def encPE (p : Pfx) : List Int := if p.right then encP p else []
theorem encPE_no {p : Pfx} (h : p.right = false) : encPE p = [] := by unfold encPE; rw [h]; rfl
theorem encPE_yes {p : Pfx} (h : p.right = true) : encPE p = encP p := by unfold encPE; rw [h]; rfl
theorem full_any (b : Int) (w : World) (h0 : 0 ≤ b) (h1 : b ≤ 128) : Calls Tryd.prog 113 #[.int .i64 b] w fun e w' => e = .returned (.int .i64 ((b + 7) / 8)) ∧ w = w' := by
  go_enter Tryd.func113, Tryd.ntmps113
  go_wp2
  go_ret
  exact ⟨rfl, rfl⟩
theorem OB.two (W : World) (x y : Int) (hx : 0 ≤ x ∧ x < 256) (hy : 0 ≤ y ∧ y < 256) (base : Nat) (hb : base ≤ W.heap.size) : OB (W.alloc (.cells #[.int .u8 x, .int .u8 y] 5)) base (some ⟨W.heap.size, 0, none⟩) 2 2 [x, y] :=
  OB.new W base [x, y] hb (by simp) (fun z hz => by simp at hz; omega)
theorem OB.one (W : World) (x : Int) (hx : 0 ≤ x ∧ x < 256) (base : Nat) (hb : base ≤ W.heap.size) : OB (W.alloc (.cells #[.int .u8 x] 5)) base (some ⟨W.heap.size, 0, none⟩) 1 1 [x] :=
  OB.new W base [x] hb (by simp) (fun z hz => by simp at hz; omega)

set_option maxHeartbeats 2000000 in
theorem encode_any (p : Pfx) (w : World) (hL : Laid w) (hp : B16 p.l) : Calls Tryd.prog 96 #[.agg (pfxV p.v p.l p.b)] w fun e w' => ∃ A n c, e = .returned (.tuple #[.slice A n c, .int .i64 (errP p.v p.l p.b)]) ∧ OB w' w.heap.size A n c (encPE p) ∧ Below w.heap.size w w' := by
  have hblk1 := blk_new w (.cells (pfxV p.v p.l p.b) 49)
  have hbel1 : Below w.heap.size w (w.alloc (.cells (pfxV p.v p.l p.b) 49)) := below_alloc (Below.refl _ _) _
  have HP1 := Lib.hid (pfx_at hp hblk1)
  have HBK1 := Lib.hid hblk1
  have HBE := Lib.hid hbel1
  have HL := Lib.hid (hL.below HBE.out)
  obtain ⟨cs1, hcs1⟩ : ∃ cs, pfxV p.v p.l p.b = cs := ⟨_, rfl⟩
  simp only [hcs1] at HBE HL HP1 HBK1 ⊢
  have HC1 := Lib.hid hcs1
  clear hL hcs1 hblk1 hbel1
  have hla := (HP1.out.all _ (Below.refl _ _)).2.2.2.2
  go_enter Tryd.func96, Tryd.ntmps96
  go_wp2_with ((with_reducible show wpList _ _ _ (Oper.mk _ (Op.load _ _) _ _ _ _ :: _) _ _); refine wpList_load_g hla _ rfl rfl (by go_simp) ?_)
  refine (check_any p.v p.l p.b _ HL.out hp).mono ?_
  rintro e w1 ⟨rfl, hbb1⟩
  have HB1 := Lib.hid hbb1
  clear hbb1 hla
  cases hR : rightP p.v p.l p.b with
  | false =>
    have HE := Lib.hid (encPE_no (p := p) hR)
    have HE2 := Lib.hid (errP_false hR)
    rw [HE2.out]
    clear hR
    go_wp2
    go_ret2
    rw [HE.out, HE2.out]
    exact ⟨_, _, _, rfl, OB.nil _ _, below_step HBE.out HB1.out⟩
  | true =>
    have HY := Lib.hid (encPE_yes (p := p) hR)
    have HE2 := Lib.hid (errP_true hR)
    rw [HE2.out]
    have hb0 := (p.right_iff.1 hR).2.1
    have hb1 : p.b ≤ 128 := by have := (p.right_iff.1 hR).2.2.1; have := widthA_le p.v; omega
    clear hR
    go_wp2_with fail
    have hfq := fun w0 => full_any p.b w0 hb0 hb1
    have hkb := blk_below HBK1.out HB1.out
    rw [← HC1.out] at hkb
    have HRB := Lib.hid (rb_pfx hp hkb)
    obtain ⟨k, hk⟩ : ∃ k, fullB p.b = k := ⟨_, rfl⟩
    have hkk : (p.b + 7) / 8 = (k : Int) := by rw [← hk]; unfold fullB; omega
    have HE : Hid (encP p = p.v % 256 :: p.b % 256 :: p.l.take k) := by unfold encP; rw [hk]; exact rfl
    have hk16 : (k : Int) ≤ 16 := by omega
    have hk0 : 0 ≤ (k : Int) := by omega
    have hv8 : IntKind.u8.wrap p.v = p.v % 256 := by simp [IntKind.wrap, IntKind.bits, IntKind.signed]
    have hv9 : IntKind.u8.wrap p.b = p.b % 256 := by simp [IntKind.wrap, IntKind.bits, IntKind.signed]
    rw [hkk] at hfq
    clear hkb hk hkk hb0 hb1
    refine wp_region_mix (fun w0 => Below (w1).heap.size (w1) w0) [(0, 0), (1, 0), (2, 0), (3, 0), (4, 0), (5, 0), (6, 0), (8, 0), (9, 0), (10, 0), (11, 0), (12, 0), (13, 0), (7, 2), (14, 2), (15, 0), (16, 0)] (by kernel_rfl) (by kernel_rfl) (below_drew1 _) ?_
    simp only [List.map_cons, List.map_nil]
    iterate 2 (refine wpO_step0 rfl rfl (fun K hK => ?_); go_simp; refine hK _ _ ?_; clear hK K)
    refine wpO_loadW (t := 3) (ad := ⟨w.heap.size, 0, none⟩) rfl rfl ?hw rfl rfl ((fun w0 hS => (HP1.out.all w0 (below_step HB1.out hS)).2.2.1)) ?_
    case hw => go_simp
    iterate 2 (refine wpO_step0 rfl rfl (fun K hK => ?_); go_simp; refine hK _ _ ?_; clear hK K)
    refine wpO_loadW (t := 3) (ad := ⟨w.heap.size, 17, none⟩) rfl rfl ?hw rfl rfl ((fun w0 hS => (HP1.out.all w0 (below_step HB1.out hS)).2.1)) ?_
    case hw => go_simp
    iterate 4 (refine wpO_step0 rfl rfl (fun K hK => ?_); go_simp; refine hK _ _ ?_; clear hK K)
    refine wpO_loadW (t := 3) (ad := ⟨w.heap.size, 17, none⟩) rfl rfl ?hw rfl rfl ((fun w0 hS => (HP1.out.all w0 (below_step HB1.out hS)).2.1)) ?_
    case hw => go_simp
    refine wpO_quiet rfl rfl ?hw Tryd.func113 (by kernel_rfl) (by kernel_rfl) rfl rfl (fun w0 hS => hfq w0) ?_
    case hw => go_simp
    iterate 1 (refine wpO_step0 rfl rfl (fun K hK => ?_); go_simp; refine hK _ _ ?_; clear hK K)
    refine wpO_step2 rfl rfl (below_drew1 _) (fun K hK => ?_)
    go_simp
    have hsz := HB1.out.size
    simp at hsz
    have HO := Lib.hid ((OB.two w1 (p.v % 256) (p.b % 256) (by omega) (by omega) w.heap.size (by omega)).below (below_drew1 _))
    refine hK _ _ ⟨(below_alloc (Below.refl _ _) _).drew, ?_⟩
    clear hK K
    have HR := Lib.hid ((HRB.out.take k (by omega)).below (below_step (below_alloc (Below.refl _ _) (.cells #[.int .u8 (p.v % 256), .int .u8 (p.b % 256)] 5)) (below_drew1 _)))
    refine wpO_step2 rfl rfl ((below_alloc (Below.refl _ _) _).drew) (fun K hK => ?_)
    rw [if_pos (show Region.wanted _ _ = true from rfl)]
    refine oper_append_bytes (.tmp 17) (.tmp 23) rfl rfl rfl HO.out HR.out (by simp; omega) (by omega) ?_
    intro A3 c3 w3 h1 h2 h3
    have hb3 : Below w1.heap.size w1 w3 := (below_step (below_alloc (Below.refl _ _) (.cells #[.int .u8 (p.v % 256), .int .u8 (p.b % 256)] 5)) (below_drew1 _)).grown h2 (by simp) (own_row (fun ad e => by injection e with e; rw [← e]; exact Nat.le_refl _))
    have H3 := Lib.hid (And.intro h1 hb3)
    clear h1 h2 h3 hb3
    refine hK _ _ ⟨H3.out.2, ?_⟩
    clear hK K
    iterate 2 (refine wpO_step0 rfl rfl (fun K hK => ?_); go_simp; refine hK _ _ ?_; clear hK K)
    refine wpO_nil ?_
    go_wp2
    go_ret2
    rw [HY.out, HE.out, HE2.out]
    exact ⟨_, _, _, rfl, H3.out.1, below_step HBE.out (below_step HB1.out H3.out.2)⟩

set_option maxHeartbeats 2000000 in
theorem refbytes_any (p : Pfx) (w : World) (hp : B16 p.l) (hb0 : 0 ≤ p.b) (hb1 : p.b ≤ 128) : Calls Tryd.prog 71 #[.agg (pfxV p.v p.l p.b)] w fun e w' => ∃ A n c, e = .returned (.slice A n c) ∧ OB w' w.heap.size A n c (encP p) ∧ Below w.heap.size w w' := by
  have hblk1 := blk_new w (.cells (pfxV p.v p.l p.b) 49)
  have hbel1 : Below w.heap.size w (w.alloc (.cells (pfxV p.v p.l p.b) 49)) := below_alloc (Below.refl _ _) _
  have HP1 := Lib.hid (pfx_at hp hblk1)
  have HBK1 := Lib.hid hblk1
  have HBE := Lib.hid hbel1
  obtain ⟨cs1, hcs1⟩ : ∃ cs, pfxV p.v p.l p.b = cs := ⟨_, rfl⟩
  simp only [hcs1] at HBE HP1 HBK1 ⊢
  have HC1 := Lib.hid hcs1
  clear hcs1 hblk1 hbel1
  have hlv := (HP1.out.all _ (Below.refl _ _)).2.2.1
  have hlw := (HP1.out.all _ (Below.refl _ _)).2.1
  have hob := OB.two (w.alloc (.cells cs1 49)) (p.v % 256) (p.b % 256) (by omega) (by omega) (w.heap.size + 1) (by simp)
  have hv8 : IntKind.u8.wrap p.v = p.v % 256 := by simp [IntKind.wrap, IntKind.bits, IntKind.signed]
  have hv9 : IntKind.u8.wrap p.b = p.b % 256 := by simp [IntKind.wrap, IntKind.bits, IntKind.signed]
  rw [show (w.alloc (.cells cs1 49)).heap.size = w.heap.size + 1 by simp] at hob
  have HOB := Lib.hid hob
  clear hob
  go_enter Tryd.func71, Tryd.ntmps71
  go_wp2_with (first | ((with_reducible show wpList _ _ _ (Oper.mk _ (Op.load _ _) _ _ _ _ :: _) _ _); refine wpList_load_g hlv _ rfl rfl (by go_simp) ?_) | ((with_reducible show wpList _ _ _ (Oper.mk _ (Op.load _ _) _ _ _ _ :: _) _ _); refine wpList_load_g hlw _ rfl rfl (by go_simp) ?_))
  clear hv8 hlv hlw hv9
  obtain ⟨nb, hnb⟩ : ∃ nb, fullB p.b = nb := ⟨_, rfl⟩
  have hbb : (p.b + 7) / 8 = (nb : Int) := by rw [← hnb]; unfold fullB; omega
  have hn16 : nb ≤ 16 := by omega
  have HE : Hid (encP p = p.v % 256 :: p.b % 256 :: p.l.take nb) := by unfold encP; rw [hnb]; exact rfl
  have HBB := Lib.hid hbb
  clear hbb hnb
  go_loopw [3, 4] (fun x i wr => ∃ (k : Nat) (A : Option Addr) (c : Nat), i = .int .i64 k ∧ x = .slice A (2 + k) c ∧ Hid (k ≤ nb ∧ OB wr (w.heap.size + 1) A (2 + k) c (p.v % 256 :: p.b % 256 :: p.l.take k) ∧ Below (w.alloc (.cells cs1 49)).heap.size (w.alloc (.cells cs1 49)) wr)) (fun _ i _ => 16 - (intOf i).toNat)
  case atStart => exact ⟨0, _, 2, rfl, rfl, Nat.zero_le _, HOB.out, below_alloc (Below.refl _ _) _⟩
  case round =>
    obtain ⟨k, A, c, rfl, rfl, HH⟩ := hrel
    clear HOB
    have hk := HH.out.1
    have hlv := (HP1.out.all wr HH.out.2.2).2.1
    have hsz := HH.out.2.2.size
    simp at hsz
    by_cases hlt : k < nb
    · have hlt' : (k : Int) < (p.b + 7) / 8 := by rw [HBB.out]; omega
      have hk16 : k < 16 := by omega
      have hkb := blk_below HBK1.out HH.out.2.2
      rw [← HC1.out] at hkb
      have hc := pfx_byte hp hkb k hk16
      have hr := hp.rd (k : Int)
      clear hkb
      go_wp2_with (first | ((with_reducible show wpList _ _ _ (Oper.mk _ (Op.load _ _) _ _ _ _ :: _) _ _); refine wpList_load_g hlv _ rfl rfl (by go_simp) ?_) | (at_builtin; refine wpList_append_bytes rfl (.tmp 21) (.tmp 27) rfl rfl rfl (HH.out.2.1.below (below_alloc (Below.refl _ _) _)) (RB.one _ _ hr.1 hr.2) (by simp; omega) (by omega) ?_; intro A3 c3 w3 h1 h2 h3; have H3 := Lib.hid (And.intro h1 ((HH.out.2.2.alloc HH.out.2.2.size _).grown h2 (by simp; omega) (own_row (fun ad e => by have := HH.out.2.1.base_ ad e; simpa using this)))); clear h1 h2 h3))
      go_roundw
      case measure => simp [intOf]; omega
      case rel =>
        refine ⟨k + 1, A3, c3, by go_num, rfl, by omega, ?_, H3.out.2⟩
        have e := H3.out.1
        rw [List.cons_append, List.cons_append, ← take_rd p.l k (by rw [hp.len]; exact hk16)] at e
        exact e
    · obtain rfl : k = nb := by omega
      have hm1 : decide ((k : Int) < (p.b + 7) / 8) = false := decide_eq_false (by rw [HBB.out]; omega)
      clear hlt hk
      go_wp2_with ((with_reducible show wpList _ _ _ (Oper.mk _ (Op.load _ _) _ _ _ _ :: _) _ _); refine wpList_load_g hlv _ rfl rfl (by go_simp) ?_)
      go_ret
      rw [HE.out]
      exact ⟨_, _, _, rfl, HH.out.2.1.lower (by omega), below_step HBE.out HH.out.2.2⟩
end Go.Proofs.YtnpeedmicjeleaaDoor

/- Layer 5 (prefix): the reader's version and some. -/
namespace Go.Proofs.YtnpeedmicjeleaaDoor
open Go.RowKit
set_option linter.unusedVariables false
set_option linter.unusedSimpArgs false
set_option maxRecDepth 4000

theorem Laid.grown {w w1 : World} (h : Laid w) {g : Nat} (hg : w.grownBy w1 (some g)) (h0 : g ≠ 0) : Laid w1 :=
  ⟨fun i hi => hg.cell (h.at_ i hi) (fun e => by injection e with e; exact h0 e.symm)⟩
/-- The reader of the package: a box that holds the pointer. -/
abbrev rdV (g : Nat) : Array Value := #[.pointer (some ⟨g, 0, none⟩)]

def SomeRest (lo g : Nat) (xs : List Int) (bits : Nat) (wrong : Int) (w : World) : Prop := ∃ rest e1, Rdr w lo g rest e1 ∧ (someE xs bits wrong = 0 → rest = xs.drop (fullB bits) ∧ e1 = 0)
end Go.Proofs.YtnpeedmicjeleaaDoor

/- Layer 5 (prefix): DecodeAddr. -/
namespace Go.Proofs.YtnpeedmicjeleaaDoor
open Go.RowKit
set_option linter.unusedVariables false
set_option linter.unusedSimpArgs false
set_option maxRecDepth 4000

/-- What holds while the bytes are read: the reader's box, the result's cell. -/
structure DecS (w : World) (rb zb g : Nat) (z : Obj) (w0 : World) : Prop where
  below : Below w.heap.size w w0
  box : w0.heap[rb]? = some (.cells (rdV g) 157 (0, 0))
  zero : w0.heap[zb]? = some z
theorem DecS.step {w w0 w1 : World} {rb zb g : Nat} {z : Obj} (h : DecS w rb zb g z w0) (hb : Below w0.heap.size w0 w1) : DecS w rb zb g z w1 := ⟨below_step h.below hb, blk_below h.box hb, blk_below h.zero hb⟩
theorem SomeRest.below {lo g : Nat} {xs : List Int} {bits : Nat} {wrong : Int} {w w1 : World} (h : SomeRest lo g xs bits wrong w) (hb : Below w.heap.size w w1) : SomeRest lo g xs bits wrong w1 := by
  obtain ⟨r, e, h1, h2⟩ := h
  exact ⟨r, e, h1.below hb, h2⟩
theorem SomeRest.grown {lo g c : Nat} {xs : List Int} {bits : Nat} {wrong : Int} {w w1 : World} (h : SomeRest lo g xs bits wrong w) (hg : w.grownBy w1 (some c)) (hc : g < c) : SomeRest lo g xs bits wrong w1 := by
  obtain ⟨r, e, h1, h2⟩ := h
  exact ⟨r, e, h1.grown hg (fun b hb => by injection hb with hb; omega), h2⟩
/-- What the reading has left: the bytes in a block of their own, the reader behind them. -/
structure DecR (w : World) (rb zb g gb lo : Nat) (z : Obj) (sl : List Int) (ys : List Int) (bits : Nat) (wrong : Int) (w0 : World) : Prop where
  s : DecS w rb zb g z w0
  arr : w0.heap[gb]? = some (.cells (arrV sl) 45 (0, 0))
  rest : SomeRest lo g ys bits wrong w0
theorem DecR.drew {w w0 : World} {rb zb g gb lo : Nat} {z : Obj} {sl ys : List Int} {bits : Nat} {wrong : Int} (h : DecR w rb zb g gb lo z sl ys bits wrong w0) : DecR w rb zb g gb lo z sl ys bits wrong w0.drew :=
  ⟨h.s.step (below_drew1 _), h.arr, h.rest.below (below_drew1 _)⟩
structure DecT (w : World) (rb g gb : Nat) (sl : List Int) (w0 : World) : Prop where
  below : Below w.heap.size w w0
  box : w0.heap[rb]? = some (.cells (rdV g) 157 (0, 0))
  arr : w0.heap[gb]? = some (.cells (arrV sl) 45 (0, 0))
theorem DecR.t {w w0 : World} {rb zb g gb lo : Nat} {z : Obj} {sl ys : List Int} {bits : Nat} {wrong : Int} (h : DecR w rb zb g gb lo z sl ys bits wrong w0) : DecT w rb g gb sl w0 := ⟨h.s.below, h.s.box, h.arr⟩
end Go.Proofs.YtnpeedmicjeleaaDoor

/- Layer 5 (prefix): Decode. -/
namespace Go.Proofs.YtnpeedmicjeleaaDoor
open Go.RowKit
set_option linter.unusedVariables false
set_option linter.unusedSimpArgs false
set_option maxRecDepth 4000

end Go.Proofs.YtnpeedmicjeleaaDoor

/- Layer 5: wakes. -/
namespace Go.Proofs.YtnpeedmicjeleaaDoor
open Go.RowKit
set_option linter.unusedVariables false
set_option linter.unusedSimpArgs false
set_option maxRecDepth 4000

def ten8 : List Int := [10, 0, 0, 0, 0, 0, 0, 0, 0, 0, 0, 0, 0, 0, 0, 0]
theorem ten8_B : B16 ten8 := ⟨rfl, fun x hx => by simp [ten8] at hx; omega⟩
/-- A whole prefix stored into a cell just made. -/
structure WakS (w : World) (g h : Nat) (w0 : World) : Prop where
  below : Below w.heap.size w w0
  p : w0.heap[g]? = some (.cells (pfxV 4 ten8 8) 49 (0, 0))
  q : w0.heap[h]? = some (.cells (pfxV 4 ten8 8) 49 (0, 0))
theorem WakS.step {w w0 w1 : World} {g h : Nat} (s : WakS w g h w0) (hb : Below w0.heap.size w0 w1) : WakS w g h w1 := ⟨below_step s.below hb, blk_below s.p hb, blk_below s.q hb⟩
end Go.Proofs.YtnpeedmicjeleaaDoor

/- Layer 11 (route): the law's eight, over, own, wakes. -/
namespace Go.Proofs.YtnpeedmicjeleaaDoor
open Go.RowKit
set_option linter.unusedVariables false
set_option linter.unusedSimpArgs false
set_option maxRecDepth 4000
theorem eight11_any (w : World) : Calls Tryd.prog 40 #[] w fun e w' => e = .returned (.agg (pfxV 4 ten8 8)) ∧ Below w.heap.size w w' := by
  have hz := blk_new w (.cells (pfxV 0 zero16 0) 49)
  go_enter Tryd.func40, Tryd.ntmps40
  go_wp2_with (refine wpList_store_blk hz 49 0 (pfxV 4 ten8 8) (store_pfx_fit rfl rfl) (info_pfx rfl) (pfx_one _ _ _) _ _ rfl rfl rfl rfl ?_; intro w9 hg9 hs9 hb9; rw [splice_pfx _ _ _ ten8 rfl rfl] at hb9; have H9 := Lib.hid (And.intro hg9 hb9); clear hg9 hs9 hb9)
  have hld := ((pfx_at ten8_B H9.out.2).all _ (Below.refl _ _)).2.2.2.2
  refine bodyPost_ret (results_c1 rfl rfl hld) rfl ⟨rfl, below_grown (below_alloc (Below.refl _ _) _) H9.out.1 (Nat.le_refl _)⟩
theorem built_upd (p : Pfx) (s f h : Int) (hl : p.l.length = 16) : Tryd.prog.built 75 [(0, .agg (pfxV p.v p.l p.b)), (1, .int .i64 s), (3, .int .i64 f), (4, .int .i64 h)] = some (updV ⟨p, s, false, f, h⟩) := by
  obtain ⟨a, b, c, d, e, f, g, h1, i, j, k, m, n, o, q, r, hh⟩ := len16 hl
  obtain ⟨v, l, x⟩ := p
  simp only at hh
  subst hh
  kernel_rfl
theorem run_build_upd (w : World) (p : Pfx) (s f h : Int) (hl : p.l.length = 16) : (Instr.build 75 #[(0, .agg (pfxV p.v p.l p.b)), (1, .int .i64 s), (3, .int .i64 f), (4, .int .i64 h)]).run Tryd.prog w = .ok (.agg (updV ⟨p, s, false, f, h⟩)) w := run_build w _ _ _ (built_upd p s f h hl)
theorem built_updg (p : Pfx) (s : Int) (g : Bool) (hl : p.l.length = 16) : Tryd.prog.built 75 [(0, .agg (pfxV p.v p.l p.b)), (1, .int .i64 s), (2, .bool g)] = some (updV ⟨p, s, g, 0, 0⟩) := by
  obtain ⟨a, b, c, d, e, f, g, h1, i, j, k, m, n, o, q, r, hh⟩ := len16 hl
  obtain ⟨v, l, x⟩ := p
  simp only at hh
  subst hh
  kernel_rfl
theorem run_build_updg (w : World) (p : Pfx) (s : Int) (g : Bool) (hl : p.l.length = 16) : (Instr.build 75 #[(0, .agg (pfxV p.v p.l p.b)), (1, .int .i64 s), (2, .bool g)]).run Tryd.prog w = .ok (.agg (updV ⟨p, s, g, 0, 0⟩)) w := run_build w _ _ _ (built_updg p s g hl)
theorem run_build_bat (w : World) (A : Option Addr) (n c : Nat) : (Instr.build 27 #[(0, .slice A n c)]).run Tryd.prog w = .ok (.agg (tabV A n c)) w := run_build w _ _ _ (by kernel_rfl)
theorem over11_any (A : Option Addr) (n c : Nat) (A2 : Option Addr) (m c2 : Nat) (w : World) : Calls Tryd.prog 11 #[.agg (tabV A n c), .agg (tabV A2 m c2)] w fun e w' => e = .returned (.bool (decide (300 < n) || decide (100 < m))) ∧ Below w.heap.size w w' := by
  have hblk1 := blk_new w (.cells (tabV A n c) 24)
  have hbel1 : Below w.heap.size w (w.alloc (.cells (tabV A n c) 24)) := below_alloc (Below.refl _ _) _
  have hblk2 := blk_new (w.alloc (.cells (tabV A n c) 24)) (.cells (tabV A2 m c2) 27)
  have hbel2 : Below w.heap.size w ((w.alloc (.cells (tabV A n c) 24)).alloc (.cells (tabV A2 m c2) 27)) := below_alloc (hbel1) _
  rw [show (w.alloc (.cells (tabV A n c) 24)).heap.size = w.heap.size + 1 by simp] at hblk2
  replace hblk1 := blk_below hblk1 (below_alloc (Below.refl _ _) (.cells (tabV A2 m c2) 27))
  have HP1 := Lib.hid (rib_at hblk1)
  have HBK1 := Lib.hid hblk1
  have HP2 := Lib.hid (bat_at hblk2)
  have HBK2 := Lib.hid hblk2
  have HBE := Lib.hid hbel2
  obtain ⟨cs1, hcs1⟩ : ∃ cs, tabV A n c = cs := ⟨_, rfl⟩
  obtain ⟨cs2, hcs2⟩ : ∃ cs, tabV A2 m c2 = cs := ⟨_, rfl⟩
  simp only [hcs1, hcs2] at HBE HP1 HP2 HBK1 HBK2 ⊢
  have HC1 := Lib.hid hcs1
  have HC2 := Lib.hid hcs2
  clear hcs1 hblk1 hbel1 hcs2 hblk2 hbel2
  go_enter Tryd.func11, Tryd.ntmps11
  by_cases h : 300 < n
  · have hb : decide ((300 : Int) < n) = true := decide_eq_true (by omega)
    have HE : Hid ((decide (300 < n) || decide (100 < m)) = true) := Lib.hid (by rw [decide_eq_true h]; rfl)
    clear h
    go_wp2_with (first | ((with_reducible show wpList _ _ _ (Oper.mk _ (Op.load _ _) _ _ _ _ :: _) _ _); refine wpList_load_g ((HP1.out.all _ (Below.refl _ _)).2) _ rfl rfl (by go_simp) ?_))
    go_ret
    rw [HE.out]
    exact ⟨rfl, HBE.out⟩
  · have hb : decide ((300 : Int) < n) = false := decide_eq_false (by omega)
    have HE : Hid ((decide (300 < n) || decide (100 < m)) = decide ((100 : Int) < m)) := Lib.hid (by rw [decide_eq_false h, Bool.false_or]; congr 1; rw [eq_iff_iff]; omega)
    clear h
    go_wp2_with (first | ((with_reducible show wpList _ _ _ (Oper.mk _ (Op.load _ _) _ _ _ _ :: _) _ _); refine wpList_load_g ((HP1.out.all _ (Below.refl _ _)).2) _ rfl rfl (by go_simp) ?_) | ((with_reducible show wpList _ _ _ (Oper.mk _ (Op.load _ _) _ _ _ _ :: _) _ _); refine wpList_load_g ((HP2.out.all _ (Below.refl _ _)).2) _ rfl rfl (by go_simp) ?_))
    go_ret
    rw [HE.out]
    exact ⟨rfl, HBE.out⟩
def wkP : Pfx := ⟨4, ten8, 8⟩
def wkU1 : Upd := ⟨wkP, 2, false, 5, 7⟩
def wkU2 : Upd := ⟨wkP, 1, false, 5, 9⟩
def wkU3 : Upd := ⟨wkP, 1, true, 0, 0⟩
def wkB1 : List Upd := [wkU1, wkU2]
def wkB2 : List Upd := [wkU3]
def wkR1 : List Rte := appR [] wkB1
def wkR2 : List Rte := appR wkR1 wkB2
theorem wkr1 : appN [] wkB1 = 0 ∧ wkR1.length = 2 ∧ ribE wkR1 = 0 ∧ (bestR wkR1).length = 1 ∧ (rowAt (bestR wkR1) 0).h = 9 := by decide +kernel
theorem wkr2 : appN wkR1 wkB2 = 0 ∧ wkR2.length = 1 ∧ ribE wkR2 = 0 ∧ (bestR wkR2).length = 1 ∧ (rowAt (bestR wkR2) 0).h = 7 := by decide +kernel
theorem wkB1_ok : Oku wkB1 := by
  intro u hu
  simp only [wkB1, List.mem_cons, List.not_mem_nil, or_false] at hu
  rcases hu with rfl | rfl <;> exact ⟨⟨ten8_B, by decide, by decide⟩, by decide, by decide, by decide⟩
theorem wkB2_ok : Oku wkB2 := by
  intro u hu
  simp only [wkB2, List.mem_cons, List.not_mem_nil, or_false] at hu
  subst hu
  exact ⟨⟨ten8_B, by decide, by decide⟩, by decide, by decide, by decide⟩
theorem appR_ok {l : List Rte} {b : List Upd} (ho : Okr l) (hu : Oku b) : Okr (appR l b) := by
  unfold appR
  split
  · rename_i h
    unfold appN at h
    split at h
    · rename_i h1
      split at h
      · split at h
        · rename_i m hm
          rw [hm]
          exact (appL_rok ⟨ho, (rib_to h1).2.1⟩ hu hm).1.ok
        · cases h
      · cases h
    · cases h
  · exact fun r hr => by cases hr
theorem wkR1_ok : Okr wkR1 := appR_ok (fun r hr => by cases hr) wkB1_ok
theorem wkR2_ok : Okr wkR2 := appR_ok wkR1_ok wkB2_ok
set_option maxHeartbeats 4000000 in
set_option maxRecDepth 100000 in
theorem wakes11_any (w : World) (hL : Laid w) : Calls Tryd.prog 10 #[] w fun e w' => e = .returned (.bool true) ∧ Below w.heap.size w w' := by
  have HL := Lib.hid hL
  clear hL
  go_enter Tryd.func10, Tryd.ntmps10
  go_wp2_with (first | ((with_reducible show wpList _ _ _ (Oper.mk _ (Op.build _ _) _ _ _ _ :: _) _ _); refine wpList_exw rfl (exec_build 24 #[] rfl #[] rfl ((run_build_rib_nil _))) ?_))
  refine (eight11_any w).mono ?_
  rintro e w1 ⟨rfl, hb1⟩
  have HB1 := Lib.hid hb1
  clear hb1
  go_wp2_with (first | ((with_reducible show wpList _ _ _ (Oper.mk _ (Op.build 75 _) _ _ _ _ :: _) _ _); refine wpList_exw rfl (exec_build4 rfl rfl rfl rfl rfl (run_build_upd _ wkP 2 5 7 rfl)) ?_))
  refine (eight11_any w1).mono ?_
  rintro e w2 ⟨rfl, hb2⟩
  have HB2 := Lib.hid (below_step HB1.out hb2)
  clear hb2 HB1
  obtain ⟨u1, hu1⟩ : ∃ u : Upd, u = wkU1 := ⟨_, rfl⟩
  obtain ⟨u2, hu2⟩ : ∃ u : Upd, u = wkU2 := ⟨_, rfl⟩
  have HU1 := Lib.hid hu1
  have HU2 := Lib.hid hu2
  have hf1 : u1.fits := by rw [hu1]; exact ten8_B
  have hf2 : u2.fits := by rw [hu2]; exact ten8_B
  clear hu1 hu2
  go_wp2_with (first | ((with_reducible show wpList _ _ _ (Oper.mk _ (Op.build 75 _) _ _ _ _ :: _) _ _); refine wpList_exw rfl (exec_build4 rfl rfl rfl rfl rfl (run_build_upd _ wkP 1 5 9 rfl)) ?_) | ((with_reducible show wpList _ _ _ (Oper.mk _ (Op.buildSlice _ _ _) _ _ _ _ :: _) _ _); refine wpList_exw rfl (exec_lit2 updK (x := .tmp 12) (y := .tmp 14) rfl u1 u2 (by rw [HU1.out]; rfl) (by rw [HU2.out]; rfl) hf1 hf2 (by show 22 ≤ _; omega) _) ?_) | ((with_reducible show wpList _ _ _ (Oper.mk _ (Op.build 27 _) _ _ _ _ :: _) _ _); refine wpList_exw rfl (exec_build1 rfl rfl (run_build_bat _ (some ⟨w2.heap.size, 0, none⟩) 2 2)) ?_))
  obtain ⟨W2, hW2⟩ : ∃ W, w2.alloc (.cells (updK.cells [u1, u2]).toArray updK.t) = W := ⟨_, rfl⟩
  have HV2 : Hid (RS updK W2 (some ⟨w2.heap.size, 0, none⟩) 2 2 wkB1) := Lib.hid (by unfold wkB1; rw [← HU1.out, ← HU2.out]; exact hW2 ▸ (OS.two updK w2 0 u1 u2 (Nat.zero_le _) hf1 hf2).reads)
  have HBW : Hid (Below w.heap.size w W2) := Lib.hid (hW2 ▸ below_alloc HB2.out _)
  rw [hW2]
  clear hW2
  have hcall := rapply_any none 0 0 [] (some ⟨w2.heap.size, 0, none⟩) 2 2 wkB1 W2 (HL.out.below HBW.out) (RS.nil _ _ _ _) (fun r hr => by cases hr) (by omega) HV2.out wkB1_ok (by omega)
  refine hcall.mono ?_
  clear hcall
  rw [wkr1.1]
  rintro e w3 ⟨A3, n3, c3, rfl, hO3, hb3⟩
  obtain rfl : 2 = n3 := by rw [← wkr1.2.1]; exact hO3.len
  have HO3 : Hid (RS rteK w3 A3 2 c3 wkR1) := Lib.hid hO3.reads
  have HB3 := Lib.hid (below_step HBW.out hb3)
  clear hO3 hb3 HB2
  go_wp2_with (first | ((with_reducible show wpList _ _ _ (Oper.mk _ (Op.store _ _ _) _ _ _ _ :: _) _ _); refine wpList_store_blk (blk_new w3 (.cells (tabV none 0 0) 24)) 24 0 (tabV A3 2 c3) (Nat.le_refl _) (info_rib _ _ _) (tab_one _ _ _) _ _ rfl rfl rfl rfl ?_; intro w4 hg9 hs9 hb9; rw [splice_tab] at hb9; have H4 := Lib.hid (And.intro hg9 hb9); clear hg9 hs9 hb9) | ((with_reducible show wpList _ _ _ (Oper.mk _ (Op.load _ _) _ _ _ _ :: _) _ _); refine wpList_load_g (load_rib H4.out.2) _ rfl rfl (by go_simp) ?_))
  have HB34 := Lib.hid (below_grown (below_alloc (Below.refl w3.heap.size w3) (.cells (tabV none 0 0) 24)) H4.out.1 (Nat.le_refl _))
  have HB4 := Lib.hid (below_step HB3.out HB34.out)
  have HO4 := Lib.hid (HO3.out.below HB34.out)
  have HG4 := Lib.hid H4.out.2
  obtain ⟨g1, hg1⟩ : ∃ g, w3.heap.size = g := ⟨_, rfl⟩
  rw [hg1] at HG4 ⊢
  clear H4 HB3 HB34 HO3 hg1
  refine (rbest_any A3 2 c3 wkR1 w4 (HL.out.below HB4.out) HO4.out wkR1_ok (by omega)).mono ?_
  rw [wkr1.2.2.1]
  rintro e w5 ⟨A5, n5, c5, rfl, hO5, hb5⟩
  obtain rfl : 1 = n5 := by rw [← wkr1.2.2.2.1]; exact hO5.len
  have HO5 : Hid (RT w5 A5 1 c5 (bestR wkR1)) := Lib.hid hO5.reads
  have HB5 := Lib.hid (below_step HB4.out hb5)
  have HG5 := Lib.hid (blk_below HG4.out hb5)
  have HR5 := Lib.hid (HO4.out.below hb5)
  clear hO5 hb5 HG4 HO4
  go_upto_region 3 with (first | ((with_reducible show wpList _ _ _ (Oper.mk _ (Op.store _ _ _) _ _ _ _ :: _) _ _); refine wpList_store_blk (blk_new w5 (.cells (tabV none 0 0) 39)) 39 0 (tabV A5 1 c5) (Nat.le_refl _) (info_tab _ _ _) (tab_one _ _ _) _ _ rfl rfl rfl rfl ?_; intro w6 hg9 hs9 hb9; rw [splice_tab] at hb9; have H6 := Lib.hid (And.intro hg9 hb9); clear hg9 hs9 hb9))
  have HB56 := Lib.hid (below_grown (below_alloc (Below.refl w5.heap.size w5) (.cells (tabV none 0 0) 39)) H6.out.1 (Nat.le_refl _))
  have HB6 := Lib.hid (below_step HB5.out HB56.out)
  have HG6 := Lib.hid (blk_below HG5.out HB56.out)
  have HR6 := Lib.hid (HR5.out.below HB56.out)
  have HT6 := Lib.hid (HO5.out.below HB56.out)
  have HQ6 := Lib.hid H6.out.2
  obtain ⟨g3, hg3⟩ : ∃ g, w5.heap.size = g := ⟨_, rfl⟩
  rw [hg3] at HQ6 ⊢
  clear H6 HB56 HG5 HR5 HO5 hg3
  try dsimp only [Act.put]
  try go_simp
  go_cut [5, 6] (fun s5 s6 wx => ∃ (g : Nat) (A7 : Option Addr) (c7 : Nat), s5 = .pointer (some ⟨g, 0, none⟩) ∧ s6 = .int .i64 0 ∧ Hid (wx.heap[g]? = some (.cells (tabV A7 1 c7) 24 (0, 0)) ∧ RS rteK wx A7 1 c7 wkR2 ∧ Below w6.heap.size w6 wx))
  case first =>
    have HBD := Lib.hid (below_drew1 w6)
    refine wp_region_fork ((fun w0 => Below w6.heap.size w6 w0)) (OrdT.fork [0] 1 9 (OrdT.fork [2] 3 9 (OrdT.fork [4] 5 9 (OrdT.lin [6, 7, 8, 9, 10, 11]) (OrdT.lin [5, 6, 7, 8, 10, 11])) (OrdT.lin [3, 4, 5, 6, 7, 8, 10, 11])) (OrdT.lin [1, 2, 3, 4, 5, 6, 7, 8, 10, 11])) [(0, 0), (1, 2), (2, 0), (3, 2), (4, 0), (5, 2), (6, 0), (7, 0), (8, 0), (9, 2), (10, 2), (11, 0)] (by kernel_rfl) (by kernel_rfl) ((below_drew1 _)) ?_
    simp only [wpF]
    refine wpO_loadW (t := 24) (ad := ⟨g1, 0, none⟩) rfl rfl ?hw rfl rfl ((fun w0 hS => load_rib (blk_below HG6.out hS))) ?_
    case hw => go_simp
    refine wpO_nil ⟨?_, ?_⟩
    · refine wpO_step2 rfl rfl (HBD.out) (fun K hK => ?_)
      go_simp
      refine (eight11_any _).mono ?_
      rintro e w21 ⟨rfl, hb9⟩
      have hsz1 := hb9.size
      have HBC := Lib.hid (below_step HBD.out hb9)
      try replace HZ9 := Lib.hid (blk_below HZ9.out hb9)
      clear hb9
      refine hK _ _ ⟨HBC.out, ?_⟩
      clear hK K
      refine wpO_nil ?_
      refine wpO_step0 rfl rfl (fun K hK => ?_)
      rw [if_pos (show Region.wanted _ _ = true from rfl)]
      refine ⟨_, fun w0 => exec_build3 rfl rfl rfl rfl (run_build_updg w0 wkP 1 true rfl), hK _ _ ?_⟩
      clear hK K
      refine wpO_nil ⟨?_, ?_⟩
      · refine wpO_step2 rfl rfl (HBC.out) (fun K hK => ?_)
        rw [if_pos (show Region.wanted _ _ = true from rfl)]
        refine oper_exec (exec_lit1 updK (x := .tmp 28) rfl wkU3 rfl ten8_B (by show 22 ≤ _; omega) _) ?_
        obtain ⟨w22, hw9⟩ : ∃ w9, World.alloc w21 (.cells (updK.enc wkU3).toArray updK.t) = w9 := ⟨_, rfl⟩
        have HLV : Hid (RS updK w22 (some ⟨(World.heap w21).size, 0, none⟩) 1 1 wkB2) := Lib.hid (hw9 ▸ (OS.one updK w21 0 wkU3 (Nat.zero_le _) ten8_B).reads)
        have ha9 : Below (World.heap w21).size w21 w22 := hw9 ▸ below_alloc (Below.refl _ _) _
        have HBK := Lib.hid (below_step HBC.out ha9)
        have hsz2 := ha9.size
        refine kw_cast hw9 ?_
        try replace HZ9 := Lib.hid (blk_below HZ9.out ha9)
        clear hw9 ha9
        refine hK _ _ ⟨HBK.out, ?_⟩
        clear hK K
        obtain ⟨gl, hgl⟩ : ∃ g, (World.heap w21).size = g := ⟨_, rfl⟩
        rw [hgl] at HLV ⊢
        clear hgl
        refine wpO_nil ?_
        refine wpO_step0 rfl rfl (fun K hK => ?_)
        rw [if_pos (show Region.wanted _ _ = true from rfl)]
        refine ⟨_, fun w0 => exec_build1 rfl rfl (run_build_bat w0 (some ⟨gl, 0, none⟩) 1 1), hK _ _ ?_⟩
        clear hK K
        refine wpO_nil ⟨?_, ?_⟩
        · refine wpO_step2 rfl rfl (HBK.out) (fun K hK => ?_)
          go_simp
          refine (rapply_any A3 2 c3 wkR1 (some ⟨gl, 0, none⟩) 1 1 wkB2 w22 (HL.out.below (below_step HB6.out HBK.out)) (HR6.out.below HBK.out) wkR1_ok (by omega) HLV.out wkB2_ok (by omega)).mono ?_
          rw [wkr2.1]
          rintro e w23 ⟨A9, n9, c9, rfl, hO9, hb9⟩
          obtain rfl : 1 = n9 := by rw [← wkr2.2.1]; exact hO9.len
          have HBL := Lib.hid (below_step HBK.out hb9)
          have HLT9 := Lib.hid hO9.lt
          have HBA9 := Lib.hid hO9.base_
          have HO9 : Hid (RS rteK w23 A9 1 c9 wkR2) := Lib.hid hO9.reads
          try replace HZ9 := Lib.hid (blk_below HZ9.out hb9)
          have hszc := hb9.size
          clear hO9 hb9
          refine hK _ _ ⟨HBL.out, ?_⟩
          clear hK K
          refine wpO_nil ?_
          iterate 3 (refine wpO_step0 rfl rfl (fun K hK => ?_); go_simp; refine hK _ _ ?_; clear hK K)
          refine wpO_step2 rfl rfl (HBL.out) (fun K hK => ?_)
          go_simp
          have hz9 := blk_new w23 (.cells (tabV none 0 0) 24)
          obtain ⟨w24, hw9⟩ : ∃ w9, World.alloc w23 (.cells (tabV none 0 0) 24) = w9 := ⟨_, rfl⟩
          have ha9 : Below (World.heap w23).size w23 w24 := hw9 ▸ below_alloc (Below.refl _ _) _
          have HBM := Lib.hid (below_step HBL.out ha9)
          refine kw_cast hw9 ?_
          rw [hw9] at hz9
          have hzl9 := blk_lt hz9
          have HZ9 := Lib.hid hz9
          try replace HCP := Lib.hid (HCP.out.below ha9)
          try replace HO9 := Lib.hid (HO9.out.below ha9)
          try replace HLV := Lib.hid (HLV.out.below ha9)
          clear hw9 hz9 ha9
          refine hK _ _ ⟨HBM.out, ?_⟩
          clear hK K
          refine wpO_step2 rfl rfl (HBM.out) (fun K hK => ?_)
          rw [if_pos (show Region.wanted _ _ = true from rfl)]
          refine oper_store_blk HZ9.out 24 0 (tabV A9 1 c9) (Nat.le_refl _) (info_rib _ _ _) (tab_one _ _ _) _ _ rfl rfl rfl ?_
          intro w25 hg9 hs9 hb9
          rw [splice_tab] at hb9
          have HBN := Lib.hid (below_grown HBM.out hg9 (by have h1 := HBC.out.size; have h2 := HBK.out.size; have h3 := HBL.out.size; omega))
          have HNE9 : Hid (∀ ad, A9 = some ad → ad.block ≠ w23.heap.size) := Lib.hid (fun ad e => by have h1 := HLT9.out ad e; have h2 := HBA9.out ad e; first | omega)
          replace HO9 := Lib.hid (HO9.out.grown hg9 (fun ad e h => by injection h with h; exact HNE9.out ad e h))
          replace HZ9 := Lib.hid hb9
          clear hg9 hs9 hb9
          refine hK _ _ ⟨HBN.out, ?_⟩
          clear hK K
          iterate 1 (refine wpO_step0 rfl rfl (fun K hK => ?_); go_simp; refine hK _ _ ?_; clear hK K)
          refine wpO_nil ?_
          go_wp2_with fail
          go_meet
          exact ⟨w23.heap.size, A9, c9, rfl, rfl, HZ9.out, HO9.out, HBN.out⟩
        · refine wpO_step2 rfl rfl (HBK.out) (fun K hK => ?_)
          go_simp
          have hz9 := blk_new w22 (.cells (tabV none 0 0) 24)
          obtain ⟨w23, hw9⟩ : ∃ w9, World.alloc w22 (.cells (tabV none 0 0) 24) = w9 := ⟨_, rfl⟩
          have ha9 : Below (World.heap w22).size w22 w23 := hw9 ▸ below_alloc (Below.refl _ _) _
          have HBL := Lib.hid (below_step HBK.out ha9)
          refine kw_cast hw9 ?_
          rw [hw9] at hz9
          have hzl9 := blk_lt hz9
          have HZ9 := Lib.hid hz9
          try replace HCP := Lib.hid (HCP.out.below ha9)
          try replace HO9 := Lib.hid (HO9.out.below ha9)
          try replace HLV := Lib.hid (HLV.out.below ha9)
          clear hw9 hz9 ha9
          refine hK _ _ ⟨HBL.out, ?_⟩
          clear hK K
          refine wpO_nil ?_
          refine wpO_step2 rfl rfl (HBL.out) (fun K hK => ?_)
          go_simp
          refine (rapply_any A3 2 c3 wkR1 (some ⟨gl, 0, none⟩) 1 1 wkB2 w23 (HL.out.below (below_step HB6.out HBL.out)) (HR6.out.below HBL.out) wkR1_ok (by omega) HLV.out wkB2_ok (by omega)).mono ?_
          rw [wkr2.1]
          rintro e w24 ⟨A9, n9, c9, rfl, hO9, hb9⟩
          obtain rfl : 1 = n9 := by rw [← wkr2.2.1]; exact hO9.len
          have HBM := Lib.hid (below_step HBL.out hb9)
          have HLT9 := Lib.hid hO9.lt
          have HBA9 := Lib.hid hO9.base_
          have HO9 : Hid (RS rteK w24 A9 1 c9 wkR2) := Lib.hid hO9.reads
          try replace HZ9 := Lib.hid (blk_below HZ9.out hb9)
          have hszc := hb9.size
          clear hO9 hb9
          refine hK _ _ ⟨HBM.out, ?_⟩
          clear hK K
          iterate 3 (refine wpO_step0 rfl rfl (fun K hK => ?_); go_simp; refine hK _ _ ?_; clear hK K)
          refine wpO_step2 rfl rfl (HBM.out) (fun K hK => ?_)
          rw [if_pos (show Region.wanted _ _ = true from rfl)]
          refine oper_store_blk HZ9.out 24 0 (tabV A9 1 c9) (Nat.le_refl _) (info_rib _ _ _) (tab_one _ _ _) _ _ rfl rfl rfl ?_
          intro w25 hg9 hs9 hb9
          rw [splice_tab] at hb9
          have HBN := Lib.hid (below_grown HBM.out hg9 (by have h1 := HBC.out.size; have h2 := HBK.out.size; have h3 := HBL.out.size; omega))
          have HNE9 : Hid (∀ ad, A9 = some ad → ad.block ≠ w22.heap.size) := Lib.hid (fun ad e => by have h1 := HLT9.out ad e; have h2 := HBA9.out ad e; first | omega)
          replace HO9 := Lib.hid (HO9.out.grown hg9 (fun ad e h => by injection h with h; exact HNE9.out ad e h))
          replace HZ9 := Lib.hid hb9
          clear hg9 hs9 hb9
          refine hK _ _ ⟨HBN.out, ?_⟩
          clear hK K
          iterate 1 (refine wpO_step0 rfl rfl (fun K hK => ?_); go_simp; refine hK _ _ ?_; clear hK K)
          refine wpO_nil ?_
          go_wp2_with fail
          go_meet
          exact ⟨w22.heap.size, A9, c9, rfl, rfl, HZ9.out, HO9.out, HBN.out⟩
      · refine wpO_step2 rfl rfl (HBC.out) (fun K hK => ?_)
        go_simp
        have hz9 := blk_new w21 (.cells (tabV none 0 0) 24)
        obtain ⟨w22, hw9⟩ : ∃ w9, World.alloc w21 (.cells (tabV none 0 0) 24) = w9 := ⟨_, rfl⟩
        have ha9 : Below (World.heap w21).size w21 w22 := hw9 ▸ below_alloc (Below.refl _ _) _
        have HBK := Lib.hid (below_step HBC.out ha9)
        refine kw_cast hw9 ?_
        rw [hw9] at hz9
        have hzl9 := blk_lt hz9
        have HZ9 := Lib.hid hz9
        try replace HCP := Lib.hid (HCP.out.below ha9)
        try replace HO9 := Lib.hid (HO9.out.below ha9)
        try replace HLV := Lib.hid (HLV.out.below ha9)
        clear hw9 hz9 ha9
        refine hK _ _ ⟨HBK.out, ?_⟩
        clear hK K
        refine wpO_nil ?_
        refine wpO_step2 rfl rfl (HBK.out) (fun K hK => ?_)
        rw [if_pos (show Region.wanted _ _ = true from rfl)]
        refine oper_exec (exec_lit1 updK (x := .tmp 28) rfl wkU3 rfl ten8_B (by show 22 ≤ _; omega) _) ?_
        obtain ⟨w23, hw9⟩ : ∃ w9, World.alloc w22 (.cells (updK.enc wkU3).toArray updK.t) = w9 := ⟨_, rfl⟩
        have HLV : Hid (RS updK w23 (some ⟨(World.heap w22).size, 0, none⟩) 1 1 wkB2) := Lib.hid (hw9 ▸ (OS.one updK w22 0 wkU3 (Nat.zero_le _) ten8_B).reads)
        have ha9 : Below (World.heap w22).size w22 w23 := hw9 ▸ below_alloc (Below.refl _ _) _
        have HBL := Lib.hid (below_step HBK.out ha9)
        have hsz2 := ha9.size
        refine kw_cast hw9 ?_
        try replace HZ9 := Lib.hid (blk_below HZ9.out ha9)
        clear hw9 ha9
        refine hK _ _ ⟨HBL.out, ?_⟩
        clear hK K
        obtain ⟨gl, hgl⟩ : ∃ g, (World.heap w22).size = g := ⟨_, rfl⟩
        rw [hgl] at HLV ⊢
        clear hgl
        refine wpO_step0 rfl rfl (fun K hK => ?_)
        rw [if_pos (show Region.wanted _ _ = true from rfl)]
        refine ⟨_, fun w0 => exec_build1 rfl rfl (run_build_bat w0 (some ⟨gl, 0, none⟩) 1 1), hK _ _ ?_⟩
        clear hK K
        refine wpO_step2 rfl rfl (HBL.out) (fun K hK => ?_)
        go_simp
        refine (rapply_any A3 2 c3 wkR1 (some ⟨gl, 0, none⟩) 1 1 wkB2 w23 (HL.out.below (below_step HB6.out HBL.out)) (HR6.out.below HBL.out) wkR1_ok (by omega) HLV.out wkB2_ok (by omega)).mono ?_
        rw [wkr2.1]
        rintro e w24 ⟨A9, n9, c9, rfl, hO9, hb9⟩
        obtain rfl : 1 = n9 := by rw [← wkr2.2.1]; exact hO9.len
        have HBM := Lib.hid (below_step HBL.out hb9)
        have HLT9 := Lib.hid hO9.lt
        have HBA9 := Lib.hid hO9.base_
        have HO9 : Hid (RS rteK w24 A9 1 c9 wkR2) := Lib.hid hO9.reads
        try replace HZ9 := Lib.hid (blk_below HZ9.out hb9)
        have hszc := hb9.size
        clear hO9 hb9
        refine hK _ _ ⟨HBM.out, ?_⟩
        clear hK K
        iterate 3 (refine wpO_step0 rfl rfl (fun K hK => ?_); go_simp; refine hK _ _ ?_; clear hK K)
        refine wpO_step2 rfl rfl (HBM.out) (fun K hK => ?_)
        rw [if_pos (show Region.wanted _ _ = true from rfl)]
        refine oper_store_blk HZ9.out 24 0 (tabV A9 1 c9) (Nat.le_refl _) (info_rib _ _ _) (tab_one _ _ _) _ _ rfl rfl rfl ?_
        intro w25 hg9 hs9 hb9
        rw [splice_tab] at hb9
        have HBN := Lib.hid (below_grown HBM.out hg9 (by have h1 := HBC.out.size; have h2 := HBK.out.size; have h3 := HBL.out.size; omega))
        have HNE9 : Hid (∀ ad, A9 = some ad → ad.block ≠ w21.heap.size) := Lib.hid (fun ad e => by have h1 := HLT9.out ad e; have h2 := HBA9.out ad e; first | omega)
        replace HO9 := Lib.hid (HO9.out.grown hg9 (fun ad e h => by injection h with h; exact HNE9.out ad e h))
        replace HZ9 := Lib.hid hb9
        clear hg9 hs9 hb9
        refine hK _ _ ⟨HBN.out, ?_⟩
        clear hK K
        iterate 1 (refine wpO_step0 rfl rfl (fun K hK => ?_); go_simp; refine hK _ _ ?_; clear hK K)
        refine wpO_nil ?_
        go_wp2_with fail
        go_meet
        exact ⟨w21.heap.size, A9, c9, rfl, rfl, HZ9.out, HO9.out, HBN.out⟩
    · refine wpO_step2 rfl rfl (HBD.out) (fun K hK => ?_)
      go_simp
      have hz9 := blk_new w6 (.cells (tabV none 0 0) 24)
      obtain ⟨w21, hw9⟩ : ∃ w9, (World.alloc w6 (.cells (tabV none 0 0) 24)).drew = w9 := ⟨_, rfl⟩
      have ha9 : Below (World.heap w6).size w6 w21 := hw9 ▸ below_step (below_alloc (Below.refl _ _) _) (below_drew1 _)
      have HBC := Lib.hid ha9
      refine kw_cast hw9 ?_
      replace hz9 : (World.heap w21)[(World.heap w6).size]? = some (.cells (tabV none 0 0) 24 (0, 0)) := by rw [← hw9]; exact hz9
      have hzl9 := blk_lt hz9
      have HZ9 := Lib.hid hz9
      clear hw9 hz9 ha9
      refine hK _ _ ⟨HBC.out, ?_⟩
      clear hK K
      refine wpO_nil ?_
      refine wpO_step2 rfl rfl (HBC.out) (fun K hK => ?_)
      go_simp
      refine (eight11_any _).mono ?_
      rintro e w22 ⟨rfl, hb9⟩
      have hsz1 := hb9.size
      have HBK := Lib.hid (below_step HBC.out hb9)
      try replace HZ9 := Lib.hid (blk_below HZ9.out hb9)
      clear hb9
      refine hK _ _ ⟨HBK.out, ?_⟩
      clear hK K
      refine wpO_step0 rfl rfl (fun K hK => ?_)
      rw [if_pos (show Region.wanted _ _ = true from rfl)]
      refine ⟨_, fun w0 => exec_build3 rfl rfl rfl rfl (run_build_updg w0 wkP 1 true rfl), hK _ _ ?_⟩
      clear hK K
      refine wpO_step2 rfl rfl (HBK.out) (fun K hK => ?_)
      rw [if_pos (show Region.wanted _ _ = true from rfl)]
      refine oper_exec (exec_lit1 updK (x := .tmp 28) rfl wkU3 rfl ten8_B (by show 22 ≤ _; omega) _) ?_
      obtain ⟨w23, hw9⟩ : ∃ w9, World.alloc w22 (.cells (updK.enc wkU3).toArray updK.t) = w9 := ⟨_, rfl⟩
      have HLV : Hid (RS updK w23 (some ⟨(World.heap w22).size, 0, none⟩) 1 1 wkB2) := Lib.hid (hw9 ▸ (OS.one updK w22 0 wkU3 (Nat.zero_le _) ten8_B).reads)
      have ha9 : Below (World.heap w22).size w22 w23 := hw9 ▸ below_alloc (Below.refl _ _) _
      have HBL := Lib.hid (below_step HBK.out ha9)
      have hsz2 := ha9.size
      refine kw_cast hw9 ?_
      try replace HZ9 := Lib.hid (blk_below HZ9.out ha9)
      clear hw9 ha9
      refine hK _ _ ⟨HBL.out, ?_⟩
      clear hK K
      obtain ⟨gl, hgl⟩ : ∃ g, (World.heap w22).size = g := ⟨_, rfl⟩
      rw [hgl] at HLV ⊢
      clear hgl
      refine wpO_step0 rfl rfl (fun K hK => ?_)
      rw [if_pos (show Region.wanted _ _ = true from rfl)]
      refine ⟨_, fun w0 => exec_build1 rfl rfl (run_build_bat w0 (some ⟨gl, 0, none⟩) 1 1), hK _ _ ?_⟩
      clear hK K
      refine wpO_step2 rfl rfl (HBL.out) (fun K hK => ?_)
      go_simp
      refine (rapply_any A3 2 c3 wkR1 (some ⟨gl, 0, none⟩) 1 1 wkB2 w23 (HL.out.below (below_step HB6.out HBL.out)) (HR6.out.below HBL.out) wkR1_ok (by omega) HLV.out wkB2_ok (by omega)).mono ?_
      rw [wkr2.1]
      rintro e w24 ⟨A9, n9, c9, rfl, hO9, hb9⟩
      obtain rfl : 1 = n9 := by rw [← wkr2.2.1]; exact hO9.len
      have HBM := Lib.hid (below_step HBL.out hb9)
      have HLT9 := Lib.hid hO9.lt
      have HBA9 := Lib.hid hO9.base_
      have HO9 : Hid (RS rteK w24 A9 1 c9 wkR2) := Lib.hid hO9.reads
      try replace HZ9 := Lib.hid (blk_below HZ9.out hb9)
      have hszc := hb9.size
      clear hO9 hb9
      refine hK _ _ ⟨HBM.out, ?_⟩
      clear hK K
      iterate 3 (refine wpO_step0 rfl rfl (fun K hK => ?_); go_simp; refine hK _ _ ?_; clear hK K)
      refine wpO_step2 rfl rfl (HBM.out) (fun K hK => ?_)
      rw [if_pos (show Region.wanted _ _ = true from rfl)]
      refine oper_store_blk HZ9.out 24 0 (tabV A9 1 c9) (Nat.le_refl _) (info_rib _ _ _) (tab_one _ _ _) _ _ rfl rfl rfl ?_
      intro w25 hg9 hs9 hb9
      rw [splice_tab] at hb9
      have HBN := Lib.hid (below_grown HBM.out hg9 (by have h1 := HBC.out.size; have h2 := HBK.out.size; have h3 := HBL.out.size; omega))
      have HNE9 : Hid (∀ ad, A9 = some ad → ad.block ≠ w6.heap.size) := Lib.hid (fun ad e => by have h1 := HLT9.out ad e; have h2 := HBA9.out ad e; first | omega)
      replace HO9 := Lib.hid (HO9.out.grown hg9 (fun ad e h => by injection h with h; exact HNE9.out ad e h))
      replace HZ9 := Lib.hid hb9
      clear hg9 hs9 hb9
      refine hK _ _ ⟨HBN.out, ?_⟩
      clear hK K
      iterate 1 (refine wpO_step0 rfl rfl (fun K hK => ?_); go_simp; refine hK _ _ ?_; clear hK K)
      refine wpO_nil ?_
      go_wp2_with fail
      go_meet
      exact ⟨w6.heap.size, A9, c9, rfl, rfl, HZ9.out, HO9.out, HBN.out⟩
  case rest =>
    obtain ⟨g5, A7, c7, rfl, rfl, HC⟩ := hcut
    obtain ⟨w7, rfl⟩ : ∃ w7, w7 = wc := ⟨wc, rfl⟩
    have HB67 := Lib.hid HC.out.2.2
    have HB7 := Lib.hid (below_step HB6.out HC.out.2.2)
    have HG7 := Lib.hid HC.out.1
    have HR7 := Lib.hid HC.out.2.1
    have HT7 := Lib.hid (HT6.out.below HB67.out)
    have HQ7 := Lib.hid (blk_below HQ6.out HB67.out)
    clear HC
    go_wp2_with (first | ((with_reducible show wpList _ _ _ (Oper.mk _ (Op.load _ _) _ _ _ _ :: _) _ _); refine wpList_load_g (load_rib HG7.out) _ rfl rfl (by go_simp) ?_))
    refine (rbest_any A7 1 c7 wkR2 w7 (HL.out.below HB7.out) HR7.out wkR2_ok (by omega)).mono ?_
    rw [wkr2.2.2.1]
    rintro e w8 ⟨A8, n8, c8, rfl, hO8, hb8⟩
    obtain rfl : 1 = n8 := by rw [← wkr2.2.2.2.1]; exact hO8.len
    have HO8 : Hid (RT w8 A8 1 c8 (bestR wkR2)) := Lib.hid hO8.reads
    have HB8 := Lib.hid (below_step HB7.out hb8)
    have HT8 := Lib.hid (HT7.out.below hb8)
    have HQ8 := Lib.hid (blk_below HQ7.out hb8)
    clear hO8 hb8
    go_upto_region 5 with (first | ((with_reducible show wpList _ _ _ (Oper.mk _ (Op.store _ _ _) _ _ _ _ :: _) _ _); refine wpList_store_blk (blk_new w8 (.cells (tabV none 0 0) 39)) 39 0 (tabV A8 1 c8) (Nat.le_refl _) (info_tab _ _ _) (tab_one _ _ _) _ _ rfl rfl rfl rfl ?_; intro w9 hg9 hs9 hb9; rw [splice_tab] at hb9; have H9 := Lib.hid (And.intro hg9 hb9); clear hg9 hs9 hb9))
    have HB89 := Lib.hid (below_grown (below_alloc (Below.refl w8.heap.size w8) (.cells (tabV none 0 0) 39)) H9.out.1 (Nat.le_refl _))
    have HT9 := Lib.hid (HT8.out.below HB89.out)
    have HQ9 := Lib.hid (blk_below HQ8.out HB89.out)
    have HO9 := Lib.hid (HO8.out.below HB89.out)
    obtain ⟨b1, o1, rfl, hc1⟩ := RT.at_ HT9.out (by omega)
    obtain ⟨b2, o2, rfl, hc2⟩ := RT.at_ HO9.out (by omega)
    have hl1 := (rowLd_of (RT.fits_at HT9.out (i := 0) (by omega)) (hc1 0 (by omega))).hop
    have hl2 := (rowLd_of (RT.fits_at HO9.out (i := 0) (by omega)) (hc2 0 (by omega))).hop
    rw [wkr1.2.2.2.2] at hl1
    rw [wkr2.2.2.2.2] at hl2
    clear hc1 hc2
    have hq3 := ((tab_at HQ9.out).all _ (Below.refl _ _)).2
    have hq7 := ((tab_at H9.out.2).all _ (Below.refl _ _)).2
    go_wp2_with (first | ((with_reducible show wpList _ _ _ (Oper.mk _ (Op.load _ _) _ _ _ _ :: _) _ _); refine wpList_load_g hq3 _ rfl rfl (by go_simp) ?_) | ((with_reducible show wpList _ _ _ (Oper.mk _ (Op.load _ _) _ _ _ _ :: _) _ _); refine wpList_load_g hq7 _ rfl rfl (by go_simp) ?_) | ((with_reducible show wpList _ _ _ (Oper.mk _ (Op.load _ _) _ _ _ _ :: _) _ _); refine wpList_load_g hl1 _ rfl rfl (by go_simp) ?_) | ((with_reducible show wpList _ _ _ (Oper.mk _ (Op.load _ _) _ _ _ _ :: _) _ _); refine wpList_load_g hl2 _ rfl rfl (by go_simp) ?_))
    go_ret
    exact ⟨rfl, below_step HB8.out HB89.out⟩
end Go.Proofs.YtnpeedmicjeleaaDoor

/- Layer 11 (route): the law's own. -/
namespace Go.Proofs.YtnpeedmicjeleaaDoor
open Go.RowKit
set_option linter.unusedVariables false
set_option linter.unusedSimpArgs false
set_option maxRecDepth 4000
end Go.Proofs.YtnpeedmicjeleaaDoor

/- Layer 11 (route): the document's Apply. -/
namespace Go.Proofs.YtnpeedmicjeleaaDoor
open Go.RowKit
set_option linter.unusedVariables false
set_option linter.unusedSimpArgs false
set_option maxRecDepth 4000
end Go.Proofs.YtnpeedmicjeleaaDoor

/- Layer 11 (route): the law RouteApplies. -/
namespace Go.Proofs.YtnpeedmicjeleaaDoor
open Go.RowKit
set_option linter.unusedVariables false
set_option linter.unusedSimpArgs false
set_option maxRecDepth 4000
end Go.Proofs.YtnpeedmicjeleaaDoor

/- Layer 11 (route): lay, and the closures of Encode and EncodeBatch. -/
namespace Go.Proofs.YtnpeedmicjeleaaDoor
open Go.RowKit
set_option linter.unusedVariables false
set_option linter.unusedSimpArgs false
set_option maxRecDepth 4000
/-- What stays where bytes have been put behind a slice of one's own. -/
structure LayK (w w' : World) (A : Option Addr) : Prop where
  bel : ∀ w0, Below w0.heap.size w0 w → (∀ ad, A = some ad → w0.heap.size ≤ ad.block) → Below w0.heap.size w0 w'
  blk : ∀ g o, w.heap[g]? = some o → (∀ ad, A = some ad → ad.block ≠ g) → w'.heap[g]? = some o
  size : w.heap.size ≤ w'.heap.size
theorem LayK.of {w w1 w2 : World} {A : Option Addr} {n c : Nat} (hb : Below w.heap.size w w1) (hg : w1.grownBy w2 ((Value.slice A n c).ownBlock)) : LayK w w2 A :=
  ⟨fun w0 h ha => below_own (below_step h hb) hg ha, fun g o h hne => blk_ownN (blk_below h hb) hg hne, Nat.le_trans hb.size hg.size⟩
theorem rb_blk {w : World} {g : Nat} {t : TypeId} {xs : List Int} (h : w.heap[g]? = some (.cells (nums .u8 xs).toArray t (0, 0))) (hn : xs.length ≤ 1000) (hx : Bytes xs) : RB w (some ⟨g, 0, none⟩) xs.length xs.length xs :=
  ⟨⟨by rw [nums_length]; omega, Nat.le_refl _, by omega, fun _ => ⟨_, rfl, fun j v hj => by
    rw [add_plain, blk_cell h]
    simpa using hj⟩⟩, hx⟩
theorem encPE_len {p : Pfx} (hp : B16 p.l) : (encPE p).length ≤ 18 := by
  unfold encPE
  split
  · rename_i h
    obtain ⟨b, hb, _, h2⟩ := right_b h
    have h1 := fullB_le h2
    rw [encP_len hp h, hb]
    omega
  · simp
set_option maxHeartbeats 1000000 in
theorem lay_any (p : Pfx) (A : Option Addr) (n c : Nat) (xs : List Int) (base : Nat) (w : World) (hL : Laid w) (hp : B16 p.l) (ho : OB w base A n c xs) (hbs : base ≤ w.heap.size) (hn : n ≤ 100000) :
    Calls Tryd.prog 67 #[.slice A n c, .agg (pfxV p.v p.l p.b)] w fun e w' => ∃ A' n' c', e = .returned (.slice A' n' c') ∧ OB w' base A' n' c' (xs ++ encPE p) ∧ n' ≤ n + 18 ∧ (A' = A ∨ ∀ ad, A' = some ad → w.heap.size ≤ ad.block) ∧ LayK w w' A := by
  have hblk1 := blk_new w (.cells (pfxV p.v p.l p.b) 49)
  have hbel1 : Below w.heap.size w (w.alloc (.cells (pfxV p.v p.l p.b) 49)) := below_alloc (Below.refl _ _) _
  have HP1 := Lib.hid (pfx_at hp hblk1)
  have HBK1 := Lib.hid hblk1
  have HBE := Lib.hid hbel1
  have HL := Lib.hid (hL.below HBE.out)
  obtain ⟨cs1, hcs1⟩ : ∃ cs, pfxV p.v p.l p.b = cs := ⟨_, rfl⟩
  simp only [hcs1] at HBE HL HP1 HBK1 ⊢
  have HC1 := Lib.hid hcs1
  clear hL hcs1 hblk1 hbel1
  have HO := Lib.hid (ho.below HBE.out)
  clear ho
  go_enter Tryd.func67, Tryd.ntmps67
  go_wp2_with (first | ((with_reducible show wpList _ _ _ (Oper.mk _ (Op.load _ _) _ _ _ _ :: _) _ _); refine wpList_load_g ((HP1.out.all _ (Below.refl _ _)).2.2.2.2) _ rfl rfl (by go_simp) ?_))
  refine (encode_any p _ HL.out hp).mono ?_
  rintro e w2 ⟨A2, n2, c2, rfl, hO2, hb2⟩
  have hn2 : n2 ≤ 18 := by rw [← hO2.len]; exact encPE_len hp
  have HO2 := Lib.hid hO2.reads
  have HB2 := Lib.hid (below_step HBE.out hb2)
  have HO3 := Lib.hid (HO.out.below hb2)
  have hs2 : base ≤ w2.heap.size := Nat.le_trans hbs HB2.out.size
  clear hO2 hb2 HO
  go_wp2_with (first | (at_builtin; refine wpList_append_bytes rfl (.tmp 12) (.tmp 13) rfl rfl rfl HO3.out HO2.out hs2 (by omega) ?_; intro A3 c3 w3 h1 h2 h3; have H3 := Lib.hid (And.intro h1 (And.intro h2 h3)); clear h1 h2 h3))
  go_ret
  refine ⟨A3, n + n2, c3, rfl, H3.out.1, by omega, ?_, LayK.of HB2.out H3.out.2.1⟩
  rcases H3.out.2.2 with h | h
  · exact .inl h
  · exact .inr (fun ad e => Nat.le_trans HB2.out.size (h ad e))
theorem LayK.step {w w1 w2 : World} {A : Option Addr} (h : LayK w w1 A) (hb : Below w1.heap.size w1 w2) : LayK w w2 A :=
  ⟨fun w0 h0 ha => below_step (h.bel w0 h0 ha) hb, fun g o hg hne => blk_below (h.blk g o hg hne) hb, Nat.le_trans h.size hb.size⟩
theorem LayK.pre {w w1 w2 : World} {A : Option Addr} (hb : Below w.heap.size w w1) (h : LayK w1 w2 A) : LayK w w2 A :=
  ⟨fun w0 h0 ha => h.bel w0 (below_step h0 hb) ha, fun g o hg hne => h.blk g o (blk_below hg hb) hne, Nat.le_trans hb.size h.size⟩
theorem LayK.app {w w1 w2 : World} {A A2 : Option Addr} {n c : Nat} (h : LayK w w1 A) (ha : A2 = A ∨ ∀ ad, A2 = some ad → w.heap.size ≤ ad.block) (hg : w1.grownBy w2 ((Value.slice A2 n c).ownBlock)) : LayK w w2 A := by
  refine ⟨fun w0 h0 hA => below_own (h.bel w0 h0 hA) hg (fun ad e => ?_), fun g o hgo hne => blk_ownN (h.blk g o hgo hne) hg (fun ad e => ?_), Nat.le_trans h.size hg.size⟩
  · rcases ha with k | k
    · exact hA ad (k ▸ e)
    · exact Nat.le_trans h0.size (k ad e)
  · rcases ha with k | k
    · exact hne ad (k ▸ e)
    · have h1 := k ad e
      have h2 := blk_lt hgo
      omega
theorem LayK.refl (w : World) (A : Option Addr) : LayK w w A := ⟨fun _ h _ => h, fun _ _ h _ => h, Nat.le_refl _⟩
def encRt (x : Rte) : List Int := encPE x.p ++ [x.s % 256, x.f % 256, x.h % 256]
theorem u8w (y : Int) : IntKind.u8.wrap y = y % 256 := by simp [IntKind.wrap, IntKind.bits, IntKind.signed]
set_option maxHeartbeats 2000000 in
theorem enc1_any (x : Rte) (A : Option Addr) (n c : Nat) (xs : List Int) (base : Nat) (w : World) (hL : Laid w) (hx : x.fits) (ho : OB w base A n c xs) (hbs : base ≤ w.heap.size) (hn : n ≤ 100000) :
    Calls Tryd.prog 66 #[.slice A n c, .agg (rteV x)] w fun e w' => ∃ A' n' c', e = .returned (.slice A' n' c') ∧ OB w' base A' n' c' (xs ++ encRt x) ∧ n' ≤ n + 21 ∧ (A' = A ∨ ∀ ad, A' = some ad → w.heap.size ≤ ad.block) ∧ LayK w w' A := by
  have HLT := Lib.hid ho.lt
  have hblk1 := blk_new w (.cells (rteV x) 51)
  have hbel1 : Below w.heap.size w (w.alloc (.cells (rteV x) 51)) := below_alloc (Below.refl _ _) _
  have HP1 := Lib.hid (rte_at hx hblk1)
  have HBK1 := Lib.hid hblk1
  have HBE := Lib.hid hbel1
  have HL := Lib.hid (hL.below HBE.out)
  obtain ⟨cs1, hcs1⟩ : ∃ cs, rteV x = cs := ⟨_, rfl⟩
  simp only [hcs1] at HBE HL HP1 HBK1 ⊢
  have HC1 := Lib.hid hcs1
  clear hL hcs1 hblk1 hbel1
  have HO := Lib.hid ((ho.below HBE.out).below (below_drew1 _))
  have HBD := Lib.hid (below_step HBE.out (below_drew1 _))
  have HS := Lib.hid (show ((w.alloc (.cells cs1 51)).drew).heap[w.heap.size]? = some (.cells (rteV x) 51 (0, 0)) by rw [HC1.out]; exact HBK1.out)
  have hsz : ((w.alloc (.cells cs1 51)).drew).heap.size = w.heap.size + 1 := by simp
  have HM : Hid (Bytes [x.s % 256, x.f % 256, x.h % 256]) := Lib.hid (fun y hy => by
    simp only [List.mem_cons, List.not_mem_nil, or_false] at hy
    rcases hy with rfl | rfl | rfl <;> omega)
  clear ho
  go_enter Tryd.func66, Tryd.ntmps66
  go_wp2_with fail
  refine wp_region_fork ((fun w0 => w0.heap[w.heap.size]? = some (.cells (rteV x) 51 (0, 0)))) (OrdT.fork [0, 1, 2, 4, 5, 6, 7, 8, 9, 10, 11, 12] 3 13 (OrdT.lin [13, 14, 15]) (OrdT.lin [3, 14, 15])) [(0, 0), (1, 0), (2, 0), (3, 2), (4, 0), (5, 0), (6, 0), (7, 0), (8, 0), (9, 0), (10, 0), (11, 0), (12, 0), (13, 2), (14, 2), (15, 0)] (by kernel_rfl) (by kernel_rfl) (HS.out) ?_
  simp only [wpF]
  iterate 2 (refine wpO_step0 rfl rfl (fun K hK => ?_); go_simp; refine hK _ _ ?_; clear hK K)
  refine wpO_loadW (t := 49) (ad := ⟨w.heap.size, 0, none⟩) rfl rfl ?hw rfl rfl ((fun w0 hS => ((rte_at hx hS).all _ (Below.refl _ _)).pfx)) ?_
  case hw => go_simp
  iterate 1 (refine wpO_step0 rfl rfl (fun K hK => ?_); go_simp; refine hK _ _ ?_; clear hK K)
  refine wpO_loadW (t := 3) (ad := ⟨w.heap.size, 18, none⟩) rfl rfl ?hw rfl rfl ((fun w0 hS => ((rte_at hx hS).all _ (Below.refl _ _)).src)) ?_
  case hw => go_simp
  iterate 2 (refine wpO_step0 rfl rfl (fun K hK => ?_); go_simp; refine hK _ _ ?_; clear hK K)
  refine wpO_loadW (t := 3) (ad := ⟨w.heap.size, 19, none⟩) rfl rfl ?hw rfl rfl ((fun w0 hS => ((rte_at hx hS).all _ (Below.refl _ _)).prf)) ?_
  case hw => go_simp
  iterate 2 (refine wpO_step0 rfl rfl (fun K hK => ?_); go_simp; refine hK _ _ ?_; clear hK K)
  refine wpO_loadW (t := 3) (ad := ⟨w.heap.size, 20, none⟩) rfl rfl ?hw rfl rfl ((fun w0 hS => ((rte_at hx hS).all _ (Below.refl _ _)).hop)) ?_
  case hw => go_simp
  iterate 1 (refine wpO_step0 rfl rfl (fun K hK => ?_); go_simp; refine hK _ _ ?_; clear hK K)
  refine wpO_nil ⟨?_, ?_⟩
  · refine wpO_step2 rfl rfl (HS.out) (fun K hK => ?_)
    go_simp
    refine (lay_any x.p A n c xs base _ (HL.out.below (below_drew1 _)) hx HO.out (by omega) hn).mono ?_
    rintro e w2 ⟨A2, n2, c2, rfl, hO2, hn2, hA2, hK2⟩
    have HO2 := Lib.hid hO2
    have HA2 : Hid (A2 = A ∨ ∀ ad, A2 = some ad → w.heap.size + 1 ≤ ad.block) := Lib.hid (hA2.imp id (fun k ad e => Nat.le_trans (by omega) (k ad e)))
    have HK2 := Lib.hid (LayK.pre HBD.out hK2)
    have HS2 := Lib.hid (hK2.blk _ _ HS.out (fun ad e => by have := HLT.out ad e; omega))
    try replace HLB := Lib.hid (hK2.blk _ _ HLB.out (fun ad e => by have := HLT.out ad e; omega))
    have hz2 := hK2.size
    clear hO2 hA2 hK2
    refine hK _ _ ⟨HS2.out, ?_⟩
    clear hK K
    refine wpO_nil ?_
    rw [u8w x.s, u8w x.f, u8w x.h]
    refine wpO_step2 rfl rfl (HS2.out) (fun K hK => ?_)
    go_simp
    obtain ⟨w3, hw9⟩ : ∃ w9, World.alloc w2 (.cells (nums .u8 [x.s % 256, x.f % 256, x.h % 256]).toArray 5) = w9 := ⟨_, rfl⟩
    have HLB := Lib.hid (show (World.heap w3)[(World.heap w2).size]? = some (.cells (nums .u8 [x.s % 256, x.f % 256, x.h % 256]).toArray 5 (0, 0)) from hw9 ▸ blk_new _ _)
    have ha9 : Below (World.heap w2).size w2 w3 := hw9 ▸ below_alloc (Below.refl _ _) _
    have HS3 := Lib.hid (blk_below HS2.out ha9)
    have HB9 := Lib.hid ha9
    refine kw_cast hw9 ?_
    have hz9 := ha9.size
    clear hw9 ha9
    refine hK _ _ ⟨HS3.out, ?_⟩
    clear hK K
    have HO3 := Lib.hid (HO2.out.below HB9.out)
    have HK3 := Lib.hid (LayK.step HK2.out HB9.out)
    refine wpO_step2 rfl rfl (HS3.out) (fun K hK => ?_)
    rw [if_pos (show Region.wanted _ _ = true from rfl)]
    refine oper_append_bytes (.tmp 8) (.tmp 18) rfl rfl rfl HO3.out (rb_blk HLB.out (by simp) HM.out) (by omega) (by simp; omega) ?_
    intro A5 c5 w5 h1 h2 h3
    have HS5 := Lib.hid (blk_ownN HS3.out h2 (fun ad e => by
      rcases HA2.out with k | k
      · have := HLT.out ad (k ▸ e); omega
      · have := k ad e; omega))
    have HK5 := Lib.hid (LayK.app HK3.out (HA2.out.imp id (fun k ad e => Nat.le_of_succ_le (k ad e))) h2)
    have H5 := Lib.hid (And.intro h1 h3)
    clear h1 h2 h3
    refine hK _ _ ⟨HS5.out, ?_⟩
    clear hK K
    iterate 1 (refine wpO_step0 rfl rfl (fun K hK => ?_); go_simp; refine hK _ _ ?_; clear hK K)
    refine wpO_nil ?_
    go_wp2_with fail
    go_ret
    refine ⟨A5, _, c5, rfl, by unfold encRt; rw [← List.append_assoc]; exact H5.out.1, by simp; omega, ?_, HK5.out⟩
    rcases H5.out.2 with h | h
    · rcases HA2.out with k | k
      · exact .inl (h.trans k)
      · exact .inr (fun ad e => by have := k ad (h ▸ e); omega)
    · exact .inr (fun ad e => by have := h ad e; omega)
  · rw [u8w x.s, u8w x.f, u8w x.h]
    refine wpO_step2 rfl rfl (HS.out) (fun K hK => ?_)
    go_simp
    obtain ⟨w2, hw9⟩ : ∃ w9, World.alloc (w.alloc (.cells cs1 51)).drew (.cells (nums .u8 [x.s % 256, x.f % 256, x.h % 256]).toArray 5) = w9 := ⟨_, rfl⟩
    have HLB := Lib.hid (show (World.heap w2)[(World.heap (w.alloc (.cells cs1 51)).drew).size]? = some (.cells (nums .u8 [x.s % 256, x.f % 256, x.h % 256]).toArray 5 (0, 0)) from hw9 ▸ blk_new _ _)
    have ha9 : Below (World.heap (w.alloc (.cells cs1 51)).drew).size (w.alloc (.cells cs1 51)).drew w2 := hw9 ▸ below_alloc (Below.refl _ _) _
    have HS2 := Lib.hid (blk_below HS.out ha9)
    have HB9 := Lib.hid ha9
    refine kw_cast hw9 ?_
    have hz9 := ha9.size
    clear hw9 ha9
    refine hK _ _ ⟨HS2.out, ?_⟩
    clear hK K
    refine wpO_nil ?_
    rw [hsz] at HLB
    have HO3 := Lib.hid (HO.out.below HB9.out)
    have HB2 := Lib.hid (below_step HBD.out HB9.out)
    have HL2 := Lib.hid ((HL.out.below (below_drew1 _)).below HB9.out)
    refine wpO_step2 rfl rfl (HS2.out) (fun K hK => ?_)
    go_simp
    refine (lay_any x.p A n c xs base _ (HL2.out) hx HO3.out (by omega) hn).mono ?_
    rintro e w3 ⟨A2, n2, c2, rfl, hO2, hn2, hA2, hK2⟩
    have HO2 := Lib.hid hO2
    have HA2 : Hid (A2 = A ∨ ∀ ad, A2 = some ad → w.heap.size + 1 ≤ ad.block) := Lib.hid (hA2.imp id (fun k ad e => Nat.le_trans (by omega) (k ad e)))
    have HK3 := Lib.hid (LayK.pre HB2.out hK2)
    have HS3 := Lib.hid (hK2.blk _ _ HS2.out (fun ad e => by have := HLT.out ad e; omega))
    try replace HLB := Lib.hid (hK2.blk _ _ HLB.out (fun ad e => by have := HLT.out ad e; omega))
    have hz2 := hK2.size
    clear hO2 hA2 hK2
    refine hK _ _ ⟨HS3.out, ?_⟩
    clear hK K
    refine wpO_step2 rfl rfl (HS3.out) (fun K hK => ?_)
    rw [if_pos (show Region.wanted _ _ = true from rfl)]
    refine oper_append_bytes (.tmp 8) (.tmp 18) rfl rfl rfl HO2.out (rb_blk HLB.out (by simp) HM.out) (by omega) (by simp; omega) ?_
    intro A5 c5 w5 h1 h2 h3
    have HS5 := Lib.hid (blk_ownN HS3.out h2 (fun ad e => by
      rcases HA2.out with k | k
      · have := HLT.out ad (k ▸ e); omega
      · have := k ad e; omega))
    have HK5 := Lib.hid (LayK.app HK3.out (HA2.out.imp id (fun k ad e => Nat.le_of_succ_le (k ad e))) h2)
    have H5 := Lib.hid (And.intro h1 h3)
    clear h1 h2 h3
    refine hK _ _ ⟨HS5.out, ?_⟩
    clear hK K
    iterate 1 (refine wpO_step0 rfl rfl (fun K hK => ?_); go_simp; refine hK _ _ ?_; clear hK K)
    refine wpO_nil ?_
    go_wp2_with fail
    go_ret
    refine ⟨A5, _, c5, rfl, by unfold encRt; rw [← List.append_assoc]; exact H5.out.1, by simp; omega, ?_, HK5.out⟩
    rcases H5.out.2 with h | h
    · rcases HA2.out with k | k
      · exact .inl (h.trans k)
      · exact .inr (fun ad e => by have := k ad (h ▸ e); omega)
    · exact .inr (fun ad e => by have := h ad e; omega)
def goneB (g : Bool) : Int := if g then 1 else 0
def encUp (x : Upd) : List Int := encPE x.p ++ [x.s % 256, goneB x.g, x.f % 256, x.h % 256]
set_option maxHeartbeats 4000000 in
theorem enc2_any (x : Upd) (A : Option Addr) (n c : Nat) (xs : List Int) (base : Nat) (w : World) (hL : Laid w) (hx : x.fits) (ho : OB w base A n c xs) (hbs : base ≤ w.heap.size) (hn : n ≤ 100000) :
    Calls Tryd.prog 69 #[.slice A n c, .agg (updV x)] w fun e w' => ∃ A' n' c', e = .returned (.slice A' n' c') ∧ OB w' base A' n' c' (xs ++ encUp x) ∧ n' ≤ n + 22 ∧ (A' = A ∨ ∀ ad, A' = some ad → w.heap.size ≤ ad.block) ∧ LayK w w' A := by
  have HLT := Lib.hid ho.lt
  have hblk1 := blk_new w (.cells (updV x) 75)
  have hbel1 : Below w.heap.size w (w.alloc (.cells (updV x) 75)) := below_alloc (Below.refl _ _) _
  have HP1 := Lib.hid (upd_at hx hblk1)
  have HBK1 := Lib.hid hblk1
  have HBE := Lib.hid hbel1
  have HL := Lib.hid (hL.below HBE.out)
  obtain ⟨cs1, hcs1⟩ : ∃ cs, updV x = cs := ⟨_, rfl⟩
  simp only [hcs1] at HBE HL HP1 HBK1 ⊢
  have HC1 := Lib.hid hcs1
  clear hL hcs1 hblk1 hbel1
  have HO := Lib.hid ((ho.below HBE.out).below (below_drew1 _))
  have HBD := Lib.hid (below_step HBE.out (below_drew1 _))
  have HS := Lib.hid (show ((w.alloc (.cells cs1 75)).drew).heap[w.heap.size]? = some (.cells (updV x) 75 (0, 0)) by rw [HC1.out]; exact HBK1.out)
  have hsz : ((w.alloc (.cells cs1 75)).drew).heap.size = w.heap.size + 1 := by simp
  clear ho
  go_enter Tryd.func69, Tryd.ntmps69
  cases hg : x.g with
  | true =>
    have HGB : Hid (goneB x.g = 1) := Lib.hid (by rw [hg]; rfl)
    have HM : Hid (Bytes [x.s % 256, 1, x.f % 256, x.h % 256]) := Lib.hid (fun y hy => by
      simp only [List.mem_cons, List.not_mem_nil, or_false] at hy
      rcases hy with rfl | rfl | rfl | rfl <;> omega)
    have hgl := (HP1.out.all _ (Below.refl _ _)).gon
    rw [hg] at hgl
    clear hg
    go_upto_region 4 with (first | ((with_reducible show wpList _ _ _ (Oper.mk _ (Op.load _ _) _ _ _ _ :: _) _ _); refine wpList_load_g hgl _ rfl rfl (by go_simp) ?_))
    clear hgl
    refine wp_region_fork ((fun w0 => w0.heap[w.heap.size]? = some (.cells (updV x) 75 (0, 0)))) (OrdT.fork [0, 1, 2, 4, 5, 6, 7, 8, 9, 10, 11, 12, 13] 3 14 (OrdT.lin [14, 15, 16]) (OrdT.lin [3, 15, 16])) [(0, 0), (1, 0), (2, 0), (3, 2), (4, 0), (5, 0), (6, 0), (7, 0), (8, 0), (9, 0), (10, 0), (11, 0), (12, 0), (13, 0), (14, 2), (15, 2), (16, 0)] (by kernel_rfl) (by kernel_rfl) (HS.out) ?_
    simp only [wpF]
    iterate 2 (refine wpO_step0 rfl rfl (fun K hK => ?_); go_simp; refine hK _ _ ?_; clear hK K)
    refine wpO_loadW (t := 49) (ad := ⟨w.heap.size, 0, none⟩) rfl rfl ?hw rfl rfl ((fun w0 hS => ((upd_at hx hS).all _ (Below.refl _ _)).pfx)) ?_
    case hw => go_simp
    iterate 1 (refine wpO_step0 rfl rfl (fun K hK => ?_); go_simp; refine hK _ _ ?_; clear hK K)
    refine wpO_loadW (t := 3) (ad := ⟨w.heap.size, 18, none⟩) rfl rfl ?hw rfl rfl ((fun w0 hS => ((upd_at hx hS).all _ (Below.refl _ _)).src)) ?_
    case hw => go_simp
    iterate 3 (refine wpO_step0 rfl rfl (fun K hK => ?_); go_simp; refine hK _ _ ?_; clear hK K)
    refine wpO_loadW (t := 3) (ad := ⟨w.heap.size, 20, none⟩) rfl rfl ?hw rfl rfl ((fun w0 hS => ((upd_at hx hS).all _ (Below.refl _ _)).prf)) ?_
    case hw => go_simp
    iterate 2 (refine wpO_step0 rfl rfl (fun K hK => ?_); go_simp; refine hK _ _ ?_; clear hK K)
    refine wpO_loadW (t := 3) (ad := ⟨w.heap.size, 21, none⟩) rfl rfl ?hw rfl rfl ((fun w0 hS => ((upd_at hx hS).all _ (Below.refl _ _)).hop)) ?_
    case hw => go_simp
    iterate 1 (refine wpO_step0 rfl rfl (fun K hK => ?_); go_simp; refine hK _ _ ?_; clear hK K)
    refine wpO_nil ⟨?_, ?_⟩
    · refine wpO_step2 rfl rfl (HS.out) (fun K hK => ?_)
      go_simp
      refine (lay_any x.p A n c xs base _ (HL.out.below (below_drew1 _)) hx HO.out (by omega) hn).mono ?_
      rintro e w2 ⟨A2, n2, c2, rfl, hO2, hn2, hA2, hK2⟩
      have HO2 := Lib.hid hO2
      have HA2 : Hid (A2 = A ∨ ∀ ad, A2 = some ad → w.heap.size + 1 ≤ ad.block) := Lib.hid (hA2.imp id (fun k ad e => Nat.le_trans (by omega) (k ad e)))
      have HK2 := Lib.hid (LayK.pre HBD.out hK2)
      have HS2 := Lib.hid (hK2.blk _ _ HS.out (fun ad e => by have := HLT.out ad e; omega))
      try replace HLB := Lib.hid (hK2.blk _ _ HLB.out (fun ad e => by have := HLT.out ad e; omega))
      have hz2 := hK2.size
      clear hO2 hA2 hK2
      refine hK _ _ ⟨HS2.out, ?_⟩
      clear hK K
      refine wpO_nil ?_
      rw [u8w x.s, u8w x.f, u8w x.h]
      refine wpO_step2 rfl rfl (HS2.out) (fun K hK => ?_)
      go_simp
      obtain ⟨w3, hw9⟩ : ∃ w9, World.alloc w2 (.cells (nums .u8 [x.s % 256, 1, x.f % 256, x.h % 256]).toArray 5) = w9 := ⟨_, rfl⟩
      have HLB := Lib.hid (show (World.heap w3)[(World.heap w2).size]? = some (.cells (nums .u8 [x.s % 256, 1, x.f % 256, x.h % 256]).toArray 5 (0, 0)) from hw9 ▸ blk_new _ _)
      have ha9 : Below (World.heap w2).size w2 w3 := hw9 ▸ below_alloc (Below.refl _ _) _
      have HS3 := Lib.hid (blk_below HS2.out ha9)
      have HB9 := Lib.hid ha9
      refine kw_cast hw9 ?_
      have hz9 := ha9.size
      clear hw9 ha9
      refine hK _ _ ⟨HS3.out, ?_⟩
      clear hK K
      have HO3 := Lib.hid (HO2.out.below HB9.out)
      have HK3 := Lib.hid (LayK.step HK2.out HB9.out)
      refine wpO_step2 rfl rfl (HS3.out) (fun K hK => ?_)
      rw [if_pos (show Region.wanted _ _ = true from rfl)]
      refine oper_append_bytes (.tmp 11) (.tmp 22) rfl rfl rfl HO3.out (rb_blk HLB.out (by simp) HM.out) (by omega) (by simp; omega) ?_
      intro A5 c5 w5 h1 h2 h3
      have HS5 := Lib.hid (blk_ownN HS3.out h2 (fun ad e => by
        rcases HA2.out with k | k
        · have := HLT.out ad (k ▸ e); omega
        · have := k ad e; omega))
      have HK5 := Lib.hid (LayK.app HK3.out (HA2.out.imp id (fun k ad e => Nat.le_of_succ_le (k ad e))) h2)
      have H5 := Lib.hid (And.intro h1 h3)
      clear h1 h2 h3
      refine hK _ _ ⟨HS5.out, ?_⟩
      clear hK K
      iterate 1 (refine wpO_step0 rfl rfl (fun K hK => ?_); go_simp; refine hK _ _ ?_; clear hK K)
      refine wpO_nil ?_
      go_wp2_with fail
      go_ret
      refine ⟨A5, _, c5, rfl, by unfold encUp; rw [show goneB x.g = 1 from HGB.out]; rw [← List.append_assoc]; exact H5.out.1, by simp; omega, ?_, HK5.out⟩
      rcases H5.out.2 with h | h
      · rcases HA2.out with k | k
        · exact .inl (h.trans k)
        · exact .inr (fun ad e => by have := k ad (h ▸ e); omega)
      · exact .inr (fun ad e => by have := h ad e; omega)
    · rw [u8w x.s, u8w x.f, u8w x.h]
      refine wpO_step2 rfl rfl (HS.out) (fun K hK => ?_)
      go_simp
      obtain ⟨w2, hw9⟩ : ∃ w9, World.alloc (w.alloc (.cells cs1 75)).drew (.cells (nums .u8 [x.s % 256, 1, x.f % 256, x.h % 256]).toArray 5) = w9 := ⟨_, rfl⟩
      have HLB := Lib.hid (show (World.heap w2)[(World.heap (w.alloc (.cells cs1 75)).drew).size]? = some (.cells (nums .u8 [x.s % 256, 1, x.f % 256, x.h % 256]).toArray 5 (0, 0)) from hw9 ▸ blk_new _ _)
      have ha9 : Below (World.heap (w.alloc (.cells cs1 75)).drew).size (w.alloc (.cells cs1 75)).drew w2 := hw9 ▸ below_alloc (Below.refl _ _) _
      have HS2 := Lib.hid (blk_below HS.out ha9)
      have HB9 := Lib.hid ha9
      refine kw_cast hw9 ?_
      have hz9 := ha9.size
      clear hw9 ha9
      refine hK _ _ ⟨HS2.out, ?_⟩
      clear hK K
      refine wpO_nil ?_
      rw [hsz] at HLB
      have HO3 := Lib.hid (HO.out.below HB9.out)
      have HB2 := Lib.hid (below_step HBD.out HB9.out)
      have HL2 := Lib.hid ((HL.out.below (below_drew1 _)).below HB9.out)
      refine wpO_step2 rfl rfl (HS2.out) (fun K hK => ?_)
      go_simp
      refine (lay_any x.p A n c xs base _ (HL2.out) hx HO3.out (by omega) hn).mono ?_
      rintro e w3 ⟨A2, n2, c2, rfl, hO2, hn2, hA2, hK2⟩
      have HO2 := Lib.hid hO2
      have HA2 : Hid (A2 = A ∨ ∀ ad, A2 = some ad → w.heap.size + 1 ≤ ad.block) := Lib.hid (hA2.imp id (fun k ad e => Nat.le_trans (by omega) (k ad e)))
      have HK3 := Lib.hid (LayK.pre HB2.out hK2)
      have HS3 := Lib.hid (hK2.blk _ _ HS2.out (fun ad e => by have := HLT.out ad e; omega))
      try replace HLB := Lib.hid (hK2.blk _ _ HLB.out (fun ad e => by have := HLT.out ad e; omega))
      have hz2 := hK2.size
      clear hO2 hA2 hK2
      refine hK _ _ ⟨HS3.out, ?_⟩
      clear hK K
      refine wpO_step2 rfl rfl (HS3.out) (fun K hK => ?_)
      rw [if_pos (show Region.wanted _ _ = true from rfl)]
      refine oper_append_bytes (.tmp 11) (.tmp 22) rfl rfl rfl HO2.out (rb_blk HLB.out (by simp) HM.out) (by omega) (by simp; omega) ?_
      intro A5 c5 w5 h1 h2 h3
      have HS5 := Lib.hid (blk_ownN HS3.out h2 (fun ad e => by
        rcases HA2.out with k | k
        · have := HLT.out ad (k ▸ e); omega
        · have := k ad e; omega))
      have HK5 := Lib.hid (LayK.app HK3.out (HA2.out.imp id (fun k ad e => Nat.le_of_succ_le (k ad e))) h2)
      have H5 := Lib.hid (And.intro h1 h3)
      clear h1 h2 h3
      refine hK _ _ ⟨HS5.out, ?_⟩
      clear hK K
      iterate 1 (refine wpO_step0 rfl rfl (fun K hK => ?_); go_simp; refine hK _ _ ?_; clear hK K)
      refine wpO_nil ?_
      go_wp2_with fail
      go_ret
      refine ⟨A5, _, c5, rfl, by unfold encUp; rw [show goneB x.g = 1 from HGB.out]; rw [← List.append_assoc]; exact H5.out.1, by simp; omega, ?_, HK5.out⟩
      rcases H5.out.2 with h | h
      · rcases HA2.out with k | k
        · exact .inl (h.trans k)
        · exact .inr (fun ad e => by have := k ad (h ▸ e); omega)
      · exact .inr (fun ad e => by have := h ad e; omega)
  | false =>
    have HGB : Hid (goneB x.g = 0) := Lib.hid (by rw [hg]; rfl)
    have HM : Hid (Bytes [x.s % 256, 0, x.f % 256, x.h % 256]) := Lib.hid (fun y hy => by
      simp only [List.mem_cons, List.not_mem_nil, or_false] at hy
      rcases hy with rfl | rfl | rfl | rfl <;> omega)
    have hgl := (HP1.out.all _ (Below.refl _ _)).gon
    rw [hg] at hgl
    clear hg
    go_upto_region 4 with (first | ((with_reducible show wpList _ _ _ (Oper.mk _ (Op.load _ _) _ _ _ _ :: _) _ _); refine wpList_load_g hgl _ rfl rfl (by go_simp) ?_))
    clear hgl
    refine wp_region_fork ((fun w0 => w0.heap[w.heap.size]? = some (.cells (updV x) 75 (0, 0)))) (OrdT.fork [0, 1, 2, 4, 5, 6, 7, 8, 9, 10, 11, 12, 13] 3 14 (OrdT.lin [14, 15, 16]) (OrdT.lin [3, 15, 16])) [(0, 0), (1, 0), (2, 0), (3, 2), (4, 0), (5, 0), (6, 0), (7, 0), (8, 0), (9, 0), (10, 0), (11, 0), (12, 0), (13, 0), (14, 2), (15, 2), (16, 0)] (by kernel_rfl) (by kernel_rfl) (HS.out) ?_
    simp only [wpF]
    iterate 2 (refine wpO_step0 rfl rfl (fun K hK => ?_); go_simp; refine hK _ _ ?_; clear hK K)
    refine wpO_loadW (t := 49) (ad := ⟨w.heap.size, 0, none⟩) rfl rfl ?hw rfl rfl ((fun w0 hS => ((upd_at hx hS).all _ (Below.refl _ _)).pfx)) ?_
    case hw => go_simp
    iterate 1 (refine wpO_step0 rfl rfl (fun K hK => ?_); go_simp; refine hK _ _ ?_; clear hK K)
    refine wpO_loadW (t := 3) (ad := ⟨w.heap.size, 18, none⟩) rfl rfl ?hw rfl rfl ((fun w0 hS => ((upd_at hx hS).all _ (Below.refl _ _)).src)) ?_
    case hw => go_simp
    iterate 3 (refine wpO_step0 rfl rfl (fun K hK => ?_); go_simp; refine hK _ _ ?_; clear hK K)
    refine wpO_loadW (t := 3) (ad := ⟨w.heap.size, 20, none⟩) rfl rfl ?hw rfl rfl ((fun w0 hS => ((upd_at hx hS).all _ (Below.refl _ _)).prf)) ?_
    case hw => go_simp
    iterate 2 (refine wpO_step0 rfl rfl (fun K hK => ?_); go_simp; refine hK _ _ ?_; clear hK K)
    refine wpO_loadW (t := 3) (ad := ⟨w.heap.size, 21, none⟩) rfl rfl ?hw rfl rfl ((fun w0 hS => ((upd_at hx hS).all _ (Below.refl _ _)).hop)) ?_
    case hw => go_simp
    iterate 1 (refine wpO_step0 rfl rfl (fun K hK => ?_); go_simp; refine hK _ _ ?_; clear hK K)
    refine wpO_nil ⟨?_, ?_⟩
    · refine wpO_step2 rfl rfl (HS.out) (fun K hK => ?_)
      go_simp
      refine (lay_any x.p A n c xs base _ (HL.out.below (below_drew1 _)) hx HO.out (by omega) hn).mono ?_
      rintro e w2 ⟨A2, n2, c2, rfl, hO2, hn2, hA2, hK2⟩
      have HO2 := Lib.hid hO2
      have HA2 : Hid (A2 = A ∨ ∀ ad, A2 = some ad → w.heap.size + 1 ≤ ad.block) := Lib.hid (hA2.imp id (fun k ad e => Nat.le_trans (by omega) (k ad e)))
      have HK2 := Lib.hid (LayK.pre HBD.out hK2)
      have HS2 := Lib.hid (hK2.blk _ _ HS.out (fun ad e => by have := HLT.out ad e; omega))
      try replace HLB := Lib.hid (hK2.blk _ _ HLB.out (fun ad e => by have := HLT.out ad e; omega))
      have hz2 := hK2.size
      clear hO2 hA2 hK2
      refine hK _ _ ⟨HS2.out, ?_⟩
      clear hK K
      refine wpO_nil ?_
      rw [u8w x.s, u8w x.f, u8w x.h]
      refine wpO_step2 rfl rfl (HS2.out) (fun K hK => ?_)
      go_simp
      obtain ⟨w3, hw9⟩ : ∃ w9, World.alloc w2 (.cells (nums .u8 [x.s % 256, 0, x.f % 256, x.h % 256]).toArray 5) = w9 := ⟨_, rfl⟩
      have HLB := Lib.hid (show (World.heap w3)[(World.heap w2).size]? = some (.cells (nums .u8 [x.s % 256, 0, x.f % 256, x.h % 256]).toArray 5 (0, 0)) from hw9 ▸ blk_new _ _)
      have ha9 : Below (World.heap w2).size w2 w3 := hw9 ▸ below_alloc (Below.refl _ _) _
      have HS3 := Lib.hid (blk_below HS2.out ha9)
      have HB9 := Lib.hid ha9
      refine kw_cast hw9 ?_
      have hz9 := ha9.size
      clear hw9 ha9
      refine hK _ _ ⟨HS3.out, ?_⟩
      clear hK K
      have HO3 := Lib.hid (HO2.out.below HB9.out)
      have HK3 := Lib.hid (LayK.step HK2.out HB9.out)
      refine wpO_step2 rfl rfl (HS3.out) (fun K hK => ?_)
      rw [if_pos (show Region.wanted _ _ = true from rfl)]
      refine oper_append_bytes (.tmp 11) (.tmp 22) rfl rfl rfl HO3.out (rb_blk HLB.out (by simp) HM.out) (by omega) (by simp; omega) ?_
      intro A5 c5 w5 h1 h2 h3
      have HS5 := Lib.hid (blk_ownN HS3.out h2 (fun ad e => by
        rcases HA2.out with k | k
        · have := HLT.out ad (k ▸ e); omega
        · have := k ad e; omega))
      have HK5 := Lib.hid (LayK.app HK3.out (HA2.out.imp id (fun k ad e => Nat.le_of_succ_le (k ad e))) h2)
      have H5 := Lib.hid (And.intro h1 h3)
      clear h1 h2 h3
      refine hK _ _ ⟨HS5.out, ?_⟩
      clear hK K
      iterate 1 (refine wpO_step0 rfl rfl (fun K hK => ?_); go_simp; refine hK _ _ ?_; clear hK K)
      refine wpO_nil ?_
      go_wp2_with fail
      go_ret
      refine ⟨A5, _, c5, rfl, by unfold encUp; rw [show goneB x.g = 0 from HGB.out]; rw [← List.append_assoc]; exact H5.out.1, by simp; omega, ?_, HK5.out⟩
      rcases H5.out.2 with h | h
      · rcases HA2.out with k | k
        · exact .inl (h.trans k)
        · exact .inr (fun ad e => by have := k ad (h ▸ e); omega)
      · exact .inr (fun ad e => by have := h ad e; omega)
    · rw [u8w x.s, u8w x.f, u8w x.h]
      refine wpO_step2 rfl rfl (HS.out) (fun K hK => ?_)
      go_simp
      obtain ⟨w2, hw9⟩ : ∃ w9, World.alloc (w.alloc (.cells cs1 75)).drew (.cells (nums .u8 [x.s % 256, 0, x.f % 256, x.h % 256]).toArray 5) = w9 := ⟨_, rfl⟩
      have HLB := Lib.hid (show (World.heap w2)[(World.heap (w.alloc (.cells cs1 75)).drew).size]? = some (.cells (nums .u8 [x.s % 256, 0, x.f % 256, x.h % 256]).toArray 5 (0, 0)) from hw9 ▸ blk_new _ _)
      have ha9 : Below (World.heap (w.alloc (.cells cs1 75)).drew).size (w.alloc (.cells cs1 75)).drew w2 := hw9 ▸ below_alloc (Below.refl _ _) _
      have HS2 := Lib.hid (blk_below HS.out ha9)
      have HB9 := Lib.hid ha9
      refine kw_cast hw9 ?_
      have hz9 := ha9.size
      clear hw9 ha9
      refine hK _ _ ⟨HS2.out, ?_⟩
      clear hK K
      refine wpO_nil ?_
      rw [hsz] at HLB
      have HO3 := Lib.hid (HO.out.below HB9.out)
      have HB2 := Lib.hid (below_step HBD.out HB9.out)
      have HL2 := Lib.hid ((HL.out.below (below_drew1 _)).below HB9.out)
      refine wpO_step2 rfl rfl (HS2.out) (fun K hK => ?_)
      go_simp
      refine (lay_any x.p A n c xs base _ (HL2.out) hx HO3.out (by omega) hn).mono ?_
      rintro e w3 ⟨A2, n2, c2, rfl, hO2, hn2, hA2, hK2⟩
      have HO2 := Lib.hid hO2
      have HA2 : Hid (A2 = A ∨ ∀ ad, A2 = some ad → w.heap.size + 1 ≤ ad.block) := Lib.hid (hA2.imp id (fun k ad e => Nat.le_trans (by omega) (k ad e)))
      have HK3 := Lib.hid (LayK.pre HB2.out hK2)
      have HS3 := Lib.hid (hK2.blk _ _ HS2.out (fun ad e => by have := HLT.out ad e; omega))
      try replace HLB := Lib.hid (hK2.blk _ _ HLB.out (fun ad e => by have := HLT.out ad e; omega))
      have hz2 := hK2.size
      clear hO2 hA2 hK2
      refine hK _ _ ⟨HS3.out, ?_⟩
      clear hK K
      refine wpO_step2 rfl rfl (HS3.out) (fun K hK => ?_)
      rw [if_pos (show Region.wanted _ _ = true from rfl)]
      refine oper_append_bytes (.tmp 11) (.tmp 22) rfl rfl rfl HO2.out (rb_blk HLB.out (by simp) HM.out) (by omega) (by simp; omega) ?_
      intro A5 c5 w5 h1 h2 h3
      have HS5 := Lib.hid (blk_ownN HS3.out h2 (fun ad e => by
        rcases HA2.out with k | k
        · have := HLT.out ad (k ▸ e); omega
        · have := k ad e; omega))
      have HK5 := Lib.hid (LayK.app HK3.out (HA2.out.imp id (fun k ad e => Nat.le_of_succ_le (k ad e))) h2)
      have H5 := Lib.hid (And.intro h1 h3)
      clear h1 h2 h3
      refine hK _ _ ⟨HS5.out, ?_⟩
      clear hK K
      iterate 1 (refine wpO_step0 rfl rfl (fun K hK => ?_); go_simp; refine hK _ _ ?_; clear hK K)
      refine wpO_nil ?_
      go_wp2_with fail
      go_ret
      refine ⟨A5, _, c5, rfl, by unfold encUp; rw [show goneB x.g = 0 from HGB.out]; rw [← List.append_assoc]; exact H5.out.1, by simp; omega, ?_, HK5.out⟩
      rcases H5.out.2 with h | h
      · rcases HA2.out with k | k
        · exact .inl (h.trans k)
        · exact .inr (fun ad e => by have := k ad (h ▸ e); omega)
      · exact .inr (fun ad e => by have := h ad e; omega)
end Go.Proofs.YtnpeedmicjeleaaDoor

/- Layer 11 (route): list, Encode, EncodeBatch. -/
namespace Go.Proofs.YtnpeedmicjeleaaDoor
open Go.RowKit
set_option linter.unusedVariables false
set_option linter.unusedSimpArgs false
set_option maxRecDepth 4000
set_option maxHeartbeats 2000000 in
theorem listq_any (A : Option Addr) (n c : Nat) (l : List Rte) (w : World) (hL : Laid w) (hr : RS rteK w A n c l) (ok : ∀ a ∈ l, a.ok) (hn : n ≤ 200) :
    Calls Tryd.prog 65 #[.slice A n c, .func (Fn.func 66) #[] #[]] w fun e w' => ∃ A' n' c', e = .returned (.slice A' n' c') ∧ OB w' w.heap.size A' n' c' ((n : Int) :: l.flatMap encRt) ∧ n' ≤ 5000 ∧ 1 ≤ n' ∧ Below w.heap.size w w' := by
  have HR := Lib.hid hr
  have OK := Lib.hid ok
  have HL := Lib.hid hL
  have hw8 : IntKind.u8.wrap (n : Int) = n := by rw [u8w]; omega
  have HO0 := Lib.hid (OB.one w (n : Int) (by omega) w.heap.size (Nat.le_refl _))
  clear hr ok hL
  go_enter Tryd.func65, Tryd.ntmps65
  go_wp2_with fail
  go_loopw [5, 14] (fun s5 s14 wr => ∃ (i : Nat) (A1 : Option Addr) (n1 c1 : Nat), s14 = .int .i64 i ∧ s5 = .slice A1 n1 c1 ∧ Hid (i ≤ n ∧ n1 ≤ 1 + 22 * i ∧ 1 ≤ n1 ∧ OB wr w.heap.size A1 n1 c1 ((n : Int) :: (l.take i).flatMap encRt) ∧ Below w.heap.size w wr)) (fun _ y _ => n - (intOf y).toNat)
  case atStart => exact ⟨0, _, 1, 1, rfl, rfl, Nat.zero_le _, by omega, by omega, HO0.out, below_alloc (Below.refl _ _) _⟩
  case round =>
    obtain ⟨i, A1, n1, c1, rfl, rfl, HI⟩ := hrel
    obtain ⟨wk, rfl⟩ : ∃ wk, wk = wr := ⟨wr, rfl⟩
    have hn1 := HI.out.2.1
    by_cases hlt : i < n
    · have hlt' : (i : Int) < n := by omega
      obtain ⟨b, o, rfl, hc⟩ := RS.at_ HR.out (by omega)
      have hil : i < l.length := by rw [HR.out.len]; exact hlt
      have HXO := Lib.hid (OK.out _ (getD_mem (z := (rteK).z) hil))
      have hla := Shape.ld rteK wk b _ _ (RS.fits_at HR.out hlt) ((hc i hlt).below HI.out.2.2.2.2)
      have hla : (Instr.loadAt 51 (.pointer (some ⟨b, o + i * 21, none⟩))).run Tryd.prog wk = .ok (.agg (rteV (l.getD i (rteK).z))) wk := hla
      have HTS : Hid ((l.take (i + 1)).flatMap encRt = (l.take i).flatMap encRt ++ encRt (l.getD i (rteK).z)) := Lib.hid (by rw [take_getD (rteK).z hil]; simp)
      obtain ⟨x, hx⟩ : ∃ x, l.getD i (rteK).z = x := ⟨_, rfl⟩
      rw [hx] at hla HXO HTS
      have HB2f := Lib.hid (fun (W : World) (h : (wk.alloc (.cells (rteV rteZ) 51)).grownBy W (some wk.heap.size)) => below_grown (below_alloc (Below.refl wk.heap.size wk) (.cells (rteV rteZ) 51)) h (Nat.le_refl _))
      clear hc hil hx
      go_wp2_with (first | ((with_reducible show wpList _ _ _ (Oper.mk _ (Op.load _ _) _ _ _ _ :: _) _ _); refine wpList_load_g hla _ rfl rfl (by go_simp) ?_) | ((with_reducible show wpList _ _ _ (Oper.mk _ (Op.store _ _ _) _ _ _ _ :: _) _ _); refine wpList_store_blk (blk_new wk _) 51 0 (rteV x) (store_rte_fit HXO.out.fits rfl) (info_rte HXO.out.fits) (rteV_one _) _ _ rfl rfl rfl rfl ?_; intro w2 hg9 hs9 hb9; rw [splice_rte HXO.out.fits rfl] at hb9; have H2 := Lib.hid (And.intro hg9 hb9); clear hg9 hs9 hb9) | ((with_reducible show wpList _ _ _ (Oper.mk _ (Op.load _ _) _ _ _ _ :: _) _ _); refine wpList_load_g (((rte_at HXO.out.fits H2.out.2).all _ (Below.refl _ _)).all) _ rfl rfl (by go_simp) ?_))
      have HB2 := Lib.hid (HB2f.out _ H2.out.1)
      have HBW := Lib.hid (below_step HI.out.2.2.2.2 HB2.out)
      refine (enc1_any x A1 n1 c1 _ w.heap.size w2 (HL.out.below HBW.out) HXO.out.fits (HI.out.2.2.2.1.below HB2.out) HBW.out.size (by omega)).mono ?_
      rintro e w3 ⟨A3, n3, c3, rfl, hO3, hn3, hA3, hK3⟩
      have HO3 := Lib.hid hO3
      have HB3 := Lib.hid (hK3.bel w HBW.out HI.out.2.2.2.1.base_)
      have HN3 : Hid (n1 ≤ n3) := Lib.hid (by
        have h1 := hO3.len
        have h2 := HI.out.2.2.2.1.len
        rw [List.length_append, h2] at h1
        omega)
      clear hO3 hA3 hK3 hla HB2f H2
      go_wp2_with fail
      go_roundw
      case measure => simp [intOf]; omega
      case rel => exact ⟨i + 1, A3, n3, c3, by go_num, rfl, by omega, by omega, by have h1 := HN3.out; have h2 := HI.out.2.2.1; omega, by rw [HTS.out]; exact HO3.out, HB3.out⟩
    · have hlt' : decide (i < n) = false := decide_eq_false hlt
      have hi : i = l.length := by rw [HR.out.len]; have := HI.out.1; omega
      have HT : Hid (l.take i = l) := Lib.hid (by rw [hi, List.take_length])
      clear hlt hi
      go_wp2_with fail
      go_ret
      refine ⟨A1, n1, c1, rfl, ?_, by have := HI.out.1; omega, HI.out.2.2.1, HI.out.2.2.2.2⟩
      have h := HI.out.2.2.2.1
      rwa [HT.out] at h
set_option maxHeartbeats 2000000 in
theorem listu_any (A : Option Addr) (n c : Nat) (l : List Upd) (w : World) (hL : Laid w) (hr : RS updK w A n c l) (ok : ∀ a ∈ l, a.ok) (hn : n ≤ 200) :
    Calls Tryd.prog 68 #[.slice A n c, .func (Fn.func 69) #[] #[]] w fun e w' => ∃ A' n' c', e = .returned (.slice A' n' c') ∧ OB w' w.heap.size A' n' c' ((n : Int) :: l.flatMap encUp) ∧ n' ≤ 5000 ∧ 1 ≤ n' ∧ Below w.heap.size w w' := by
  have HR := Lib.hid hr
  have OK := Lib.hid ok
  have HL := Lib.hid hL
  have hw8 : IntKind.u8.wrap (n : Int) = n := by rw [u8w]; omega
  have HO0 := Lib.hid (OB.one w (n : Int) (by omega) w.heap.size (Nat.le_refl _))
  clear hr ok hL
  go_enter Tryd.func68, Tryd.ntmps68
  go_wp2_with fail
  go_loopw [5, 14] (fun s5 s14 wr => ∃ (i : Nat) (A1 : Option Addr) (n1 c1 : Nat), s14 = .int .i64 i ∧ s5 = .slice A1 n1 c1 ∧ Hid (i ≤ n ∧ n1 ≤ 1 + 22 * i ∧ 1 ≤ n1 ∧ OB wr w.heap.size A1 n1 c1 ((n : Int) :: (l.take i).flatMap encUp) ∧ Below w.heap.size w wr)) (fun _ y _ => n - (intOf y).toNat)
  case atStart => exact ⟨0, _, 1, 1, rfl, rfl, Nat.zero_le _, by omega, by omega, HO0.out, below_alloc (Below.refl _ _) _⟩
  case round =>
    obtain ⟨i, A1, n1, c1, rfl, rfl, HI⟩ := hrel
    obtain ⟨wk, rfl⟩ : ∃ wk, wk = wr := ⟨wr, rfl⟩
    have hn1 := HI.out.2.1
    by_cases hlt : i < n
    · have hlt' : (i : Int) < n := by omega
      obtain ⟨b, o, rfl, hc⟩ := RS.at_ HR.out (by omega)
      have hil : i < l.length := by rw [HR.out.len]; exact hlt
      have HXO := Lib.hid (OK.out _ (getD_mem (z := (updK).z) hil))
      have hla := Shape.ld updK wk b _ _ (RS.fits_at HR.out hlt) ((hc i hlt).below HI.out.2.2.2.2)
      have hla : (Instr.loadAt 75 (.pointer (some ⟨b, o + i * 22, none⟩))).run Tryd.prog wk = .ok (.agg (updV (l.getD i (updK).z))) wk := hla
      have HTS : Hid ((l.take (i + 1)).flatMap encUp = (l.take i).flatMap encUp ++ encUp (l.getD i (updK).z)) := Lib.hid (by rw [take_getD (updK).z hil]; simp)
      obtain ⟨x, hx⟩ : ∃ x, l.getD i (updK).z = x := ⟨_, rfl⟩
      rw [hx] at hla HXO HTS
      have HB2f := Lib.hid (fun (W : World) (h : (wk.alloc (.cells (updV updZ) 75)).grownBy W (some wk.heap.size)) => below_grown (below_alloc (Below.refl wk.heap.size wk) (.cells (updV updZ) 75)) h (Nat.le_refl _))
      clear hc hil hx
      go_wp2_with (first | ((with_reducible show wpList _ _ _ (Oper.mk _ (Op.load _ _) _ _ _ _ :: _) _ _); refine wpList_load_g hla _ rfl rfl (by go_simp) ?_) | ((with_reducible show wpList _ _ _ (Oper.mk _ (Op.store _ _ _) _ _ _ _ :: _) _ _); refine wpList_store_blk (blk_new wk _) 75 0 (updV x) (store_upd_fit HXO.out.fits rfl) (info_upd HXO.out.fits) (updV_one _) _ _ rfl rfl rfl rfl ?_; intro w2 hg9 hs9 hb9; rw [splice_upd HXO.out.fits rfl] at hb9; have H2 := Lib.hid (And.intro hg9 hb9); clear hg9 hs9 hb9) | ((with_reducible show wpList _ _ _ (Oper.mk _ (Op.load _ _) _ _ _ _ :: _) _ _); refine wpList_load_g (((upd_at HXO.out.fits H2.out.2).all _ (Below.refl _ _)).all) _ rfl rfl (by go_simp) ?_))
      have HB2 := Lib.hid (HB2f.out _ H2.out.1)
      have HBW := Lib.hid (below_step HI.out.2.2.2.2 HB2.out)
      refine (enc2_any x A1 n1 c1 _ w.heap.size w2 (HL.out.below HBW.out) HXO.out.fits (HI.out.2.2.2.1.below HB2.out) HBW.out.size (by omega)).mono ?_
      rintro e w3 ⟨A3, n3, c3, rfl, hO3, hn3, hA3, hK3⟩
      have HO3 := Lib.hid hO3
      have HB3 := Lib.hid (hK3.bel w HBW.out HI.out.2.2.2.1.base_)
      have HN3 : Hid (n1 ≤ n3) := Lib.hid (by
        have h1 := hO3.len
        have h2 := HI.out.2.2.2.1.len
        rw [List.length_append, h2] at h1
        omega)
      clear hO3 hA3 hK3 hla HB2f H2
      go_wp2_with fail
      go_roundw
      case measure => simp [intOf]; omega
      case rel => exact ⟨i + 1, A3, n3, c3, by go_num, rfl, by omega, by omega, by have h1 := HN3.out; have h2 := HI.out.2.2.1; omega, by rw [HTS.out]; exact HO3.out, HB3.out⟩
    · have hlt' : decide (i < n) = false := decide_eq_false hlt
      have hi : i = l.length := by rw [HR.out.len]; have := HI.out.1; omega
      have HT : Hid (l.take i = l) := Lib.hid (by rw [hi, List.take_length])
      clear hlt hi
      go_wp2_with fail
      go_ret
      refine ⟨A1, n1, c1, rfl, ?_, by have := HI.out.1; omega, HI.out.2.2.1, HI.out.2.2.2.2⟩
      have h := HI.out.2.2.2.1
      rwa [HT.out] at h
def encRib (l : List Rte) : List Int := if ribB l then (l.length : Int) :: l.flatMap encRt else []
def encBat (l : List Upd) : List Int := if batB l then (l.length : Int) :: l.flatMap encUp else []
set_option maxHeartbeats 2000000 in
theorem rencode_any (A : Option Addr) (n c : Nat) (l : List Rte) (w : World) (hL : Laid w) (hr : RS rteK w A n c l) (ok : Okr l) (hn : n ≤ 10000) :
    Calls Tryd.prog 30 #[.agg (tabV A n c)] w fun e w' => ∃ A' n' c', e = .returned (.tuple #[.slice A' n' c', .int .i64 (ribE l)]) ∧ OB w' w.heap.size A' n' c' (encRib l) ∧ n' ≤ 5000 ∧ Below w.heap.size w w' := by
  have hblk1 := blk_new w (.cells (tabV A n c) 24)
  have hbel1 : Below w.heap.size w (w.alloc (.cells (tabV A n c) 24)) := below_alloc (Below.refl _ _) _
  have HP1 := Lib.hid (rib_at hblk1)
  have HBK1 := Lib.hid hblk1
  have HBE := Lib.hid hbel1
  have HL := Lib.hid (hL.below HBE.out)
  obtain ⟨cs1, hcs1⟩ : ∃ cs, tabV A n c = cs := ⟨_, rfl⟩
  simp only [hcs1] at HBE HL HP1 HBK1 ⊢
  have HC1 := Lib.hid hcs1
  clear hL hcs1 hblk1 hbel1
  have HR := Lib.hid (hr.below HBE.out)
  have OK := Lib.hid ok
  clear hr ok
  go_enter Tryd.func30, Tryd.ntmps30
  go_wp2_with (first | ((with_reducible show wpList _ _ _ (Oper.mk _ (Op.load _ _) _ _ _ _ :: _) _ _); refine wpList_load_g ((HP1.out.all _ (Below.refl _ _)).1) _ rfl rfl (by go_simp) ?_))
  refine (rcheck_any A n c l _ HL.out HR.out OK.out (by omega)).mono ?_
  rintro e w1 ⟨rfl, hb1⟩
  have HB1 := Lib.hid hb1
  clear hb1
  cases hrb : ribB l with
  | false =>
    have HE : Hid (ribE l = 211 ∧ encRib l = []) := Lib.hid ⟨by unfold ribE; rw [hrb]; rfl, by unfold encRib; rw [hrb]; rfl⟩
    rw [HE.out.1]
    clear hrb
    go_wp2
    go_ret2
    rw [HE.out.1, HE.out.2]
    exact ⟨_, _, _, rfl, OB.nil _ _, by omega, below_step HBE.out HB1.out⟩
  | true =>
    have HE : Hid (ribE l = 0 ∧ encRib l = (n : Int) :: l.flatMap encRt) := Lib.hid ⟨by unfold ribE; rw [hrb]; rfl, by unfold encRib; rw [hrb, if_pos rfl, HR.out.len]⟩
    have hn160 : n ≤ 160 := by
      rw [← HR.out.len]
      unfold ribB ribsB at hrb
      simp only [Bool.and_eq_true, decide_eq_true_eq] at hrb
      exact hrb.1.1.1
    rw [HE.out.1]
    clear hrb
    go_wp2_with (first | ((with_reducible show wpList _ _ _ (Oper.mk _ (Op.load _ _) _ _ _ _ :: _) _ _); refine wpList_load_g ((HP1.out.all _ HB1.out).2) _ rfl rfl (by go_simp) ?_))
    refine (listq_any A n c l w1 (HL.out.below HB1.out) (HR.out.below HB1.out) OK.out (by omega)).mono ?_
    rintro e w2 ⟨A2, n2, c2, rfl, hO2, hn2, _, hb2⟩
    have HO2 := Lib.hid (hO2.lower (below_step HBE.out HB1.out).size)
    have HB2 := Lib.hid (below_step HBE.out (below_step HB1.out hb2))
    clear hO2 hb2
    go_wp2
    go_ret2
    rw [HE.out.1, HE.out.2]
    exact ⟨A2, n2, c2, rfl, HO2.out, hn2, HB2.out⟩
set_option maxHeartbeats 2000000 in
theorem rencodeb_any (A : Option Addr) (n c : Nat) (l : List Upd) (w : World) (hL : Laid w) (hr : RS updK w A n c l) (ok : Oku l) (hn : n ≤ 10000) :
    Calls Tryd.prog 31 #[.agg (tabV A n c)] w fun e w' => ∃ A' n' c', e = .returned (.tuple #[.slice A' n' c', .int .i64 (batE l)]) ∧ OB w' w.heap.size A' n' c' (encBat l) ∧ n' ≤ 5000 ∧ Below w.heap.size w w' := by
  have hblk1 := blk_new w (.cells (tabV A n c) 27)
  have hbel1 : Below w.heap.size w (w.alloc (.cells (tabV A n c) 27)) := below_alloc (Below.refl _ _) _
  have HP1 := Lib.hid (bat_at hblk1)
  have HBK1 := Lib.hid hblk1
  have HBE := Lib.hid hbel1
  have HL := Lib.hid (hL.below HBE.out)
  obtain ⟨cs1, hcs1⟩ : ∃ cs, tabV A n c = cs := ⟨_, rfl⟩
  simp only [hcs1] at HBE HL HP1 HBK1 ⊢
  have HC1 := Lib.hid hcs1
  clear hL hcs1 hblk1 hbel1
  have HR := Lib.hid (hr.below HBE.out)
  have OK := Lib.hid ok
  clear hr ok
  go_enter Tryd.func31, Tryd.ntmps31
  go_wp2_with (first | ((with_reducible show wpList _ _ _ (Oper.mk _ (Op.load _ _) _ _ _ _ :: _) _ _); refine wpList_load_g ((HP1.out.all _ (Below.refl _ _)).1) _ rfl rfl (by go_simp) ?_))
  refine (rcheckb_any A n c l _ HL.out HR.out OK.out (by omega)).mono ?_
  rintro e w1 ⟨rfl, hb1⟩
  have HB1 := Lib.hid hb1
  clear hb1
  cases hrb : batB l with
  | false =>
    have HE : Hid (batE l = 210 ∧ encBat l = []) := Lib.hid ⟨by unfold batE; rw [hrb]; rfl, by unfold encBat; rw [hrb]; rfl⟩
    rw [HE.out.1]
    clear hrb
    go_wp2
    go_ret2
    rw [HE.out.1, HE.out.2]
    exact ⟨_, _, _, rfl, OB.nil _ _, by omega, below_step HBE.out HB1.out⟩
  | true =>
    have HE : Hid (batE l = 0 ∧ encBat l = (n : Int) :: l.flatMap encUp) := Lib.hid ⟨by unfold batE; rw [hrb]; rfl, by unfold encBat; rw [hrb, if_pos rfl, HR.out.len]⟩
    have hn8 : n ≤ 8 := by
      rw [← HR.out.len]
      unfold batB at hrb
      simp only [Bool.and_eq_true, decide_eq_true_eq] at hrb
      exact hrb.1.2
    rw [HE.out.1]
    clear hrb
    go_wp2_with (first | ((with_reducible show wpList _ _ _ (Oper.mk _ (Op.load _ _) _ _ _ _ :: _) _ _); refine wpList_load_g ((HP1.out.all _ HB1.out).2) _ rfl rfl (by go_simp) ?_))
    refine (listu_any A n c l w1 (HL.out.below HB1.out) (HR.out.below HB1.out) OK.out (by omega)).mono ?_
    rintro e w2 ⟨A2, n2, c2, rfl, hO2, hn2, _, hb2⟩
    have HO2 := Lib.hid (hO2.lower (below_step HBE.out HB1.out).size)
    have HB2 := Lib.hid (below_step HBE.out (below_step HB1.out hb2))
    clear hO2 hb2
    go_wp2
    go_ret2
    rw [HE.out.1, HE.out.2]
    exact ⟨A2, n2, c2, rfl, HO2.out, hn2, HB2.out⟩
end Go.Proofs.YtnpeedmicjeleaaDoor
