/- Two prefixes, two addresses, held equal. -/
import Derived.DeepKeys
import Derived.DeepKeys4
import Derived.IntWalk
import Derived.Maps.OwnOps
import Derived.Maps.Views
import Derived.Test.YtihfaknflfmohaaDoorCacheTrueA
namespace Go.Proofs.YtihfaknflfmohaaDoor
open Go.RowKit
set_option linter.unusedVariables false
set_option linter.unusedSimpArgs false
set_option maxRecDepth 4000

def lits (k : IntKind) (l : List Int) : List Lit := l.map fun x => .int k x
theorem keyl_arr (l : List Int) (hl : B16 l) : Tryd.prog.keyLits 2 29 (nums .u8 l) = some (lits .u8 l) := by
  have hk := keys_arr l hl
  have he : (arrV l).toList = nums .u8 l := by simp [arrV]
  rw [he] at hk
  unfold Program.keyLits
  rw [Tryd.underlying29]
  simp only
  rw [if_pos (by rw [show (nums .u8 l).length = 16 by simp [nums, hl.len]]; kernel_rfl), hk]
  simp only [Option.map_some, flat1]
  refine congrArg some ?_
  unfold lits
  apply List.ext_getElem
  · simp [hl.len]
  · intro i h1 h2
    simp only [List.length_map, List.length_range] at h1
    simp [rd, List.getD_eq_getElem?_getD, hl.len, h1]
theorem keyl_int (d : Nat) (v : Int) (hv : (Lit.int .i64 v).wf = true) : Tryd.prog.keyLits (d + 1) 3 [.int .i64 v] = some [.int .i64 v] := by
  unfold Program.keyLits
  rw [Tryd.underlying3]
  simp only
  rw [if_pos ⟨trivial, hv⟩]
theorem keyl_adr (v : Int) (l : List Int) (hl : B16 l) (hv : (Lit.int .i64 v).wf = true) : Tryd.prog.keyLits 3 31 (adrV v l).toList = some (.int .i64 v :: lits .u8 l) := by
  unfold Program.keyLits
  rw [Tryd.underlying31]
  simp only
  have h1 : (adrV v l).toList = .int .i64 v :: nums .u8 l := by simp [adrV]
  rw [h1, if_pos ⟨by rw [show (Value.int IntKind.i64 v :: nums .u8 l).length = 17 by simp [nums, hl.len]]; kernel_rfl, by kernel_rfl⟩]
  have c1 : Tryd.prog.cellsOf 3 = 1 := by kernel_rfl
  have c2 : Tryd.prog.cellsOf 29 = 16 := by kernel_rfl
  simp only [List.mapM_cons, List.mapM_nil, c1, c2, List.drop_zero, List.take_succ_cons, List.take_zero, List.drop_succ_cons]
  rw [keyl_int 1 v hv, List.take_of_length_le (by simp [nums, hl.len]), keyl_arr l hl]
  simp
theorem keyl_pfx (v : Int) (l : List Int) (b : Int) (hl : B16 l) (hv : (Lit.int .i64 v).wf = true) (hb : (Lit.int .i64 b).wf = true) : Tryd.prog.keyLits 4 36 (pfxV v l b).toList = some (.int .i64 v :: lits .u8 l ++ [.int .i64 b]) := by
  unfold Program.keyLits
  rw [Tryd.underlying36]
  simp only
  have h1 : (pfxV v l b).toList = .int .i64 v :: (nums .u8 l ++ [.int .i64 b]) := by simp [pfxV]
  rw [h1, if_pos ⟨by rw [show (Value.int IntKind.i64 v :: (nums .u8 l ++ [Value.int IntKind.i64 b])).length = 18 by simp [nums, hl.len]]; kernel_rfl, by kernel_rfl⟩]
  have c1 : Tryd.prog.cellsOf 31 = 17 := by kernel_rfl
  have c2 : Tryd.prog.cellsOf 3 = 1 := by kernel_rfl
  have hln : (nums .u8 l).length = 16 := by simp [nums, hl.len]
  have e1 : (Value.int IntKind.i64 v :: (nums .u8 l ++ [Value.int IntKind.i64 b])).take 17 = (adrV v l).toList := by
    simp [adrV, List.take_append, hln]
  have e2 : (Value.int IntKind.i64 v :: (nums .u8 l ++ [Value.int IntKind.i64 b])).drop 17 = [.int .i64 b] := by
    simp [List.drop_append, hln]
  simp only [List.mapM_cons, List.mapM_nil, c1, c2, List.drop_zero]
  rw [e1, e2, keyl_adr v l hl hv]
  simp only [List.take_succ_cons, List.take_zero]
  rw [keyl_int 2 b hb]
  simp
theorem lits_inj {k : IntKind} : ∀ {l m : List Int}, lits k l = lits k m → l = m
  | [], [], _ => rfl
  | [], _ :: _, h => by simp [lits] at h
  | _ :: _, [], h => by simp [lits] at h
  | a :: l, b :: m, h => by
    simp only [lits, List.map_cons, List.cons.injEq, Lit.int.injEq, true_and] at h
    rw [h.1, lits_inj (l := l) (m := m) h.2]
theorem adr_formed (v : Int) (l : List Int) (hl : B16 l) : (Value.agg (adrV v l)).formed Tryd.prog 31 = true := by
  simp only [Value.formed, Tryd.underlying31, adr_size hl.len]
  kernel_rfl
structure Pfx.ok (p : Pfx) : Prop where
  l : B16 p.l
  v : (Lit.int .i64 p.v).wf = true
  b : (Lit.int .i64 p.b).wf = true
def Pfx.eqB (p q : Pfx) : Bool := decide (p.v = q.v) && decide (p.l = q.l) && decide (p.b = q.b)
theorem Pfx.eqB_iff (p q : Pfx) : p.eqB q = true ↔ p = q := by
  unfold Pfx.eqB
  simp only [Bool.and_eq_true, decide_eq_true_eq]
  constructor
  · rintro ⟨⟨h1, h2⟩, h3⟩
    cases p; cases q
    simp_all
  · rintro rfl
    exact ⟨⟨rfl, rfl⟩, rfl⟩
theorem adr_equal (v : Int) (l : List Int) (v' : Int) (l' : List Int) (hl : B16 l) (hl' : B16 l') (hv : (Lit.int .i64 v).wf = true) (hv' : (Lit.int .i64 v').wf = true) (w : World) :
    (Op.equal 31 (.agg (adrV v l)) (.agg (adrV v' l'))).run Tryd.prog w = .ok (decide (v = v') && decide (l = l')) w := by
  obtain ⟨r, hr, hiff⟩ := run_equalIn_deep (P := Tryd.prog) 9997 3 31 (by kernel_rfl) w 3 3 (.agg (adrV v l)) (.agg (adrV v' l')) _ _ (adr_formed _ _ hl) (adr_formed _ _ hl') (keyl_adr _ _ hl hv) (keyl_adr _ _ hl' hv')
  have h2 : (Op.equal 31 (.agg (adrV v l)) (.agg (adrV v' l'))).run Tryd.prog w = .ok r w := hr
  suffices hs : r = (decide (v = v') && decide (l = l')) by rw [h2, hs]
  rw [Bool.eq_iff_iff, hiff]
  simp only [Bool.and_eq_true, decide_eq_true_eq, List.cons.injEq, Lit.int.injEq, true_and]
  exact ⟨fun h => ⟨h.1, lits_inj h.2⟩, fun h => ⟨h.1, by rw [h.2]⟩⟩
section
variable {r : Operand → Value} {o : Oper} {x y : Operand} {ty : TypeId}
theorem exec_eql (t : TypeId) (hgt : Tryd.prog.eqGuardType Tryd.prog.depth t = false) (ho : o.op = .binOp .eql t x y ty) (cx cy : Array Value) (hx : r x = .agg cx) (hy : r y = .agg cy) (w : World) {b : Bool}
    (he : (Op.equal t (.agg cx) (.agg cy)).run Tryd.prog w = .ok b w) : (execOp r o).run Tryd.prog w = .ok (.value (.bool b)) w := by
  have hg : (eqGuard .eql t x y (.agg cx) (.agg cy)).run Tryd.prog w = .ok () w := by
    simp [eqGuard, Sem.run_bind, run_program, hgt]
  have hq : (binOp .eql t (.agg cx) (.agg cy)).run Tryd.prog w = .ok (.bool b) w := by
    show ((do pure (Value.bool (← Op.equal t (.agg cx) (.agg cy))) : Sem Value)).run Tryd.prog w = _
    rw [Sem.run_bind, he]
    rfl
  unfold execOp
  simp only [ho, hx, hy, Sem.run_bind, hg, hq, Result.andThen_ok, Sem.run_pure]
theorem exec_neq (t : TypeId) (hgt : Tryd.prog.eqGuardType Tryd.prog.depth t = false) (ho : o.op = .binOp .neq t x y ty) (cx cy : Array Value) (hx : r x = .agg cx) (hy : r y = .agg cy) (w : World) {b : Bool}
    (he : (Op.equal t (.agg cx) (.agg cy)).run Tryd.prog w = .ok b w) : (execOp r o).run Tryd.prog w = .ok (.value (.bool (!b))) w := by
  have hg : (eqGuard .neq t x y (.agg cx) (.agg cy)).run Tryd.prog w = .ok () w := by
    simp [eqGuard, Sem.run_bind, run_program, hgt]
  have hq : (binOp .neq t (.agg cx) (.agg cy)).run Tryd.prog w = .ok (.bool (!b)) w := by
    show ((do pure (Value.bool (!(← Op.equal t (.agg cx) (.agg cy)))) : Sem Value)).run Tryd.prog w = _
    rw [Sem.run_bind, he]
    rfl
  unfold execOp
  simp only [ho, hx, hy, Sem.run_bind, hg, hq, Result.andThen_ok, Sem.run_pure]
theorem adr_eql_exec (ho : o.op = .binOp .eql 31 x y ty) (v : Int) (l : List Int) (v' : Int) (l' : List Int) (hx : r x = .agg (adrV v l)) (hy : r y = .agg (adrV v' l')) (hl : B16 l) (hl' : B16 l') (hv : (Lit.int .i64 v).wf = true) (hv' : (Lit.int .i64 v').wf = true) (w : World) : (execOp r o).run Tryd.prog w = .ok (.value (.bool (decide (v = v') && decide (l = l')))) w :=
  exec_eql 31 (by kernel_rfl) ho _ _ hx hy w (adr_equal v l v' l' hl hl' hv hv' w)
theorem adr_neq_exec (ho : o.op = .binOp .neq 31 x y ty) (v : Int) (l : List Int) (v' : Int) (l' : List Int) (hx : r x = .agg (adrV v l)) (hy : r y = .agg (adrV v' l')) (hl : B16 l) (hl' : B16 l') (hv : (Lit.int .i64 v).wf = true) (hv' : (Lit.int .i64 v').wf = true) (w : World) : (execOp r o).run Tryd.prog w = .ok (.value (.bool (!(decide (v = v') && decide (l = l'))))) w :=
  exec_neq 31 (by kernel_rfl) ho _ _ hx hy w (adr_equal v l v' l' hl hl' hv hv' w)
end
end Go.Proofs.YtihfaknflfmohaaDoor

/- Arguments that are addresses and prefixes, opened. -/
namespace Go.Proofs.YtihfaknflfmohaaDoor
open Go.ChangeShapes Go.WideShapes Go.ChangeAt Go.RowKit
set_option linter.unusedVariables false
set_option linter.unusedSimpArgs false
set_option maxRecDepth 4000
def cellI : Option Value → Int
  | some (.int _ y) => y
  | _ => 0
section
variable {H : Type} {enc : TypeId × Value → H} {W : World} {base : Nat} {spare : Nat → Bool} {held : Bool} {fuel : Nat} {x : DataW H × List MemPlace}
theorem open_arr16 {cs : List Value} (h : DataW.trod enc Tryd.prog W base spare held fuel 29 cs = some x) : ∃ l, cs = nums .u8 l ∧ B16 l := by
  obtain ⟨xs, m, -, -, hlen, hxl, hel⟩ := DataW.trod_array Tryd.underlying29 h
  have c1 : Tryd.prog.cellsOf 5 = 1 := by kernel_rfl
  have c2 : Tryd.prog.cellsOf 29 = 16 := by kernel_rfl
  rw [c2] at hlen
  have hat : ∀ i, i < 16 → ∃ y : Int, cs[i]? = some (.int .u8 y) ∧ (Lit.int .u8 y).wf = true := by
    intro i hi
    have h1 := hel i hi
    rw [c1, Nat.mul_one] at h1
    cases hx : xs[i]? with
    | none =>
      rw [hx] at h1
      exfalso
      have : xs.length ≤ i := List.getElem?_eq_none_iff.1 hx
      omega
    | some x0 =>
      rw [hx] at h1
      obtain ⟨y, hy, -, hw⟩ := DataW.trod_int Tryd.underlying5 h1
      refine ⟨y, ?_, hw⟩
      have h2 := congrArg (fun l => l[0]?) hy
      simpa [List.getElem?_take, List.getElem?_drop] using h2
  refine ⟨(List.range 16).map fun i => cellI cs[i]?, ?_, ?_, ?_⟩
  · apply List.ext_getElem (by simp [nums, hlen])
    intro i h1 h2
    obtain ⟨y, hy, -⟩ := hat i (by omega)
    have h3 : cs[i] = .int .u8 y := by
      rw [List.getElem?_eq_getElem h1] at hy
      injection hy
    simp [nums, h3, hy, cellI]
  · simp
  · intro z hz
    simp only [List.mem_map, List.mem_range] at hz
    obtain ⟨i, hi, rfl⟩ := hz
    obtain ⟨y, hy, hw⟩ := hat i hi
    simp only [hy, cellI]
    simp [Lit.wf, IntKind.min, IntKind.max, IntKind.bits, IntKind.signed] at hw
    omega
theorem one_of {l : List Value} {v : Value} (h : l.take 1 = [v]) : l = v :: l.drop 1 := by
  cases l with
  | nil => cases h
  | cons a r =>
    simp only [List.take_succ_cons, List.take_zero, List.cons.injEq, and_true] at h
    rw [h]
    rfl
theorem open_adr_cells {cs : List Value} (h : DataW.trod enc Tryd.prog W base spare held fuel 31 cs = some x) : ∃ v l, cs = .int .i64 v :: nums .u8 l ∧ B16 l ∧ (Lit.int .i64 v).wf = true := by
  obtain ⟨xs, m, -, -, hlen, hxl, hg⟩ := DataW.trod_struct Tryd.underlying31 h
  have c1 : Tryd.prog.cellsOf 3 = 1 := by kernel_rfl
  have c2 : Tryd.prog.cellsOf 29 = 16 := by kernel_rfl
  have c3 : Tryd.prog.cellsOf 31 = 17 := by kernel_rfl
  have h0 : DataW.trod enc Tryd.prog W base spare held m 3 ((cs.drop 0).take (Tryd.prog.cellsOf 3)) = xs[0]? := hg 0 _ rfl
  have h1 : DataW.trod enc Tryd.prog W base spare held m 29 ((cs.drop 1).take (Tryd.prog.cellsOf 29)) = xs[1]? := hg 1 _ rfl
  rw [c3] at hlen
  rw [c1, List.drop_zero] at h0
  rw [c2] at h1
  have hx2 : xs.length = 2 := hxl
  match xs, hx2 with
  | [x0, x1], _ =>
    obtain ⟨v, hv, -, hw⟩ := DataW.trod_int Tryd.underlying3 (show DataW.trod enc Tryd.prog W base spare held m 3 (cs.take 1) = some x0 from h0)
    obtain ⟨l, hl, hb⟩ := open_arr16 (show DataW.trod enc Tryd.prog W base spare held m 29 ((cs.drop 1).take 16) = some x1 from h1)
    rw [List.take_of_length_le (by rw [List.length_drop]; omega)] at hl
    exact ⟨v, l, by rw [one_of hv, hl], hb, hw⟩
theorem open_pfx_cells {cs : List Value} (h : DataW.trod enc Tryd.prog W base spare held fuel 36 cs = some x) : ∃ v l b, cs = .int .i64 v :: (nums .u8 l ++ [.int .i64 b]) ∧ B16 l ∧ (Lit.int .i64 v).wf = true ∧ (Lit.int .i64 b).wf = true := by
  obtain ⟨xs, m, -, -, hlen, hxl, hg⟩ := DataW.trod_struct Tryd.underlying36 h
  have c1 : Tryd.prog.cellsOf 3 = 1 := by kernel_rfl
  have c2 : Tryd.prog.cellsOf 31 = 17 := by kernel_rfl
  have c3 : Tryd.prog.cellsOf 36 = 18 := by kernel_rfl
  have h0 : DataW.trod enc Tryd.prog W base spare held m 31 ((cs.drop 0).take (Tryd.prog.cellsOf 31)) = xs[0]? := hg 0 _ rfl
  have h1 : DataW.trod enc Tryd.prog W base spare held m 3 ((cs.drop 17).take (Tryd.prog.cellsOf 3)) = xs[1]? := hg 1 _ rfl
  rw [c3] at hlen
  rw [c2, List.drop_zero] at h0
  rw [c1] at h1
  have hx2 : xs.length = 2 := hxl
  match xs, hx2 with
  | [x0, x1], _ =>
    obtain ⟨v, l, hvl, hb, hw⟩ := open_adr_cells (show DataW.trod enc Tryd.prog W base spare held m 31 (cs.take 17) = some x0 from h0)
    obtain ⟨b, hv, -, hwb⟩ := DataW.trod_int Tryd.underlying3 (show DataW.trod enc Tryd.prog W base spare held m 3 ((cs.drop 17).take 1) = some x1 from h1)
    rw [List.take_of_length_le (by rw [List.length_drop]; omega)] at hv
    refine ⟨v, l, b, ?_, hb, hw, hwb⟩
    rw [← List.take_append_drop 17 cs, hvl, hv]
    rfl
end
end Go.Proofs.YtihfaknflfmohaaDoor

/- Plain laws of layer 5, fourth part: what bytes tell. -/
namespace Go.Proofs.YtihfaknflfmohaaDoor
set_option linter.unusedVariables false
set_option linter.unusedSimpArgs false
set_option maxRecDepth 4000

def fullB (b : Int) : Nat := ((b + 7) / 8).toNat
/-- Bytes, noughts behind them: sixteen. -/
def pad (l : List Int) : List Int := l ++ List.replicate (16 - l.length) 0
/-- What the bytes of an address are, of which so many bits may be set. -/
def someE (xs : List Int) (bits : Nat) (wrong : Int) : Int := if xs.length < fullB bits then 7 else if clearA (pad (xs.take (fullB bits))) bits then 0 else wrong
end Go.Proofs.YtihfaknflfmohaaDoor

/- Plain laws of layer 5, fifth part: the prefixes of an address. -/
namespace Go.Proofs.YtihfaknflfmohaaDoor
set_option linter.unusedVariables false
set_option linter.unusedSimpArgs false
set_option maxRecDepth 4000

end Go.Proofs.YtihfaknflfmohaaDoor

/- Plain laws of layer 5, sixth part: there and back. -/
namespace Go.Proofs.YtihfaknflfmohaaDoor
set_option linter.unusedVariables false
set_option linter.unusedSimpArgs false
set_option maxRecDepth 4000

end Go.Proofs.YtihfaknflfmohaaDoor

/- Plain laws of tables (layer 9): rows by rising prefixes; the longest match; set, drop and get. -/
namespace Go.Proofs.YtihfaknflfmohaaDoor
set_option linter.unusedVariables false
set_option linter.unusedSimpArgs false
set_option maxRecDepth 4000

structure Row where
  p : Pfx
  h : Int
def Row.fits (r : Row) : Prop := B16 r.p.l
def Row.okB (r : Row) : Bool := r.p.right && decide (1 ≤ r.h) && decide (r.h ≤ 255)
def rowZ : Row := ⟨⟨0, List.replicate 16 0, 0⟩, 0⟩
def rising : List Row → Bool
  | [] => true
  | [_] => true
  | a :: b :: t => decide (a.p.cmp b.p < 0) && rising (b :: t)
/-- May it be a table? -/
def tabB (t : List Row) : Bool := decide (t.length ≤ 40) && t.all Row.okB && rising t
def rowAt (t : List Row) (i : Nat) : Row := t.getD i rowZ
theorem rowAt_get {t : List Row} {i : Nat} (h : i < t.length) : t[i]? = some (rowAt t i) := by
  simp [rowAt, List.getD_eq_getElem?_getD, h]
theorem rowAt_eq {t : List Row} {i : Nat} {r : Row} (h : t[i]? = some r) : rowAt t i = r := by
  simp [rowAt, List.getD_eq_getElem?_getD, h]

theorem cmp_irrefl (p : Pfx) : ¬ p.cmp p < 0 := by
  have : p.cmp p = 0 := cmpI_refl _
  omega
theorem rising_cons {a : Row} {t : List Row} (h : rising (a :: t) = true) : rising t = true := by
  cases t with
  | nil => rfl
  | cons b t => simp only [rising, Bool.and_eq_true] at h; exact h.2
theorem rising_head {a : Row} : ∀ {t : List Row}, rising (a :: t) = true → ∀ r ∈ t, a.p.cmp r.p < 0
  | [], _, r, hr => by cases hr
  | b :: t, h, r, hr => by
    have h2 := h
    simp only [rising, Bool.and_eq_true, decide_eq_true_eq] at h2
    rcases List.mem_cons.1 hr with rfl | hr
    · exact h2.1
    · exact a.p.cmp_trans b.p r.p h2.1 (rising_head (rising_cons h) r hr)
theorem rising_of_head {a : Row} {t : List Row} (h : ∀ r ∈ t, a.p.cmp r.p < 0) (ht : rising t = true) : rising (a :: t) = true := by
  cases t with
  | nil => rfl
  | cons b t => simp only [rising, Bool.and_eq_true, decide_eq_true_eq]; exact ⟨h b (by simp), ht⟩
/-- Up to a place, by the rows' neighbours. -/
theorem rising_iff (t : List Row) : rising t = true ↔ ∀ i, i + 1 < t.length → (rowAt t i).p.cmp (rowAt t (i + 1)).p < 0 := by
  induction t with
  | nil => simp [rising]
  | cons a t ih =>
    cases t with
    | nil => simp [rising]
    | cons b t =>
      simp only [rising, Bool.and_eq_true, decide_eq_true_eq, ih]
      constructor
      · rintro ⟨h1, h2⟩ i hi
        cases i with
        | zero => exact h1
        | succ i => exact h2 i (by simpa using hi)
      · intro h
        exact ⟨h 0 (by simp), fun i hi => h (i + 1) (by simpa using hi)⟩
theorem tabB_iff (t : List Row) : tabB t = true ↔ t.length ≤ 40 ∧ (∀ i, i < t.length → (rowAt t i).okB = true) ∧ ∀ i, i + 1 < t.length → (rowAt t i).p.cmp (rowAt t (i + 1)).p < 0 := by
  unfold tabB
  simp only [Bool.and_eq_true, decide_eq_true_eq, rising_iff, List.all_eq_true]
  constructor
  · rintro ⟨⟨h1, h2⟩, h3⟩
    exact ⟨h1, fun i hi => h2 _ (List.mem_of_getElem? (rowAt_get hi)), h3⟩
  · rintro ⟨h1, h2, h3⟩
    refine ⟨⟨h1, fun r hr => ?_⟩, h3⟩
    obtain ⟨i, hi, he⟩ := List.getElem_of_mem hr
    have := h2 i hi
    rwa [rowAt_eq (List.getElem?_eq_some_iff.2 ⟨hi, he⟩)] at this

theorem snoc_indG {α : Type} {P : List α → Prop} (h0 : P []) (h1 : ∀ l a, P l → P (l ++ [a])) (l : List α) : P l := by
  have h : ∀ l : List α, P l.reverse := by
    intro l
    induction l with
    | nil => exact h0
    | cons a l ih => rw [List.reverse_cons]; exact h1 _ _ ih
  have := h l.reverse
  rwa [List.reverse_reverse] at this
/-! The longest match. -/
def bestStep (v : Int) (l : List Int) (b : Option Row) (r : Row) : Option Row := if r.p.has v l && (match b with | none => true | some x => decide (x.p.b < r.p.b)) then some r else b
def longest (t : List Row) (v : Int) (l : List Int) : Option Row := t.foldl (bestStep v l) none
theorem longest_snoc (t : List Row) (r : Row) (v : Int) (l : List Int) : longest (t ++ [r]) v l = bestStep v l (longest t v l) r := by simp [longest]
/-- The row at place i matches; none that matches has more bits, and none ahead of it as many. -/
structure Best (t : List Row) (v : Int) (l : List Int) (i : Nat) (r : Row) : Prop where
  at_ : t[i]? = some r
  has : r.p.has v l = true
  top : ∀ j x, t[j]? = some x → x.p.has v l = true → x.p.b ≤ r.p.b ∧ (j < i → x.p.b < r.p.b)
theorem longest_spec (v : Int) (l : List Int) : ∀ t : List Row, (longest t v l = none ∧ ∀ x ∈ t, x.p.has v l = false) ∨ ∃ i r, longest t v l = some r ∧ Best t v l i r := by
  intro t
  refine snoc_indG (P := fun t => (longest t v l = none ∧ ∀ x ∈ t, x.p.has v l = false) ∨ ∃ i r, longest t v l = some r ∧ Best t v l i r) (.inl ⟨rfl, fun x hx => by cases hx⟩) (fun t r ih => ?_) t
  · rw [longest_snoc]
    unfold bestStep
    rcases ih with ⟨h1, h2⟩ | ⟨i, x, h1, h2⟩
    · rw [h1]
      cases hr : r.p.has v l
      · refine .inl ⟨by simp, fun y hy => ?_⟩
        rcases List.mem_append.1 hy with hy | hy
        · exact h2 y hy
        · rw [List.mem_singleton] at hy; rw [hy]; exact hr
      · refine .inr ⟨t.length, r, by simp, by simp, hr, fun j y hj hy => ?_⟩
        rcases Nat.lt_or_ge j t.length with hlt | hge
        · rw [List.getElem?_append_left hlt] at hj
          rw [h2 y (List.mem_of_getElem? hj)] at hy
          cases hy
        · have : j = t.length := by
            have := (List.getElem?_eq_some_iff.1 hj).1
            simp at this
            omega
          subst this
          simp at hj
          subst hj
          exact ⟨Int.le_refl _, fun h => absurd h (Nat.lt_irrefl _)⟩
    · rw [h1]
      have hi : i < t.length := (List.getElem?_eq_some_iff.1 h2.at_).1
      by_cases hb : r.p.has v l = true ∧ x.p.b < r.p.b
      · refine .inr ⟨t.length, r, by simp [hb.1, hb.2], by simp, hb.1, fun j y hj hy => ?_⟩
        rcases Nat.lt_or_ge j t.length with hlt | hge
        · rw [List.getElem?_append_left hlt] at hj
          have := (h2.top j y hj hy).1
          exact ⟨by omega, fun _ => by omega⟩
        · have : j = t.length := by
            have := (List.getElem?_eq_some_iff.1 hj).1
            simp at this
            omega
          subst this
          simp at hj
          subst hj
          exact ⟨Int.le_refl _, fun h => absurd h (Nat.lt_irrefl _)⟩
      · have hno : (r.p.has v l && decide (x.p.b < r.p.b)) = false := by
          rw [Bool.eq_false_iff]
          intro h
          simp only [Bool.and_eq_true, decide_eq_true_eq] at h
          exact hb h
        refine .inr ⟨i, x, by simp [hno], by rw [List.getElem?_append_left hi]; exact h2.at_, h2.has, fun j y hj hy => ?_⟩
        rcases Nat.lt_or_ge j t.length with hlt | hge
        · rw [List.getElem?_append_left hlt] at hj
          exact h2.top j y hj hy
        · have : j = t.length := by
            have := (List.getElem?_eq_some_iff.1 hj).1
            simp at this
            omega
          subst this
          simp at hj
          subst hj
          refine ⟨?_, fun h => by omega⟩
          rcases Int.lt_or_le x.p.b r.p.b with hh | hh
          · exact absurd ⟨hy, hh⟩ hb
          · exact hh
end Go.Proofs.YtihfaknflfmohaaDoor

/- Plain laws of tables (layer 9), second part: set, drop and get. -/
namespace Go.Proofs.YtihfaknflfmohaaDoor
set_option linter.unusedVariables false
set_option linter.unusedSimpArgs false
set_option maxRecDepth 4000

/-- The place of a prefix, or the one that it would have. -/
def lowN (t : List Row) (p : Pfx) : Nat := (t.takeWhile fun r => decide (r.p.cmp p < 0)).length
def thereB (t : List Row) (p : Pfx) : Bool := match t[lowN t p]? with
  | some r => r.p.cmp p == 0
  | none => false
def setT (t : List Row) (p : Pfx) (h : Int) : List Row := t.take (lowN t p) ++ ⟨p, h⟩ :: t.drop (if thereB t p then lowN t p + 1 else lowN t p)
def dropT (t : List Row) (p : Pfx) : List Row := t.take (lowN t p) ++ t.drop (lowN t p + 1)
def getT (t : List Row) (p : Pfx) : Int := if thereB t p then (rowAt t (lowN t p)).h else 0
def Fits (t : List Row) : Prop := ∀ r ∈ t, B16 r.p.l
theorem Fits.tail {a : Row} {t : List Row} (h : Fits (a :: t)) : Fits t := fun r hr => h r (by simp [hr])
theorem cmp_pos {p q : Pfx} (h : ¬ p.cmp q < 0) (h0 : p.cmp q ≠ 0) : q.cmp p < 0 := by
  have := p.cmp_neg q
  omega

theorem lowN_cons (a : Row) (t : List Row) (p : Pfx) : lowN (a :: t) p = if a.p.cmp p < 0 then lowN t p + 1 else 0 := by
  unfold lowN
  rw [List.takeWhile_cons]
  by_cases h : a.p.cmp p < 0
  · simp [h]
  · simp [h]
theorem lowN_le (t : List Row) (p : Pfx) : lowN t p ≤ t.length := by
  induction t with
  | nil => simp [lowN]
  | cons a t ih =>
    rw [lowN_cons]
    split
    · simp; exact ih
    · simp
/-- Behind the place nothing is below the prefix. -/
theorem lowN_spec {t : List Row} (p : Pfx) (ht : rising t = true) (i : Nat) (hi : i < t.length) : (i < lowN t p → (rowAt t i).p.cmp p < 0) ∧ (lowN t p ≤ i → ¬ (rowAt t i).p.cmp p < 0) := by
  induction t generalizing i with
  | nil => simp at hi
  | cons a t ih =>
    rw [lowN_cons]
    by_cases h : a.p.cmp p < 0
    · rw [if_pos h]
      cases i with
      | zero => exact ⟨fun _ => h, fun h => by omega⟩
      | succ i =>
        have := ih (rising_cons ht) i (by simpa using hi)
        exact ⟨fun h => this.1 (by omega), fun h => this.2 (by omega)⟩
    · rw [if_neg h]
      refine ⟨fun h => by omega, fun _ => ?_⟩
      cases i with
      | zero => exact h
      | succ i =>
        intro hlt
        have hm : rowAt t i ∈ t := List.mem_of_getElem? (rowAt_get (by simpa using hi))
        have h1 := rising_head ht _ hm
        exact h (a.p.cmp_trans _ p h1 hlt)
theorem thereB_cons {a : Row} {t : List Row} {p : Pfx} : thereB (a :: t) p = if a.p.cmp p < 0 then thereB t p else a.p.cmp p == 0 := by
  unfold thereB
  rw [lowN_cons]
  by_cases h : a.p.cmp p < 0
  · rw [if_pos h, if_pos h]
    rfl
  · rw [if_neg h, if_neg h]
    rfl
end Go.Proofs.YtihfaknflfmohaaDoor

/- Plain laws of tables (layer 9), third part: tables by what is in them. -/
namespace Go.Proofs.YtihfaknflfmohaaDoor
set_option linter.unusedVariables false
set_option linter.unusedSimpArgs false
set_option maxRecDepth 4000

theorem setT_nil (p : Pfx) (h : Int) : setT [] p h = [⟨p, h⟩] := rfl
theorem setT_cons (a : Row) (t : List Row) (p : Pfx) (h : Int) : setT (a :: t) p h = if a.p.cmp p < 0 then a :: setT t p h else if a.p.cmp p = 0 then ⟨p, h⟩ :: t else ⟨p, h⟩ :: a :: t := by
  unfold setT
  rw [lowN_cons, thereB_cons]
  by_cases h1 : a.p.cmp p < 0
  · rw [if_pos h1, if_pos h1, if_pos h1]
    split <;> rfl
  · rw [if_neg h1, if_neg h1, if_neg h1]
    by_cases h2 : a.p.cmp p = 0
    · rw [if_pos h2, h2]; rfl
    · rw [if_neg h2, if_neg (by simpa using h2)]; rfl
theorem dropT_cons (a : Row) (t : List Row) (p : Pfx) : dropT (a :: t) p = if a.p.cmp p < 0 then a :: dropT t p else t := by
  unfold dropT
  rw [lowN_cons]
  by_cases h1 : a.p.cmp p < 0
  · rw [if_pos h1, if_pos h1]; rfl
  · rw [if_neg h1, if_neg h1]; rfl
theorem getT_cons (a : Row) (t : List Row) (p : Pfx) : getT (a :: t) p = if a.p.cmp p < 0 then getT t p else if a.p.cmp p = 0 then a.h else 0 := by
  unfold getT
  rw [lowN_cons, thereB_cons]
  by_cases h1 : a.p.cmp p < 0
  · rw [if_pos h1, if_pos h1, if_pos h1]; rfl
  · rw [if_neg h1, if_neg h1, if_neg h1]
    by_cases h2 : a.p.cmp p = 0
    · rw [if_pos h2, h2]; rfl
    · rw [if_neg h2, if_neg (by simpa using h2)]
theorem ne_of_cmp {p q : Pfx} (h : p.cmp q ≠ 0) : p ≠ q := fun e => by rw [e] at h; exact h (cmpI_refl _)
theorem eq_of_cmp {p q : Pfx} (hp : B16 p.l) (hq : B16 q.l) (h : p.cmp q = 0) : p = q := (p.cmp_zero q hp hq).1 h
theorem ne_of_lt {p q : Pfx} (h : p.cmp q < 0) : p ≠ q := ne_of_cmp (by omega)

theorem mem_setT {x : Row} {p : Pfx} {h : Int} (hp : B16 p.l) : ∀ {t : List Row}, Fits t → rising t = true → (x ∈ setT t p h ↔ x = ⟨p, h⟩ ∨ (x ∈ t ∧ x.p ≠ p))
  | [], _, _ => by rw [setT_nil]; simp
  | a :: t, hf, ht => by
    have ih := mem_setT (x := x) (h := h) hp hf.tail (rising_cons ht)
    have hh := rising_head ht
    rw [setT_cons]
    by_cases h1 : a.p.cmp p < 0
    · rw [if_pos h1, List.mem_cons, List.mem_cons, ih]
      constructor
      · rintro (rfl | rfl | h)
        · exact .inr ⟨.inl rfl, ne_of_lt h1⟩
        · exact .inl rfl
        · exact .inr ⟨.inr h.1, h.2⟩
      · rintro (rfl | ⟨rfl | h, hn⟩)
        · exact .inr (.inl rfl)
        · exact .inl rfl
        · exact .inr (.inr ⟨h, hn⟩)
    · rw [if_neg h1]
      by_cases h2 : a.p.cmp p = 0
      · have he := eq_of_cmp (hf a (by simp)) hp h2
        rw [if_pos h2, List.mem_cons, List.mem_cons]
        constructor
        · rintro (rfl | hm)
          · exact .inl rfl
          · refine .inr ⟨.inr hm, fun e => ?_⟩
            have := hh x hm
            rw [he, e] at this
            exact cmp_irrefl p this
        · rintro (rfl | ⟨rfl | hm, hn⟩)
          · exact .inl rfl
          · exact absurd he hn
          · exact .inr hm
      · have hgt := cmp_pos h1 h2
        rw [if_neg h2, List.mem_cons, List.mem_cons]
        constructor
        · rintro (rfl | rfl | hm)
          · exact .inl rfl
          · exact .inr ⟨.inl rfl, ne_of_cmp h2⟩
          · refine .inr ⟨.inr hm, fun e => ?_⟩
            have := p.cmp_trans a.p x.p hgt (hh x hm)
            rw [e] at this
            exact cmp_irrefl p this
        · rintro (rfl | ⟨hm, _⟩)
          · exact .inl rfl
          · exact .inr hm
theorem rising_setT {p : Pfx} {h : Int} (hp : B16 p.l) : ∀ {t : List Row}, Fits t → rising t = true → rising (setT t p h) = true
  | [], _, _ => rfl
  | a :: t, hf, ht => by
    have ih := rising_setT (h := h) hp hf.tail (rising_cons ht)
    have hh := rising_head ht
    rw [setT_cons]
    by_cases h1 : a.p.cmp p < 0
    · rw [if_pos h1]
      refine rising_of_head (fun r hr => ?_) ih
      rcases (mem_setT hp hf.tail (rising_cons ht)).1 hr with rfl | ⟨hm, _⟩
      · exact h1
      · exact hh r hm
    · rw [if_neg h1]
      by_cases h2 : a.p.cmp p = 0
      · have he := eq_of_cmp (hf a (by simp)) hp h2
        rw [if_pos h2]
        refine rising_of_head (fun r hr => ?_) (rising_cons ht)
        show p.cmp r.p < 0
        rw [← he]
        exact hh r hr
      · have hgt := cmp_pos h1 h2
        rw [if_neg h2]
        refine rising_of_head (fun r hr => ?_) ht
        rcases List.mem_cons.1 hr with rfl | hr
        · exact hgt
        · exact p.cmp_trans a.p r.p hgt (hh r hr)
theorem mem_dropT_of {x : Row} {p : Pfx} : ∀ {t : List Row}, x ∈ dropT t p → x ∈ t
  | [], h => h
  | a :: t, h => by
    rw [dropT_cons] at h
    split at h
    · rcases List.mem_cons.1 h with rfl | h
      · simp
      · exact List.mem_cons_of_mem _ (mem_dropT_of h)
    · exact List.mem_cons_of_mem _ h
theorem rising_dropT {p : Pfx} : ∀ {t : List Row}, rising t = true → rising (dropT t p) = true
  | [], _ => rfl
  | a :: t, ht => by
    rw [dropT_cons]
    split
    · exact rising_of_head (fun r hr => rising_head ht r (mem_dropT_of hr)) (rising_dropT (rising_cons ht))
    · exact rising_cons ht
theorem there_iff {p : Pfx} (hp : B16 p.l) : ∀ {t : List Row}, Fits t → rising t = true → (thereB t p = true ↔ ∃ x ∈ t, x.p = p)
  | [], _, _ => by simp [thereB]
  | a :: t, hf, ht => by
    have ih := there_iff hp hf.tail (rising_cons ht)
    have hh := rising_head ht
    rw [thereB_cons]
    by_cases h1 : a.p.cmp p < 0
    · rw [if_pos h1, ih]
      constructor
      · rintro ⟨x, hm, he⟩
        exact ⟨x, List.mem_cons_of_mem _ hm, he⟩
      · rintro ⟨x, hm, he⟩
        rcases List.mem_cons.1 hm with rfl | hm
        · exact absurd he (ne_of_lt h1)
        · exact ⟨x, hm, he⟩
    · rw [if_neg h1]
      constructor
      · intro h
        exact ⟨a, by simp, eq_of_cmp (hf a (by simp)) hp (by simpa using h)⟩
      · rintro ⟨x, hm, he⟩
        rcases List.mem_cons.1 hm with rfl | hm
        · have hz : p.cmp p = 0 := cmpI_refl _
          rw [he, hz]; rfl
        · have := hh x hm
          rw [he] at this
          exact absurd this h1
theorem getT_mem {p : Pfx} (hp : B16 p.l) : ∀ {t : List Row}, Fits t → thereB t p = true → ⟨p, getT t p⟩ ∈ t
  | [], _, h => by cases h
  | a :: t, hf, h => by
    rw [thereB_cons] at h
    rw [getT_cons]
    by_cases h1 : a.p.cmp p < 0
    · rw [if_pos h1] at h ⊢
      exact List.mem_cons_of_mem _ (getT_mem hp hf.tail h)
    · rw [if_neg h1] at h ⊢
      have h2 : a.p.cmp p = 0 := by simpa using h
      rw [if_pos h2, ← eq_of_cmp (hf a (by simp)) hp h2]
      simp
theorem mem_unique {x y : Row} : ∀ {t : List Row}, rising t = true → x ∈ t → y ∈ t → x.p = y.p → x = y
  | [], _, h, _, _ => by cases h
  | a :: t, ht, hx, hy, he => by
    have hh := rising_head ht
    rcases List.mem_cons.1 hx with e1 | m1
    · rcases List.mem_cons.1 hy with e2 | m2
      · rw [e1, e2]
      · have := hh y m2
        rw [← he, e1] at this
        exact absurd this (cmp_irrefl _)
    · rcases List.mem_cons.1 hy with e2 | m2
      · have := hh x m1
        rw [he, e2] at this
        exact absurd this (cmp_irrefl _)
      · exact mem_unique (rising_cons ht) m1 m2 he
theorem getT_of {p : Pfx} {h : Int} (hp : B16 p.l) {t : List Row} (hf : Fits t) (ht : rising t = true) (hm : (⟨p, h⟩ : Row) ∈ t) : getT t p = h := by
  have hth := (there_iff hp hf ht).2 ⟨_, hm, rfl⟩
  have := mem_unique ht (getT_mem hp hf hth) hm rfl
  exact congrArg Row.h this
theorem getT_no {t : List Row} {p : Pfx} (h : thereB t p = false) : getT t p = 0 := by unfold getT; rw [h]; rfl
/-- Tables are told by what is in them. -/
theorem rising_ext : ∀ {t u : List Row}, rising t = true → rising u = true → (∀ x, x ∈ t ↔ x ∈ u) → t = u
  | [], [], _, _, _ => rfl
  | [], b :: u, _, _, h => by have := (h b).2 (by simp); cases this
  | a :: t, [], _, _, h => by have := (h a).1 (by simp); cases this
  | a :: t, b :: u, ht, hu, h => by
    have ha := rising_head ht
    have hb := rising_head hu
    have hab : a = b := by
      rcases List.mem_cons.1 ((h a).1 (by simp)) with e | e
      · exact e
      · rcases List.mem_cons.1 ((h b).2 (by simp)) with k | k
        · exact k.symm
        · have h1 := ha b k
          have h2 := hb a e
          exact absurd (a.p.cmp_trans b.p a.p h1 h2) (cmp_irrefl _)
    subst hab
    rw [rising_ext (rising_cons ht) (rising_cons hu) (fun x => ?_)]
    constructor
    · intro hx
      rcases List.mem_cons.1 ((h x).1 (List.mem_cons_of_mem _ hx)) with rfl | hm
      · exact absurd (ha _ hx) (cmp_irrefl _)
      · exact hm
    · intro hx
      rcases List.mem_cons.1 ((h x).2 (List.mem_cons_of_mem _ hx)) with rfl | hm
      · exact absurd (hb _ hx) (cmp_irrefl _)
      · exact hm
theorem len_setT {p : Pfx} {h : Int} : ∀ t : List Row, (setT t p h).length = if thereB t p then t.length else t.length + 1
  | [] => rfl
  | a :: t => by
    have ih := len_setT (p := p) (h := h) t
    rw [setT_cons, thereB_cons]
    by_cases h1 : a.p.cmp p < 0
    · rw [if_pos h1, if_pos h1, List.length_cons, ih]
      split <;> rfl
    · rw [if_neg h1, if_neg h1]
      by_cases h2 : a.p.cmp p = 0
      · rw [if_pos h2, h2]; rfl
      · rw [if_neg h2, if_neg (by simpa using h2)]; rfl
theorem len_dropT {p : Pfx} : ∀ t : List Row, (dropT t p).length ≤ t.length
  | [] => Nat.le_refl _
  | a :: t => by
    have ih := len_dropT (p := p) t
    rw [dropT_cons]
    split
    · simp; exact ih
    · simp
theorem tabB_of {t : List Row} (h1 : t.length ≤ 40) (h2 : ∀ r ∈ t, r.okB = true) (h3 : rising t = true) : tabB t = true := by
  unfold tabB
  simp only [Bool.and_eq_true, decide_eq_true_eq, List.all_eq_true]
  exact ⟨⟨h1, h2⟩, h3⟩
theorem tabB_to {t : List Row} (h : tabB t = true) : t.length ≤ 40 ∧ (∀ r ∈ t, r.okB = true) ∧ rising t = true := by
  unfold tabB at h
  simp only [Bool.and_eq_true, decide_eq_true_eq, List.all_eq_true] at h
  exact ⟨h.1.1, h.1.2, h.2⟩
theorem okB_iff (r : Row) : r.okB = true ↔ r.p.right = true ∧ 1 ≤ r.h ∧ r.h ≤ 255 := by
  unfold Row.okB
  simp only [Bool.and_eq_true, decide_eq_true_eq]
  exact ⟨fun h => ⟨h.1.1, h.1.2, h.2⟩, fun h => ⟨⟨h.1, h.2.1⟩, h.2.2⟩⟩
theorem tabB_setT {t : List Row} {p : Pfx} {h : Int} (hp : B16 p.l) (hf : Fits t) (ht : tabB t = true) (hr : p.right = true) (h1 : 1 ≤ h) (h2 : h ≤ 255) (hl : thereB t p = true ∨ t.length ≠ 40) : tabB (setT t p h) = true := by
  obtain ⟨k1, k2, k3⟩ := tabB_to ht
  refine tabB_of ?_ (fun r hm => ?_) (rising_setT hp hf k3)
  · rw [len_setT]
    split
    · exact k1
    · rename_i hn
      rcases hl with hl | hl
      · exact absurd hl hn
      · omega
  · rcases (mem_setT hp hf k3).1 hm with rfl | ⟨hm, _⟩
    · exact (okB_iff _).2 ⟨hr, h1, h2⟩
    · exact k2 r hm
theorem tabB_dropT {t : List Row} {p : Pfx} (ht : tabB t = true) : tabB (dropT t p) = true := by
  obtain ⟨k1, k2, k3⟩ := tabB_to ht
  exact tabB_of (Nat.le_trans (len_dropT t) k1) (fun r hm => k2 r (mem_dropT_of hm)) (rising_dropT k3)
/-! The longest match, by what is in a table. -/
/-! Set, dropped, got. -/
end Go.Proofs.YtihfaknflfmohaaDoor

/- Plain laws of tables (layer 9), fifth part: what two have not alike. -/
namespace Go.Proofs.YtihfaknflfmohaaDoor
set_option linter.unusedVariables false
set_option linter.unusedSimpArgs false
set_option maxRecDepth 4000

/-- Rows of two tables, side by side. -/
def mrg : List Row → List Row → List Pfx
  | [], [] => []
  | a :: t, [] => a.p :: mrg t []
  | [], b :: u => b.p :: mrg [] u
  | a :: t, b :: u => if a.p.cmp b.p < 0 then a.p :: mrg t (b :: u) else if a.p.cmp b.p = 0 then (if a.h = b.h then mrg t u else a.p :: mrg t u) else b.p :: mrg (a :: t) u
termination_by t u => t.length + u.length
/-- Prefixes, rising. -/
def risingP (l : List Pfx) : Prop := rising (l.map fun p => ⟨p, 1⟩) = true
theorem risingP_of {p : Pfx} {l : List Pfx} (h : ∀ q ∈ l, p.cmp q < 0) (hl : risingP l) : risingP (p :: l) := by
  refine rising_of_head (a := ⟨p, 1⟩) (fun r hr => ?_) hl
  obtain ⟨q, hq, rfl⟩ := List.mem_map.1 hr
  exact h q hq
/-- A table of hops that stand. -/
structure Tab (t : List Row) : Prop where
  fits : Fits t
  up : rising t = true
  hop : ∀ r ∈ t, 1 ≤ r.h
theorem Tab.tail {a : Row} {t : List Row} (h : Tab (a :: t)) : Tab t := ⟨h.fits.tail, rising_cons h.up, fun r hr => h.hop r (by simp [hr])⟩
theorem Tab.of {t : List Row} (hf : Fits t) (h : tabB t = true) : Tab t := ⟨hf, (tabB_to h).2.2, fun r hr => ((okB_iff r).1 ((tabB_to h).2.1 r hr)).2.1⟩
theorem getT_nil (p : Pfx) : getT [] p = 0 := rfl
theorem getT_below {a : Row} {t : List Row} {p : Pfx} (ht : rising (a :: t) = true) (h : p.cmp a.p < 0) : getT (a :: t) p = 0 := by
  have h1 := a.p.cmp_neg p
  rw [getT_cons, if_neg (by omega), if_neg (by omega)]
theorem getT_self (a : Row) (t : List Row) : getT (a :: t) a.p = a.h := by
  have : a.p.cmp a.p = 0 := cmpI_refl _
  rw [getT_cons, if_neg (by omega), if_pos this]
theorem getT_above {a : Row} {t : List Row} {p : Pfx} (h : a.p.cmp p < 0) : getT (a :: t) p = getT t p := by rw [getT_cons, if_pos h]
theorem cmp_tri (p q : Pfx) : p.cmp q < 0 ∨ p.cmp q = 0 ∨ q.cmp p < 0 := by
  have := p.cmp_neg q
  omega
/-- What mrg bears: prefixes of either that they have not alike, rising. -/
theorem mrg_spec : ∀ t u : List Row, Tab t → Tab u → risingP (mrg t u) ∧ (∀ p ∈ mrg t u, ∃ x, (x ∈ t ∨ x ∈ u) ∧ x.p = p) ∧ ∀ p, B16 p.l → (p ∈ mrg t u ↔ getT t p ≠ getT u p)
  | [], [], _, _ => by
    rw [mrg]
    refine ⟨rfl, fun p hp => ?_, fun p _ => ⟨fun h => ?_, fun h => absurd rfl h⟩⟩
    · cases hp
    · cases h
  | a :: t, [], ht, hu => by
    obtain ⟨h1, h2, h3⟩ := mrg_spec t [] ht.tail hu
    have hh := rising_head ht.up
    rw [mrg]
    refine ⟨risingP_of (fun q hq => ?_) h1, fun p hp => ?_, fun p hp => ?_⟩
    · obtain ⟨x, hx, rfl⟩ := h2 q hq
      rcases hx with hx | hx
      · exact hh x hx
      · cases hx
    · rcases List.mem_cons.1 hp with rfl | hp
      · exact ⟨a, .inl (by simp), rfl⟩
      · obtain ⟨x, hx, e⟩ := h2 p hp
        rcases hx with hx | hx
        · exact ⟨x, .inl (by simp [hx]), e⟩
        · cases hx
    · rw [List.mem_cons]
      rcases cmp_tri a.p p with h | h | h
      · rw [getT_above h, ← h3 p hp]
        exact ⟨fun k => k.resolve_left (ne_of_lt h).symm, .inr⟩
      · have e := eq_of_cmp (ht.fits a (by simp)) hp h
        subst e
        have := ht.hop a (by simp)
        rw [getT_self, getT_nil]
        exact ⟨fun _ => by omega, fun _ => .inl rfl⟩
      · rw [getT_below ht.up h, getT_nil]
        refine ⟨fun k => ?_, fun k => absurd rfl k⟩
        rcases k with k | k
        · rw [k] at h; exact absurd h (cmp_irrefl _)
        · obtain ⟨x, hx, e⟩ := h2 p k
          rcases hx with hx | hx
          · have := p.cmp_trans a.p x.p h (hh x hx)
            rw [e] at this
            exact absurd this (cmp_irrefl _)
          · cases hx
  | [], b :: u, ht, hu => by
    obtain ⟨h1, h2, h3⟩ := mrg_spec [] u ht hu.tail
    have hh := rising_head hu.up
    rw [mrg]
    refine ⟨risingP_of (fun q hq => ?_) h1, fun p hp => ?_, fun p hp => ?_⟩
    · obtain ⟨x, hx, rfl⟩ := h2 q hq
      rcases hx with hx | hx
      · cases hx
      · exact hh x hx
    · rcases List.mem_cons.1 hp with rfl | hp
      · exact ⟨b, .inr (by simp), rfl⟩
      · obtain ⟨x, hx, e⟩ := h2 p hp
        rcases hx with hx | hx
        · cases hx
        · exact ⟨x, .inr (by simp [hx]), e⟩
    · rw [List.mem_cons]
      rcases cmp_tri b.p p with h | h | h
      · rw [getT_above h, ← h3 p hp]
        exact ⟨fun k => k.resolve_left (ne_of_lt h).symm, .inr⟩
      · have e := eq_of_cmp (hu.fits b (by simp)) hp h
        subst e
        have := hu.hop b (by simp)
        rw [getT_self, getT_nil]
        exact ⟨fun _ => by omega, fun _ => .inl rfl⟩
      · rw [getT_below hu.up h, getT_nil]
        refine ⟨fun k => ?_, fun k => absurd rfl k⟩
        rcases k with k | k
        · rw [k] at h; exact absurd h (cmp_irrefl _)
        · obtain ⟨x, hx, e⟩ := h2 p k
          rcases hx with hx | hx
          · cases hx
          · have := p.cmp_trans b.p x.p h (hh x hx)
            rw [e] at this
            exact absurd this (cmp_irrefl _)
  | a :: t, b :: u, ht, hu => by
    have ha := rising_head ht.up
    have hb := rising_head hu.up
    rw [mrg]
    by_cases hab : a.p.cmp b.p < 0
    · obtain ⟨h1, h2, h3⟩ := mrg_spec t (b :: u) ht.tail hu
      rw [if_pos hab]
      have hlow : ∀ q ∈ mrg t (b :: u), a.p.cmp q < 0 := by
        intro q hq
        obtain ⟨x, hx, rfl⟩ := h2 q hq
        rcases hx with hx | hx
        · exact ha x hx
        · rcases List.mem_cons.1 hx with rfl | hx
          · exact hab
          · exact a.p.cmp_trans b.p x.p hab (hb x hx)
      refine ⟨risingP_of hlow h1, fun p hp => ?_, fun p hp => ?_⟩
      · rcases List.mem_cons.1 hp with rfl | hp
        · exact ⟨a, .inl (by simp), rfl⟩
        · obtain ⟨x, hx, e⟩ := h2 p hp
          exact ⟨x, hx.imp_left (fun h => by simp [h]), e⟩
      · rw [List.mem_cons]
        rcases cmp_tri a.p p with h | h | h
        · rw [getT_above h, ← h3 p hp]
          exact ⟨fun k => k.resolve_left (ne_of_lt h).symm, .inr⟩
        · have e := eq_of_cmp (ht.fits a (by simp)) hp h
          subst e
          have := ht.hop a (by simp)
          rw [getT_self, getT_below hu.up hab]
          exact ⟨fun _ => by omega, fun _ => .inl rfl⟩
        · rw [getT_below ht.up h, getT_below hu.up (p.cmp_trans a.p b.p h hab)]
          refine ⟨fun k => ?_, fun k => absurd rfl k⟩
          rcases k with k | k
          · rw [k] at h; exact absurd h (cmp_irrefl _)
          · exact absurd (p.cmp_trans a.p p h (hlow p k)) (cmp_irrefl _)
    · rw [if_neg hab]
      by_cases hz : a.p.cmp b.p = 0
      · have e := eq_of_cmp (ht.fits a (by simp)) (hu.fits b (by simp)) hz
        obtain ⟨h1, h2, h3⟩ := mrg_spec t u ht.tail hu.tail
        have hlow : ∀ q ∈ mrg t u, a.p.cmp q < 0 := by
          intro q hq
          obtain ⟨x, hx, rfl⟩ := h2 q hq
          rcases hx with hx | hx
          · exact ha x hx
          · rw [e]; exact hb x hx
        rw [if_pos hz]
        by_cases hh : a.h = b.h
        · rw [if_pos hh]
          refine ⟨h1, fun p hp => ?_, fun p hp => ?_⟩
          · obtain ⟨x, hx, ex⟩ := h2 p hp
            exact ⟨x, hx.imp (fun h => by simp [h]) (fun h => by simp [h]), ex⟩
          · rcases cmp_tri a.p p with h | h | h
            · rw [getT_above h, getT_above (by rw [← e]; exact h), h3 p hp]
            · have e2 := eq_of_cmp (ht.fits a (by simp)) hp h
              subst e2
              rw [getT_self, e, getT_self, hh]
              refine ⟨fun k => ?_, fun k => absurd rfl k⟩
              have := hlow b.p k
              rw [e] at this
              exact absurd this (cmp_irrefl _)
            · rw [getT_below ht.up h, getT_below hu.up (by rw [← e]; exact h)]
              refine ⟨fun k => ?_, fun k => absurd rfl k⟩
              exact absurd (p.cmp_trans a.p p h (hlow p k)) (cmp_irrefl _)
        · rw [if_neg hh]
          refine ⟨risingP_of hlow h1, fun p hp => ?_, fun p hp => ?_⟩
          · rcases List.mem_cons.1 hp with rfl | hp
            · exact ⟨a, .inl (by simp), rfl⟩
            · obtain ⟨x, hx, ex⟩ := h2 p hp
              exact ⟨x, hx.imp (fun h => by simp [h]) (fun h => by simp [h]), ex⟩
          · rw [List.mem_cons]
            rcases cmp_tri a.p p with h | h | h
            · rw [getT_above h, getT_above (by rw [← e]; exact h), ← h3 p hp]
              exact ⟨fun k => k.resolve_left (ne_of_lt h).symm, .inr⟩
            · have e2 := eq_of_cmp (ht.fits a (by simp)) hp h
              subst e2
              rw [getT_self, e, getT_self]
              exact ⟨fun _ => hh, fun _ => .inl rfl⟩
            · rw [getT_below ht.up h, getT_below hu.up (by rw [← e]; exact h)]
              refine ⟨fun k => ?_, fun k => absurd rfl k⟩
              rcases k with k | k
              · rw [k] at h; exact absurd h (cmp_irrefl _)
              · exact absurd (p.cmp_trans a.p p h (hlow p k)) (cmp_irrefl _)
      · have hba := cmp_pos hab hz
        obtain ⟨h1, h2, h3⟩ := mrg_spec (a :: t) u ht hu.tail
        rw [if_neg hz]
        have hlow : ∀ q ∈ mrg (a :: t) u, b.p.cmp q < 0 := by
          intro q hq
          obtain ⟨x, hx, rfl⟩ := h2 q hq
          rcases hx with hx | hx
          · rcases List.mem_cons.1 hx with rfl | hx
            · exact hba
            · exact b.p.cmp_trans a.p x.p hba (ha x hx)
          · exact hb x hx
        refine ⟨risingP_of hlow h1, fun p hp => ?_, fun p hp => ?_⟩
        · rcases List.mem_cons.1 hp with rfl | hp
          · exact ⟨b, .inr (by simp), rfl⟩
          · obtain ⟨x, hx, e⟩ := h2 p hp
            exact ⟨x, hx.imp_right (fun h => by simp [h]), e⟩
        · rw [List.mem_cons]
          rcases cmp_tri b.p p with h | h | h
          · rw [getT_above h, ← h3 p hp]
            exact ⟨fun k => k.resolve_left (ne_of_lt h).symm, .inr⟩
          · have e := eq_of_cmp (hu.fits b (by simp)) hp h
            subst e
            have := hu.hop b (by simp)
            rw [getT_self, getT_below ht.up hba]
            exact ⟨fun _ => by omega, fun _ => .inl rfl⟩
          · rw [getT_below hu.up h, getT_below ht.up (p.cmp_trans b.p a.p h hba)]
            refine ⟨fun k => ?_, fun k => absurd rfl k⟩
            rcases k with k | k
            · rw [k] at h; exact absurd h (cmp_irrefl _)
            · exact absurd (p.cmp_trans b.p p h (hlow p k)) (cmp_irrefl _)
termination_by t u => t.length + u.length
end Go.Proofs.YtihfaknflfmohaaDoor

/- Rows of a table in memory: by value (19 cells), in a block, in a slice. -/
namespace Go.Proofs.YtihfaknflfmohaaDoor
open Go.RowKit
set_option linter.unusedVariables false
set_option linter.unusedSimpArgs false
set_option maxRecDepth 4000

def rowC (r : Row) : List Value := .int .i64 r.p.v :: (nums .u8 r.p.l ++ [.int .i64 r.p.b, .int .i64 r.h])
def rowV (r : Row) : Array Value := (rowC r).toArray
theorem rowC_len {r : Row} (h : r.fits) : (rowC r).length = 19 := by simp [rowC, nums, h.len]
theorem rowV_size {r : Row} (h : r.fits) : (rowV r).size = 19 := by simp [rowV, rowC_len h]
theorem rowC_one (r : Row) : ∀ u ∈ rowC r, u.oneCell' = true := by
  intro u hu
  simp only [rowC, List.mem_cons, List.mem_append, List.not_mem_nil, or_false] at hu
  rcases hu with rfl | hu | rfl | rfl
  · rfl
  · exact nums_one _ _ u hu
  · rfl
  · rfl
theorem rowV_one (r : Row) : (rowV r).all (·.oneCell') = true := by simp [rowV, rowC, nums, Value.oneCell']
theorem rowV_list (r : Row) : (rowV r).toList = rowC r := rfl
theorem pfxV_list (v : Int) (l : List Int) (b : Int) : (pfxV v l b).toList = .int .i64 v :: (nums .u8 l ++ [.int .i64 b]) := rfl
theorem adrV_list (v : Int) (l : List Int) : (adrV v l).toList = .int .i64 v :: nums .u8 l := rfl
theorem info_row {r : Row} (h : r.fits) : (Tryd.prog.info? 38).map (·.size) = some (rowV r).size := by rw [rowV_size h]; kernel_rfl
/-- What loads of a row tell. -/
structure RowLd (w : World) (g o : Nat) (r : Row) : Prop where
  row : (Instr.loadAt 38 (.pointer (some ⟨g, o, none⟩))).run Tryd.prog w = .ok (.agg (rowV r)) w
  pfx : (Instr.loadAt 36 (.pointer (some ⟨g, o, none⟩))).run Tryd.prog w = .ok (.agg (pfxV r.p.v r.p.l r.p.b)) w
  adr : (Instr.loadAt 31 (.pointer (some ⟨g, o, none⟩))).run Tryd.prog w = .ok (.agg (adrV r.p.v r.p.l)) w
  ver : (Instr.loadAt 3 (.pointer (some ⟨g, o, none⟩))).run Tryd.prog w = .ok (.int .i64 r.p.v) w
  bts : (Instr.loadAt 29 (.pointer (some ⟨g, o + 1, none⟩))).run Tryd.prog w = .ok (.agg (arrV r.p.l)) w
  bit : (Instr.loadAt 3 (.pointer (some ⟨g, o + 17, none⟩))).run Tryd.prog w = .ok (.int .i64 r.p.b) w
  hop : (Instr.loadAt 3 (.pointer (some ⟨g, o + 18, none⟩))).run Tryd.prog w = .ok (.int .i64 r.h) w
theorem rowLd_of {w : World} {g o : Nat} {r : Row} (hf : r.fits) (h : CellsAt w g o (rowC r)) : RowLd w g o r := by
  have hn : (nums .u8 r.p.l).length = 16 := by rw [nums_length]; exact hf.len
  have e : rowC r = (pfxV r.p.v r.p.l r.p.b).toList ++ [.int .i64 r.h] := by rw [pfxV_list]; simp [rowC]
  have e2 : (pfxV r.p.v r.p.l r.p.b).toList = (adrV r.p.v r.p.l).toList ++ [.int .i64 r.p.b] := by rw [pfxV_list, adrV_list]; rfl
  have h1 : CellsAt w g o (pfxV r.p.v r.p.l r.p.b).toList := by rw [e] at h; exact h.left
  have h2 : CellsAt w g o (adrV r.p.v r.p.l).toList := by rw [e2] at h1; exact h1.left
  have h3 : CellsAt w g (o + 1) (arrV r.p.l).toList := by
    have := CellsAt.mid [Value.int .i64 r.p.v] (ys := nums .u8 r.p.l) (zs := []) (w := w) (b := g) (o := o) (by rw [List.append_nil]; exact h2)
    exact this
  refine ⟨load_cells (cs := rowV r) h Tryd.underlying38 rfl (info_row hf), load_cells h1 Tryd.underlying36 rfl (info_pfx hf.len), load_cells h2 Tryd.underlying31 rfl (info_adr hf.len), ?_, load_cells h3 Tryd.underlying29 rfl (info_arr hf.len), ?_, ?_⟩
  · exact load_int (h 0 _ rfl)
  · refine load_int (h 17 _ ?_)
    unfold rowC
    rw [List.getElem?_cons_succ, List.getElem?_append_right (by omega), hn]
    rfl
  · refine load_int (h 18 _ ?_)
    unfold rowC
    rw [List.getElem?_cons_succ, List.getElem?_append_right (by omega), hn]
    rfl

/-- What lies in a block that holds a row, in every world that goes on from one. -/
structure RowAt (w : World) (g : Nat) (r : Row) : Prop where
  all : ∀ w0, Below w.heap.size w w0 → RowLd w0 g 0 r
theorem row_at {w : World} {g : Nat} {t : TypeId} {r : Row} (hr : r.fits) (h : w.heap[g]? = some (.cells (rowV r) t (0, 0))) : RowAt w g r :=
  ⟨fun w0 hb => rowLd_of hr (cells_blk (blk_below h hb))⟩
/-- A table by value: its rows. -/
def tabV (A : Option Addr) (n c : Nat) : Array Value := #[.slice A n c]
theorem load_rows {w : World} {ad : Addr} {v : Value} (h : w.cell? ad = some v) : (Instr.loadAt 26 (.pointer (some ad))).run Tryd.prog w = .ok v w := by
  go_simp
structure TabAt (w : World) (g : Nat) (A : Option Addr) (n c : Nat) : Prop where
  all : ∀ w0, Below w.heap.size w w0 → (Instr.loadAt 28 (.pointer (some ⟨g, 0, none⟩))).run Tryd.prog w0 = .ok (.agg (tabV A n c)) w0 ∧ (Instr.loadAt 26 (.pointer (some ⟨g, 0, none⟩))).run Tryd.prog w0 = .ok (.slice A n c) w0
theorem tab_at {w : World} {g : Nat} {A : Option Addr} {n c : Nat} (h : w.heap[g]? = some (.cells (tabV A n c) 28 (0, 0))) : TabAt w g A n c := by
  refine ⟨fun w0 hb => ?_⟩
  have h0 := cells_blk (blk_below h hb)
  exact ⟨load_cells h0 Tryd.underlying28 rfl (by kernel_rfl), load_rows (h0 0 _ rfl)⟩

/-! Rows of a slice. -/
theorem zero_row : (Tryd.prog.info? 38).map (fun i => (i.zero, i.size, i.bytes)) = some (some (.agg (rowV rowZ)), 19, 40) := by kernel_rfl
def rowK : Shape Row where
  t := 38
  ts := 26
  sz := 19
  bytes := 40
  z := rowZ
  ok := Row.fits
  enc := rowC
  val := fun r => .agg (rowV r)
  len := fun _ h => rowC_len h
  one := rowC_one
  okz := zero16_B
  pos := by omega
  bpos := by omega
  blt := by omega
  und := Tryd.underlying26
  info := zero_row
  venc := fun _ => rfl
  ld := fun _ _ _ r hr h => load_cells (cs := rowV r) h Tryd.underlying38 rfl (info_row hr)
/-- A slice of rows, read. -/
abbrev RT (w : World) (A : Option Addr) (n c : Nat) (t : List Row) : Prop := RS rowK w A n c t
/-- A slice of rows of the call's own. -/
abbrev OT (w : World) (base : Nat) (A : Option Addr) (n c : Nat) (t : List Row) : Prop := OS rowK w base A n c t
theorem Fits.take {t : List Row} (h : Fits t) (n : Nat) : Fits (t.take n) := fun r hr => h r (List.mem_of_mem_take hr)
theorem Fits.drop {t : List Row} (h : Fits t) (n : Nat) : Fits (t.drop n) := fun r hr => h r (List.mem_of_mem_drop hr)
theorem Fits.append {t u : List Row} (h : Fits t) (k : Fits u) : Fits (t ++ u) := fun r hr => (List.mem_append.1 hr).elim (h r) (k r)
theorem Fits.at_ {t : List Row} (h : Fits t) {i : Nat} (hi : i < t.length) : (rowAt t i).fits := h _ (List.mem_of_getElem? (rowAt_get hi))
theorem RT.at_ {w : World} {A : Option Addr} {n c : Nat} {t : List Row} (h : RT w A n c t) (hp : 0 < n) : ∃ b o, A = some ⟨b, o, none⟩ ∧ ∀ i, i < n → CellsAt w b (o + i * 19) (rowC (rowAt t i)) := RS.at_ h hp
theorem RT.fits_at {w : World} {A : Option Addr} {n c : Nat} {t : List Row} (h : RT w A n c t) {i : Nat} (hi : i < n) : (rowAt t i).fits := RS.fits_at h hi
theorem RT.fits {w : World} {A : Option Addr} {n c : Nat} {t : List Row} (h : RT w A n c t) : Fits t := RS.fits h

/-! Rows, built and held equal. -/
theorem built_row (p : Pfx) (h : Int) (hl : p.l.length = 16) : Tryd.prog.built 38 [(0, .agg (pfxV p.v p.l p.b)), (1, .int .i64 h)] = some (rowV ⟨p, h⟩) := by
  obtain ⟨a, b, c, d, e, f, g, h1, i, j, k, m, n, o, q, r, hh⟩ := len16 hl
  obtain ⟨v, l, x⟩ := p
  simp only at hh
  subst hh
  kernel_rfl
theorem run_build_row (w : World) (p : Pfx) (h : Int) (hl : p.l.length = 16) : (Instr.build 38 #[(0, .agg (pfxV p.v p.l p.b)), (1, .int .i64 h)]).run Tryd.prog w = .ok (.agg (rowV ⟨p, h⟩)) w := run_build w _ _ _ (built_row p h hl)
theorem run_build_row_nil (w : World) : (Instr.build 38 #[]).run Tryd.prog w = .ok (.agg (rowV rowZ)) w := run_build w _ _ _ (by kernel_rfl)
structure Row.ok (r : Row) : Prop where
  p : r.p.ok
  h : (Lit.int .i64 r.h).wf = true
theorem Row.ok.fits {r : Row} (h : r.ok) : r.fits := h.p.l
def Row.eqB (r s : Row) : Bool := r.p.eqB s.p && decide (r.h = s.h)
theorem Row.eqB_iff (r s : Row) : r.eqB s = true ↔ r = s := by
  unfold Row.eqB
  simp only [Bool.and_eq_true, decide_eq_true_eq, Pfx.eqB_iff]
  constructor
  · rintro ⟨h1, h2⟩
    cases r; cases s
    simp_all
  · rintro rfl
    exact ⟨rfl, rfl⟩
theorem keyl_row (r : Row) (h : r.ok) : Tryd.prog.keyLits 5 38 (rowV r).toList = some ((.int .i64 r.p.v :: lits .u8 r.p.l ++ [.int .i64 r.p.b]) ++ [.int .i64 r.h]) := by
  unfold Program.keyLits
  rw [Tryd.underlying38]
  simp only
  rw [if_pos ⟨by rw [show (rowV r).toList.length = 19 by rw [Array.length_toList, rowV_size h.fits]]; kernel_rfl, by kernel_rfl⟩]
  have c1 : Tryd.prog.cellsOf 36 = 18 := by kernel_rfl
  have c2 : Tryd.prog.cellsOf 3 = 1 := by kernel_rfl
  have hln : (nums .u8 r.p.l).length = 16 := by rw [nums_length]; exact h.p.l.len
  have e0 : (rowV r).toList = (pfxV r.p.v r.p.l r.p.b).toList ++ [.int .i64 r.h] := by rw [pfxV_list, rowV_list]; simp [rowC]
  have hl18 : (pfxV r.p.v r.p.l r.p.b).toList.length = 18 := pfx_cells _ _ _ h.p.l
  have e1 : (rowV r).toList.take 18 = (pfxV r.p.v r.p.l r.p.b).toList := by rw [e0, List.take_left' hl18]
  have e2 : (rowV r).toList.drop 18 = [.int .i64 r.h] := by rw [e0, List.drop_left' hl18]
  simp only [List.mapM_cons, List.mapM_nil, c1, c2, List.drop_zero]
  rw [e1, e2, keyl_pfx _ _ _ h.p.l h.p.v h.p.b]
  simp only [List.take_succ_cons, List.take_zero]
  rw [keyl_int 3 r.h h.h]
  simp
theorem row_formed (r : Row) (h : r.fits) : (Value.agg (rowV r)).formed Tryd.prog 38 = true := by
  simp only [Value.formed, Tryd.underlying38, rowV_size h]
  kernel_rfl
theorem row_equal (r s : Row) (hr : r.ok) (hs : s.ok) (w : World) : (Op.equal 38 (.agg (rowV r)) (.agg (rowV s))).run Tryd.prog w = .ok (r.eqB s) w := by
  obtain ⟨b, hb, hiff⟩ := run_equalIn_deep (P := Tryd.prog) 9995 5 38 (by kernel_rfl) w 5 5 (.agg (rowV r)) (.agg (rowV s)) _ _ (row_formed _ hr.fits) (row_formed _ hs.fits) (keyl_row r hr) (keyl_row s hs)
  have h2 : (Op.equal 38 (.agg (rowV r)) (.agg (rowV s))).run Tryd.prog w = .ok b w := hb
  suffices hs2 : b = r.eqB s by rw [h2, hs2]
  rw [Bool.eq_iff_iff, hiff, Row.eqB_iff]
  constructor
  · intro h
    obtain ⟨h1, h2⟩ := List.append_inj h (by simp [lits, hr.p.l.len, hs.p.l.len])
    simp only [List.cons_append, List.cons.injEq, Lit.int.injEq, true_and, and_true] at h1 h2
    obtain ⟨h3, h4⟩ := h1
    obtain ⟨h5, h6⟩ := List.append_inj h4 (by simp [lits, hr.p.l.len, hs.p.l.len])
    simp only [List.cons.injEq, Lit.int.injEq, true_and, and_true] at h6
    obtain ⟨⟨a, b, c⟩, d⟩ := r
    obtain ⟨⟨a', b', c'⟩, d'⟩ := s
    simp only at h2 h3 h5 h6
    rw [h2, h3, lits_inj h5, h6]
  · rintro rfl
    rfl
section
variable {r : Operand → Value} {o : Oper} {x y : Operand} {ty : TypeId}
theorem row_eql_exec (ho : o.op = .binOp .eql 38 x y ty) (p q : Row) (hx : r x = .agg (rowV p)) (hy : r y = .agg (rowV q)) (hp : p.ok) (hq : q.ok) (w : World) : (execOp r o).run Tryd.prog w = .ok (.value (.bool (p.eqB q))) w :=
  exec_eql 38 (by kernel_rfl) ho _ _ hx hy w (row_equal p q hp hq w)
theorem row_neq_exec (ho : o.op = .binOp .neq 38 x y ty) (p q : Row) (hx : r x = .agg (rowV p)) (hy : r y = .agg (rowV q)) (hp : p.ok) (hq : q.ok) (w : World) : (execOp r o).run Tryd.prog w = .ok (.value (.bool (!p.eqB q))) w :=
  exec_neq 38 (by kernel_rfl) ho _ _ hx hy w (row_equal p q hp hq w)
end
end Go.Proofs.YtihfaknflfmohaaDoor

/- Layer 5 (prefix): cut. -/
namespace Go.Proofs.YtihfaknflfmohaaDoor
open Go.RowKit
set_option linter.unusedVariables false
set_option linter.unusedSimpArgs false
set_option maxRecDepth 4000

theorem and_keep_all : ((List.range 256).all fun x => (List.range 8).all fun s => (x &&& ((255 * 2 ^ s) % 256)) == x / 2 ^ s * 2 ^ s) = true := by decide +kernel
theorem and_keep (x : Int) (s : Nat) (hx0 : 0 ≤ x) (hx1 : x < 256) (hs : s < 8) : bits .and .u8 x (255 * 2 ^ s % 256) = x / 2 ^ s * 2 ^ s := by
  obtain ⟨a, rfl⟩ := Int.eq_ofNat_of_zero_le hx0
  have h := and_keep_all
  rw [List.all_eq_true] at h
  have h1 := h a (List.mem_range.2 (by omega))
  rw [List.all_eq_true] at h1
  have h2 := beq_iff_eq.1 (h1 s (List.mem_range.2 hs))
  have e : (255 * 2 ^ s % 256 : Int) = ((255 * 2 ^ s % 256 : Nat) : Int) := by
    rw [Int.natCast_emod, Int.natCast_mul, Int.natCast_pow]; rfl
  rw [e, u8_and_nat a _ (by omega) (by omega), h2, Int.natCast_mul, Int.natCast_ediv, Int.natCast_pow]
  rfl
theorem arr_set {w : World} {g : Nat} {t : TypeId} {l : List Int} (h : w.heap[g]? = some (.cells (arrV l) t (0, 0))) (i : Nat) (y : Int) : (w.setCell ⟨g, i, none⟩ (.int .u8 y)).heap[g]? = some (.cells (arrV (l.set i y)) t (0, 0)) := by
  have := blk_set h i (.int .u8 y)
  unfold arrV at this ⊢
  rw [List.setIfInBounds_toArray, nums_set] at this
  exact this
theorem cut_step (l : List Int) (k : Int) (hl : B16 l) (i : Nat) (hi : i < 16) : (cutA l k).take (i + 1) ++ l.drop (i + 1) = ((cutA l k).take i ++ l.drop i).set i (cutB (rd l (i : Int)) (k - 8 * i)) := by
  have hlen : (cutA l k).length = 16 := (cutA_16 hl k).len
  apply List.ext_getElem
  · simp [hlen, hl.len]; omega
  · intro j h1 h2
    simp only [List.getElem_set, List.getElem_append, List.length_take, hlen, List.getElem_take, List.getElem_drop]
    by_cases hj : i = j
    · subst hj
      rw [dif_pos (by omega), if_pos rfl]
      simp [cutA]
    · rw [if_neg hj]
      by_cases hlt : j < i
      · rw [dif_pos (by omega), dif_pos (by omega)]
      · rw [dif_neg (by omega), dif_neg (by omega)]
        congr 1
        omega
set_option maxHeartbeats 1000000 in
theorem cut_any (l : List Int) (k : Int) (w : World) (hl : B16 l) (hk0 : 0 ≤ k) (hk1 : k ≤ 128) : Calls Tryd.prog 70 #[.agg (arrV l), .int .i64 k] w fun e w' => e = .returned (.agg (arrV (cutA l k))) ∧ Below w.heap.size w w' := by
  have hb := blk_new w (.cells (arrV l) 29)
  have hbe : Below w.heap.size w (w.alloc (.cells (arrV l) 29)) := below_alloc (Below.refl _ _) _
  have HB := Lib.hid hb
  have HBE := Lib.hid hbe
  obtain ⟨cs, hcs⟩ : ∃ cs, arrV l = cs := ⟨_, rfl⟩
  rw [hcs] at HB HBE ⊢
  have HCS := Lib.hid hcs
  clear hb hcs hbe
  go_enter Tryd.func70, Tryd.ntmps70
  go_wp2_with fail
  have hb0 : (w.alloc (.cells cs 29)).heap[w.heap.size]? = some (.cells cs 29) := HB.out
  have hsz : (w.alloc (.cells cs 29)).heap.size = w.heap.size + 1 := by simp
  have HZ : Hid (Below w.heap.size w ((w.alloc (.cells cs 29)).alloc (.cells (arrV (List.replicate 16 0)) 29)) ∧
      ((w.alloc (.cells cs 29)).alloc (.cells (arrV (List.replicate 16 0)) 29)).heap[w.heap.size]? = some (.cells (arrV l) 29 (0, 0)) ∧
      ((w.alloc (.cells cs 29)).alloc (.cells (arrV (List.replicate 16 0)) 29)).heap[w.heap.size + 1]? = some (.cells (arrV (List.replicate 16 0)) 29 (0, 0))) := by
    refine ⟨below_alloc HBE.out _, ?_, ?_⟩
    · rw [HCS.out]
      exact blk_below hb0 (below_alloc (Below.refl _ _) _)
    · have := blk_new (w.alloc (.cells cs 29)) (.cells (arrV (List.replicate 16 0)) 29)
      rw [hsz] at this
      exact this
  clear hb0 hsz
  go_loopw [7] (fun v wr => ∃ i : Nat, v = .int .i64 i ∧ Hid (i ≤ 16 ∧ Below w.heap.size w wr ∧ wr.heap[w.heap.size]? = some (.cells (arrV ((cutA l k).take i ++ l.drop i)) 29 (0, 0)) ∧ wr.heap[w.heap.size + 1]? = some (.cells (arrV (List.replicate 16 0)) 29 (0, 0)))) (fun v _ => 16 - (intOf v).toNat)
  case atStart => exact ⟨0, rfl, Nat.zero_le _, HZ.out.1, HZ.out.2.1, HZ.out.2.2⟩
  case round =>
    obtain ⟨i, rfl, HH⟩ := hrel
    clear HZ
    have hi := HH.out.1
    by_cases hlt : i < 16
    · have hlen : ((cutA l k).take i ++ l.drop i).length = 16 := by simp [(cutA_16 hl k).len, hl.len]; omega
      have hcell := arr_cell HH.out.2.2.1 i (by rw [hlen]; exact hlt)
      have hrd : rd ((cutA l k).take i ++ l.drop i) (i : Int) = rd l (i : Int) := by
        have h1 : ((cutA l k).take i).length = i := by simp [(cutA_16 hl k).len]; omega
        simp only [rd, Int.toNat_natCast, List.getD_eq_getElem?_getD]
        rw [List.getElem?_append_right (by omega), h1, List.getElem?_drop]
        simp
      rw [hrd] at hcell
      have hfr : wr.frozen? ⟨w.heap.size, i, none⟩ = false := blk_frozen HH.out.2.2.1 i
      have hlt' : (i : Int) < 16 := by omega
      have hg := hl.rd (i : Int)
      have HN : ∀ y, y = cutB (rd l (i : Int)) (k - 8 * i) → Below w.heap.size w (wr.setCell ⟨w.heap.size, i, none⟩ (.int .u8 y)) ∧ (wr.setCell ⟨w.heap.size, i, none⟩ (.int .u8 y)).heap[w.heap.size]? = some (.cells (arrV ((cutA l k).take (i + 1) ++ l.drop (i + 1))) 29 (0, 0)) ∧ (wr.setCell ⟨w.heap.size, i, none⟩ (.int .u8 y)).heap[w.heap.size + 1]? = some (.cells (arrV (List.replicate 16 0)) 29 (0, 0)) := fun y hy => by
        refine ⟨HH.out.2.1.setCell (Nat.le_refl _) _, ?_, blk_set_far HH.out.2.2.2 (by simp) _⟩
        rw [cut_step l k hl i hlt, ← hy]
        exact arr_set HH.out.2.2.1 i y
      have HNN := Lib.hid HN
      clear HN hrd hlen
      by_cases h1 : k - 8 * (i : Int) ≤ 0
      · have hy : (0 : Int) = cutB (rd l (i : Int)) (k - 8 * i) := by unfold cutB; rw [if_pos h1]
        have HY := Lib.hid hy
        clear hy
        go_wp2_with fail
        go_roundw
        case measure => simp [intOf]; omega
        case rel => exact ⟨i + 1, by go_num, by omega, HNN.out 0 HY.out⟩
      · by_cases h2 : k - 8 * (i : Int) < 8
        · have h1' : 0 < k - 8 * (i : Int) := by omega
          obtain ⟨kp, hkp⟩ : ∃ kp, k - 8 * (i : Int) = kp := ⟨_, rfl⟩
          have hx := and_keep (rd l (i : Int)) (8 - kp).toNat hg.1 hg.2 (by omega)
          have hy : rd l (i : Int) / 2 ^ (8 - kp).toNat * 2 ^ (8 - kp).toNat = cutB (rd l (i : Int)) (k - 8 * i) := by rw [hkp]; unfold cutB; rw [if_neg (by omega), if_pos (by omega)]
          have HY := Lib.hid hy
          have hq0 : 0 < kp := by omega
          have hq1 : kp < 8 := by omega
          have hw8 : IntKind.i64.wrap (8 - kp) = 8 - kp := by simp only [IntKind.wrap, IntKind.bits, IntKind.signed]; simp; omega
          have hs0 : 0 ≤ 8 - kp := by omega
          have hs1 : 8 - kp < 64 := by omega
          have hwu : IntKind.u8.wrap (255 * 2 ^ (8 - kp).toNat) = 255 * 2 ^ (8 - kp).toNat % 256 := by simp only [IntKind.wrap, IntKind.bits, IntKind.signed]; simp
          clear hy h1 h2 h1'
          go_wp2_with fail
          refine wp_region_mix (fun _ => True) [(0, 0), (1, 0), (3, 0), (4, 0), (5, 0), (2, 1), (6, 0), (7, 0), (8, 2)] (by kernel_rfl) (by kernel_rfl) trivial ?_
          simp only [List.map_cons, List.map_nil]
          repeat first | (refine wpO_step0 rfl rfl (fun K hK => ?_); go_simp; refine hK _ _ ?_; clear hK K) | (refine wpO_step1 rfl rfl (fun K hK => ?_); go_simp; refine hK _ _ ?_; clear hK K)
          have hfd : wr.drew.frozen? ⟨w.heap.size, i, none⟩ = false := hfr
          have hcd : wr.drew.cell? ⟨w.heap.size, i, none⟩ = some (.int .u8 (rd l (i : Int))) := hcell
          refine wpO_step2 rfl rfl trivial (fun K hK => ?_)
          go_simp
          refine hK _ _ ⟨trivial, ?_⟩
          clear hK K
          refine wpO_nil ?_
          have HND : Hid (Below w.heap.size w (wr.drew.setCell ⟨w.heap.size, i, none⟩ (.int .u8 (rd l (i : Int) / 2 ^ (8 - kp).toNat * 2 ^ (8 - kp).toNat))) ∧
              (wr.drew.setCell ⟨w.heap.size, i, none⟩ (.int .u8 (rd l (i : Int) / 2 ^ (8 - kp).toNat * 2 ^ (8 - kp).toNat))).heap[w.heap.size]? = some (.cells (arrV ((cutA l k).take (i + 1) ++ l.drop (i + 1))) 29 (0, 0)) ∧
              (wr.drew.setCell ⟨w.heap.size, i, none⟩ (.int .u8 (rd l (i : Int) / 2 ^ (8 - kp).toNat * 2 ^ (8 - kp).toNat))).heap[w.heap.size + 1]? = some (.cells (arrV (List.replicate 16 0)) 29 (0, 0))) := by
            refine ⟨HH.out.2.1.drew.setCell (Nat.le_refl _) _, ?_, blk_set_far (w := wr.drew) HH.out.2.2.2 (by simp) _⟩
            rw [cut_step l k hl i hlt, ← HY.out]
            exact arr_set (w := wr.drew) HH.out.2.2.1 i _
          clear hw8 hs0 hs1 hwu hx
          go_wp2_with fail
          go_roundw
          case measure => simp [intOf]; omega
          case rel => exact ⟨i + 1, by go_num, by omega, HND.out⟩
        · have hy : rd l (i : Int) = cutB (rd l (i : Int)) (k - 8 * i) := by unfold cutB; rw [if_neg h1, if_neg h2]
          have h1' : 0 < k - 8 * (i : Int) := by omega
          have h2' : 8 ≤ k - 8 * (i : Int) := by omega
          have HY := Lib.hid hy
          clear hy h1 h2
          go_wp2_with fail
          go_roundw
          case measure => simp [intOf]; omega
          case rel =>
            refine ⟨i + 1, by go_num, by omega, HH.out.2.1, ?_, HH.out.2.2.2⟩
            have hlen : ((cutA l k).take i ++ l.drop i).length = 16 := by simp [(cutA_16 hl k).len, hl.len]; omega
            have hs := cut_step l k hl i (by omega)
            rw [hs, ← HY.out]
            have hrd : rd ((cutA l k).take i ++ l.drop i) (i : Int) = rd l (i : Int) := by
              have h1 : ((cutA l k).take i).length = i := by simp [(cutA_16 hl k).len]; omega
              simp only [rd, Int.toNat_natCast, List.getD_eq_getElem?_getD]
              rw [List.getElem?_append_right (by omega), h1, List.getElem?_drop]
              simp
            rw [← hrd]
            have e : ((cutA l k).take i ++ l.drop i).set i (rd ((cutA l k).take i ++ l.drop i) (i : Int)) = (cutA l k).take i ++ l.drop i := by
              apply List.ext_getElem?
              intro j
              rw [List.getElem?_set]
              split
              · rename_i hj
                subst hj
                rw [if_pos (by rw [hlen]; omega)]
                simp [rd, List.getD_eq_getElem?_getD]
                rw [List.getElem?_eq_getElem (by rw [hlen]; omega)]
                rfl
              · rfl
            rw [e]
            exact HH.out.2.2.1
    · obtain rfl : i = 16 := by omega
      have hm1 : decide (((16 : Nat) : Int) < 16) = false := rfl
      have hfin := HH.out.2.2.1
      rw [List.take_of_length_le (by rw [(cutA_16 hl k).len]; exact Nat.le_refl _), List.drop_of_length_le (by rw [hl.len]; exact Nat.le_refl _), List.append_nil] at hfin
      have hld := load_arr (b := w.heap.size) (o := 0) (cutA_16 hl k) (fun i hi => by rw [Nat.zero_add]; exact arr_cell hfin i (by rw [(cutA_16 hl k).len]; exact hi))
      clear hlt
      have hsz : (arrV (cutA l k)).size = 16 := by simp [arrV, nums, (cutA_16 hl k).len]
      have hi16 : (Tryd.prog.info? 29).map (·.size) = some (arrV (cutA l k)).size := by rw [hsz]; kernel_rfl
      have hs16 : (arrV (List.replicate 16 0)).size = (arrV (cutA l k)).size := by rw [hsz]; simp [arrV, nums]
      have hone : (arrV (cutA l k)).all (·.oneCell') = true := by simp [arrV, nums, Value.oneCell']
      have hrow := setRow_heap wr (w.heap.size + 1) (arrV (List.replicate 16 0)) (arrV (cutA l k)) 29 (0, 0) HH.out.2.2.2
      have HBF : Hid (Below w.heap.size w (wr.setRow (w.heap.size + 1) (arrV (cutA l k)))) := by
        have hb := HH.out.2.1
        exact ⟨hb.os, hb.tape, hb.output, by rw [show (wr.setRow (w.heap.size + 1) (arrV (cutA l k))).heap.size = wr.heap.size by simp [World.setRow]]; exact hb.size, fun j hj => by rw [setRow_other _ _ _ _ (by omega)]; exact hb.block j hj⟩
      go_wp2_with (first | (refine wpList_load_g hld _ rfl rfl (by go_simp) ?_) | (refine wpList_store_row rfl 29 _ _ rfl (w.heap.size + 1) (arrV (cutA l k)) rfl rfl 29 (arrV (List.replicate 16 0)) HH.out.2.2.2 hi16 hs16 hone ?_))
      (try simp only [Exit.inBlock, Exit.then])
      refine bodyPost_ret (results_cell_row rfl _ _ (w.heap.size + 1) 29 (arrV (cutA l k)) (0, 0) _ rfl hrow Tryd.underlying29 rfl hi16) rfl ?_
      exact ⟨rfl, HBF.out⟩
end Go.Proofs.YtihfaknflfmohaaDoor

/- The document's answer for layer 5 (junctionboxref05): Width, at, RightAddr. -/
namespace Go.Proofs.YtihfaknflfmohaaDoor
open Go.RowKit
set_option linter.unusedVariables false
set_option linter.unusedSimpArgs false
set_option maxRecDepth 4000

/-- What lies in a block that holds an address, in every world that goes on from one. -/
structure AdrAt (w : World) (g : Nat) (v : Int) (l : List Int) : Prop where
  all : ∀ w0, Below w.heap.size w w0 →
    (Instr.loadAt 31 (.pointer (some ⟨g, 0, none⟩))).run Tryd.prog w0 = .ok (.agg (adrV v l)) w0 ∧
    (Instr.loadAt 3 (.pointer (some ⟨g, 0, none⟩))).run Tryd.prog w0 = .ok (.int .i64 v) w0 ∧
    (Instr.loadAt 29 (.pointer (some ⟨g, 1, none⟩))).run Tryd.prog w0 = .ok (.agg (arrV l)) w0
theorem adr_at {w : World} {g : Nat} {v : Int} {l : List Int} (hl : B16 l) (h : w.heap[g]? = some (.cells (adrV v l) 31 (0, 0))) : AdrAt w g v l := by
  refine ⟨fun w0 hb => ?_⟩
  have h0 := blk_below h hb
  have c1 : ∀ i, i < 16 → w0.cell? ⟨g, 1 + i, none⟩ = some (.int .u8 (rd l (i : Int))) := fun i hi => adr_b h0 i (by rw [hl.len]; exact hi)
  exact ⟨load_adr hl (adr_v h0) (fun i hi => by rw [show 0 + 1 + i = 1 + i by omega]; exact c1 i hi), load_int (adr_v h0), load_arr hl c1⟩

end Go.Proofs.YtihfaknflfmohaaDoor

/- Layer 5 (prefix): Of. -/
namespace Go.Proofs.YtihfaknflfmohaaDoor
open Go.RowKit
set_option linter.unusedVariables false
set_option linter.unusedSimpArgs false
set_option maxRecDepth 4000

end Go.Proofs.YtihfaknflfmohaaDoor

/- The document's answer for layer 5: Of. -/
namespace Go.Proofs.YtihfaknflfmohaaDoor
open Go.RowKit
set_option linter.unusedVariables false
set_option linter.unusedSimpArgs false
set_option maxRecDepth 4000

theorem pfx_byte {w : World} {g : Nat} {t : TypeId} {v b : Int} {l : List Int} (hl : B16 l) (h : w.heap[g]? = some (.cells (pfxV v l b) t (0, 0))) (i : Nat) (hi : i < 16) : w.cell? ⟨g, 1 + i, none⟩ = some (.int .u8 (rd l (i : Int))) := by
  rw [blk_cell h, Nat.add_comm]
  unfold pfxV
  rw [List.getElem?_toArray, List.getElem?_cons_succ, List.getElem?_append_left (by simp [nums, hl.len]; exact hi)]
  exact nums_get .u8 l i (by rw [hl.len]; exact hi)
end Go.Proofs.YtihfaknflfmohaaDoor

/- Slices of int of the call's own. -/
namespace Go.Proofs.YtihfaknflfmohaaDoor
open Go.RowKit
set_option linter.unusedVariables false
set_option linter.unusedSimpArgs false
set_option maxRecDepth 4000

structure RI (w : World) (A : Option Addr) (n c : Nat) (xs : List Int) : Prop where
  rv : RV w 1 A n c (nums .i64 xs)
structure OI (w : World) (base : Nat) (A : Option Addr) (n c : Nat) (xs : List Int) : Prop where
  ov : OV w base 3 1 A n c (nums .i64 xs)
section
variable {w w1 : World} {base base' : Nat} {A : Option Addr} {n c : Nat} {xs : List Int}
theorem RI.len (h : RI w A n c xs) : xs.length = n := by have := h.rv.len; simpa [nums] using this
theorem RI.cap (h : RI w A n c xs) : n ≤ c := h.rv.cap
theorem RI.small (h : RI w A n c xs) : n ≤ 281474976710656 := h.rv.small
theorem RI.at_ (h : RI w A n c xs) (i : Int) (h0 : 0 ≤ i) (h1 : i < n) : ∃ ad, A = some ad ∧ w.cell? (ad.add i.toNat) = some (.int .i64 (rd xs i)) := by
  obtain ⟨ad, e, hc⟩ := h.rv.cells (by omega)
  exact ⟨ad, e, hc _ _ (nums_get _ _ _ (by have := h.len; omega))⟩
theorem RI.below (h : RI w A n c xs) (hb : Below w.heap.size w w1) : RI w1 A n c xs := ⟨h.rv.below hb⟩
theorem RI.grown (h : RI w A n c xs) {row : Option Nat} (hg : w.grownBy w1 row) (hne : ∀ ad, A = some ad → some ad.block ≠ row) : RI w1 A n c xs := ⟨h.rv.grown hg hne⟩
theorem OI.len (h : OI w base A n c xs) : xs.length = n := by have := h.ov.len; simpa [nums] using this
theorem OI.cap (h : OI w base A n c xs) : n ≤ c := h.ov.cap
theorem OI.small (h : OI w base A n c xs) : n ≤ 281474976710656 := h.ov.small
theorem OI.base_ (h : OI w base A n c xs) : ∀ ad, A = some ad → base ≤ ad.block := h.ov.base_
theorem OI.lt (h : OI w base A n c xs) : ∀ ad, A = some ad → ad.block < w.heap.size := h.ov.lt
theorem OI.reads (h : OI w base A n c xs) : RI w A n c xs := ⟨h.ov.reads⟩
theorem OI.lower (h : OI w base A n c xs) (hb : base' ≤ base) : OI w base' A n c xs := ⟨h.ov.lower hb⟩
theorem OI.grown (h : OI w base A n c xs) {row : Option Nat} (hg : w.grownBy w1 row) (hne : ∀ ad, A = some ad → some ad.block ≠ row) : OI w1 base A n c xs := ⟨h.ov.grown hg hne⟩
theorem OI.below (h : OI w base A n c xs) (hb : Below w.heap.size w w1) : OI w1 base A n c xs := ⟨h.ov.below hb⟩
end
theorem OI.new (W : World) (base : Nat) (xs : List Int) (hb : base ≤ W.heap.size) (hn : xs.length ≤ 281474976710656) :
    OI (W.alloc (.cells (nums .i64 xs).toArray 3)) base (some ⟨W.heap.size, 0, none⟩) xs.length xs.length xs :=
  ⟨by have := OV.new W base 3 1 (nums .i64 xs).toArray xs.length hb (by simp [nums]) hn; simpa using this⟩
theorem RI.one (W : World) (y : Int) : RI (W.alloc (.cells #[.int .i64 y] 3)) (some ⟨W.heap.size, 0, none⟩) 1 1 [y] := (OI.new W 0 [y] (by omega) (by simp)).reads
end Go.Proofs.YtihfaknflfmohaaDoor

/- Layer 5 (prefix): Compare. -/
namespace Go.Proofs.YtihfaknflfmohaaDoor
open Go.RowKit
set_option linter.unusedVariables false
set_option linter.unusedSimpArgs false
set_option maxRecDepth 4000

theorem cmpint_any (x y : Int) (w : World) : Calls Tryd.prog 121 #[.int .i64 x, .int .i64 y] w fun e w' => e = .returned (.int .i64 (cmpN x y)) ∧ w = w' := by
  unfold cmpN
  by_cases h1 : x < y
  · rw [if_pos h1]
    go_enter Tryd.func121, Tryd.ntmps121
    go_wp2
    go_ret
    exact ⟨rfl, rfl⟩
  · rw [if_neg h1]
    by_cases h2 : y < x
    · rw [if_pos h2]
      go_enter Tryd.func121, Tryd.ntmps121
      go_wp2
      go_ret
      exact ⟨rfl, rfl⟩
    · rw [if_neg h2]
      obtain rfl : x = y := by omega
      clear h1 h2
      go_enter Tryd.func121, Tryd.ntmps121
      go_wp2
      go_ret
      exact ⟨rfl, rfl⟩
def orI : List Int → Int
  | [] => 0
  | x :: xs => if x ≠ 0 then x else orI xs
theorem orI_skip : ∀ (xs : List Int) (k : Nat), (∀ j : Nat, j < k → rd xs (j : Int) = 0) → orI xs = orI (xs.drop k)
  | _, 0, _ => rfl
  | [], _ + 1, _ => by simp
  | x :: xs, k + 1, h => by
    have h0 := h 0 (by omega)
    simp [rd] at h0
    rw [List.drop_succ_cons, ← orI_skip xs k (fun j hj => by have := h (j + 1) (by omega); simpa [rd] using this)]
    simp [orI, h0]
theorem orI_at (xs : List Int) (k : Nat) (hk : k < xs.length) (h : ∀ j : Nat, j < k → rd xs (j : Int) = 0) (hn : rd xs (k : Int) ≠ 0) : orI xs = rd xs (k : Int) := by
  rw [orI_skip xs k h, List.drop_eq_getElem_cons hk]
  have e : rd xs (k : Int) = xs[k] := by simp [rd, List.getD_eq_getElem?_getD, hk]
  rw [e] at hn ⊢
  simp [orI, hn]
theorem or_any (A : Option Addr) (n c : Nat) (xs : List Int) (w : World) (hr : RI w A n c xs) : Calls Tryd.prog 120 #[.slice A n c] w fun e w' => e = .returned (.int .i64 (orI xs)) ∧ w = w' := by
  have hn := hr.small
  have HL := Lib.hid hr.len
  have HR := Lib.hid hr
  clear hr
  go_enter Tryd.func120, Tryd.ntmps120
  go_wp2
  go_loop [5, 8] (fun _ i => ∃ k : Nat, i = .int .i64 k ∧ k ≤ n ∧ Hid (∀ j : Nat, j < k → rd xs (j : Int) = 0)) (fun _ i => n - (intOf i).toNat)
  case atStart => exact ⟨0, rfl, Nat.zero_le _, fun j h => by omega⟩
  case round =>
    obtain ⟨k, rfl, hk, HH⟩ := hrel
    by_cases hlt : k < n
    · obtain ⟨ad, rfl, hc⟩ := HR.out.at_ k (by omega) (by omega)
      have hc' : w.cell? (ad.add k) = some (.int .i64 (rd xs k)) := hc
      clear hc
      by_cases h0 : rd xs k = 0
      · have hb : (rd xs k != 0) = false := by simp [h0]
        have H0 := Lib.hid h0
        clear h0
        go_wp2
        go_round
        case measure => simp [intOf]; omega
        case rel =>
          refine ⟨k + 1, by go_num, by omega, fun j hj => ?_⟩
          by_cases hj' : j < k
          · exact HH.out j hj'
          · rw [show j = k by omega]; exact H0.out
      · have hb : (rd xs k != 0) = true := by simpa using h0
        have HE := Lib.hid (orI_at xs k (by rw [HL.out]; exact hlt) HH.out h0)
        clear h0
        go_wp2
        go_ret
        rw [HE.out]
        exact ⟨rfl, rfl⟩
    · obtain rfl : k = n := by omega
      have HE := Lib.hid (show orI xs = 0 by rw [orI_skip xs k HH.out, List.drop_of_length_le (by rw [HL.out]; exact Nat.le_refl _)]; rfl)
      clear hlt
      go_wp2
      go_ret
      rw [HE.out]
      exact ⟨rfl, rfl⟩

theorem rb_pfx {w : World} {g : Nat} {t : TypeId} {v b : Int} {l : List Int} (hl : B16 l) (h : w.heap[g]? = some (.cells (pfxV v l b) t (0, 0))) : RB w (some ⟨g, 1, none⟩) 16 16 l :=
  ⟨⟨by simp [nums, hl.len], Nat.le_refl _, by omega, fun _ => ⟨_, rfl, fun j u hj => by
    have hlt := (List.getElem?_eq_some_iff.1 hj).1
    simp only [nums, List.length_map, hl.len] at hlt
    rw [nums_get _ _ _ (by rw [hl.len]; exact hlt)] at hj
    rw [add_spot _ rfl, ← hj]
    exact pfx_byte hl h j hlt⟩⟩, hl.rng⟩
theorem cmp_or (p q : Pfx) (hp : B16 p.l) (hq : B16 q.l) : p.cmp q = orI [cmpN p.v q.v, cmpI p.l q.l, cmpN p.b q.b] := by
  rw [p.cmp_eq q hp hq]
  simp only [orI]
  split
  · rfl
  · split
    · rfl
    · split
      · rfl
      · omega

set_option maxHeartbeats 2000000 in
theorem compare_any (p q : Pfx) (w : World) (hp : B16 p.l) (hq : B16 q.l) : Calls Tryd.prog 103 #[.agg (pfxV p.v p.l p.b), .agg (pfxV q.v q.l q.b)] w fun e w' => e = .returned (.int .i64 (p.cmp q)) ∧ Below w.heap.size w w' := by
  have hblk1 := blk_new w (.cells (pfxV p.v p.l p.b) 36)
  have hbel1 : Below w.heap.size w (w.alloc (.cells (pfxV p.v p.l p.b) 36)) := below_alloc (Below.refl _ _) _
  have hblk2 := blk_new (w.alloc (.cells (pfxV p.v p.l p.b) 36)) (.cells (pfxV q.v q.l q.b) 36)
  have hbel2 : Below w.heap.size w ((w.alloc (.cells (pfxV p.v p.l p.b) 36)).alloc (.cells (pfxV q.v q.l q.b) 36)) := below_alloc (hbel1) _
  rw [show (w.alloc (.cells (pfxV p.v p.l p.b) 36)).heap.size = w.heap.size + 1 by simp] at hblk2
  replace hblk1 := blk_below hblk1 (below_alloc (Below.refl _ _) (.cells (pfxV q.v q.l q.b) 36))
  have HP1 := Lib.hid (pfx_at hp hblk1)
  have HBK1 := Lib.hid hblk1
  have HP2 := Lib.hid (pfx_at hq hblk2)
  have HBK2 := Lib.hid hblk2
  have HBE := Lib.hid hbel2
  obtain ⟨cs1, hcs1⟩ : ∃ cs, pfxV p.v p.l p.b = cs := ⟨_, rfl⟩
  obtain ⟨cs2, hcs2⟩ : ∃ cs, pfxV q.v q.l q.b = cs := ⟨_, rfl⟩
  simp only [hcs1, hcs2] at HBE HP1 HP2 HBK1 HBK2 ⊢
  have HC1 := Lib.hid hcs1
  have HC2 := Lib.hid hcs2
  clear hcs1 hblk1 hbel1 hcs2 hblk2 hbel2
  have HE := Lib.hid (cmp_or p q hp hq)
  go_enter Tryd.func103, Tryd.ntmps103
  go_wp2_with fail
  refine wp_region_mix (fun w0 => Below ((w.alloc (.cells cs1 36)).alloc (.cells cs2 36)).heap.size ((w.alloc (.cells cs1 36)).alloc (.cells cs2 36)) w0) [(0, 0), (1, 0), (2, 0), (3, 0), (4, 0), (5, 0), (7, 0), (8, 0), (9, 0), (10, 0), (11, 0), (12, 0), (14, 0), (15, 0), (16, 0), (17, 0), (6, 2), (13, 2), (18, 2), (19, 2), (20, 2), (21, 0)] (by kernel_rfl) (by kernel_rfl) (below_drew1 _) ?_
  simp only [List.map_cons, List.map_nil]
  iterate 2 (refine wpO_step0 rfl rfl (fun K hK => ?_); go_simp; refine hK _ _ ?_; clear hK K)
  refine wpO_loadW (t := 3) (ad := ⟨w.heap.size, 0, none⟩) rfl rfl ?hw rfl rfl ((fun w0 hS => (HP1.out.all w0 hS).2.2.1)) ?_
  case hw => go_simp
  iterate 2 (refine wpO_step0 rfl rfl (fun K hK => ?_); go_simp; refine hK _ _ ?_; clear hK K)
  refine wpO_loadW (t := 3) (ad := ⟨(w.heap.size+1), 0, none⟩) rfl rfl ?hw rfl rfl ((fun w0 hS => (HP2.out.all w0 hS).2.2.1)) ?_
  case hw => go_simp
  iterate 7 (refine wpO_step0 rfl rfl (fun K hK => ?_); go_simp; refine hK _ _ ?_; clear hK K)
  refine wpO_loadW (t := 3) (ad := ⟨w.heap.size, 17, none⟩) rfl rfl ?hw rfl rfl ((fun w0 hS => (HP1.out.all w0 hS).2.1)) ?_
  case hw => go_simp
  iterate 1 (refine wpO_step0 rfl rfl (fun K hK => ?_); go_simp; refine hK _ _ ?_; clear hK K)
  refine wpO_loadW (t := 3) (ad := ⟨(w.heap.size+1), 17, none⟩) rfl rfl ?hw rfl rfl ((fun w0 hS => (HP2.out.all w0 hS).2.1)) ?_
  case hw => go_simp
  refine wpO_step2 rfl rfl (below_drew1 _) (fun K hK => ?_)
  go_simp
  refine (cmpint_any p.v q.v _).mono ?_
  rintro e w1 ⟨rfl, rfl⟩
  refine hK _ _ ⟨below_drew1 _, ?_⟩
  clear hK K
  refine wpO_step2 rfl rfl (below_drew1 _) (fun K hK => ?_)
  go_simp
  refine (bcompare_any (some ⟨w.heap.size, 1, none⟩) 16 16 p.l (some ⟨w.heap.size + 1, 1, none⟩) 16 16 q.l _ (rb_pfx hp (by rw [HC1.out]; exact HBK1.out)) (rb_pfx hq (by rw [HC2.out]; exact HBK2.out))).mono ?_
  rintro e w1 ⟨rfl, rfl⟩
  refine hK _ _ ⟨below_drew1 _, ?_⟩
  clear hK K
  refine wpO_step2 rfl rfl (below_drew1 _) (fun K hK => ?_)
  go_simp
  refine (cmpint_any p.b q.b _).mono ?_
  rintro e w1 ⟨rfl, rfl⟩
  refine hK _ _ ⟨below_drew1 _, ?_⟩
  clear hK K
  obtain ⟨x0, h0⟩ : ∃ x, cmpN p.v q.v = x := ⟨_, rfl⟩
  obtain ⟨x1, h1⟩ : ∃ x, cmpI p.l q.l = x := ⟨_, rfl⟩
  obtain ⟨x2, h2⟩ : ∃ x, cmpN p.b q.b = x := ⟨_, rfl⟩
  rw [h0, h1, h2] at HE
  rw [h0, h1, h2]
  clear h0 h1 h2
  refine wpO_step2 rfl rfl (below_drew1 _) (fun K hK => ?_)
  go_simp
  have hri := (OI.new ((w.alloc (.cells cs1 36)).alloc (.cells cs2 36)) 0 [x0, x1, x2] (by omega) (by simp)).reads.below (below_drew1 _)
  rw [show ((w.alloc (.cells cs1 36)).alloc (.cells cs2 36)).heap.size = w.heap.size + 1 + 1 by simp] at hri
  have HRI := Lib.hid hri
  clear hri
  refine hK _ _ ⟨(below_alloc (Below.refl _ _) _).drew, ?_⟩
  clear hK K
  refine wpO_step2 rfl rfl ((below_alloc (Below.refl _ _) _).drew) (fun K hK => ?_)
  go_simp
  refine (or_any _ 3 3 [x0, x1, x2] _ HRI.out).mono ?_
  rintro e w1 ⟨rfl, rfl⟩
  refine hK _ _ ⟨(below_alloc (Below.refl _ _) _).drew, ?_⟩
  clear hK K
  iterate 1 (refine wpO_step0 rfl rfl (fun K hK => ?_); go_simp; refine hK _ _ ?_; clear hK K)
  refine wpO_nil ?_
  go_wp2
  go_ret
  rw [HE.out]
  exact ⟨rfl, below_step HBE.out (below_alloc (Below.refl _ _) _).drew⟩

end Go.Proofs.YtihfaknflfmohaaDoor

/- Layer 9 (table): against, hop, and the closure of place. -/
namespace Go.Proofs.YtihfaknflfmohaaDoor
open Go.RowKit
set_option linter.unusedVariables false
set_option linter.unusedSimpArgs false
set_option maxRecDepth 4000

theorem against_any (r : Row) (p : Pfx) (w : World) (hr : r.fits) (hp : B16 p.l) : Calls Tryd.prog 64 #[.agg (rowV r), .agg (pfxV p.v p.l p.b)] w fun e w' => e = .returned (.int .i64 (r.p.cmp p)) ∧ Below w.heap.size w w' := by
  have hblk1 := blk_new w (.cells (rowV r) 112)
  have hbel1 : Below w.heap.size w (w.alloc (.cells (rowV r) 112)) := below_alloc (Below.refl _ _) _
  have hblk2 := blk_new (w.alloc (.cells (rowV r) 112)) (.cells (pfxV p.v p.l p.b) 36)
  have hbel2 : Below w.heap.size w ((w.alloc (.cells (rowV r) 112)).alloc (.cells (pfxV p.v p.l p.b) 36)) := below_alloc (hbel1) _
  rw [show (w.alloc (.cells (rowV r) 112)).heap.size = w.heap.size + 1 by simp] at hblk2
  replace hblk1 := blk_below hblk1 (below_alloc (Below.refl _ _) (.cells (pfxV p.v p.l p.b) 36))
  have HP1 := Lib.hid (row_at hr hblk1)
  have HBK1 := Lib.hid hblk1
  have HP2 := Lib.hid (pfx_at hp hblk2)
  have HBK2 := Lib.hid hblk2
  have HBE := Lib.hid hbel2
  obtain ⟨cs1, hcs1⟩ : ∃ cs, rowV r = cs := ⟨_, rfl⟩
  obtain ⟨cs2, hcs2⟩ : ∃ cs, pfxV p.v p.l p.b = cs := ⟨_, rfl⟩
  simp only [hcs1, hcs2] at HBE HP1 HP2 HBK1 HBK2 ⊢
  have HC1 := Lib.hid hcs1
  have HC2 := Lib.hid hcs2
  clear hcs1 hblk1 hbel1 hcs2 hblk2 hbel2
  have hl1 := (HP1.out.all _ (Below.refl _ _)).pfx
  have hl2 := (HP2.out.all _ (Below.refl _ _)).2.2.2.2
  go_enter Tryd.func64, Tryd.ntmps64
  go_wp2_with (first | ((with_reducible show wpList _ _ _ (Oper.mk _ (Op.load _ _) _ _ _ _ :: _) _ _); refine wpList_load_g hl1 _ rfl rfl (by go_simp) ?_) | ((with_reducible show wpList _ _ _ (Oper.mk _ (Op.load _ _) _ _ _ _ :: _) _ _); refine wpList_load_g hl2 _ rfl rfl (by go_simp) ?_))
  refine (compare_any r.p p _ hr hp).mono ?_
  rintro e w1 ⟨rfl, hbb1⟩
  have HB1 := Lib.hid hbb1
  clear hbb1 hl1 hl2
  go_wp2
  go_ret
  exact ⟨rfl, below_step HBE.out HB1.out⟩
def hopB (n : Int) : Bool := decide (1 ≤ n) && decide (n ≤ 255)
theorem hop_any (n : Int) (w : World) : Calls Tryd.prog 63 #[.int .i64 n] w fun e w' => e = .returned (.bool (hopB n)) ∧ w = w' := by
  by_cases h1 : 1 ≤ n
  · by_cases h2 : n ≤ 255
    · have HE := Lib.hid (show hopB n = true by unfold hopB; simp [h1, h2])
      go_enter Tryd.func63, Tryd.ntmps63
      go_wp2
      go_ret
      rw [HE.out]
      exact ⟨rfl, rfl⟩
    · have HE := Lib.hid (show hopB n = false by unfold hopB; simp [h2])
      have h2' : decide (n ≤ 255) = false := decide_eq_false h2
      clear h2
      go_enter Tryd.func63, Tryd.ntmps63
      go_wp2
      go_ret
      rw [HE.out]
      exact ⟨rfl, rfl⟩
  · have HE := Lib.hid (show hopB n = false by unfold hopB; simp [h1])
    have h1' : decide (1 ≤ n) = false := decide_eq_false h1
    clear h1
    go_enter Tryd.func63, Tryd.ntmps63
    go_wp2
    go_ret
    rw [HE.out]
    exact ⟨rfl, rfl⟩
theorem place1_any (r : Row) (p : Pfx) (w : World) (hr : r.fits) (hp : B16 p.l) : Calls Tryd.prog 105 #[.agg (rowV r), .agg (pfxV p.v p.l p.b)] w fun e w' => e = .returned (.int .i64 (r.p.cmp p)) ∧ Below w.heap.size w w' := by
  have hblk1 := blk_new w (.cells (rowV r) 38)
  have hbel1 : Below w.heap.size w (w.alloc (.cells (rowV r) 38)) := below_alloc (Below.refl _ _) _
  have hblk2 := blk_new (w.alloc (.cells (rowV r) 38)) (.cells (pfxV p.v p.l p.b) 36)
  have hbel2 : Below w.heap.size w ((w.alloc (.cells (rowV r) 38)).alloc (.cells (pfxV p.v p.l p.b) 36)) := below_alloc (hbel1) _
  rw [show (w.alloc (.cells (rowV r) 38)).heap.size = w.heap.size + 1 by simp] at hblk2
  replace hblk1 := blk_below hblk1 (below_alloc (Below.refl _ _) (.cells (pfxV p.v p.l p.b) 36))
  have HP1 := Lib.hid (row_at hr hblk1)
  have HBK1 := Lib.hid hblk1
  have HP2 := Lib.hid (pfx_at hp hblk2)
  have HBK2 := Lib.hid hblk2
  have HBE := Lib.hid hbel2
  obtain ⟨cs1, hcs1⟩ : ∃ cs, rowV r = cs := ⟨_, rfl⟩
  obtain ⟨cs2, hcs2⟩ : ∃ cs, pfxV p.v p.l p.b = cs := ⟨_, rfl⟩
  simp only [hcs1, hcs2] at HBE HP1 HP2 HBK1 HBK2 ⊢
  have HC1 := Lib.hid hcs1
  have HC2 := Lib.hid hcs2
  clear hcs1 hblk1 hbel1 hcs2 hblk2 hbel2
  have hl1 := (HP1.out.all _ (Below.refl _ _)).row
  have hl2 := (HP2.out.all _ (Below.refl _ _)).2.2.2.2
  rw [HC1.out] at hl1
  rw [HC2.out] at hl2
  go_enter Tryd.func105, Tryd.ntmps105
  go_wp2_with (first | ((with_reducible show wpList _ _ _ (Oper.mk _ (Op.load _ _) _ _ _ _ :: _) _ _); refine wpList_load_g hl1 _ rfl rfl (by go_simp) ?_) | ((with_reducible show wpList _ _ _ (Oper.mk _ (Op.load _ _) _ _ _ _ :: _) _ _); refine wpList_load_g hl2 _ rfl rfl (by go_simp) ?_))
  rw [← HC1.out, ← HC2.out]
  refine (against_any r p _ hr hp).mono ?_
  rintro e w1 ⟨rfl, hbb1⟩
  rw [HC1.out, HC2.out] at hbb1
  have HB1 := Lib.hid hbb1
  clear hbb1 hl1 hl2
  go_wp2
  go_ret
  exact ⟨rfl, below_step HBE.out HB1.out⟩
end Go.Proofs.YtihfaknflfmohaaDoor

/- Layer 9 (table): the place of a prefix. -/
namespace Go.Proofs.YtihfaknflfmohaaDoor
open Go.RowKit
set_option linter.unusedVariables false
set_option linter.unusedSimpArgs false
set_option maxRecDepth 4000

set_option maxHeartbeats 2000000 in
theorem bsearch_any (A : Option Addr) (n c : Nat) (t : List Row) (p : Pfx) (w : World) (ht : RT w A n c t) (hu : rising t = true) (hp : B16 p.l) (hn : n ≤ 1000) :
    Calls Tryd.prog 104 #[.slice A n c, .agg (pfxV p.v p.l p.b), .func (Fn.func 105) #[] #[]] w fun e w' => e = .returned (.tuple #[.int .i64 (lowN t p), .bool (thereB t p)]) ∧ Below w.heap.size w w' := by
  have hblk1 := blk_new w (.cells (pfxV p.v p.l p.b) 36)
  have hbel1 : Below w.heap.size w (w.alloc (.cells (pfxV p.v p.l p.b) 36)) := below_alloc (Below.refl _ _) _
  have HP1 := Lib.hid (pfx_at hp hblk1)
  have HBK1 := Lib.hid hblk1
  have HBE := Lib.hid hbel1
  obtain ⟨cs1, hcs1⟩ : ∃ cs, pfxV p.v p.l p.b = cs := ⟨_, rfl⟩
  simp only [hcs1] at HBE HP1 HBK1 ⊢
  have HC1 := Lib.hid hcs1
  clear hcs1 hblk1 hbel1
  have HT := Lib.hid ht
  have HU := Lib.hid hu
  have HLE := Lib.hid (show lowN t p ≤ n by rw [← ht.len]; exact lowN_le t p)
  have hl2 := (HP1.out.all _ (Below.refl _ _)).2.2.2.2
  rw [HC1.out] at hl2
  clear ht hu
  go_enter Tryd.func104, Tryd.ntmps104
  go_wp2_with fail
  clear hl2
  go_loopw [9, 10] (fun x y wr => ∃ i j : Nat, x = .int .i64 i ∧ y = .int .i64 j ∧ Hid (i ≤ lowN t p ∧ lowN t p ≤ j ∧ j ≤ n ∧ Below (w.alloc (.cells cs1 36)).heap.size (w.alloc (.cells cs1 36)) wr)) (fun x y _ => (intOf y).toNat - (intOf x).toNat)
  case atStart => exact ⟨0, n, rfl, rfl, Nat.zero_le _, HLE.out, Nat.le_refl _, Below.refl _ _⟩
  case round =>
    obtain ⟨i, j, rfl, rfl, HH⟩ := hrel
    have hij := Nat.le_trans HH.out.1 HH.out.2.1
    have hjn := HH.out.2.2.1
    by_cases hlt : i < j
    · have hlt' : (i : Int) < j := by omega
      have hw1 : IntKind.i64.wrap ((i : Int) + j) = i + j := by simp only [IntKind.wrap, IntKind.bits, IntKind.signed]; simp; omega
      have hw2 : IntKind.u64.wrap ((i : Int) + j) = i + j := by simp only [IntKind.wrap, IntKind.bits, IntKind.signed]; simp; omega
      obtain ⟨h, hh⟩ : ∃ h : Nat, ((i : Int) + j) / 2 = h := ⟨(i + j) / 2, by omega⟩
      have hih : i ≤ h := by omega
      have hhj : h < j := by omega
      have HI := Lib.hid (And.intro hih hhj)
      obtain ⟨b, o, rfl, hc⟩ := HT.out.at_ (by omega)
      have hhn : h < n := by omega
      have hhn' : (h : Int) < n := by omega
      have HC := Lib.hid (hc h hhn)
      have HF := Lib.hid (HT.out.fits_at hhn)
      have HSP := Lib.hid (lowN_spec p HU.out h (by rw [HT.out.len]; exact hhn))
      clear hih hhj hc
      go_wp2_with fail
      refine wp_region_mix (fun w0 => Below (wr).heap.size (wr) w0) [(0, 0), (1, 0), (2, 0), (3, 0), (4, 0), (5, 0), (6, 2), (7, 0)] (by kernel_rfl) (by kernel_rfl) (below_drew1 _) ?_
      simp only [List.map_cons, List.map_nil]
      iterate 4 (refine wpO_step0 rfl rfl (fun K hK => ?_); go_simp; refine hK _ _ ?_; clear hK K)
      refine wpO_loadW (t := 38) (ad := ⟨b, (o+h*19), none⟩) rfl rfl ?hw rfl rfl ((fun w0 hS => (rowLd_of HF.out (HC.out.below (below_step HBE.out (below_step HH.out.2.2.2 hS)))).row)) ?_
      case hw => go_simp
      refine wpO_loadW (t := 36) (ad := ⟨w.heap.size, 0, none⟩) rfl rfl ?hw rfl rfl ((fun w0 hS => (HP1.out.all w0 (below_step HH.out.2.2.2 hS)).2.2.2.2)) ?_
      case hw => go_simp
      refine wpO_step2 rfl rfl (below_drew1 _) (fun K hK => ?_)
      go_simp
      refine (place1_any (rowAt t h) p _ HF.out hp).mono ?_
      rintro e w3 ⟨rfl, hbb3⟩
      have HB3 := Lib.hid (below_step (below_drew1 _) hbb3)
      clear hbb3
      refine hK _ _ ⟨HB3.out, ?_⟩
      clear hK K
      cases hcm : decide ((rowAt t h).p.cmp p < 0) with
      | true =>
        iterate 1 (refine wpO_step0 rfl rfl (fun K hK => ?_); go_simp; refine hK _ _ ?_; clear hK K)
        refine wpO_nil ?_
        have HQ := Lib.hid (of_decide_eq_true hcm)
        go_wp2_with fail
        go_roundw
        case measure => simp [intOf]; have := HI.out; omega
        case rel =>
          refine ⟨h + 1, j, by go_num, rfl, ?_, HH.out.2.1, hjn, below_step HH.out.2.2.2 HB3.out⟩
          rcases Nat.lt_or_ge h (lowN t p) with hl | hl
          · exact hl
          · have h1 := HSP.out.2 hl
            have h2 := HQ.out
            omega
      | false =>
        iterate 1 (refine wpO_step0 rfl rfl (fun K hK => ?_); go_simp; refine hK _ _ ?_; clear hK K)
        refine wpO_nil ?_
        have HQ := Lib.hid (of_decide_eq_false hcm)
        go_wp2_with fail
        go_roundw
        case measure => simp [intOf]; have := HI.out; omega
        case rel =>
          refine ⟨i, h, rfl, rfl, HH.out.1, ?_, by omega, below_step HH.out.2.2.2 HB3.out⟩
          rcases Nat.lt_or_ge h (lowN t p) with hl | hl
          · have h1 := HSP.out.1 hl
            have h2 := HQ.out
            omega
          · exact hl
    · have hlt' : decide (i < j) = false := decide_eq_false hlt
      have hlow : i = lowN t p := by have h1 := HH.out.1; have h2 := HH.out.2.1; omega
      have HLO := Lib.hid hlow
      clear hlow hlt
      by_cases hin : i < n
      · obtain ⟨b, o, rfl, hc⟩ := HT.out.at_ (by omega)
        have hin' : (i : Int) < n := by omega
        have HC := Lib.hid (hc i hin)
        have HF := Lib.hid (HT.out.fits_at hin)
        have HTH := Lib.hid (show thereB t p = ((rowAt t i).p.cmp p == 0) by unfold thereB; rw [← HLO.out, rowAt_get (by rw [HT.out.len]; exact hin)])
        clear hc
        go_wp2_with fail
        refine wp_region_mix (fun w0 => Below (wr).heap.size (wr) w0) [(0, 0), (1, 0), (2, 0), (3, 0), (4, 0), (5, 0), (6, 0), (7, 0), (8, 0), (9, 0), (10, 0), (11, 2), (12, 0), (13, 0), (14, 0), (15, 0)] (by kernel_rfl) (by kernel_rfl) (below_drew1 _) ?_
        simp only [List.map_cons, List.map_nil]
        iterate 9 (refine wpO_step0 rfl rfl (fun K hK => ?_); go_simp; refine hK _ _ ?_; clear hK K)
        refine wpO_loadW (t := 38) (ad := ⟨b, (o+i*19), none⟩) rfl rfl ?hw rfl rfl ((fun w0 hS => (rowLd_of HF.out (HC.out.below (below_step HBE.out (below_step HH.out.2.2.2 hS)))).row)) ?_
        case hw => go_simp
        refine wpO_loadW (t := 36) (ad := ⟨w.heap.size, 0, none⟩) rfl rfl ?hw rfl rfl ((fun w0 hS => (HP1.out.all w0 (below_step HH.out.2.2.2 hS)).2.2.2.2)) ?_
        case hw => go_simp
        refine wpO_step2 rfl rfl (below_drew1 _) (fun K hK => ?_)
        go_simp
        refine (place1_any (rowAt t i) p _ HF.out hp).mono ?_
        rintro e w3 ⟨rfl, hbb3⟩
        have HB3 := Lib.hid (below_step (below_drew1 _) hbb3)
        clear hbb3
        refine hK _ _ ⟨HB3.out, ?_⟩
        clear hK K
        iterate 4 (refine wpO_step0 rfl rfl (fun K hK => ?_); go_simp; refine hK _ _ ?_; clear hK K)
        refine wpO_nil ?_
        go_wp2
        refine bodyPost_ret (results_tmp2 rfl _ _ _) rfl ?_
        rw [← HLO.out, HTH.out]
        exact ⟨rfl, below_step HBE.out (below_step HH.out.2.2.2 HB3.out)⟩
      · have hin' : decide (i < n) = false := decide_eq_false hin
        have HTH := Lib.hid (show thereB t p = false by unfold thereB; rw [← HLO.out, List.getElem?_eq_none_iff.2 (by rw [HT.out.len]; omega)])
        clear hin
        go_wp2_with fail
        refine wp_region_mix (fun w0 => Below (wr).heap.size (wr) w0) [(0, 0), (1, 0), (2, 0), (3, 0), (4, 0), (5, 0), (6, 0), (7, 0), (8, 0), (9, 0), (10, 0), (11, 2), (12, 0), (13, 0), (14, 0), (15, 0)] (by kernel_rfl) (by kernel_rfl) (below_drew1 _) ?_
        simp only [List.map_cons, List.map_nil]
        repeat first | (refine wpO_step0 rfl rfl (fun K hK => ?_); go_simp; refine hK _ _ ?_; clear hK K) | (refine wpO_step2 rfl rfl (below_drew1 _) (fun K hK => ?_); go_simp; refine hK _ _ ⟨below_drew1 _, ?_⟩; clear hK K)
        refine wpO_nil ?_
        go_wp2
        refine bodyPost_ret (results_tmp2 rfl _ _ _) rfl ?_
        rw [← HLO.out, HTH.out]
        exact ⟨rfl, below_step HBE.out (below_step HH.out.2.2.2 (below_drew1 _))⟩
theorem place_any (A : Option Addr) (n c : Nat) (t : List Row) (p : Pfx) (w : World) (ht : RT w A n c t) (hu : rising t = true) (hp : B16 p.l) (hn : n ≤ 1000) : Calls Tryd.prog 71 #[.agg (tabV A n c), .agg (pfxV p.v p.l p.b)] w fun e w' => e = .returned (.tuple #[.int .i64 (lowN t p), .bool (thereB t p)]) ∧ Below w.heap.size w w' := by
  have hblk1 := blk_new w (.cells (tabV A n c) 28)
  have hbel1 : Below w.heap.size w (w.alloc (.cells (tabV A n c) 28)) := below_alloc (Below.refl _ _) _
  have hblk2 := blk_new (w.alloc (.cells (tabV A n c) 28)) (.cells (pfxV p.v p.l p.b) 36)
  have hbel2 : Below w.heap.size w ((w.alloc (.cells (tabV A n c) 28)).alloc (.cells (pfxV p.v p.l p.b) 36)) := below_alloc (hbel1) _
  rw [show (w.alloc (.cells (tabV A n c) 28)).heap.size = w.heap.size + 1 by simp] at hblk2
  replace hblk1 := blk_below hblk1 (below_alloc (Below.refl _ _) (.cells (pfxV p.v p.l p.b) 36))
  have HP1 := Lib.hid (tab_at hblk1)
  have HBK1 := Lib.hid hblk1
  have HP2 := Lib.hid (pfx_at hp hblk2)
  have HBK2 := Lib.hid hblk2
  have HBE := Lib.hid hbel2
  obtain ⟨cs1, hcs1⟩ : ∃ cs, tabV A n c = cs := ⟨_, rfl⟩
  obtain ⟨cs2, hcs2⟩ : ∃ cs, pfxV p.v p.l p.b = cs := ⟨_, rfl⟩
  simp only [hcs1, hcs2] at HBE HP1 HP2 HBK1 HBK2 ⊢
  have HC1 := Lib.hid hcs1
  have HC2 := Lib.hid hcs2
  clear hcs1 hblk1 hbel1 hcs2 hblk2 hbel2
  have HT := Lib.hid ht
  have HU := Lib.hid hu
  clear ht hu
  have hl1 := (HP1.out.all _ (Below.refl _ _)).2
  have hl2 := (HP2.out.all _ (Below.refl _ _)).2.2.2.2
  rw [HC2.out] at hl2
  go_enter Tryd.func71, Tryd.ntmps71
  go_wp2_with (first | ((with_reducible show wpList _ _ _ (Oper.mk _ (Op.load _ _) _ _ _ _ :: _) _ _); refine wpList_load_g hl1 _ rfl rfl (by go_simp) ?_) | ((with_reducible show wpList _ _ _ (Oper.mk _ (Op.load _ _) _ _ _ _ :: _) _ _); refine wpList_load_g hl2 _ rfl rfl (by go_simp) ?_))
  have hbs := bsearch_any A n c t p _ (HT.out.below HBE.out) HU.out hp hn
  rw [HC2.out] at hbs
  refine hbs.mono ?_
  clear hbs
  rintro e w1 ⟨rfl, hbb1⟩
  have HB1 := Lib.hid hbb1
  clear hbb1 hl1 hl2
  go_wp2
  refine bodyPost_ret (results_tmp2 rfl _ _ _) rfl ?_
  exact ⟨rfl, below_step HBE.out HB1.out⟩
end Go.Proofs.YtihfaknflfmohaaDoor

/- Layer 9 (table): Check. -/
namespace Go.Proofs.YtihfaknflfmohaaDoor
open Go.RowKit
set_option linter.unusedVariables false
set_option linter.unusedSimpArgs false
set_option maxRecDepth 4000

theorem store_row_fit {cs : Array Value} {r : Row} (hf : r.fits) (h : cs.size = 19) : 0 + (rowV r).size ≤ cs.size := by rw [rowV_size hf, h]; omega
theorem splice_row {cs : Array Value} {r : Row} (hf : r.fits) (h : cs.size = 19) : splice cs 0 (rowV r).toList = rowV r := splice_all _ _ (by rw [Array.length_toList, rowV_size hf, h])
def errT (t : List Row) : Int := if tabB t then 0 else 190
set_option maxHeartbeats 4000000 in
theorem tcheck_any (A : Option Addr) (n c : Nat) (t : List Row) (w : World) (hL : Laid w) (ht : RT w A n c t) (hn : n ≤ 100000) : Calls Tryd.prog 25 #[.agg (tabV A n c)] w fun e w' => e = .returned (.int .i64 (errT t)) ∧ Below w.heap.size w w' := by
  have hblk1 := blk_new w (.cells (tabV A n c) 28)
  have hbel1 : Below w.heap.size w (w.alloc (.cells (tabV A n c) 28)) := below_alloc (Below.refl _ _) _
  have HP1 := Lib.hid (tab_at hblk1)
  have HBK1 := Lib.hid hblk1
  have HBE := Lib.hid hbel1
  have HL := Lib.hid (hL.below HBE.out)
  obtain ⟨cs1, hcs1⟩ : ∃ cs, tabV A n c = cs := ⟨_, rfl⟩
  simp only [hcs1] at HBE HL HP1 HBK1 ⊢
  have HC1 := Lib.hid hcs1
  clear hL hcs1 hblk1 hbel1
  have HT := Lib.hid ht
  have hl1 := (HP1.out.all _ (Below.refl _ _)).2
  clear ht
  go_enter Tryd.func25, Tryd.ntmps25
  go_wp2_with ((with_reducible show wpList _ _ _ (Oper.mk _ (Op.load _ _) _ _ _ _ :: _) _ _); refine wpList_load_g hl1 _ rfl rfl (by go_simp) ?_)
  clear hl1
  go_loopw [8] (fun x wr => ∃ i : Nat, x = .int .i64 i ∧ Hid (i ≤ n ∧ i ≤ 40 ∧ (∀ k, k < i → (rowAt t k).okB = true) ∧ (∀ k, k + 1 < i → (rowAt t k).p.cmp (rowAt t (k + 1)).p < 0) ∧ Below (w.alloc (.cells cs1 28)).heap.size (w.alloc (.cells cs1 28)) wr)) (fun x _ => n - (intOf x).toNat)
  case atStart => exact ⟨0, rfl, Nat.zero_le _, by omega, fun k h => by omega, fun k h => by omega, Below.refl _ _⟩
  case round =>
    obtain ⟨i, rfl, HH⟩ := hrel
    by_cases hlt : i < n
    · have hlt' : (i : Int) < n := by omega
      obtain ⟨b, o, rfl, hc⟩ := HT.out.at_ (by omega)
      have HC := Lib.hid hc
      have HF := Lib.hid (HT.out.fits_at hlt)
      have hrow := (rowLd_of HF.out ((hc i hlt).below (below_step HBE.out HH.out.2.2.2.2))).row
      clear hc
      go_wp2_with (first | ((with_reducible show wpList _ _ _ (Oper.mk _ (Op.load _ _) _ _ _ _ :: _) _ _); refine wpList_load_g hrow _ rfl rfl (by go_simp) ?_) | (refine wpList_store_blk (blk_new wr _) 38 0 (rowV (rowAt t i)) (store_row_fit HF.out rfl) (info_row HF.out) (rowV_one _) _ _ rfl rfl rfl rfl ?_; intro w2 hg hs hb; rw [splice_row HF.out rfl] at hb; have H2 := Lib.hid (And.intro (below_grown (below_alloc (Below.refl wr.heap.size wr) _) hg (Nat.le_refl _)) (row_at HF.out hb)); clear hg hs hb))
      clear hrow
      have HBW := Lib.hid (below_step HH.out.2.2.2.2 H2.out.1)
      by_cases h40 : i = 40
      · have HE := Lib.hid (show errT t = 190 by
          unfold errT
          rw [if_neg]
          intro h
          have := ((tabB_iff t).1 h).1
          rw [HT.out.len] at this
          omega)
        have h40' : ((i : Int) == 40) = true := by simp; omega
        clear h40
        refine wp_region_mix (fun w0 => Below (w2).heap.size (w2) w0) [(0, 0), (1, 0), (2, 0), (3, 0), (4, 0), (5, 2), (6, 0), (7, 0), (8, 0), (9, 0), (10, 0), (11, 0), (12, 0), (13, 0), (14, 0), (15, 0), (16, 0), (17, 0), (18, 0), (19, 0), (20, 0), (21, 0), (22, 0), (23, 0), (24, 0), (25, 0), (26, 2), (27, 0), (28, 0), (29, 0)] (by kernel_rfl) (by kernel_rfl) (below_drew1 _) ?_
        simp only [List.map_cons, List.map_nil]
        repeat first | (refine wpO_step0 rfl rfl (fun K hK => ?_); go_simp; refine hK _ _ ?_; clear hK K) | (refine wpO_step2 rfl rfl (below_drew1 _) (fun K hK => ?_); go_simp; refine hK _ _ ⟨below_drew1 _, ?_⟩; clear hK K)
        refine wpO_nil ?_
        go_wp2
        go_ret
        rw [HE.out]
        exact ⟨rfl, below_step HBE.out (below_step HBW.out (below_drew1 _))⟩
      · have h40' : ((i : Int) == 40) = false := by simp; omega
        have HI := Lib.hid h40
        clear h40
        refine wp_region_mix (fun w0 => Below (w2).heap.size (w2) w0) [(0, 0), (1, 0), (2, 0), (3, 0), (4, 0), (5, 2), (6, 0), (7, 0), (8, 0), (9, 0), (10, 0), (11, 0), (12, 0), (13, 0), (14, 0), (15, 0), (16, 0), (17, 0), (18, 0), (19, 0), (20, 0), (21, 0), (22, 0), (23, 0), (24, 0), (25, 0), (26, 2), (27, 0), (28, 0), (29, 0)] (by kernel_rfl) (by kernel_rfl) (below_drew1 _) ?_
        simp only [List.map_cons, List.map_nil]
        iterate 4 (refine wpO_step0 rfl rfl (fun K hK => ?_); go_simp; refine hK _ _ ?_; clear hK K)
        refine wpO_loadW (t := 36) (ad := ⟨wr.heap.size, 0, none⟩) rfl rfl ?hw rfl rfl ((fun w0 hS => (H2.out.2.all w0 hS).pfx)) ?_
        case hw => go_simp
        refine wpO_step2 rfl rfl (below_drew1 _) (fun K hK => ?_)
        go_simp
        refine (check_any (rowAt t i).p.v (rowAt t i).p.l (rowAt t i).p.b _ (HL.out.below (below_step HBW.out (below_drew1 _))) HF.out).mono ?_
        rintro e w3 ⟨rfl, hbb3⟩
        have HB3 := Lib.hid (below_step (below_drew1 _) hbb3)
        clear hbb3
        refine hK _ _ ⟨HB3.out, ?_⟩
        clear hK K
        have hNO : ∀ P : Prop, (errT t = 190 ↔ tabB t = false) := fun _ => by unfold errT; cases tabB t <;> simp
        cases hR : rightP (rowAt t i).p.v (rowAt t i).p.l (rowAt t i).p.b with
        | false =>
          have HE := Lib.hid (show errT t = 190 by
            unfold errT
            rw [if_neg]
            intro h
            have h2 := ((okB_iff _).1 (((tabB_iff t).1 h).2.1 i (by rw [HT.out.len]; exact hlt))).1
            have h3 : (rowAt t i).p.right = false := hR
            rw [h3] at h2
            cases h2)
          have hE : errP (rowAt t i).p.v (rowAt t i).p.l (rowAt t i).p.b = 151 := by unfold errP; rw [hR]; rfl
          rw [hE]
          clear hE hR hNO
          repeat first | (refine wpO_step0 rfl rfl (fun K hK => ?_); go_simp; refine hK _ _ ?_; clear hK K) | (refine wpO_step2 rfl rfl (HB3.out) (fun K hK => ?_); go_simp; refine hK _ _ ⟨HB3.out, ?_⟩; clear hK K)
          refine wpO_nil ?_
          go_wp2
          go_ret
          rw [HE.out]
          exact ⟨rfl, below_step HBE.out (below_step HBW.out HB3.out)⟩
        | true =>
          have HR := Lib.hid (show (rowAt t i).p.right = true from hR)
          have hE : errP (rowAt t i).p.v (rowAt t i).p.l (rowAt t i).p.b = 0 := by unfold errP; rw [hR]; rfl
          rw [hE]
          clear hE hR hNO
          iterate 4 (refine wpO_step0 rfl rfl (fun K hK => ?_); go_simp; refine hK _ _ ?_; clear hK K)
          refine wpO_loadW (t := 3) (ad := ⟨wr.heap.size, 18, none⟩) rfl rfl ?hw rfl rfl ((fun w0 hS => (H2.out.2.all w0 hS).hop)) ?_
          case hw => go_simp
          refine wpO_quiet rfl rfl ?hw Tryd.func63 (by kernel_rfl) (by kernel_rfl) rfl rfl (fun w0 hS => hop_any (rowAt t i).h w0) ?_
          case hw => go_simp
          cases hH : hopB (rowAt t i).h with
          | false =>
            have HE := Lib.hid (show errT t = 190 by
              unfold errT
              rw [if_neg]
              intro h
              have h2 := ((okB_iff _).1 (((tabB_iff t).1 h).2.1 i (by rw [HT.out.len]; exact hlt))).2
              have h3 : hopB (rowAt t i).h = true := by unfold hopB; simp [h2]
              rw [hH] at h3
              cases h3)
            clear hH
            repeat first | (refine wpO_step0 rfl rfl (fun K hK => ?_); go_simp; refine hK _ _ ?_; clear hK K) | (refine wpO_step2 rfl rfl (HB3.out) (fun K hK => ?_); go_simp; refine hK _ _ ⟨HB3.out, ?_⟩; clear hK K)
            refine wpO_nil ?_
            go_wp2
            go_ret
            rw [HE.out]
            exact ⟨rfl, below_step HBE.out (below_step HBW.out HB3.out)⟩
          | true =>
            have HOK := Lib.hid (show (rowAt t i).okB = true by
              unfold hopB at hH
              simp only [Bool.and_eq_true, decide_eq_true_eq] at hH
              exact (okB_iff _).2 ⟨HR.out, hH⟩)
            clear hH
            by_cases h0 : i = 0
            · have h0' : decide (0 < i) = false := decide_eq_false (by omega)
              have HI0 := Lib.hid h0
              clear h0
              repeat first | (refine wpO_step0 rfl rfl (fun K hK => ?_); go_simp; refine hK _ _ ?_; clear hK K) | (refine wpO_step2 rfl rfl (HB3.out) (fun K hK => ?_); go_simp; refine hK _ _ ⟨HB3.out, ?_⟩; clear hK K)
              refine wpO_nil ?_
              go_wp2_with fail
              go_roundw
              case measure => simp [intOf]; omega
              case rel =>
                have hi0 := HI0.out
                have := HI.out
                refine ⟨i + 1, by go_num, by omega, by omega, fun k hk => ?_, fun k hk => by omega, below_step HBW.out HB3.out⟩
                rw [show k = i by omega]
                exact HOK.out
            · have h0' : 0 < i := by omega
              obtain ⟨k, hk⟩ : ∃ k : Nat, (i : Int) - 1 = k := ⟨i - 1, by omega⟩
              have hik : i = k + 1 := by omega
              have HK := Lib.hid hik
              have hwk : IntKind.i64.wrap (k : Int) = k := by simp only [IntKind.wrap, IntKind.bits, IntKind.signed]; simp; omega
              have hkn : k < n := by omega
              have hkn' : (k : Int) < n := by omega
              have HFK := Lib.hid (HT.out.fits_at hkn)
              have HCK := Lib.hid (HC.out k hkn)
              have HPOS := Lib.hid h0
              clear hik h0
              iterate 7 (refine wpO_step0 rfl rfl (fun K hK => ?_); go_simp; refine hK _ _ ?_; clear hK K)
              refine wpO_loadW (t := 26) (ad := ⟨w.heap.size, 0, none⟩) rfl rfl ?hw rfl rfl ((fun w0 hS => (HP1.out.all w0 (below_step HBW.out hS)).2)) ?_
              case hw => go_simp
              iterate 3 (refine wpO_step0 rfl rfl (fun K hK => ?_); go_simp; refine hK _ _ ?_; clear hK K)
              refine wpO_loadW (t := 38) (ad := ⟨b, (o+k*19), none⟩) rfl rfl ?hw rfl rfl ((fun w0 hS => (rowLd_of HFK.out (HCK.out.below (below_step HBE.out (below_step HBW.out hS)))).row)) ?_
              case hw => go_simp
              iterate 1 (refine wpO_step0 rfl rfl (fun K hK => ?_); go_simp; refine hK _ _ ?_; clear hK K)
              refine wpO_loadW (t := 36) (ad := ⟨wr.heap.size, 0, none⟩) rfl rfl ?hw rfl rfl ((fun w0 hS => (H2.out.2.all w0 hS).pfx)) ?_
              case hw => go_simp
              refine wpO_step2 rfl rfl (HB3.out) (fun K hK => ?_)
              go_simp
              refine (against_any (rowAt t k) (rowAt t i).p _ HFK.out HF.out).mono ?_
              rintro e w4 ⟨rfl, hbb4⟩
              have HB4 := Lib.hid (below_step HB3.out hbb4)
              clear hbb4
              refine hK _ _ ⟨HB4.out, ?_⟩
              clear hK K
              cases hcm : decide (0 ≤ (rowAt t k).p.cmp (rowAt t i).p) with
              | true =>
                have HE := Lib.hid (show errT t = 190 by
                  unfold errT
                  rw [if_neg]
                  intro h
                  have h2 := ((tabB_iff t).1 h).2.2 k (by rw [HT.out.len]; have := HK.out; omega)
                  rw [← HK.out] at h2
                  have h3 := of_decide_eq_true hcm
                  omega)
                iterate 3 (refine wpO_step0 rfl rfl (fun K hK => ?_); go_simp; refine hK _ _ ?_; clear hK K)
                refine wpO_nil ?_
                go_wp2
                go_ret
                rw [HE.out]
                exact ⟨rfl, below_step HBE.out (below_step HBW.out HB4.out)⟩
              | false =>
                have HQ := Lib.hid (of_decide_eq_false hcm)
                iterate 3 (refine wpO_step0 rfl rfl (fun K hK => ?_); go_simp; refine hK _ _ ?_; clear hK K)
                refine wpO_nil ?_
                go_wp2_with fail
                go_roundw
                case measure => simp [intOf]; omega
                case rel =>
                  have hkk := HK.out
                  have := HI.out
                  have h40n := HH.out.2.1
                  refine ⟨i + 1, by go_num, by omega, by omega, fun q hq => ?_, fun q hq => ?_, below_step HBW.out HB4.out⟩
                  · by_cases hqi : q < i
                    · exact HH.out.2.2.1 q hqi
                    · rw [show q = i by omega]; exact HOK.out
                  · by_cases hqi : q + 1 < i
                    · exact HH.out.2.2.2.1 q hqi
                    · have e1 : q = k := by omega
                      have e2 : q + 1 = i := by omega
                      rw [e2, e1]
                      have := HQ.out
                      omega
    · have hlt' : decide (i < n) = false := decide_eq_false hlt
      have HE := Lib.hid (show errT t = 0 by
        unfold errT
        rw [if_pos ((tabB_iff t).2 ⟨by rw [HT.out.len]; have := HH.out.1; have := HH.out.2.1; omega, fun k hk => HH.out.2.2.1 k (by rw [HT.out.len] at hk; omega), fun k hk => HH.out.2.2.2.1 k (by rw [HT.out.len] at hk; omega)⟩)])
      have HB := Lib.hid HH.out.2.2.2.2
      clear hlt
      go_wp2_with fail
      go_ret
      rw [HE.out]
      exact ⟨rfl, below_step HBE.out HB.out⟩
end Go.Proofs.YtihfaknflfmohaaDoor

/- The library's functions over slices, at rows. -/
namespace Go.Proofs.YtihfaknflfmohaaDoor
open Go.RowKit
set_option linter.unusedVariables false
set_option linter.unusedSimpArgs false
set_option maxRecDepth 4000
theorem cloneR_any (A : Option Addr) (n c : Nat) (t : List Row) (w : World) (hr : RS rowK w A n c t) (hn : n ≤ 1000000) :
    Calls Tryd.prog 72 #[.slice A n c] w fun e w' => ∃ A' c', e = .returned (.slice A' n c') ∧ OS rowK w' w.heap.size A' n c' t ∧ Below w.heap.size w w' := by
  have hnil := fun (w : World) (A : Option Addr) (n c : Nat) => Lib.run_eql_slice_nil (P := Tryd.prog) w 26 38 A n c 0 0 Tryd.underlying26
  cases A with
  | none =>
    have h0 : n = 0 := by
      rcases Nat.eq_zero_or_pos n with h | h
      · exact h
      · obtain ⟨ad, e, _⟩ := hr.rv.cells h
        cases e
    subst h0
    obtain rfl : t = [] := List.eq_nil_of_length_eq_zero hr.len
    go_enter Tryd.func72, Tryd.ntmps72
    go_wp2
    go_ret
    exact ⟨_, _, rfl, OS.nil _ _ _, Below.refl _ _⟩
  | some ad =>
    go_enter Tryd.func72, Tryd.ntmps72
    go_wp2_with (at_builtin; refine wpList_append_shp rowK rfl (.tmp 5) (.tmp 6) rfl rfl rfl (OS.empty rowK w w.heap.size (Nat.le_refl _)) (hr.below (below_alloc (Below.refl _ _) _)) (by simp) (by omega) ?_; intro A' c' w' h1 h2 h3; rw [Nat.zero_add, List.nil_append] at h1; rw [Nat.zero_add])
    go_ret
    exact ⟨_, _, rfl, h1, below_own (below_alloc (Below.refl _ _) _) h2 (fun ad h => by injection h with h; subst h; exact Nat.le_refl _)⟩
set_option maxHeartbeats 1000000 in
theorem deleteR_any (base : Nat) (A : Option Addr) (n c j : Nat) (t : List Row) (w : World) (ho : OS rowK w base A n c t) (hj : j < n) (hn : n ≤ 1000000) :
    Calls Tryd.prog 85 #[.slice A n c, .int .i64 j, .int .i64 ((j : Int) + 1)] w fun e w' => e = .returned (.slice A (n - 1) c) ∧ OS rowK w' base A (n - 1) c (t.take j ++ t.drop (j + 1)) ∧ w.grownBy w' ((Value.slice A n c).ownBlock) := by
  have hcap := ho.cap
  have hcmax : c ≤ 9223372036854775807 := ho.ov.capmax
  obtain ⟨ad, rfl⟩ : ∃ ad, A = some ad := by
    cases A with
    | none => have := ho.ov.bare rfl; omega
    | some ad => exact ⟨ad, rfl⟩
  have hj1 : (j : Int) + 1 = ((j + 1 : Nat) : Int) := by omega
  obtain ⟨v0, hv0⟩ : ∃ v, ∀ W : World, (Instr.slice 26 (.slice (some ad) n c) (some (.int .i64 (j : Int))) (some (.int .i64 ((j : Int) + 1))) (some (.int .i64 (n : Int)))).run Tryd.prog W = .ok v W := ⟨_, fun W => cutLHM rowK (some ad) n c _ _ _ j (j + 1) n rfl hj1 rfl (by omega) (by omega) hcap W⟩
  have hv1 : ∀ W : World, (Instr.slice 26 (.slice (some ad) n c) none (some (.int .i64 (j : Int))) none).run Tryd.prog W = .ok (.slice (some ad) j c) W := fun W => cutH rowK (some ad) n c _ j rfl (by omega) W
  obtain ⟨A2, hA2⟩ : ∃ A2, (if c = j + 1 then some ad else some (ad.add ((j + 1) * 19))) = A2 := ⟨_, rfl⟩
  have hv2 : ∀ W : World, (Instr.slice 26 (.slice (some ad) n c) (some (.int .i64 ((j : Int) + 1))) none none).run Tryd.prog W = .ok (.slice A2 (n - (j + 1)) (c - (j + 1))) W := fun W => by
    rw [← hA2]
    exact cutL rowK (some ad) n c _ (j + 1) hj1 (by omega) W
  have hsum : j + (n - (j + 1)) = n - 1 := by omega
  obtain ⟨A3, hA3⟩ : ∃ A3, (if c = n - 1 then some ad else some (ad.add ((n - 1) * 19))) = A3 := ⟨_, rfl⟩
  have hv3 : ∀ W : World, (Instr.slice 26 (.slice (some ad) (n - 1) c) (some (.int .i64 ((n - 1 : Nat) : Int))) (some (.int .i64 (n : Int))) none).run Tryd.prog W = .ok (.slice A3 (n - (n - 1)) (c - (n - 1))) W := fun W => by
    rw [← hA3]
    exact cutLH rowK (some ad) (n - 1) c _ _ (n - 1) n rfl rfl (by omega) hcap W
  have HT := Lib.hid (ho.take j c (by omega) (by omega) (Nat.le_refl _))
  have HR : Hid (RS rowK w A2 (n - (j + 1)) (c - (j + 1)) (t.drop (j + 1))) := Lib.hid (by rw [← hA2]; exact ho.reads.drop (j + 1) (by omega))
  have HA3 := Lib.hid hA3
  have HS := Lib.hid hsum
  have hjn0 : ((j : Int) == (j : Int) + 1) = false := by simpa using (by omega : ¬ ((j : Int) = (j : Int) + 1))
  have hjn1 : decide ((j : Int) = (j : Int) + 1) = false := decide_eq_false (by omega)
  have HJ := Lib.hid hj
  have HCAP := Lib.hid hcap
  clear hA2 hA3 hj1 ho hsum
  go_enter Tryd.func85, Tryd.ntmps85
  go_wp2_with fail
  refine wp_region_mix ((fun _ => True)) [(0, 0), (1, 0), (2, 0), (3, 0), (4, 0), (5, 0), (6, 2), (7, 0)] (by kernel_rfl) (by kernel_rfl) (trivial) ?_
  simp only [List.map_cons, List.map_nil]
  iterate 6 (refine wpO_step0 rfl rfl (fun K hK => ?_); go_simp; refine hK _ _ ?_; clear hK K)
  refine wpO_step2 rfl rfl (trivial) (fun K hK => ?_)
  rw [if_pos (show Region.wanted _ _ = true from rfl)]
  obtain ⟨w1, hr1, hO1, hg1⟩ := run_append_room_shp rowK w.drew 26 ad j c (t.take j) A2 (n - (j + 1)) (c - (j + 1)) (t.drop (j + 1)) (HT.out.below (below_drew1 _)) (HR.out.below (below_drew1 _)) (by have := HS.out; have := HCAP.out; omega) (by have := HS.out; omega)
  rw [HS.out] at hr1 hO1
  obtain ⟨w2, hr2, hO2, hg2⟩ := run_clear_shp rowK w1 0 ad (n - 1) c (n - (n - 1)) _ hO1 (by have := HCAP.out; have := HJ.out; omega) (d := A3) HA3.out.symm (c - (n - 1))
  have H2 := Lib.hid (And.intro hO2 (grown_trans (grown_trans (grown_drewN w 1 _) hg1) hg2))
  refine oper_exec (exec_append (.tmp 22) (.tmp 25) _ rfl rfl rfl hr1) ?_
  clear hr1 hO1 hg1 hO2 hg2
  refine hK _ _ ⟨trivial, ?_⟩
  clear hK K
  iterate 1 (refine wpO_step0 rfl rfl (fun K hK => ?_); go_simp; refine hK _ _ ?_; clear hK K)
  refine wpO_nil ?_
  go_wp2_with (refine wpList_exec rfl (exec_clear (.tmp 31) _ rfl rfl hr2) ?_)
  go_ret
  exact ⟨rfl, H2.out.1, H2.out.2⟩
set_option maxHeartbeats 4000000 in
set_option maxRecDepth 100000 in
theorem insertR_any (base : Nat) (A : Option Addr) (n c j vb : Nat) (t : List Row) (r : Row) (w : World) (ho : OS rowK w base A n c t) (hj : j ≤ n) (hn : n ≤ 100000) (hb : base ≤ w.heap.size)
    (hv : w.heap[vb]? = some (.cells (Shape.enc rowK r).toArray 38 (0, 0))) (hrk : Shape.ok rowK r) (hne : ∀ ad, A = some ad → ad.block ≠ vb) :
    Calls Tryd.prog 73 #[.slice A n c, .int .i64 j, .slice (some ⟨vb, 0, none⟩) 1 1] w fun e w' => ∃ A' c', e = .returned (.slice A' (n + 1) c') ∧ OS rowK w' base A' (n + 1) c' (t.take j ++ r :: t.drop j) ∧ w.grownBy w' ((Value.slice A n c).ownBlock) ∧ (A' = A ∨ ∀ ad, A' = some ad → w.heap.size ≤ ad.block) := by
  have hcap := ho.cap
  have hcmax : c ≤ 9223372036854775807 := ho.ov.capmax
  have hRV : RS rowK w (some ⟨vb, 0, none⟩) 1 1 [r] := ⟨⟨by rw [Shape.cells_one, rowK.len r hrk]; simp, by omega, by omega, fun _ => ⟨_, rfl, fun q u hq => by
    rw [Shape.cells_one] at hq
    rw [add_plain, blk_cell hv]
    simpa using hq⟩⟩, Shape.all_one hrk⟩
  have HRV := Lib.hid hRV
  have HN := Lib.hid hne
  have hjn' : (j : Int) ≤ n := by omega
  have hj1 : (j : Int) + 1 = ((j + 1 : Nat) : Int) := by omega
  have hn1 : (n : Int) + 1 = ((n + 1 : Nat) : Int) := by omega
  obtain ⟨A0, hA0⟩ : ∃ A0, (if c = j then A else A.map (·.add (j * 19))) = A0 := ⟨_, rfl⟩
  have hv0 : ∀ W : World, (Instr.slice 26 (.slice A n c) (some (.int .i64 (j : Int))) none none).run Tryd.prog W = .ok (.slice A0 (n - j) (c - j)) W := fun W => by
    rw [← hA0]
    exact cutL rowK A n c _ j rfl hj W
  have HA0 := Lib.hid hA0
  clear hA0
  by_cases hjn : j = n
  · subst hjn
    have htk : t.take j = t := List.take_of_length_le (by rw [ho.len]; exact Nat.le_refl _)
    have htd : t.drop j = [] := List.drop_eq_nil_of_le (by rw [ho.len]; exact Nat.le_refl _)
    rw [htk, htd]
    have HO := Lib.hid ho
    clear ho htk htd hRV hj1 hn1
    go_enter Tryd.func73, Tryd.ntmps73
    go_wp2_with (at_builtin; refine wpList_append_shp rowK rfl (.tmp 23) (.tmp 24) rfl rfl rfl HO.out HRV.out hb (by omega) ?_; intro A' c' w' h1 h2 h3)
    go_ret
    exact ⟨_, _, rfl, h1, h2, h3⟩
  · have hlt : j < n := by omega
    have hjnb : (j == n) = false := by simpa using hjn
    obtain ⟨ad, rfl⟩ : ∃ ad, A = some ad := by
      cases A with
      | none => have := ho.ov.bare rfl; omega
      | some ad => exact ⟨ad, rfl⟩
    have hadlt := ho.lt ad rfl
    have hsub : n + 1 - (j + 1) = n - j := by omega
    have HT := Lib.hid ho.len
    have HO := Lib.hid ho
    have HAL := Lib.hid hadlt
    clear hjn ho hRV hadlt
    by_cases hroom : n + 1 ≤ c
    · have hr1 : decide (c < n + 1) = false := decide_eq_false (by omega)
      have hr2 : decide ((c : Int) < n + 1) = false := decide_eq_false (by omega)
      have hw1 : IntKind.i64.wrap ((n : Int) + 1) = n + 1 := IntWalk.i64_in _ (by omega)
      have hw2 : IntKind.i64.wrap ((j : Int) + 1) = j + 1 := IntWalk.i64_in _ (by omega)
      have hv1 : ∀ W : World, (Instr.slice 26 (.slice (some ad) n c) none (some (.int .i64 ((n : Int) + 1))) none).run Tryd.prog W = .ok (.slice (some ad) (n + 1) c) W := fun W => cutH rowK (some ad) n c _ (n + 1) hn1 hroom W
      obtain ⟨A6, hA6⟩ : ∃ A6, (if c = j + 1 then some ad else some (ad.add ((j + 1) * 19))) = A6 := ⟨_, rfl⟩
      have hv6 : ∀ W : World, (Instr.slice 26 (.slice (some ad) (n + 1) c) (some (.int .i64 ((j : Int) + 1))) none none).run Tryd.prog W = .ok (.slice A6 (n - j) (c - (j + 1))) W := fun W => by
        rw [← hA6, ← hsub]
        exact cutL rowK (some ad) (n + 1) c _ (j + 1) hj1 (by omega) W
      have hv7 : ∀ W : World, (Instr.slice 26 (.slice (some ad) (n + 1) c) (some (.int .i64 (j : Int))) none none).run Tryd.prog W = .ok (.slice A0 (n + 1 - j) (c - j)) W := fun W => by
        rw [← HA0.out]
        exact cutL rowK (some ad) (n + 1) c _ j rfl (by omega) W
      obtain ⟨q1, q2, cur, q3, q4, q5⟩ := HO.out.ov.form _ rfl
      have hcur : cur.size ≠ 0 := by
        have h2 : 1 * 19 ≤ c * 19 := Nat.mul_le_mul_right _ (by omega)
        have h3 : ad.off + c * 19 ≤ cur.size := q4
        omega
      have hvne : vb ≠ ad.block := fun h => HN.out ad rfl h.symm
      obtain ⟨ad6, hA6b⟩ : ∃ ad6, A6 = some ad6 ∧ ad6.block = ad.block := by
        rw [← hA6]
        split
        · exact ⟨_, rfl, rfl⟩
        · exact ⟨_, rfl, add_block _ _⟩
      have hov : ∀ lb cb W, W = w → (callFunc 106 #[.slice (some ⟨vb, 0, none⟩) 1 1, .slice A6 lb cb]).run Tryd.prog W = .ok (.value (.bool false)) W := fun lb cb W hW => by
        subst hW
        obtain ⟨e6, e7⟩ := hA6b
        rw [e6, run_callFunc_extern Tryd.func106 (by kernel_rfl) (by kernel_rfl) (by kernel_rfl) (e := Extern.SlicesOverlaps.overlaps #[26, 26] #[4]) (by kernel_rfl),
          Lib.run_overlaps_apart W 26 4 38 (Shape.und rowK) 19 (Shape.run_size rowK) ⟨vb, 0, none⟩ ad6 1 1 lb cb (by rw [e7]; exact hvne) 38 38 _ cur.size (by simp only [World.shape?, hv]; rfl) (by rw [e7]; simp only [World.shape?, q3]; rfl) hcur (blk_frozen hv 0) (blk_frozen hv _)]
        rfl
      have hov1 := hov (n - j) (c - (j + 1)) w rfl
      clear hov hA6b hcur q1 q2 q3 q4 q5 hvne
      obtain ⟨more, hE⟩ := HO.out.ov.extendTo (n + 1) (by omega) hroom (by omega)
      have hml := hE.len
      have hcl := HO.out.ov.len
      have hEd := hE.below (below_drew1 w)
      have hRd := hEd.reads.drop j (by omega)
      rw [show (if c = j then some ad else Option.map (fun x => x.add (j * rowK.sz)) (some ad)) = A0 from HA0.out] at hRd
      have hdt : ∀ x : List Value, (x.drop (j * rowK.sz)).take ((n - j) * rowK.sz) = (x.drop (j * rowK.sz)).take ((n - j) * rowK.sz) := fun _ => rfl
      have hmin : min (n + 1 - j) (n + 1 - (j + 1)) = n - j := by omega
      have hone1 : ∀ u ∈ ((rowK.cells t ++ more).drop (j * rowK.sz)).take (min (n + 1 - j) (n + 1 - (j + 1)) * rowK.sz), u.oneCell' = true := by
        rw [hmin]
        intro u hu
        have hjs : j * rowK.sz ≤ n * rowK.sz := Nat.mul_le_mul_right _ (by omega)
        rw [List.drop_append_of_le_length (by rw [hcl]; exact hjs), List.take_append_of_le_length (by rw [List.length_drop, hcl, ← Nat.sub_mul]; exact Nat.le_refl _)] at hu
        exact Shape.cells_cell t u (List.mem_of_mem_drop (List.mem_of_mem_take hu))
      obtain ⟨w1, hc1, hO1, hg1⟩ := run_copy_rows (P := Tryd.prog) w.drew 26 3 38 rowK.sz (Shape.und rowK) (Shape.size rowK) ad (n + 1) c (j + 1) _ A0 (n + 1 - j) (c - j) _ hEd hRd (by omega) hone1 (d := A6) hA6.symm (c - (j + 1))
      rw [hmin] at hO1 hc1
      rw [hsub] at hc1
      have hRV1 := ((HRV.out.below (below_drew1 w)).grown hg1 (fun ad' e => by injection e with e; subst e; intro h; injection h with h; exact HN.out ad rfl h.symm)).rv
      rw [Shape.cells_one] at hRV1
      have hmin2 : min 1 (n + 1 - j) = 1 := by omega
      obtain ⟨w2, hc2, hO2, hg2⟩ := run_copy_rows (P := Tryd.prog) w1 26 3 38 rowK.sz (Shape.und rowK) (Shape.size rowK) ad (n + 1) c j _ (some ⟨vb, 0, none⟩) 1 1 _ hO1 hRV1 (by omega) (by rw [hmin2]; intro u hu; exact rowK.one r u (List.mem_of_mem_take hu)) (d := A0) HA0.out.symm (c - j)
      rw [hmin2] at hO2 hc2
      rw [shift_list (rowK.cells t) more (rowK.enc r) rowK.sz j n hcl hml (rowK.len r hrk) (by omega), Shape.cells_take HO.out.fits j (by rw [HT.out]; omega), Shape.cells_drop HO.out.fits j (by rw [HT.out]; omega)] at hO2
      have hO3 : OS rowK w2 base (some ad) (n + 1) c (t.take j ++ r :: t.drop j) := ⟨by
        have : rowK.cells (t.take j ++ r :: t.drop j) = rowK.cells (t.take j) ++ rowK.enc r ++ rowK.cells (t.drop j) := by rw [Shape.cells_append, Shape.cells_cons, List.append_assoc]
        rw [this]
        exact hO2, (HO.out.fits.take j).append (fun x hx => by
        rcases List.mem_cons.1 hx with rfl | hx
        · exact hrk
        · exact HO.out.fits.drop j x hx)⟩
      have H3 := Lib.hid (And.intro hO3 (grown_trans (grown_trans (grown_drewN w 1 _) hg1) hg2))
      clear hO3 hO2 hO1 hg1 hg2 hE hEd hRd hone1 hmin hmin2 hRV1 hdt hml hcl hn1 hj1 hA6 hsub
      go_enter Tryd.func73, Tryd.ntmps73
      go_wp2_with fail
      refine wp_region_mix ((fun _ => True)) [(0, 0), (1, 0), (2, 0), (3, 0), (4, 0), (5, 0), (6, 0), (7, 0), (8, 2)] (by kernel_rfl) (by kernel_rfl) (trivial) ?_
      simp only [List.map_cons, List.map_nil]
      iterate 8 (refine wpO_step0 rfl rfl (fun K hK => ?_); go_simp; refine hK _ _ ?_; clear hK K)
      refine wpO_step2 rfl rfl (trivial) (fun K hK => ?_)
      rw [if_pos (show Region.wanted _ _ = true from rfl)]
      refine oper_exec (exec_copy (.tmp 73) (.tmp 76) _ rfl rfl rfl hc1) ?_
      refine hK _ _ ⟨trivial, ?_⟩
      clear hK K
      refine wpO_nil ?_
      go_wp2_with (refine wpList_exec rfl (exec_copy (.tmp 80) (.tmp 81) _ rfl rfl rfl hc2) ?_)
      go_ret
      exact ⟨_, _, rfl, H3.out.1, H3.out.2, .inl rfl⟩
    · have hr1 : c < n + 1 := by omega
      have hr2 : (c : Int) < n + 1 := by omega
      have hw1 : IntKind.i64.wrap ((n : Int) + 1) = n + 1 := IntWalk.i64_in _ (by omega)
      have hw2 : IntKind.i64.wrap ((j : Int) + 1) = j + 1 := IntWalk.i64_in _ (by omega)
      have hw3 : IntKind.i64.wrap ((n : Int) + 1 - j) = n + 1 - j := IntWalk.i64_in _ (by omega)
      have hv1 : ∀ W : World, (Instr.slice 26 (.slice (some ad) n c) none (some (.int .i64 (j : Int))) none).run Tryd.prog W = .ok (.slice (some ad) j c) W := fun W => cutH rowK (some ad) n c _ j rfl (by omega) W
      have hk : (n : Int) + 1 - j = ((n + 1 - j : Nat) : Int) := by omega
      obtain ⟨ad1, c1, w1, hc1, hO1, hb1, hblk⟩ := run_growz_shp (base := w.heap.size) rowK w 3 26 .i64 .i64 Tryd.underlying3 (some ad) j c (n + 1 - j) _ (HO.out.reads.take j (by omega)) (by omega) (by omega) (by omega) (Nat.le_refl _)
      rw [← hk] at hc1
      rw [show j + (n + 1 - j) = n + 1 by omega] at hc1 hO1
      have hcap1 := hO1.cap
      have hc1max : c1 ≤ 9223372036854775807 := hO1.ov.capmax
      obtain ⟨A4, hA4⟩ : ∃ A4, (if c1 = j then some ad1 else some (ad1.add (j * 19))) = A4 := ⟨_, rfl⟩
      have hv4 : ∀ W : World, (Instr.slice 26 (.slice (some ad1) (n + 1) c1) (some (.int .i64 (j : Int))) none none).run Tryd.prog W = .ok (.slice A4 (n + 1 - j) (c1 - j)) W := fun W => by
        rw [← hA4]
        exact cutL rowK (some ad1) (n + 1) c1 _ j rfl (by omega) W
      obtain ⟨A5, hA5⟩ : ∃ A5, (if c1 = j + 1 then some ad1 else some (ad1.add ((j + 1) * 19))) = A5 := ⟨_, rfl⟩
      have hv5 : ∀ W : World, (Instr.slice 26 (.slice (some ad1) (n + 1) c1) (some (.int .i64 ((j : Int) + 1))) none none).run Tryd.prog W = .ok (.slice A5 (n - j) (c1 - (j + 1))) W := fun W => by
        rw [← hA5, ← hsub]
        exact cutL rowK (some ad1) (n + 1) c1 _ (j + 1) hj1 (by omega) W
      have hvlt := blk_lt hv
      obtain ⟨w2, hc2, hO2, hg2⟩ := run_copy_shp rowK w1 3 ad1 (n + 1) c1 j _ (some ⟨vb, 0, none⟩) 1 1 [r] hO1 (HRV.out.below hb1) (by omega) (d := A4) hA4.symm (c1 - j)
      have hRD := ((((HO.out.reads.drop j (by omega)).below hb1).grown hg2 (fun ad' e => by
        intro h
        injection h with h
        have hb : ad'.block = ad.block := by
          split at e
          · injection e with e; rw [← e]
          · simp only [Option.map_some, Option.some.injEq] at e; rw [← e, add_block]
        have := HAL.out
        omega)).below (below_drew1 w2))
      rw [show (if c = j then some ad else Option.map (fun x => x.add (j * rowK.sz)) (some ad)) = A0 from HA0.out] at hRD
      obtain ⟨w3, hc3, hO3, hg3⟩ := run_copy_shp rowK w2.drew 3 ad1 (n + 1) c1 (j + 1) _ A0 (n - j) (c - j) (t.drop j) (hO2.below (below_drew1 w2)) hRD (by omega) (d := A5) hA5.symm (c1 - (j + 1))
      rw [grow_list t r _ j n HT.out (by omega)] at hO3
      rw [hsub] at hc3
      have hbz : Below w.heap.size w w3 := below_grown (below_step (below_grown hb1 hg2 (by omega)) (below_drew1 w2)) hg3 (by omega)
      have H3 := Lib.hid (And.intro (hO3.lower hb) (And.intro (grown_of_below hbz ((Value.slice (some ad) n c).ownBlock)) (show ∀ ad', some ad1 = some ad' → w.heap.size ≤ ad'.block from fun ad' e => by injection e with e; rw [← e]; omega)))
      clear hO3 hO2 hO1 hg2 hg3 hRD hbz hA4 hA5 hk hblk hn1 hj1 hvlt hb1 hsub
      go_enter Tryd.func73, Tryd.ntmps73
      go_wp2_with (first | (refine wpList_exec rfl (exec_append (.tmp 34) (.tmp 39) _ rfl rfl rfl hc1) ?_) | (refine wpList_exec rfl (exec_copy (.tmp 43) (.tmp 44) _ rfl rfl rfl hc2) ?_))
      refine wp_region_mix ((fun _ => True)) [(0, 0), (1, 0), (2, 0), (3, 0), (4, 0), (5, 0), (6, 0), (7, 0), (8, 2)] (by kernel_rfl) (by kernel_rfl) (trivial) ?_
      simp only [List.map_cons, List.map_nil]
      iterate 8 (refine wpO_step0 rfl rfl (fun K hK => ?_); go_simp; refine hK _ _ ?_; clear hK K)
      refine wpO_step2 rfl rfl (trivial) (fun K hK => ?_)
      rw [if_pos (show Region.wanted _ _ = true from rfl)]
      refine oper_exec (exec_copy (.tmp 50) (.tmp 53) _ rfl rfl rfl hc3) ?_
      refine hK _ _ ⟨trivial, ?_⟩
      clear hK K
      refine wpO_nil ?_
      go_wp2
      go_ret
      exact ⟨_, _, rfl, H3.out.1, H3.out.2.1, .inr H3.out.2.2⟩
end Go.Proofs.YtihfaknflfmohaaDoor

/- Two rows of the call's own, appended to by turns. -/
namespace Go.Proofs.YtihfaknflfmohaaDoor
open Go.RowKit
set_option linter.unusedVariables false
set_option linter.unusedSimpArgs false
set_option maxRecDepth 4000
def Apart (A1 A2 : Option Addr) : Prop := ∀ a b, A1 = some a → A2 = some b → a.block ≠ b.block
theorem Apart.symm {A1 A2 : Option Addr} (h : Apart A1 A2) : Apart A2 A1 := fun a b ha hb e => h b a hb ha e.symm
theorem own_of {A : Option Addr} {n c k : Nat} (h : (Value.slice A n c).ownBlock = some k) : ∃ ad, A = some ad ∧ ad.block = k := by
  cases A with
  | none => cases h
  | some ad =>
    injection h with h
    exact ⟨ad, rfl, h⟩
end Go.Proofs.YtihfaknflfmohaaDoor

/- The document's answer for layer 5: Compare. -/
namespace Go.Proofs.YtihfaknflfmohaaDoor
open Go.RowKit
set_option linter.unusedVariables false
set_option linter.unusedSimpArgs false
set_option maxRecDepth 4000

end Go.Proofs.YtihfaknflfmohaaDoor

/- The document's answer for layer 5 (junctionboxref05): Right. -/
namespace Go.Proofs.YtihfaknflfmohaaDoor
open Go.RowKit
set_option linter.unusedVariables false
set_option linter.unusedSimpArgs false
set_option maxRecDepth 4000

end Go.Proofs.YtihfaknflfmohaaDoor

/- The document's answer for layer 9: Right. -/
namespace Go.Proofs.YtihfaknflfmohaaDoor
open Go.RowKit
set_option linter.unusedVariables false
set_option linter.unusedSimpArgs false
set_option maxRecDepth 4000

def Oks (t : List Row) : Prop := ∀ r ∈ t, r.ok
theorem Oks.at_ {t : List Row} (h : Oks t) {i : Nat} (hi : i < t.length) : (rowAt t i).ok := h _ (List.mem_of_getElem? (rowAt_get hi))
end Go.Proofs.YtihfaknflfmohaaDoor

/- Arguments that are rows and tables, opened. -/
namespace Go.Proofs.YtihfaknflfmohaaDoor
open Go.ChangeShapes Go.WideShapes Go.ChangeAt Go.RowKit
set_option linter.unusedVariables false
set_option linter.unusedSimpArgs false
set_option maxRecDepth 4000
section
variable {H : Type} {enc : TypeId × Value → H} {W : World} {base : Nat} {spare : Nat → Bool} {held : Bool}
end
end Go.Proofs.YtihfaknflfmohaaDoor

/- Layer 27 (cache): entries in memory (37 cells), and caches (5 cells: room, version, entries, hits, misses). -/
namespace Go.Proofs.YtihfaknflfmohaaDoor
open Go.RowKit
set_option linter.unusedVariables false
set_option linter.unusedSimpArgs false
set_option maxRecDepth 4000
structure Ent where
  v : Int
  l : List Int
  r : Row
  f : Bool
structure Ent.fits (e : Ent) : Prop where
  l : B16 e.l
  r : e.r.fits
def entC (e : Ent) : List Value := (.int .i64 e.v :: nums .u8 e.l) ++ (rowC e.r ++ [.bool e.f])
def entV (e : Ent) : Array Value := (entC e).toArray
theorem entC_len {e : Ent} (h : e.fits) : (entC e).length = 37 := by
  have h1 : (nums .u8 e.l).length = 16 := by rw [nums_length]; exact h.l.len
  have h2 := rowC_len h.r
  simp [entC, h1, h2]
theorem entV_size {e : Ent} (h : e.fits) : (entV e).size = 37 := by simp [entV, entC_len h]
theorem entC_one (e : Ent) : ∀ u ∈ entC e, u.oneCell' = true := by
  intro u hu
  simp only [entC, List.mem_cons, List.mem_append, List.not_mem_nil, or_false] at hu
  rcases hu with (rfl | hu) | (hu | rfl)
  · rfl
  · exact nums_one _ _ u hu
  · exact rowC_one _ u hu
  · rfl
def entZ : Ent := ⟨0, zero16, rowZ, false⟩
theorem entZ_fits : entZ.fits := ⟨zero16_B, zero16_B⟩
theorem zero_ent : (Tryd.prog.info? 43).map (fun i => (i.zero, i.size, i.bytes)) = some (some (.agg (entV entZ)), 37, 72) := by kernel_rfl
theorem info_ent {e : Ent} (h : e.fits) : (Tryd.prog.info? 43).map (·.size) = some (entV e).size := by rw [entV_size h]; kernel_rfl
def entK : Shape Ent where
  t := 43
  ts := 23
  sz := 37
  bytes := 72
  z := entZ
  ok := Ent.fits
  enc := entC
  val := fun e => .agg (entV e)
  len := fun _ h => entC_len h
  one := entC_one
  okz := entZ_fits
  pos := by omega
  bpos := by omega
  blt := by omega
  und := Tryd.underlying23
  info := zero_ent
  venc := fun _ => rfl
  ld := fun _ _ _ e he h => load_cells (cs := entV e) h Tryd.underlying43 rfl (info_ent he)
/-- What loads of an entry tell. -/
structure EntLd (w : World) (g o : Nat) (e : Ent) : Prop where
  ent : (Instr.loadAt 43 (.pointer (some ⟨g, o, none⟩))).run Tryd.prog w = .ok (.agg (entV e)) w
  adr : (Instr.loadAt 31 (.pointer (some ⟨g, o, none⟩))).run Tryd.prog w = .ok (.agg (adrV e.v e.l)) w
  row : RowLd w g (o + 17) e.r
theorem entLd_of {w : World} {g o : Nat} {e : Ent} (hf : e.fits) (h : CellsAt w g o (entC e)) : EntLd w g o e := by
  have hn : (nums .u8 e.l).length = 16 := by rw [nums_length]; exact hf.l.len
  have h1 : CellsAt w g o (adrV e.v e.l).toList := CellsAt.left (ys := rowC e.r ++ [.bool e.f]) h
  have h2 : CellsAt w g (o + 17) (rowC e.r) := by
    have := CellsAt.mid (.int .i64 e.v :: nums .u8 e.l) (ys := rowC e.r) (zs := [.bool e.f]) (w := w) (b := g) (o := o) h
    rw [List.length_cons, hn] at this
    exact this
  exact ⟨load_cells (cs := entV e) h Tryd.underlying43 rfl (info_ent hf), load_cells h1 Tryd.underlying31 rfl (info_adr hf.l.len), rowLd_of hf.r h2⟩
theorem load_bool {w : World} {ad : Addr} {v : Value} (h : w.cell? ad = some v) : (Instr.loadAt 4 (.pointer (some ad))).run Tryd.prog w = .ok v w := by
  go_simp
theorem entLd_f {w : World} {g o : Nat} {e : Ent} (hf : e.fits) (h : CellsAt w g o (entC e)) : (Instr.loadAt 4 (.pointer (some ⟨g, o + 36, none⟩))).run Tryd.prog w = .ok (.bool e.f) w := by
  refine load_bool (h 36 _ ?_)
  have hn : (nums .u8 e.l).length = 16 := by rw [nums_length]; exact hf.l.len
  have h2 := rowC_len hf.r
  unfold entC
  rw [List.getElem?_append_right (by rw [List.length_cons, hn]; omega), List.getElem?_append_right (by rw [List.length_cons, hn, h2]; omega), List.length_cons, hn, h2]
  rfl
structure EntAt (w : World) (g : Nat) (e : Ent) : Prop where
  all : ∀ w0, Below w.heap.size w w0 → EntLd w0 g 0 e
  found : ∀ w0, Below w.heap.size w w0 → (Instr.loadAt 4 (.pointer (some ⟨g, 36, none⟩))).run Tryd.prog w0 = .ok (.bool e.f) w0
theorem ent_at {w : World} {g : Nat} {t : TypeId} {e : Ent} (he : e.fits) (h : w.heap[g]? = some (.cells (entV e) t (0, 0))) : EntAt w g e :=
  ⟨fun w0 hb => entLd_of he (cells_blk (blk_below h hb)), fun w0 hb => by have := entLd_f he (cells_blk (blk_below h hb)); rwa [Nat.zero_add] at this⟩
/-- A cache by value. -/
def cacV (room ver : Int) (A : Option Addr) (n c : Nat) (hits misses : Int) : Array Value := #[.int .i64 room, .int .u64 ver, .slice A n c, .int .u64 hits, .int .u64 misses]
end Go.Proofs.YtihfaknflfmohaaDoor

/- Layer 5 (prefix): a whole prefix out of a block. -/
namespace Go.Proofs.YtihfaknflfmohaaDoor
open Go.RowKit
set_option linter.unusedVariables false
set_option linter.unusedSimpArgs false
set_option maxRecDepth 4000

end Go.Proofs.YtihfaknflfmohaaDoor

/- Layer 5 (prefix): Has. -/
namespace Go.Proofs.YtihfaknflfmohaaDoor
open Go.RowKit
set_option linter.unusedVariables false
set_option linter.unusedSimpArgs false
set_option maxRecDepth 4000

set_option maxHeartbeats 2000000 in
theorem has_any (p : Pfx) (v : Int) (l : List Int) (w : World) (hL : Laid w) (hp : B16 p.l) (hl : B16 l) : Calls Tryd.prog 29 #[.agg (pfxV p.v p.l p.b), .agg (adrV v l)] w fun e w' => e = .returned (.bool (p.has v l)) ∧ Below w.heap.size w w' := by
  have hb1 := blk_new w (.cells (pfxV p.v p.l p.b) 36)
  have hbe1 : Below w.heap.size w (w.alloc (.cells (pfxV p.v p.l p.b) 36)) := below_alloc (Below.refl _ _) _
  have hsz : (w.alloc (.cells (pfxV p.v p.l p.b) 36)).heap.size = w.heap.size + 1 := by simp
  have hb2 := blk_new (w.alloc (.cells (pfxV p.v p.l p.b) 36)) (.cells (adrV v l) 31)
  rw [hsz] at hb2
  have hb1' := blk_below hb1 (below_alloc (Below.refl _ _) (.cells (adrV v l) 31))
  have HPA := Lib.hid (pfx_at hp hb1')
  have HAA := Lib.hid (adr_at hl hb2)
  have HLP := Lib.hid (load_pfx hp hb1')
  have HBE := Lib.hid (below_alloc hbe1 (.cells (adrV v l) 31))
  have HL := Lib.hid (hL.below HBE.out)
  obtain ⟨cs, hcs⟩ : ∃ cs, pfxV p.v p.l p.b = cs := ⟨_, rfl⟩
  obtain ⟨ds, hds⟩ : ∃ ds, adrV v l = ds := ⟨_, rfl⟩
  have hlp := HLP.out
  rw [hcs, hds] at HPA HAA HBE HL
  rw [hcs, hds]
  have hlp : (Instr.loadAt 36 (.pointer (some ⟨w.heap.size, 0, none⟩))).run Tryd.prog ((w.alloc (.cells cs 36)).alloc (.cells ds 31)) = .ok (.agg cs) ((w.alloc (.cells cs 36)).alloc (.cells ds 31)) := by
    have := HLP.out
    rw [hcs, hds] at this
    exact this
  have HCS := Lib.hid (And.intro hcs hds)
  clear hcs hds hb1 hb2 hb1' hbe1 hsz hL HLP
  go_enter Tryd.func29, Tryd.ntmps29
  go_wp2_with (refine wpList_load_g hlp _ rfl rfl (by go_simp) ?_)
  rw [← HCS.out.1]
  refine (check_any p.v p.l p.b _ (by rw [HCS.out.1]; exact HL.out) hp).mono ?_
  rintro e w1 ⟨rfl, hbb1⟩
  rw [HCS.out.1] at hbb1 ⊢
  have HB1 := Lib.hid hbb1
  clear hbb1 hlp
  cases hR : rightP p.v p.l p.b with
  | false =>
    have HE : Hid (p.has v l = false) := by unfold Pfx.has Pfx.right; rw [hR]; rfl
    have hE : errP p.v p.l p.b = 151 := by unfold errP; rw [hR]; rfl
    rw [hE]
    clear hR hE
    go_wp2
    go_ret
    rw [HE.out]
    exact ⟨rfl, below_step HBE.out HB1.out⟩
  | true =>
    have hE : errP p.v p.l p.b = 0 := by unfold errP; rw [hR]; rfl
    rw [hE]
    clear hE
    have hla := (HAA.out.all w1 HB1.out).1
    go_wp2_with (refine wpList_load_g hla _ rfl rfl (by go_simp) ?_)
    refine (checkAddr_any v l w1 (HL.out.below HB1.out) hl).mono ?_
    rintro e w2 ⟨rfl, hbb2⟩
    have HB2 := Lib.hid (below_step HB1.out hbb2)
    clear hbb2 hla
    cases hA : rightA v l with
    | false =>
      have HE : Hid (p.has v l = false) := by unfold Pfx.has; rw [hA]; cases p.right <;> rfl
      have hE : errA v l = 150 := by unfold errA; rw [hA]; rfl
      rw [hE]
      clear hR hA hE
      go_wp2
      go_ret
      rw [HE.out]
      exact ⟨rfl, below_step HBE.out HB2.out⟩
    | true =>
      have hE : errA v l = 0 := by unfold errA; rw [hA]; rfl
      rw [hE]
      clear hE
      have hlv := (HPA.out.all w2 HB2.out).2.2.1
      have hlw := (HAA.out.all w2 HB2.out).2.1
      by_cases hv : p.v = v
      · have hne : (p.v != v) = false := by simp [hv]
        have HE : Hid (p.has v l = decide (cutA l p.b = p.l)) := by unfold Pfx.has Pfx.right; rw [hR, hA, decide_eq_true hv]; rfl
        have hpb := ((p.right_iff).1 hR)
        have hwl := widthA_le p.v
        have hb128 : p.b ≤ 128 := by omega
        have hb0 := hpb.2.1
        clear hR hA hv hpb hwl
        go_wp2_with (first | (refine wpList_load_g hlv _ rfl rfl (by go_simp) ?_) | (refine wpList_load_g hlw _ rfl rfl (by go_simp) ?_))
        refine wp_region_mix (fun w0 => Below w2.heap.size w2 w0) [(0, 0), (1, 0), (2, 0), (3, 0), (5, 0), (6, 0), (7, 0), (4, 2), (8, 0), (9, 0)] (by kernel_rfl) (by kernel_rfl) (below_drew1 _) ?_
        simp only [List.map_cons, List.map_nil]
        iterate 1 (refine wpO_step0 rfl rfl (fun K hK => ?_); go_simp; refine hK _ _ ?_; clear hK K)
        refine wpO_loadW (t := 29) (ad := ⟨w.heap.size + 1, 1, none⟩) rfl rfl ?hw rfl rfl (fun w0 hS => (HAA.out.all w0 (below_step HB2.out hS)).2.2) ?_
        case hw => go_simp
        iterate 1 (refine wpO_step0 rfl rfl (fun K hK => ?_); go_simp; refine hK _ _ ?_; clear hK K)
        refine wpO_loadW (t := 3) (ad := ⟨w.heap.size, 17, none⟩) rfl rfl ?hw rfl rfl (fun w0 hS => (HPA.out.all w0 (below_step HB2.out hS)).2.1) ?_
        case hw => go_simp
        iterate 2 (refine wpO_step0 rfl rfl (fun K hK => ?_); go_simp; refine hK _ _ ?_; clear hK K)
        refine wpO_loadW (t := 29) (ad := ⟨w.heap.size, 1, none⟩) rfl rfl ?hw rfl rfl (fun w0 hS => (HPA.out.all w0 (below_step HB2.out hS)).2.2.2.1) ?_
        case hw => go_simp
        refine wpO_step2 rfl rfl (below_drew1 _) (fun K hK => ?_)
        go_simp
        refine (cut_any l p.b _ hl hb0 hb128).mono ?_
        rintro e w3 ⟨rfl, hbb3⟩
        have HB3 := Lib.hid (below_step (below_drew1 _) hbb3)
        clear hbb3
        refine hK _ _ ⟨HB3.out, ?_⟩
        clear hK K
        refine wpO_step0 rfl rfl (fun K hK => ?_)
        rw [if_pos (show Region.wanted _ _ = true from rfl)]
        refine ⟨_, fun w0 => arr_eql_exec rfl (cutA l p.b) p.l rfl rfl (cutA_16 hl _) hp w0, hK _ _ ?_⟩
        clear hK K
        iterate 1 (refine wpO_step0 rfl rfl (fun K hK => ?_); go_simp; refine hK _ _ ?_; clear hK K)
        refine wpO_nil ?_
        go_wp2
        go_ret
        rw [HE.out]
        exact ⟨rfl, below_step HBE.out (below_step HB2.out HB3.out)⟩
      · have hne : (p.v != v) = true := by simpa using hv
        have HE : Hid (p.has v l = false) := by
          unfold Pfx.has
          rw [decide_eq_false hv]
          cases p.right <;> cases rightA v l <;> rfl
        clear hR hA hv
        go_wp2_with (first | (refine wpList_load_g hlv _ rfl rfl (by go_simp) ?_) | (refine wpList_load_g hlw _ rfl rfl (by go_simp) ?_))
        go_ret
        rw [HE.out]
        exact ⟨rfl, below_step HBE.out HB2.out⟩
end Go.Proofs.YtihfaknflfmohaaDoor

/- The document's answer for layer 5: Has, Holds. -/
namespace Go.Proofs.YtihfaknflfmohaaDoor
open Go.RowKit
set_option linter.unusedVariables false
set_option linter.unusedSimpArgs false
set_option maxRecDepth 4000

end Go.Proofs.YtihfaknflfmohaaDoor

/- Layer 9 (table): Get, Drop. -/
namespace Go.Proofs.YtihfaknflfmohaaDoor
open Go.RowKit
set_option linter.unusedVariables false
set_option linter.unusedSimpArgs false
set_option maxRecDepth 4000
theorem load_tab {w : World} {g : Nat} {A : Option Addr} {n c : Nat} (h : w.heap[g]? = some (.cells (tabV A n c) 28 (0, 0))) : (Instr.loadAt 28 (.pointer (some ⟨g, 0, none⟩))).run Tryd.prog w = .ok (.agg (tabV A n c)) w := ((tab_at h).all w (Below.refl _ _)).1
theorem run_build_tab_nil (w : World) : (Instr.build 28 #[]).run Tryd.prog w = .ok (.agg (tabV none 0 0)) w := run_build w _ _ _ (by kernel_rfl)
theorem run_build_tab (w : World) (A : Option Addr) (n c : Nat) : (Instr.build 28 #[(0, .slice A n c)]).run Tryd.prog w = .ok (.agg (tabV A n c)) w := run_build w _ _ _ (by kernel_rfl)
theorem info_tab (A : Option Addr) (n c : Nat) : (Tryd.prog.info? 28).map (·.size) = some (tabV A n c).size := by show _ = some 1; kernel_rfl
theorem errT_true {t : List Row} (h : tabB t = true) : errT t = 0 := by unfold errT; rw [h]; rfl
theorem errT_false {t : List Row} (h : tabB t = false) : errT t = 190 := by unfold errT; rw [h]; rfl
theorem lowN_lt {t : List Row} {p : Pfx} (h : thereB t p = true) : lowN t p < t.length := by
  unfold thereB at h
  cases hx : t[lowN t p]? with
  | none => rw [hx] at h; cases h
  | some x => exact (List.getElem?_eq_some_iff.1 hx).1
end Go.Proofs.YtihfaknflfmohaaDoor

/- Layer 27 (cache): which entries may be. -/
namespace Go.Proofs.YtihfaknflfmohaaDoor
open Go.RowKit
set_option linter.unusedVariables false
set_option linter.unusedSimpArgs false
set_option maxRecDepth 4000
structure Ent.ok (e : Ent) : Prop where
  l : B16 e.l
  v : (Lit.int .i64 e.v).wf = true
  r : e.r.ok
theorem Ent.ok.fits {e : Ent} (h : e.ok) : e.fits := ⟨h.l, h.r.fits⟩
def entB (e : Ent) : Bool := rightA e.v e.l && (if e.f then e.r.p.has e.v e.l && decide (1 ≤ e.r.h) && decide (e.r.h ≤ 255) else e.r.eqB rowZ)
theorem rowZ_okk : rowZ.ok := ⟨⟨zero16_B, by decide, by decide⟩, by decide⟩
set_option maxHeartbeats 2000000 in
theorem eright_any (e : Ent) (w : World) (hL : Laid w) (heo : e.ok) : Calls Tryd.prog 75 #[.agg (entV e)] w fun x w' => x = .returned (.bool (entB e)) ∧ Below w.heap.size w w' := by
  have he := heo.fits
  have hblk1 := blk_new w (.cells (entV e) 43)
  have hbel1 : Below w.heap.size w (w.alloc (.cells (entV e) 43)) := below_alloc (Below.refl _ _) _
  have HP1 := Lib.hid (ent_at he hblk1)
  have HBK1 := Lib.hid hblk1
  have HBE := Lib.hid hbel1
  have HL := Lib.hid (hL.below HBE.out)
  obtain ⟨cs1, hcs1⟩ : ∃ cs, entV e = cs := ⟨_, rfl⟩
  simp only [hcs1] at HBE HL HP1 HBK1 ⊢
  have HC1 := Lib.hid hcs1
  clear hL hcs1 hblk1 hbel1
  have hl1 := (HP1.out.all _ (Below.refl _ _)).adr
  go_enter Tryd.func75, Tryd.ntmps75
  go_wp2_with (first | ((with_reducible show wpList _ _ _ (Oper.mk _ (Op.load _ _) _ _ _ _ :: _) _ _); refine wpList_load_g hl1 _ rfl rfl (by go_simp) ?_))
  refine (checkAddr_any e.v e.l _ HL.out heo.l).mono ?_
  rintro x w1 ⟨rfl, hb1⟩
  have HB1 := Lib.hid hb1
  clear hb1 hl1
  cases hA : rightA e.v e.l with
  | false =>
    have HE := Lib.hid (show entB e = false by unfold entB; rw [hA]; rfl)
    rw [errA_false hA]
    clear hA
    go_wp2
    go_ret
    rw [HE.out]
    exact ⟨rfl, below_step HBE.out HB1.out⟩
  | true =>
    rw [errA_true hA]
    have HA := Lib.hid hA
    have hlf := HP1.out.found w1 HB1.out
    clear hA
    cases hF : e.f with
    | false =>
      have HE := Lib.hid (show entB e = e.r.eqB rowZ by unfold entB; rw [HA.out, hF]; rfl)
      rw [hF] at hlf
      have hlr := (HP1.out.all w1 HB1.out).row.row
      have hbn := run_build_row_nil
      clear hF
      go_wp2_with (first | ((with_reducible show wpList _ _ _ (Oper.mk _ (Op.load _ _) _ _ _ _ :: _) _ _); refine wpList_load_g hlf _ rfl rfl (by go_simp) ?_) | ((with_reducible show wpList _ _ _ (Oper.mk _ (Op.load _ _) _ _ _ _ :: _) _ _); refine wpList_load_g hlr _ rfl rfl (by go_simp) ?_) | ((with_reducible show wpList _ _ _ (Oper.mk _ (Op.build _ _) _ _ _ _ :: _) _ _); refine wpList_exw rfl (exec_build 38 #[] rfl #[] rfl (hbn _)) ?_) | ((with_reducible show wpList _ _ _ (Oper.mk _ (Op.binOp _ _ _ _ _) _ _ _ _ :: _) _ _); refine wpList_exw rfl (row_eql_exec rfl e.r rowZ rfl rfl heo.r rowZ_okk _) ?_))
      go_ret
      rw [HE.out]
      exact ⟨rfl, below_step HBE.out HB1.out⟩
    | true =>
      have HE := Lib.hid (show entB e = (e.r.p.has e.v e.l && decide (1 ≤ e.r.h) && decide (e.r.h ≤ 255)) by unfold entB; rw [HA.out, hF]; rfl)
      rw [hF] at hlf
      have hlp := (HP1.out.all w1 HB1.out).row.pfx
      have hla := (HP1.out.all w1 HB1.out).adr
      clear hF
      go_wp2_with (first | ((with_reducible show wpList _ _ _ (Oper.mk _ (Op.load _ _) _ _ _ _ :: _) _ _); refine wpList_load_g hlf _ rfl rfl (by go_simp) ?_) | ((with_reducible show wpList _ _ _ (Oper.mk _ (Op.load _ _) _ _ _ _ :: _) _ _); refine wpList_load_g hlp _ rfl rfl (by go_simp) ?_) | ((with_reducible show wpList _ _ _ (Oper.mk _ (Op.load _ _) _ _ _ _ :: _) _ _); refine wpList_load_g hla _ rfl rfl (by go_simp) ?_))
      refine (has_any e.r.p e.v e.l w1 (HL.out.below HB1.out) heo.r.p.l heo.l).mono ?_
      rintro x w2 ⟨rfl, hb2⟩
      have HB2 := Lib.hid (below_step HB1.out hb2)
      have hlh := (HP1.out.all w2 HB2.out).row.hop
      clear hb2 hlp hla hlf
      cases hH : e.r.p.has e.v e.l with
      | false =>
        have HE2 := Lib.hid (show entB e = false by rw [HE.out, hH]; rfl)
        clear hH
        go_wp2
        go_ret
        rw [HE2.out]
        exact ⟨rfl, below_step HBE.out HB2.out⟩
      | true =>
        by_cases h1 : 1 ≤ e.r.h
        · have h1d : decide (1 ≤ e.r.h) = true := decide_eq_true h1
          have HE2 := Lib.hid (show entB e = decide (e.r.h ≤ 255) by rw [HE.out, hH, h1d]; rfl)
          clear hH
          go_wp2_with (first | ((with_reducible show wpList _ _ _ (Oper.mk _ (Op.load _ _) _ _ _ _ :: _) _ _); refine wpList_load_g hlh _ rfl rfl (by go_simp) ?_))
          go_ret
          rw [HE2.out]
          exact ⟨rfl, below_step HBE.out HB2.out⟩
        · have h1d : decide (1 ≤ e.r.h) = false := decide_eq_false h1
          have HE2 := Lib.hid (show entB e = false by rw [HE.out, hH, h1d]; rfl)
          clear hH
          go_wp2_with (first | ((with_reducible show wpList _ _ _ (Oper.mk _ (Op.load _ _) _ _ _ _ :: _) _ _); refine wpList_load_g hlh _ rfl rfl (by go_simp) ?_))
          go_ret
          rw [HE2.out]
          exact ⟨rfl, below_step HBE.out HB2.out⟩
end Go.Proofs.YtihfaknflfmohaaDoor

/- Layer 27 (cache): a cache in a block. -/
namespace Go.Proofs.YtihfaknflfmohaaDoor
open Go.RowKit
set_option linter.unusedVariables false
set_option linter.unusedSimpArgs false
set_option maxRecDepth 4000
structure Cac where
  room : Int
  ver : Int
  A : Option Addr
  n : Nat
  c : Nat
  hits : Int
  misses : Int
def Cac.vv (x : Cac) : Array Value := cacV x.room x.ver x.A x.n x.c x.hits x.misses
theorem load_u64c {w : World} {ad : Addr} {v : Value} (h : w.cell? ad = some v) : (Instr.loadAt 22 (.pointer (some ad))).run Tryd.prog w = .ok v w := by
  go_simp
theorem load_ents {w : World} {ad : Addr} {v : Value} (h : w.cell? ad = some v) : (Instr.loadAt 23 (.pointer (some ad))).run Tryd.prog w = .ok v w := by
  go_simp
theorem info_cac (x : Cac) : (Tryd.prog.info? 25).map (·.size) = some x.vv.size := by show _ = some 5; kernel_rfl
structure CacLd (w : World) (g : Nat) (x : Cac) : Prop where
  cac : (Instr.loadAt 25 (.pointer (some ⟨g, 0, none⟩))).run Tryd.prog w = .ok (.agg x.vv) w
  room : (Instr.loadAt 3 (.pointer (some ⟨g, 0, none⟩))).run Tryd.prog w = .ok (.int .i64 x.room) w
  ver : (Instr.loadAt 22 (.pointer (some ⟨g, 1, none⟩))).run Tryd.prog w = .ok (.int .u64 x.ver) w
  ents : (Instr.loadAt 23 (.pointer (some ⟨g, 2, none⟩))).run Tryd.prog w = .ok (.slice x.A x.n x.c) w
  hits : (Instr.loadAt 22 (.pointer (some ⟨g, 3, none⟩))).run Tryd.prog w = .ok (.int .u64 x.hits) w
  misses : (Instr.loadAt 22 (.pointer (some ⟨g, 4, none⟩))).run Tryd.prog w = .ok (.int .u64 x.misses) w
structure CacAt (w : World) (g : Nat) (x : Cac) : Prop where
  all : ∀ w0, Below w.heap.size w w0 → CacLd w0 g x
theorem cac_at {w : World} {g : Nat} {x : Cac} (h : w.heap[g]? = some (.cells x.vv 25 (0, 0))) : CacAt w g x := by
  refine ⟨fun w0 hb => ?_⟩
  have h0 := cells_blk (blk_below h hb)
  exact ⟨load_cells h0 Tryd.underlying25 rfl (info_cac x), load_int (h0 0 _ rfl), load_u64c (h0 1 _ rfl), load_ents (h0 2 _ rfl), load_u64c (h0 3 _ rfl), load_u64c (h0 4 _ rfl)⟩
end Go.Proofs.YtihfaknflfmohaaDoor

/- Layer 27 (cache): the document's Right. -/
namespace Go.Proofs.YtihfaknflfmohaaDoor
open Go.RowKit
set_option linter.unusedVariables false
set_option linter.unusedSimpArgs false
set_option maxRecDepth 4000
abbrev entAt (es : List Ent) (i : Nat) : Ent := entK.at_ es i
abbrev RE (w : World) (A : Option Addr) (n c : Nat) (es : List Ent) : Prop := RS entK w A n c es
def Oke (es : List Ent) : Prop := ∀ e ∈ es, e.ok
theorem entAt_get {es : List Ent} {i : Nat} (hi : i < es.length) : es[i]? = some (entAt es i) := by
  unfold entAt Shape.at_
  simp [List.getElem?_eq_getElem hi]
theorem Oke.at_ {es : List Ent} (h : Oke es) {i : Nat} (hi : i < es.length) : (entAt es i).ok := h _ (List.mem_of_getElem? (entAt_get hi))
def sA (v : Int) (l : List Int) (v' : Int) (l' : List Int) : Bool := decide (v = v') && decide (l = l')
theorem sA_true {v v' : Int} {l l' : List Int} : sA v l v' l' = true ↔ v = v' ∧ l = l' := by simp [sA]
theorem sA_exec {r : Operand → Value} {o : Oper} {x y : Operand} {ty : TypeId} (ho : o.op = .binOp .eql 31 x y ty) (v : Int) (l : List Int) (v' : Int) (l' : List Int) (hx : r x = .agg (adrV v l)) (hy : r y = .agg (adrV v' l')) (hl : B16 l) (hl' : B16 l') (hv : (Lit.int .i64 v).wf = true) (hv' : (Lit.int .i64 v').wf = true) (w : World) : (execOp r o).run Tryd.prog w = .ok (.value (.bool (sA v l v' l'))) w := adr_eql_exec ho v l v' l' hx hy hl hl' hv hv' w
theorem sA_nexec {r : Operand → Value} {o : Oper} {x y : Operand} {ty : TypeId} (ho : o.op = .binOp .neq 31 x y ty) (v : Int) (l : List Int) (v' : Int) (l' : List Int) (hx : r x = .agg (adrV v l)) (hy : r y = .agg (adrV v' l')) (hl : B16 l) (hl' : B16 l') (hv : (Lit.int .i64 v).wf = true) (hv' : (Lit.int .i64 v').wf = true) (w : World) : (execOp r o).run Tryd.prog w = .ok (.value (.bool (!sA v l v' l'))) w := by
  exact adr_neq_exec ho v l v' l' hx hy hl hl' hv hv' w
def sameA (x y : Ent) : Bool := sA x.v x.l y.v y.l
def entsB (es : List Ent) : Bool := decide (∀ j, j < es.length → entB (entAt es j) = true ∧ ∀ k, k < j → sameA (entAt es k) (entAt es j) = false)
def headB (x : Cac) : Bool := !(decide (x.room < 1) || decide (16 < x.room) || decide (4611686018427387904 < x.ver) || decide (x.room < x.n) || decide (4611686018427387904 < x.hits) || decide (4611686018427387904 < x.misses))
def cacB (x : Cac) (es : List Ent) : Bool := headB x && entsB es
theorem entsB_true {es : List Ent} (h : ∀ j, j < es.length → entB (entAt es j) = true ∧ ∀ k, k < j → sameA (entAt es k) (entAt es j) = false) : entsB es = true := decide_eq_true h
theorem entsB_bad {es : List Ent} {j : Nat} (hj : j < es.length) (h : entB (entAt es j) = false) : entsB es = false := decide_eq_false (fun hh => by rw [(hh j hj).1] at h; cases h)
theorem entsB_dup {es : List Ent} {j k : Nat} (hj : j < es.length) (hk : k < j) (h : sameA (entAt es k) (entAt es j) = true) : entsB es = false := decide_eq_false (fun hh => by rw [(hh j hj).2 k hk] at h; cases h)
end Go.Proofs.YtihfaknflfmohaaDoor

/- Layer 27 (cache): the map of the addresses met (keys of 17 cells). -/
namespace Go.Proofs.YtihfaknflfmohaaDoor
open Go.RowKit
set_option linter.unusedVariables false
set_option linter.unusedSimpArgs false
set_option maxRecDepth 4000
open Go.Maps
theorem mkeyl_u8 (n : Nat) (x : Int) (h0 : 0 ≤ x) (h1 : x < 256) : Tryd.prog.keyLits (n + 1) 5 [.int .u8 x] = some [Lit.int .u8 x] := by
  unfold Program.keyLits
  rw [Tryd.underlying5]
  simp [Lit.wf, IntKind.min, IntKind.max, IntKind.bits, IntKind.signed]
  omega
theorem mkeys_arr (n : Nat) (l : List Int) (hl : B16 l) : (List.range 16).mapM (fun i => Tryd.prog.keyLits (n + 1) 5 (((arrV l).toList.drop (i * Tryd.prog.cellsOf 5)).take (Tryd.prog.cellsOf 5))) = some ((List.range 16).map fun i => [Lit.int .u8 (rd l ((i : Nat) : Int))]) := by
  have hc : Tryd.prog.cellsOf 5 = 1 := by kernel_rfl
  rw [hc]
  refine mapM_all _ _ _ (fun i hi => ?_)
  have hi' : i < l.length := by rw [hl.len]; exact List.mem_range.1 hi
  have hr := hl.rd (i : Int)
  have e : ((arrV l).toList.drop (i * 1)).take 1 = [.int .u8 (rd l (i : Int))] := by
    apply List.ext_getElem?
    intro j
    cases j with
    | zero =>
      rw [List.getElem?_take]
      simp only [Nat.mul_one, List.getElem?_drop, arrV, Nat.add_zero, if_pos (show 0 < 1 by omega), List.getElem?_cons_zero]
      exact nums_get .u8 l i hi'
    | succ j => simp; omega
  rw [e, mkeyl_u8 n _ hr.1 hr.2]
theorem mkeyl_arr (n : Nat) (l : List Int) (hl : B16 l) : Tryd.prog.keyLits (n + 2) 29 (nums .u8 l) = some (lits .u8 l) := by
  have hk := mkeys_arr n l hl
  have he : (arrV l).toList = nums .u8 l := by simp [arrV]
  rw [he] at hk
  unfold Program.keyLits
  rw [Tryd.underlying29]
  simp only
  rw [if_pos (by rw [show (nums .u8 l).length = 16 by simp [nums, hl.len]]; kernel_rfl), hk]
  simp only [Option.map_some, flat1]
  refine congrArg some ?_
  unfold lits
  apply List.ext_getElem
  · simp [hl.len]
  · intro i h1 h2
    simp only [List.length_map, List.length_range] at h1
    simp [rd, List.getD_eq_getElem?_getD, hl.len, h1]
theorem mkeyl_adr (n : Nat) (v : Int) (l : List Int) (hl : B16 l) (hv : (Lit.int .i64 v).wf = true) : Tryd.prog.keyLits (n + 3) 31 (adrV v l).toList = some (.int .i64 v :: lits .u8 l) := by
  unfold Program.keyLits
  rw [Tryd.underlying31]
  simp only
  have h1 : (adrV v l).toList = .int .i64 v :: nums .u8 l := by simp [adrV]
  rw [h1, if_pos ⟨by rw [show (Value.int IntKind.i64 v :: nums .u8 l).length = 17 by simp [nums, hl.len]]; kernel_rfl, by kernel_rfl⟩]
  have c1 : Tryd.prog.cellsOf 3 = 1 := by kernel_rfl
  have c2 : Tryd.prog.cellsOf 29 = 16 := by kernel_rfl
  simp only [List.mapM_cons, List.mapM_nil, c1, c2, List.drop_zero, List.take_succ_cons, List.take_zero, List.drop_succ_cons]
  rw [keyl_int (n + 1) v hv, List.take_of_length_le (by simp [nums, hl.len]), mkeyl_arr n l hl]
  simp
def adrL (v : Int) (l : List Int) : Lit := .string (keyBytes (.int .i64 v :: lits .u8 l))
theorem keyOf_adr (v : Int) (l : List Int) (hl : B16 l) (hv : (Lit.int .i64 v).wf = true) : keyOf Tryd.prog 31 (.agg (adrV v l)) = some (adrL v l) := by
  unfold keyOf
  have hf := adr_formed v l hl
  have hk : Tryd.prog.keyType 31 = true := by kernel_rfl
  have hn : Tryd.prog.types.size + 1 = (Tryd.prog.types.size - 2) + 3 := by
    have : 2 ≤ Tryd.prog.types.size := of_decide_eq_true (by kernel_rfl)
    omega
  rw [Tryd.underlying31]
  simp only [hf, hk, Bool.and_true, if_true]
  rw [hn]
  have := mkeyl_adr (Tryd.prog.types.size - 2) v l hl hv
  simp only [Value.cells]
  rw [this]
  rfl
theorem adr_law : Keyed Tryd.prog 31 := Keyed.of_law (deep_law (m := 3) (by omega) (by kernel_rfl) (by kernel_rfl) (by kernel_rfl))
theorem nums_inj {k : IntKind} : ∀ {l m : List Int}, nums k l = nums k m → l = m
  | [], [], _ => rfl
  | [], _ :: _, h => by simp [nums] at h
  | _ :: _, [], h => by simp [nums] at h
  | a :: l, b :: m, h => by
    simp only [nums, List.map_cons, List.cons.injEq] at h
    obtain ⟨h1, h2⟩ := h
    injection h1 with _ h3
    rw [h3, nums_inj (k := k) (l := l) (m := m) h2]
theorem adrV_inj {v v' : Int} {l l' : List Int} (h : adrV v l = adrV v' l') : v = v' ∧ l = l' := by
  have h1 := congrArg Array.toList h
  simp only [adrV] at h1
  have h2 : (Value.int .i64 v :: nums .u8 l) = Value.int .i64 v' :: nums .u8 l' := by simpa using h1
  rw [List.cons.injEq] at h2
  refine ⟨by have := h2.1; injection this, ?_⟩
  exact nums_inj h2.2
theorem adrL_ne {v v' : Int} {l l' : List Int} (hl : B16 l) (hl' : B16 l') (hv : (Lit.int .i64 v).wf = true) (hv' : (Lit.int .i64 v').wf = true) (h : ¬ (v = v' ∧ l = l')) : adrL v l ≠ adrL v' l' := by
  intro e
  have h1 := keyOf_adr v l hl hv
  rw [e] at h1
  have := adr_law.inj h1 (keyOf_adr v' l' hl' hv')
  injection this with h2
  exact h (adrV_inj h2)
def metB (es : List Ent) (j : Nat) (v : Int) (l : List Int) : Bool := (List.range j).any fun k => decide ((entAt es k).v = v) && decide ((entAt es k).l = l)
abbrev MapT : TypeId := 122
/-- Block b is a map of the first j entries' addresses to true. -/
def Met (w : World) (b : Nat) (es : List Ent) (j : Nat) : Prop := ∃ D : DataW Unit, w.ownsMap Tryd.prog 31 (plainElem Tryd.prog 4) b j D ∧
  ∀ v l, B16 l → (Lit.int .i64 v).wf = true → D.atKey (adrL v l) (.lit (.bool false)) = .lit (.bool (metB es j v l))
theorem und_map : Tryd.prog.underlying MapT = some (.map 31 4) := Tryd.underlying122
theorem zero_bool (w : World) : (zeroValue 4).run Tryd.prog w = .ok (.bool false) w := by kernel_rfl
theorem met_zero (w : World) (es : List Ent) : Met (w.alloc (.map #[] 0)) w.heap.size es 0 := ⟨_, World.ownsMap_made _ _ _ _, fun v l _ _ => by
  unfold metB
  rfl⟩
theorem Met.kept {w w' : World} {b j : Nat} {es : List Ent} {row : Option Nat} (h : Met w b es j) (hg : w.grownBy w' row) (hne : some b ≠ row) : Met w' b es j := by
  obtain ⟨D, h1, h2⟩ := h
  exact ⟨D, h1.kept hg hne, h2⟩
theorem met_look {w : World} {b j : Nat} {es : List Ent} (h : Met w b es j) (v : Int) (l : List Int) (hl : B16 l) (hv : (Lit.int .i64 v).wf = true) :
    (Instr.lookup MapT (.map (some b)) (.agg (adrV v l)) false).run Tryd.prog w = .ok (.bool (metB es j v l)) w := by
  obtain ⟨D, h1, h2⟩ := h
  obtain ⟨x, ps, hrun, hx⟩ := h1.lookup adr_law und_map (zero_bool w) (plainElem_bool Tryd.underlying4 false) (keyOf_adr v l hl hv)
  rw [h2 v l hl hv] at hx
  have : x = .bool (metB es j v l) := by
    unfold plainElem at hx
    rw [Tryd.underlying4] at hx
    cases x <;> simp at hx
    rw [hx.1]
  rw [hrun, this]
theorem metB_succ (es : List Ent) (j : Nat) (v : Int) (l : List Int) : metB es (j + 1) v l = (metB es j v l || (decide ((entAt es j).v = v) && decide ((entAt es j).l = l))) := by
  unfold metB
  rw [List.range_succ, List.any_append]
  simp
theorem met_upd {w : World} {b j : Nat} {es : List Ent} (h : Met w b es j) (hj : j < maxLen) (he : (entAt es j).ok) :
    ∃ w', (Instr.mapUpdate MapT (.map (some b)) (.agg (adrV (entAt es j).v (entAt es j).l)) (.bool true)).run Tryd.prog w = .ok () w' ∧ Met w' b es (j + 1) ∧ w.grownBy w' (some b) := by
  obtain ⟨D, h1, h2⟩ := h
  obtain ⟨w', r1, r2, r3⟩ := h1.update adr_law und_map hj (keyOf_adr _ _ he.l he.v) (plainElem_bool (H := Unit) Tryd.underlying4 true)
  refine ⟨w', r1, ⟨_, r2, fun v l hl hv => ?_⟩, r3⟩
  rw [metB_succ]
  by_cases hh : v = (entAt es j).v ∧ l = (entAt es j).l
  · obtain ⟨rfl, rfl⟩ := hh
    have hm : IsMap D := by
      obtain ⟨_, _, _, _, _, hD⟩ := h1
      exact ⟨_, hD⟩
    rw [atKey_put_same hm (adr_law.key (keyOf_adr _ _ hl hv))]
    simp
  · rw [atKey_put_other (adrL_ne hl he.l hv he.v hh), h2 v l hl hv]
    have : (decide ((entAt es j).v = v) && decide ((entAt es j).l = l)) = false := by
      rw [Bool.and_eq_false_iff]
      simp only [decide_eq_false_iff_not]
      by_cases h3 : (entAt es j).v = v
      · right
        intro h4
        exact hh ⟨h3.symm, h4.symm⟩
      · exact Or.inl h3
    rw [this, Bool.or_false]
end Go.Proofs.YtihfaknflfmohaaDoor

/- Layer 27 (cache): entries held equal; the library's functions over slices of them; stores of them. -/
namespace Go.Proofs.YtihfaknflfmohaaDoor
open Go.RowKit
set_option linter.unusedVariables false
set_option linter.unusedSimpArgs false
set_option maxRecDepth 4000
def Ent.eqB (e g : Ent) : Bool := sA e.v e.l g.v g.l && e.r.eqB g.r && (e.f == g.f)
theorem Ent.eqB_iff (e g : Ent) : e.eqB g = true ↔ e = g := by
  obtain ⟨a, b, c, d⟩ := e
  obtain ⟨a', b', c', d'⟩ := g
  simp only [Ent.eqB, Bool.and_eq_true, sA_true, Row.eqB_iff, Ent.mk.injEq, beq_iff_eq]
  constructor
  · rintro ⟨⟨⟨h1, h2⟩, h3⟩, h4⟩
    exact ⟨h1, h2, h3, h4⟩
  · rintro ⟨h1, h2, h3, h4⟩
    exact ⟨⟨⟨h1, h2⟩, h3⟩, h4⟩
theorem keyl_bool (d : Nat) (f : Bool) : Tryd.prog.keyLits (d + 1) 4 [.bool f] = some [.bool f] := by
  unfold Program.keyLits
  rw [Tryd.underlying4]
theorem keyl_ent (e : Ent) (h : e.ok) : Tryd.prog.keyLits 6 43 (entV e).toList = some ((.int .i64 e.v :: lits .u8 e.l) ++ (((.int .i64 e.r.p.v :: lits .u8 e.r.p.l ++ [.int .i64 e.r.p.b]) ++ [.int .i64 e.r.h]) ++ [.bool e.f])) := by
  unfold Program.keyLits
  rw [Tryd.underlying43]
  simp only
  rw [if_pos ⟨by rw [show (entV e).toList.length = 37 by rw [Array.length_toList, entV_size h.fits]]; kernel_rfl, by kernel_rfl⟩]
  have c1 : Tryd.prog.cellsOf 31 = 17 := by kernel_rfl
  have c2 : Tryd.prog.cellsOf 38 = 19 := by kernel_rfl
  have c3 : Tryd.prog.cellsOf 4 = 1 := by kernel_rfl
  have e0 : (entV e).toList = (adrV e.v e.l).toList ++ ((rowV e.r).toList ++ [.bool e.f]) := by rw [adrV_list, rowV_list]; simp [entV, entC]
  have hl17 : (adrV e.v e.l).toList.length = 17 := by rw [Array.length_toList, adr_size h.l.len]
  have hl19 : (rowV e.r).toList.length = 19 := by rw [Array.length_toList, rowV_size h.fits.r]
  have e1 : (entV e).toList.take 17 = (adrV e.v e.l).toList := by rw [e0, List.take_left' hl17]
  have e2 : ((entV e).toList.drop 17).take 19 = (rowV e.r).toList := by rw [e0, List.drop_left' hl17, List.take_left' hl19]
  have e3 : (entV e).toList.drop 36 = [.bool e.f] := by
    rw [e0, ← List.append_assoc, List.drop_left']
    rw [List.length_append, hl17, hl19]
  simp only [List.mapM_cons, List.mapM_nil, c1, c2, c3, List.drop_zero]
  rw [e1, e2, e3, mkeyl_adr 2 _ _ h.l h.v, keyl_row _ h.r]
  simp only [List.take_succ_cons, List.take_zero]
  rw [keyl_bool 4 e.f]
  simp
theorem ent_formed (e : Ent) (h : e.fits) : (Value.agg (entV e)).formed Tryd.prog 43 = true := by
  simp only [Value.formed, Tryd.underlying43, entV_size h]
  kernel_rfl
theorem ent_equal (r s : Ent) (hr : r.ok) (hs : s.ok) (w : World) : (Op.equal 43 (.agg (entV r)) (.agg (entV s))).run Tryd.prog w = .ok (r.eqB s) w := by
  obtain ⟨b, hb, hiff⟩ := run_equalIn_deep (P := Tryd.prog) 9994 6 43 (by kernel_rfl) w 6 6 (.agg (entV r)) (.agg (entV s)) _ _ (ent_formed _ hr.fits) (ent_formed _ hs.fits) (keyl_ent r hr) (keyl_ent s hs)
  have h2 : (Op.equal 43 (.agg (entV r)) (.agg (entV s))).run Tryd.prog w = .ok b w := hb
  suffices hs2 : b = r.eqB s by rw [h2, hs2]
  rw [Bool.eq_iff_iff, hiff, Ent.eqB_iff]
  constructor
  · intro h
    obtain ⟨h1, h2⟩ := List.append_inj h (by simp [lits, hr.l.len, hs.l.len])
    simp only [List.cons.injEq, Lit.int.injEq, true_and] at h1
    obtain ⟨h1, h1'⟩ := h1
    obtain ⟨h2, h2'⟩ := List.append_inj h2 (by simp [lits, hr.r.p.l.len, hs.r.p.l.len])
    obtain ⟨h3, h4⟩ := List.append_inj h2 (by simp [lits, hr.r.p.l.len, hs.r.p.l.len])
    simp only [List.cons_append, List.cons.injEq, Lit.int.injEq, Lit.bool.injEq, true_and, and_true] at h2' h3 h4
    obtain ⟨h5, h6⟩ := h3
    obtain ⟨h7, h8⟩ := List.append_inj h6 (by simp [lits, hr.r.p.l.len, hs.r.p.l.len])
    simp only [List.cons.injEq, Lit.int.injEq, true_and, and_true] at h8
    obtain ⟨x, y, ⟨⟨a, b, c⟩, d⟩, f⟩ := r
    obtain ⟨x', y', ⟨⟨a', b', c'⟩, d'⟩, f'⟩ := s
    simp only at h1 h1' h2' h4 h5 h7 h8
    rw [h1, lits_inj h1', h2', h4, h5, lits_inj h7, h8]
  · rintro rfl
    rfl
section
variable {r : Operand → Value} {o : Oper} {x y : Operand} {ty : TypeId}
theorem ent_neq_exec (ho : o.op = .binOp .neq 43 x y ty) (p q : Ent) (hx : r x = .agg (entV p)) (hy : r y = .agg (entV q)) (hp : p.ok) (hq : q.ok) (w : World) : (execOp r o).run Tryd.prog w = .ok (.value (.bool (!p.eqB q))) w :=
  exec_neq 43 (by kernel_rfl) ho _ _ hx hy w (ent_equal p q hp hq w)
end
theorem cloneE_any (A : Option Addr) (n c : Nat) (t : List Ent) (w : World) (hr : RS entK w A n c t) (hn : n ≤ 1000000) :
    Calls Tryd.prog 109 #[.slice A n c] w fun e w' => ∃ A' c', e = .returned (.slice A' n c') ∧ OS entK w' w.heap.size A' n c' t ∧ Below w.heap.size w w' := by
  have hnil := fun (w : World) (A : Option Addr) (n c : Nat) => Lib.run_eql_slice_nil (P := Tryd.prog) w 23 43 A n c 0 0 Tryd.underlying23
  cases A with
  | none =>
    have h0 : n = 0 := by
      rcases Nat.eq_zero_or_pos n with h | h
      · exact h
      · obtain ⟨ad, e, _⟩ := hr.rv.cells h
        cases e
    subst h0
    obtain rfl : t = [] := List.eq_nil_of_length_eq_zero hr.len
    go_enter Tryd.func109, Tryd.ntmps109
    go_wp2
    go_ret
    exact ⟨_, _, rfl, OS.nil _ _ _, Below.refl _ _⟩
  | some ad =>
    go_enter Tryd.func109, Tryd.ntmps109
    go_wp2_with (at_builtin; refine wpList_append_shp entK rfl (.tmp 5) (.tmp 6) rfl rfl rfl (OS.empty entK w w.heap.size (Nat.le_refl _)) (hr.below (below_alloc (Below.refl _ _) _)) (by simp) (by omega) ?_; intro A' c' w' h1 h2 h3; rw [Nat.zero_add, List.nil_append] at h1; rw [Nat.zero_add])
    go_ret
    exact ⟨_, _, rfl, h1, below_own (below_alloc (Below.refl _ _) _) h2 (fun ad h => by injection h with h; subst h; exact Nat.le_refl _)⟩
theorem entV_one (e : Ent) : (entV e).all (·.oneCell') = true := by
  rw [← Array.all_toList, List.all_eq_true]
  exact fun u hu => entC_one e u (by simpa [entV] using hu)
theorem store_ent_fit {cs : Array Value} {r : Ent} (hf : r.fits) (h : cs.size = 37) : 0 + (entV r).size ≤ cs.size := by rw [entV_size hf, h]; omega
theorem splice_ent {cs : Array Value} {r : Ent} (hf : r.fits) (h : cs.size = 37) : splice cs 0 (entV r).toList = entV r := splice_all _ _ (by rw [Array.length_toList, entV_size hf, h])
end Go.Proofs.YtihfaknflfmohaaDoor
