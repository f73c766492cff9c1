/- Two prefixes, two addresses, held equal. -/
import Derived.DeepKeys
import Derived.IntWalk
import Derived.Test.YtnpeedmicjeleaaDoorRouteBytesA
namespace Go.Proofs.YtnpeedmicjeleaaDoor
open Go.RowKit
set_option linter.unusedVariables false
set_option linter.unusedSimpArgs false
set_option maxRecDepth 4000

def lits (k : IntKind) (l : List Int) : List Lit := l.map fun x => .int k x
theorem keyl_arr (l : List Int) (hl : B16 l) : Tryd.prog.keyLits 2 45 (nums .u8 l) = some (lits .u8 l) := by
  have hk := keys_arr l hl
  have he : (arrV l).toList = nums .u8 l := by simp [arrV]
  rw [he] at hk
  unfold Program.keyLits
  rw [Tryd.underlying45]
  simp only
  rw [if_pos (by rw [show (nums .u8 l).length = 16 by simp [nums, hl.len]]; kernel_rfl), hk]
  simp only [Option.map_some, flat1]
  refine congrArg some ?_
  unfold lits
  apply List.ext_getElem
  · simp [hl.len]
  · intro i h1 h2
    simp only [List.length_map, List.length_range] at h1
    simp [rd, List.getD_eq_getElem?_getD, hl.len, h1]
theorem keyl_int (d : Nat) (v : Int) (hv : (Lit.int .i64 v).wf = true) : Tryd.prog.keyLits (d + 1) 3 [.int .i64 v] = some [.int .i64 v] := by
  unfold Program.keyLits
  rw [Tryd.underlying3]
  simp only
  rw [if_pos ⟨trivial, hv⟩]
theorem keyl_adr (v : Int) (l : List Int) (hl : B16 l) (hv : (Lit.int .i64 v).wf = true) : Tryd.prog.keyLits 3 47 (adrV v l).toList = some (.int .i64 v :: lits .u8 l) := by
  unfold Program.keyLits
  rw [Tryd.underlying47]
  simp only
  have h1 : (adrV v l).toList = .int .i64 v :: nums .u8 l := by simp [adrV]
  rw [h1, if_pos ⟨by rw [show (Value.int IntKind.i64 v :: nums .u8 l).length = 17 by simp [nums, hl.len]]; kernel_rfl, by kernel_rfl⟩]
  have c1 : Tryd.prog.cellsOf 3 = 1 := by kernel_rfl
  have c2 : Tryd.prog.cellsOf 45 = 16 := by kernel_rfl
  simp only [List.mapM_cons, List.mapM_nil, c1, c2, List.drop_zero, List.take_succ_cons, List.take_zero, List.drop_succ_cons]
  rw [keyl_int 1 v hv, List.take_of_length_le (by simp [nums, hl.len]), keyl_arr l hl]
  simp
theorem keyl_pfx (v : Int) (l : List Int) (b : Int) (hl : B16 l) (hv : (Lit.int .i64 v).wf = true) (hb : (Lit.int .i64 b).wf = true) : Tryd.prog.keyLits 4 49 (pfxV v l b).toList = some (.int .i64 v :: lits .u8 l ++ [.int .i64 b]) := by
  unfold Program.keyLits
  rw [Tryd.underlying49]
  simp only
  have h1 : (pfxV v l b).toList = .int .i64 v :: (nums .u8 l ++ [.int .i64 b]) := by simp [pfxV]
  rw [h1, if_pos ⟨by rw [show (Value.int IntKind.i64 v :: (nums .u8 l ++ [Value.int IntKind.i64 b])).length = 18 by simp [nums, hl.len]]; kernel_rfl, by kernel_rfl⟩]
  have c1 : Tryd.prog.cellsOf 47 = 17 := by kernel_rfl
  have c2 : Tryd.prog.cellsOf 3 = 1 := by kernel_rfl
  have hln : (nums .u8 l).length = 16 := by simp [nums, hl.len]
  have e1 : (Value.int IntKind.i64 v :: (nums .u8 l ++ [Value.int IntKind.i64 b])).take 17 = (adrV v l).toList := by
    simp [adrV, List.take_append, hln]
  have e2 : (Value.int IntKind.i64 v :: (nums .u8 l ++ [Value.int IntKind.i64 b])).drop 17 = [.int .i64 b] := by
    simp [List.drop_append, hln]
  simp only [List.mapM_cons, List.mapM_nil, c1, c2, List.drop_zero]
  rw [e1, e2, keyl_adr v l hl hv]
  simp only [List.take_succ_cons, List.take_zero]
  rw [keyl_int 2 b hb]
  simp
theorem lits_inj {k : IntKind} : ∀ {l m : List Int}, lits k l = lits k m → l = m
  | [], [], _ => rfl
  | [], _ :: _, h => by simp [lits] at h
  | _ :: _, [], h => by simp [lits] at h
  | a :: l, b :: m, h => by
    simp only [lits, List.map_cons, List.cons.injEq, Lit.int.injEq, true_and] at h
    rw [h.1, lits_inj (l := l) (m := m) h.2]
theorem pfx_formed (v : Int) (l : List Int) (b : Int) (hl : B16 l) : (Value.agg (pfxV v l b)).formed Tryd.prog 49 = true := by
  simp only [Value.formed, Tryd.underlying49, pfx_size hl.len]
  kernel_rfl
structure Pfx.ok (p : Pfx) : Prop where
  l : B16 p.l
  v : (Lit.int .i64 p.v).wf = true
  b : (Lit.int .i64 p.b).wf = true
def Pfx.eqB (p q : Pfx) : Bool := decide (p.v = q.v) && decide (p.l = q.l) && decide (p.b = q.b)
theorem Pfx.eqB_iff (p q : Pfx) : p.eqB q = true ↔ p = q := by
  unfold Pfx.eqB
  simp only [Bool.and_eq_true, decide_eq_true_eq]
  constructor
  · rintro ⟨⟨h1, h2⟩, h3⟩
    cases p; cases q
    simp_all
  · rintro rfl
    exact ⟨⟨rfl, rfl⟩, rfl⟩
theorem pfx_equal (p q : Pfx) (hp : p.ok) (hq : q.ok) (w : World) : (Op.equal 49 (.agg (pfxV p.v p.l p.b)) (.agg (pfxV q.v q.l q.b))).run Tryd.prog w = .ok (p.eqB q) w := by
  obtain ⟨r, hr, hiff⟩ := run_equalIn_deep (P := Tryd.prog) 9996 4 49 (by kernel_rfl) w 4 4 (.agg (pfxV p.v p.l p.b)) (.agg (pfxV q.v q.l q.b)) _ _ (pfx_formed _ _ _ hp.l) (pfx_formed _ _ _ hq.l) (keyl_pfx _ _ _ hp.l hp.v hp.b) (keyl_pfx _ _ _ hq.l hq.v hq.b)
  have h2 : (Op.equal 49 (.agg (pfxV p.v p.l p.b)) (.agg (pfxV q.v q.l q.b))).run Tryd.prog w = .ok r w := hr
  suffices hs : r = p.eqB q by rw [h2, hs]
  rw [Bool.eq_iff_iff, hiff, Pfx.eqB_iff]
  constructor
  · intro h
    simp only [List.cons_append, List.cons.injEq, Lit.int.injEq, true_and] at h
    obtain ⟨h3, h4⟩ := h
    obtain ⟨h5, h6⟩ := List.append_inj h4 (by simp [lits, hp.l.len, hq.l.len])
    simp only [List.cons.injEq, Lit.int.injEq, true_and, and_true] at h6
    cases p; cases q
    simp only at h3 h5 h6
    rw [h3, lits_inj h5, h6]
  · rintro rfl
    rfl
section
variable {r : Operand → Value} {o : Oper} {x y : Operand} {ty : TypeId}
theorem exec_eql (t : TypeId) (hgt : Tryd.prog.eqGuardType Tryd.prog.depth t = false) (ho : o.op = .binOp .eql t x y ty) (cx cy : Array Value) (hx : r x = .agg cx) (hy : r y = .agg cy) (w : World) {b : Bool}
    (he : (Op.equal t (.agg cx) (.agg cy)).run Tryd.prog w = .ok b w) : (execOp r o).run Tryd.prog w = .ok (.value (.bool b)) w := by
  have hg : (eqGuard .eql t x y (.agg cx) (.agg cy)).run Tryd.prog w = .ok () w := by
    simp [eqGuard, Sem.run_bind, run_program, hgt]
  have hq : (binOp .eql t (.agg cx) (.agg cy)).run Tryd.prog w = .ok (.bool b) w := by
    show ((do pure (Value.bool (← Op.equal t (.agg cx) (.agg cy))) : Sem Value)).run Tryd.prog w = _
    rw [Sem.run_bind, he]
    rfl
  unfold execOp
  simp only [ho, hx, hy, Sem.run_bind, hg, hq, Result.andThen_ok, Sem.run_pure]
theorem exec_neq (t : TypeId) (hgt : Tryd.prog.eqGuardType Tryd.prog.depth t = false) (ho : o.op = .binOp .neq t x y ty) (cx cy : Array Value) (hx : r x = .agg cx) (hy : r y = .agg cy) (w : World) {b : Bool}
    (he : (Op.equal t (.agg cx) (.agg cy)).run Tryd.prog w = .ok b w) : (execOp r o).run Tryd.prog w = .ok (.value (.bool (!b))) w := by
  have hg : (eqGuard .neq t x y (.agg cx) (.agg cy)).run Tryd.prog w = .ok () w := by
    simp [eqGuard, Sem.run_bind, run_program, hgt]
  have hq : (binOp .neq t (.agg cx) (.agg cy)).run Tryd.prog w = .ok (.bool (!b)) w := by
    show ((do pure (Value.bool (!(← Op.equal t (.agg cx) (.agg cy)))) : Sem Value)).run Tryd.prog w = _
    rw [Sem.run_bind, he]
    rfl
  unfold execOp
  simp only [ho, hx, hy, Sem.run_bind, hg, hq, Result.andThen_ok, Sem.run_pure]
theorem pfx_eql_exec (ho : o.op = .binOp .eql 49 x y ty) (p q : Pfx) (hx : r x = .agg (pfxV p.v p.l p.b)) (hy : r y = .agg (pfxV q.v q.l q.b)) (hp : p.ok) (hq : q.ok) (w : World) : (execOp r o).run Tryd.prog w = .ok (.value (.bool (p.eqB q))) w :=
  exec_eql 49 (by kernel_rfl) ho _ _ hx hy w (pfx_equal p q hp hq w)
theorem pfx_neq_exec (ho : o.op = .binOp .neq 49 x y ty) (p q : Pfx) (hx : r x = .agg (pfxV p.v p.l p.b)) (hy : r y = .agg (pfxV q.v q.l q.b)) (hp : p.ok) (hq : q.ok) (w : World) : (execOp r o).run Tryd.prog w = .ok (.value (.bool (!p.eqB q))) w :=
  exec_neq 49 (by kernel_rfl) ho _ _ hx hy w (pfx_equal p q hp hq w)
end
end Go.Proofs.YtnpeedmicjeleaaDoor

/- Arguments that are addresses and prefixes, opened. -/
namespace Go.Proofs.YtnpeedmicjeleaaDoor
open Go.ChangeShapes Go.WideShapes Go.ChangeAt Go.RowKit
set_option linter.unusedVariables false
set_option linter.unusedSimpArgs false
set_option maxRecDepth 4000
def cellI : Option Value → Int
  | some (.int _ y) => y
  | _ => 0
section
variable {H : Type} {enc : TypeId × Value → H} {W : World} {base : Nat} {spare : Nat → Bool} {held : Bool} {fuel : Nat} {x : DataW H × List MemPlace}
theorem open_arr16 {cs : List Value} (h : DataW.trod enc Tryd.prog W base spare held fuel 45 cs = some x) : ∃ l, cs = nums .u8 l ∧ B16 l := by
  obtain ⟨xs, m, -, -, hlen, hxl, hel⟩ := DataW.trod_array Tryd.underlying45 h
  have c1 : Tryd.prog.cellsOf 5 = 1 := by kernel_rfl
  have c2 : Tryd.prog.cellsOf 45 = 16 := by kernel_rfl
  rw [c2] at hlen
  have hat : ∀ i, i < 16 → ∃ y : Int, cs[i]? = some (.int .u8 y) ∧ (Lit.int .u8 y).wf = true := by
    intro i hi
    have h1 := hel i hi
    rw [c1, Nat.mul_one] at h1
    cases hx : xs[i]? with
    | none =>
      rw [hx] at h1
      exfalso
      have : xs.length ≤ i := List.getElem?_eq_none_iff.1 hx
      omega
    | some x0 =>
      rw [hx] at h1
      obtain ⟨y, hy, -, hw⟩ := DataW.trod_int Tryd.underlying5 h1
      refine ⟨y, ?_, hw⟩
      have h2 := congrArg (fun l => l[0]?) hy
      simpa [List.getElem?_take, List.getElem?_drop] using h2
  refine ⟨(List.range 16).map fun i => cellI cs[i]?, ?_, ?_, ?_⟩
  · apply List.ext_getElem (by simp [nums, hlen])
    intro i h1 h2
    obtain ⟨y, hy, -⟩ := hat i (by omega)
    have h3 : cs[i] = .int .u8 y := by
      rw [List.getElem?_eq_getElem h1] at hy
      injection hy
    simp [nums, h3, hy, cellI]
  · simp
  · intro z hz
    simp only [List.mem_map, List.mem_range] at hz
    obtain ⟨i, hi, rfl⟩ := hz
    obtain ⟨y, hy, hw⟩ := hat i hi
    simp only [hy, cellI]
    simp [Lit.wf, IntKind.min, IntKind.max, IntKind.bits, IntKind.signed] at hw
    omega
theorem one_of {l : List Value} {v : Value} (h : l.take 1 = [v]) : l = v :: l.drop 1 := by
  cases l with
  | nil => cases h
  | cons a r =>
    simp only [List.take_succ_cons, List.take_zero, List.cons.injEq, and_true] at h
    rw [h]
    rfl
theorem open_adr_cells {cs : List Value} (h : DataW.trod enc Tryd.prog W base spare held fuel 47 cs = some x) : ∃ v l, cs = .int .i64 v :: nums .u8 l ∧ B16 l ∧ (Lit.int .i64 v).wf = true := by
  obtain ⟨xs, m, -, -, hlen, hxl, hg⟩ := DataW.trod_struct Tryd.underlying47 h
  have c1 : Tryd.prog.cellsOf 3 = 1 := by kernel_rfl
  have c2 : Tryd.prog.cellsOf 45 = 16 := by kernel_rfl
  have c3 : Tryd.prog.cellsOf 47 = 17 := by kernel_rfl
  have h0 : DataW.trod enc Tryd.prog W base spare held m 3 ((cs.drop 0).take (Tryd.prog.cellsOf 3)) = xs[0]? := hg 0 _ rfl
  have h1 : DataW.trod enc Tryd.prog W base spare held m 45 ((cs.drop 1).take (Tryd.prog.cellsOf 45)) = xs[1]? := hg 1 _ rfl
  rw [c3] at hlen
  rw [c1, List.drop_zero] at h0
  rw [c2] at h1
  have hx2 : xs.length = 2 := hxl
  match xs, hx2 with
  | [x0, x1], _ =>
    obtain ⟨v, hv, -, hw⟩ := DataW.trod_int Tryd.underlying3 (show DataW.trod enc Tryd.prog W base spare held m 3 (cs.take 1) = some x0 from h0)
    obtain ⟨l, hl, hb⟩ := open_arr16 (show DataW.trod enc Tryd.prog W base spare held m 45 ((cs.drop 1).take 16) = some x1 from h1)
    rw [List.take_of_length_le (by rw [List.length_drop]; omega)] at hl
    exact ⟨v, l, by rw [one_of hv, hl], hb, hw⟩
theorem open_pfx_cells {cs : List Value} (h : DataW.trod enc Tryd.prog W base spare held fuel 49 cs = some x) : ∃ v l b, cs = .int .i64 v :: (nums .u8 l ++ [.int .i64 b]) ∧ B16 l ∧ (Lit.int .i64 v).wf = true ∧ (Lit.int .i64 b).wf = true := by
  obtain ⟨xs, m, -, -, hlen, hxl, hg⟩ := DataW.trod_struct Tryd.underlying49 h
  have c1 : Tryd.prog.cellsOf 3 = 1 := by kernel_rfl
  have c2 : Tryd.prog.cellsOf 47 = 17 := by kernel_rfl
  have c3 : Tryd.prog.cellsOf 49 = 18 := by kernel_rfl
  have h0 : DataW.trod enc Tryd.prog W base spare held m 47 ((cs.drop 0).take (Tryd.prog.cellsOf 47)) = xs[0]? := hg 0 _ rfl
  have h1 : DataW.trod enc Tryd.prog W base spare held m 3 ((cs.drop 17).take (Tryd.prog.cellsOf 3)) = xs[1]? := hg 1 _ rfl
  rw [c3] at hlen
  rw [c2, List.drop_zero] at h0
  rw [c1] at h1
  have hx2 : xs.length = 2 := hxl
  match xs, hx2 with
  | [x0, x1], _ =>
    obtain ⟨v, l, hvl, hb, hw⟩ := open_adr_cells (show DataW.trod enc Tryd.prog W base spare held m 47 (cs.take 17) = some x0 from h0)
    obtain ⟨b, hv, -, hwb⟩ := DataW.trod_int Tryd.underlying3 (show DataW.trod enc Tryd.prog W base spare held m 3 ((cs.drop 17).take 1) = some x1 from h1)
    rw [List.take_of_length_le (by rw [List.length_drop]; omega)] at hv
    refine ⟨v, l, b, ?_, hb, hw, hwb⟩
    rw [← List.take_append_drop 17 cs, hvl, hv]
    rfl
end
end Go.Proofs.YtnpeedmicjeleaaDoor

/- Plain laws of layer 5, fourth part: what bytes tell. -/
namespace Go.Proofs.YtnpeedmicjeleaaDoor
set_option linter.unusedVariables false
set_option linter.unusedSimpArgs false
set_option maxRecDepth 4000

def fullB (b : Int) : Nat := ((b + 7) / 8).toNat
/-- Bytes, noughts behind them: sixteen. -/
def pad (l : List Int) : List Int := l ++ List.replicate (16 - l.length) 0
/-- What the bytes of an address are, of which so many bits may be set. -/
def someE (xs : List Int) (bits : Nat) (wrong : Int) : Int := if xs.length < fullB bits then 7 else if clearA (pad (xs.take (fullB bits))) bits then 0 else wrong
theorem fullB_le {bits : Nat} (h : bits ≤ 128) : fullB bits ≤ 16 := by unfold fullB; omega
end Go.Proofs.YtnpeedmicjeleaaDoor

/- Plain laws of layer 5, fifth part: the prefixes of an address. -/
namespace Go.Proofs.YtnpeedmicjeleaaDoor
set_option linter.unusedVariables false
set_option linter.unusedSimpArgs false
set_option maxRecDepth 4000

end Go.Proofs.YtnpeedmicjeleaaDoor

/- Plain laws of layer 5, sixth part: there and back. -/
namespace Go.Proofs.YtnpeedmicjeleaaDoor
set_option linter.unusedVariables false
set_option linter.unusedSimpArgs false
set_option maxRecDepth 4000

def encP (p : Pfx) : List Int := p.v % 256 :: p.b % 256 :: p.l.take (fullB p.b)
theorem right_b {p : Pfx} (h : p.right = true) : ∃ b : Nat, p.b = b ∧ b ≤ widthA p.v ∧ b ≤ 128 := by
  obtain ⟨h1, h2, h3, h4⟩ := (p.right_iff).1 h
  have := widthA_le p.v
  exact ⟨p.b.toNat, by omega, by omega, by omega⟩
theorem encP_len {p : Pfx} (hp : B16 p.l) (h : p.right = true) : (encP p).length = 2 + fullB p.b := by
  obtain ⟨b, hb, hw, h128⟩ := right_b h
  have hf := fullB_le h128
  simp [encP, hp.len, hb]
  omega
end Go.Proofs.YtnpeedmicjeleaaDoor

/- Plain laws of tables (layer 9): rows by rising prefixes; the longest match; set, drop and get. -/
namespace Go.Proofs.YtnpeedmicjeleaaDoor
set_option linter.unusedVariables false
set_option linter.unusedSimpArgs false
set_option maxRecDepth 4000

structure Row where
  p : Pfx
  h : Int
def Row.fits (r : Row) : Prop := B16 r.p.l
def Row.okB (r : Row) : Bool := r.p.right && decide (1 ≤ r.h) && decide (r.h ≤ 255)
def rowZ : Row := ⟨⟨0, List.replicate 16 0, 0⟩, 0⟩
def rising : List Row → Bool
  | [] => true
  | [_] => true
  | a :: b :: t => decide (a.p.cmp b.p < 0) && rising (b :: t)
/-- May it be a table? -/
def tabB (t : List Row) : Bool := decide (t.length ≤ 40) && t.all Row.okB && rising t
def rowAt (t : List Row) (i : Nat) : Row := t.getD i rowZ
theorem rowAt_get {t : List Row} {i : Nat} (h : i < t.length) : t[i]? = some (rowAt t i) := by
  simp [rowAt, List.getD_eq_getElem?_getD, h]
theorem rowAt_eq {t : List Row} {i : Nat} {r : Row} (h : t[i]? = some r) : rowAt t i = r := by
  simp [rowAt, List.getD_eq_getElem?_getD, h]

theorem cmp_irrefl (p : Pfx) : ¬ p.cmp p < 0 := by
  have : p.cmp p = 0 := cmpI_refl _
  omega
theorem rising_cons {a : Row} {t : List Row} (h : rising (a :: t) = true) : rising t = true := by
  cases t with
  | nil => rfl
  | cons b t => simp only [rising, Bool.and_eq_true] at h; exact h.2
theorem rising_head {a : Row} : ∀ {t : List Row}, rising (a :: t) = true → ∀ r ∈ t, a.p.cmp r.p < 0
  | [], _, r, hr => by cases hr
  | b :: t, h, r, hr => by
    have h2 := h
    simp only [rising, Bool.and_eq_true, decide_eq_true_eq] at h2
    rcases List.mem_cons.1 hr with rfl | hr
    · exact h2.1
    · exact a.p.cmp_trans b.p r.p h2.1 (rising_head (rising_cons h) r hr)
theorem rising_of_head {a : Row} {t : List Row} (h : ∀ r ∈ t, a.p.cmp r.p < 0) (ht : rising t = true) : rising (a :: t) = true := by
  cases t with
  | nil => rfl
  | cons b t => simp only [rising, Bool.and_eq_true, decide_eq_true_eq]; exact ⟨h b (by simp), ht⟩
/-- Up to a place, by the rows' neighbours. -/
theorem rising_iff (t : List Row) : rising t = true ↔ ∀ i, i + 1 < t.length → (rowAt t i).p.cmp (rowAt t (i + 1)).p < 0 := by
  induction t with
  | nil => simp [rising]
  | cons a t ih =>
    cases t with
    | nil => simp [rising]
    | cons b t =>
      simp only [rising, Bool.and_eq_true, decide_eq_true_eq, ih]
      constructor
      · rintro ⟨h1, h2⟩ i hi
        cases i with
        | zero => exact h1
        | succ i => exact h2 i (by simpa using hi)
      · intro h
        exact ⟨h 0 (by simp), fun i hi => h (i + 1) (by simpa using hi)⟩
theorem tabB_iff (t : List Row) : tabB t = true ↔ t.length ≤ 40 ∧ (∀ i, i < t.length → (rowAt t i).okB = true) ∧ ∀ i, i + 1 < t.length → (rowAt t i).p.cmp (rowAt t (i + 1)).p < 0 := by
  unfold tabB
  simp only [Bool.and_eq_true, decide_eq_true_eq, rising_iff, List.all_eq_true]
  constructor
  · rintro ⟨⟨h1, h2⟩, h3⟩
    exact ⟨h1, fun i hi => h2 _ (List.mem_of_getElem? (rowAt_get hi)), h3⟩
  · rintro ⟨h1, h2, h3⟩
    refine ⟨⟨h1, fun r hr => ?_⟩, h3⟩
    obtain ⟨i, hi, he⟩ := List.getElem_of_mem hr
    have := h2 i hi
    rwa [rowAt_eq (List.getElem?_eq_some_iff.2 ⟨hi, he⟩)] at this

/-! The longest match. -/
def bestStep (v : Int) (l : List Int) (b : Option Row) (r : Row) : Option Row := if r.p.has v l && (match b with | none => true | some x => decide (x.p.b < r.p.b)) then some r else b
def longest (t : List Row) (v : Int) (l : List Int) : Option Row := t.foldl (bestStep v l) none
/-- The row at place i matches; none that matches has more bits, and none ahead of it as many. -/
structure Best (t : List Row) (v : Int) (l : List Int) (i : Nat) (r : Row) : Prop where
  at_ : t[i]? = some r
  has : r.p.has v l = true
  top : ∀ j x, t[j]? = some x → x.p.has v l = true → x.p.b ≤ r.p.b ∧ (j < i → x.p.b < r.p.b)
end Go.Proofs.YtnpeedmicjeleaaDoor

/- Plain laws of tables (layer 9), second part: set, drop and get. -/
namespace Go.Proofs.YtnpeedmicjeleaaDoor
set_option linter.unusedVariables false
set_option linter.unusedSimpArgs false
set_option maxRecDepth 4000

/-- The place of a prefix, or the one that it would have. -/
def lowN (t : List Row) (p : Pfx) : Nat := (t.takeWhile fun r => decide (r.p.cmp p < 0)).length
def thereB (t : List Row) (p : Pfx) : Bool := match t[lowN t p]? with
  | some r => r.p.cmp p == 0
  | none => false
def setT (t : List Row) (p : Pfx) (h : Int) : List Row := t.take (lowN t p) ++ ⟨p, h⟩ :: t.drop (if thereB t p then lowN t p + 1 else lowN t p)
def Fits (t : List Row) : Prop := ∀ r ∈ t, B16 r.p.l
theorem Fits.tail {a : Row} {t : List Row} (h : Fits (a :: t)) : Fits t := fun r hr => h r (by simp [hr])
theorem lowN_cons (a : Row) (t : List Row) (p : Pfx) : lowN (a :: t) p = if a.p.cmp p < 0 then lowN t p + 1 else 0 := by
  unfold lowN
  rw [List.takeWhile_cons]
  by_cases h : a.p.cmp p < 0
  · simp [h]
  · simp [h]
theorem lowN_le (t : List Row) (p : Pfx) : lowN t p ≤ t.length := by
  induction t with
  | nil => simp [lowN]
  | cons a t ih =>
    rw [lowN_cons]
    split
    · simp; exact ih
    · simp
/-- Behind the place nothing is below the prefix. -/
theorem lowN_spec {t : List Row} (p : Pfx) (ht : rising t = true) (i : Nat) (hi : i < t.length) : (i < lowN t p → (rowAt t i).p.cmp p < 0) ∧ (lowN t p ≤ i → ¬ (rowAt t i).p.cmp p < 0) := by
  induction t generalizing i with
  | nil => simp at hi
  | cons a t ih =>
    rw [lowN_cons]
    by_cases h : a.p.cmp p < 0
    · rw [if_pos h]
      cases i with
      | zero => exact ⟨fun _ => h, fun h => by omega⟩
      | succ i =>
        have := ih (rising_cons ht) i (by simpa using hi)
        exact ⟨fun h => this.1 (by omega), fun h => this.2 (by omega)⟩
    · rw [if_neg h]
      refine ⟨fun h => by omega, fun _ => ?_⟩
      cases i with
      | zero => exact h
      | succ i =>
        intro hlt
        have hm : rowAt t i ∈ t := List.mem_of_getElem? (rowAt_get (by simpa using hi))
        have h1 := rising_head ht _ hm
        exact h (a.p.cmp_trans _ p h1 hlt)
theorem thereB_cons {a : Row} {t : List Row} {p : Pfx} : thereB (a :: t) p = if a.p.cmp p < 0 then thereB t p else a.p.cmp p == 0 := by
  unfold thereB
  rw [lowN_cons]
  by_cases h : a.p.cmp p < 0
  · rw [if_pos h, if_pos h]
    rfl
  · rw [if_neg h, if_neg h]
    rfl
end Go.Proofs.YtnpeedmicjeleaaDoor

/- Plain laws of tables (layer 9), third part: tables by what is in them. -/
namespace Go.Proofs.YtnpeedmicjeleaaDoor
set_option linter.unusedVariables false
set_option linter.unusedSimpArgs false
set_option maxRecDepth 4000

theorem setT_cons (a : Row) (t : List Row) (p : Pfx) (h : Int) : setT (a :: t) p h = if a.p.cmp p < 0 then a :: setT t p h else if a.p.cmp p = 0 then ⟨p, h⟩ :: t else ⟨p, h⟩ :: a :: t := by
  unfold setT
  rw [lowN_cons, thereB_cons]
  by_cases h1 : a.p.cmp p < 0
  · rw [if_pos h1, if_pos h1, if_pos h1]
    split <;> rfl
  · rw [if_neg h1, if_neg h1, if_neg h1]
    by_cases h2 : a.p.cmp p = 0
    · rw [if_pos h2, h2]; rfl
    · rw [if_neg h2, if_neg (by simpa using h2)]; rfl
theorem tabB_of {t : List Row} (h1 : t.length ≤ 40) (h2 : ∀ r ∈ t, r.okB = true) (h3 : rising t = true) : tabB t = true := by
  unfold tabB
  simp only [Bool.and_eq_true, decide_eq_true_eq, List.all_eq_true]
  exact ⟨⟨h1, h2⟩, h3⟩
theorem tabB_to {t : List Row} (h : tabB t = true) : t.length ≤ 40 ∧ (∀ r ∈ t, r.okB = true) ∧ rising t = true := by
  unfold tabB at h
  simp only [Bool.and_eq_true, decide_eq_true_eq, List.all_eq_true] at h
  exact ⟨h.1.1, h.1.2, h.2⟩
theorem okB_iff (r : Row) : r.okB = true ↔ r.p.right = true ∧ 1 ≤ r.h ∧ r.h ≤ 255 := by
  unfold Row.okB
  simp only [Bool.and_eq_true, decide_eq_true_eq]
  exact ⟨fun h => ⟨h.1.1, h.1.2, h.2⟩, fun h => ⟨⟨h.1, h.2.1⟩, h.2.2⟩⟩
/-! The longest match, by what is in a table. -/
/-! Set, dropped, got. -/
end Go.Proofs.YtnpeedmicjeleaaDoor

/- Plain laws of tables (layer 9), fifth part: what two have not alike. -/
namespace Go.Proofs.YtnpeedmicjeleaaDoor
set_option linter.unusedVariables false
set_option linter.unusedSimpArgs false
set_option maxRecDepth 4000

/-- A table of hops that stand. -/
structure Tab (t : List Row) : Prop where
  fits : Fits t
  up : rising t = true
  hop : ∀ r ∈ t, 1 ≤ r.h
theorem Tab.tail {a : Row} {t : List Row} (h : Tab (a :: t)) : Tab t := ⟨h.fits.tail, rising_cons h.up, fun r hr => h.hop r (by simp [hr])⟩
theorem Tab.of {t : List Row} (hf : Fits t) (h : tabB t = true) : Tab t := ⟨hf, (tabB_to h).2.2, fun r hr => ((okB_iff r).1 ((tabB_to h).2.1 r hr)).2.1⟩
end Go.Proofs.YtnpeedmicjeleaaDoor

/- Rows of a table in memory: by value (19 cells), in a block, in a slice. -/
namespace Go.Proofs.YtnpeedmicjeleaaDoor
open Go.RowKit
set_option linter.unusedVariables false
set_option linter.unusedSimpArgs false
set_option maxRecDepth 4000

def rowC (r : Row) : List Value := .int .i64 r.p.v :: (nums .u8 r.p.l ++ [.int .i64 r.p.b, .int .i64 r.h])
def rowV (r : Row) : Array Value := (rowC r).toArray
theorem rowC_len {r : Row} (h : r.fits) : (rowC r).length = 19 := by simp [rowC, nums, h.len]
theorem rowV_size {r : Row} (h : r.fits) : (rowV r).size = 19 := by simp [rowV, rowC_len h]
theorem rowC_one (r : Row) : ∀ u ∈ rowC r, u.oneCell' = true := by
  intro u hu
  simp only [rowC, List.mem_cons, List.mem_append, List.not_mem_nil, or_false] at hu
  rcases hu with rfl | hu | rfl | rfl
  · rfl
  · exact nums_one _ _ u hu
  · rfl
  · rfl
theorem rowV_one (r : Row) : (rowV r).all (·.oneCell') = true := by simp [rowV, rowC, nums, Value.oneCell']
theorem pfxV_list (v : Int) (l : List Int) (b : Int) : (pfxV v l b).toList = .int .i64 v :: (nums .u8 l ++ [.int .i64 b]) := rfl
theorem adrV_list (v : Int) (l : List Int) : (adrV v l).toList = .int .i64 v :: nums .u8 l := rfl
theorem info_row {r : Row} (h : r.fits) : (Tryd.prog.info? 79).map (·.size) = some (rowV r).size := by rw [rowV_size h]; kernel_rfl
/-- What loads of a row tell. -/
structure RowLd (w : World) (g o : Nat) (r : Row) : Prop where
  row : (Instr.loadAt 79 (.pointer (some ⟨g, o, none⟩))).run Tryd.prog w = .ok (.agg (rowV r)) w
  pfx : (Instr.loadAt 49 (.pointer (some ⟨g, o, none⟩))).run Tryd.prog w = .ok (.agg (pfxV r.p.v r.p.l r.p.b)) w
  adr : (Instr.loadAt 47 (.pointer (some ⟨g, o, none⟩))).run Tryd.prog w = .ok (.agg (adrV r.p.v r.p.l)) w
  ver : (Instr.loadAt 3 (.pointer (some ⟨g, o, none⟩))).run Tryd.prog w = .ok (.int .i64 r.p.v) w
  bts : (Instr.loadAt 45 (.pointer (some ⟨g, o + 1, none⟩))).run Tryd.prog w = .ok (.agg (arrV r.p.l)) w
  bit : (Instr.loadAt 3 (.pointer (some ⟨g, o + 17, none⟩))).run Tryd.prog w = .ok (.int .i64 r.p.b) w
  hop : (Instr.loadAt 3 (.pointer (some ⟨g, o + 18, none⟩))).run Tryd.prog w = .ok (.int .i64 r.h) w
theorem rowLd_of {w : World} {g o : Nat} {r : Row} (hf : r.fits) (h : CellsAt w g o (rowC r)) : RowLd w g o r := by
  have hn : (nums .u8 r.p.l).length = 16 := by rw [nums_length]; exact hf.len
  have e : rowC r = (pfxV r.p.v r.p.l r.p.b).toList ++ [.int .i64 r.h] := by rw [pfxV_list]; simp [rowC]
  have e2 : (pfxV r.p.v r.p.l r.p.b).toList = (adrV r.p.v r.p.l).toList ++ [.int .i64 r.p.b] := by rw [pfxV_list, adrV_list]; rfl
  have h1 : CellsAt w g o (pfxV r.p.v r.p.l r.p.b).toList := by rw [e] at h; exact h.left
  have h2 : CellsAt w g o (adrV r.p.v r.p.l).toList := by rw [e2] at h1; exact h1.left
  have h3 : CellsAt w g (o + 1) (arrV r.p.l).toList := by
    have := CellsAt.mid [Value.int .i64 r.p.v] (ys := nums .u8 r.p.l) (zs := []) (w := w) (b := g) (o := o) (by rw [List.append_nil]; exact h2)
    exact this
  refine ⟨load_cells (cs := rowV r) h Tryd.underlying79 rfl (info_row hf), load_cells h1 Tryd.underlying49 rfl (info_pfx hf.len), load_cells h2 Tryd.underlying47 rfl (info_adr hf.len), ?_, load_cells h3 Tryd.underlying45 rfl (info_arr hf.len), ?_, ?_⟩
  · exact load_int (h 0 _ rfl)
  · refine load_int (h 17 _ ?_)
    unfold rowC
    rw [List.getElem?_cons_succ, List.getElem?_append_right (by omega), hn]
    rfl
  · refine load_int (h 18 _ ?_)
    unfold rowC
    rw [List.getElem?_cons_succ, List.getElem?_append_right (by omega), hn]
    rfl

/-- What lies in a block that holds a row, in every world that goes on from one. -/
structure RowAt (w : World) (g : Nat) (r : Row) : Prop where
  all : ∀ w0, Below w.heap.size w w0 → RowLd w0 g 0 r
theorem row_at {w : World} {g : Nat} {t : TypeId} {r : Row} (hr : r.fits) (h : w.heap[g]? = some (.cells (rowV r) t (0, 0))) : RowAt w g r :=
  ⟨fun w0 hb => rowLd_of hr (cells_blk (blk_below h hb))⟩
/-- A table by value: its rows. -/
def tabV (A : Option Addr) (n c : Nat) : Array Value := #[.slice A n c]
theorem load_rows {w : World} {ad : Addr} {v : Value} (h : w.cell? ad = some v) : (Instr.loadAt 37 (.pointer (some ad))).run Tryd.prog w = .ok v w := by
  go_simp
structure TabAt (w : World) (g : Nat) (A : Option Addr) (n c : Nat) : Prop where
  all : ∀ w0, Below w.heap.size w w0 → (Instr.loadAt 39 (.pointer (some ⟨g, 0, none⟩))).run Tryd.prog w0 = .ok (.agg (tabV A n c)) w0 ∧ (Instr.loadAt 37 (.pointer (some ⟨g, 0, none⟩))).run Tryd.prog w0 = .ok (.slice A n c) w0
theorem tab_at {w : World} {g : Nat} {A : Option Addr} {n c : Nat} (h : w.heap[g]? = some (.cells (tabV A n c) 39 (0, 0))) : TabAt w g A n c := by
  refine ⟨fun w0 hb => ?_⟩
  have h0 := cells_blk (blk_below h hb)
  exact ⟨load_cells h0 Tryd.underlying39 rfl (by kernel_rfl), load_rows (h0 0 _ rfl)⟩

/-! Rows of a slice. -/
theorem zero_row : (Tryd.prog.info? 79).map (fun i => (i.zero, i.size, i.bytes)) = some (some (.agg (rowV rowZ)), 19, 40) := by kernel_rfl
def rowK : Shape Row where
  t := 79
  ts := 37
  sz := 19
  bytes := 40
  z := rowZ
  ok := Row.fits
  enc := rowC
  val := fun r => .agg (rowV r)
  len := fun _ h => rowC_len h
  one := rowC_one
  okz := zero16_B
  pos := by omega
  bpos := by omega
  blt := by omega
  und := Tryd.underlying37
  info := zero_row
  venc := fun _ => rfl
  ld := fun _ _ _ r hr h => load_cells (cs := rowV r) h Tryd.underlying79 rfl (info_row hr)
/-- A slice of rows, read. -/
abbrev RT (w : World) (A : Option Addr) (n c : Nat) (t : List Row) : Prop := RS rowK w A n c t
/-- A slice of rows of the call's own. -/
abbrev OT (w : World) (base : Nat) (A : Option Addr) (n c : Nat) (t : List Row) : Prop := OS rowK w base A n c t
theorem Fits.take {t : List Row} (h : Fits t) (n : Nat) : Fits (t.take n) := fun r hr => h r (List.mem_of_mem_take hr)
theorem Fits.drop {t : List Row} (h : Fits t) (n : Nat) : Fits (t.drop n) := fun r hr => h r (List.mem_of_mem_drop hr)
theorem Fits.append {t u : List Row} (h : Fits t) (k : Fits u) : Fits (t ++ u) := fun r hr => (List.mem_append.1 hr).elim (h r) (k r)
theorem Fits.at_ {t : List Row} (h : Fits t) {i : Nat} (hi : i < t.length) : (rowAt t i).fits := h _ (List.mem_of_getElem? (rowAt_get hi))
theorem RT.at_ {w : World} {A : Option Addr} {n c : Nat} {t : List Row} (h : RT w A n c t) (hp : 0 < n) : ∃ b o, A = some ⟨b, o, none⟩ ∧ ∀ i, i < n → CellsAt w b (o + i * 19) (rowC (rowAt t i)) := RS.at_ h hp
theorem RT.fits_at {w : World} {A : Option Addr} {n c : Nat} {t : List Row} (h : RT w A n c t) {i : Nat} (hi : i < n) : (rowAt t i).fits := RS.fits_at h hi
theorem RT.fits {w : World} {A : Option Addr} {n c : Nat} {t : List Row} (h : RT w A n c t) : Fits t := RS.fits h

/-! Rows, built and held equal. -/
theorem built_row (p : Pfx) (h : Int) (hl : p.l.length = 16) : Tryd.prog.built 79 [(0, .agg (pfxV p.v p.l p.b)), (1, .int .i64 h)] = some (rowV ⟨p, h⟩) := by
  obtain ⟨a, b, c, d, e, f, g, h1, i, j, k, m, n, o, q, r, hh⟩ := len16 hl
  obtain ⟨v, l, x⟩ := p
  simp only at hh
  subst hh
  kernel_rfl
theorem run_build_row (w : World) (p : Pfx) (h : Int) (hl : p.l.length = 16) : (Instr.build 79 #[(0, .agg (pfxV p.v p.l p.b)), (1, .int .i64 h)]).run Tryd.prog w = .ok (.agg (rowV ⟨p, h⟩)) w := run_build w _ _ _ (built_row p h hl)
structure Row.ok (r : Row) : Prop where
  p : r.p.ok
  h : (Lit.int .i64 r.h).wf = true
theorem Row.ok.fits {r : Row} (h : r.ok) : r.fits := h.p.l
def Row.eqB (r s : Row) : Bool := r.p.eqB s.p && decide (r.h = s.h)
theorem Row.eqB_iff (r s : Row) : r.eqB s = true ↔ r = s := by
  unfold Row.eqB
  simp only [Bool.and_eq_true, decide_eq_true_eq, Pfx.eqB_iff]
  constructor
  · rintro ⟨h1, h2⟩
    cases r; cases s
    simp_all
  · rintro rfl
    exact ⟨rfl, rfl⟩
section
variable {r : Operand → Value} {o : Oper} {x y : Operand} {ty : TypeId}
end
end Go.Proofs.YtnpeedmicjeleaaDoor

/- Layer 5 (prefix): cut. -/
namespace Go.Proofs.YtnpeedmicjeleaaDoor
open Go.RowKit
set_option linter.unusedVariables false
set_option linter.unusedSimpArgs false
set_option maxRecDepth 4000

end Go.Proofs.YtnpeedmicjeleaaDoor

/- The document's answer for layer 5 (junctionboxref05): Width, at, RightAddr. -/
namespace Go.Proofs.YtnpeedmicjeleaaDoor
open Go.RowKit
set_option linter.unusedVariables false
set_option linter.unusedSimpArgs false
set_option maxRecDepth 4000

theorem refwidth_any (v : Int) (w : World) : Calls Tryd.prog 104 #[.int .i64 v] w fun e w' => e = .returned (.int .i64 (widthA v)) ∧ w = w' := by
  by_cases h4 : v = 4
  · subst h4
    go_enter Tryd.func104, Tryd.ntmps104
    go_wp2
    go_ret
    exact ⟨rfl, rfl⟩
  · have h4' : (v == 4) = false := by simpa using h4
    by_cases h6 : v = 6
    · subst h6
      go_enter Tryd.func104, Tryd.ntmps104
      go_wp2
      go_ret
      exact ⟨rfl, rfl⟩
    · have h6' : (v == 6) = false := by simpa using h6
      have hw : widthA v = 0 := by unfold widthA; rw [if_neg h4, if_neg h6]
      rw [hw]
      clear h4 h6 hw
      go_enter Tryd.func104, Tryd.ntmps104
      go_wp2
      go_ret
      exact ⟨rfl, rfl⟩

theorem refat_any (l : List Int) (x : Int) (w : World) (hl : B16 l) (hx0 : 0 ≤ x) (hx1 : x < 128) : Calls Tryd.prog 112 #[.agg (arrV l), .int .i64 x] w fun e w' => e = .returned (.int .i64 (bitA l x.toNat)) ∧ Below w.heap.size w w' := by
  have hb := blk_new w (.cells (arrV l) 45)
  have hc := arr_cell hb (x / 8).toNat (by rw [hl.len]; omega)
  rw [show (((x / 8).toNat : Nat) : Int) = x / 8 by omega] at hc
  have hbe : Below w.heap.size w (w.alloc (.cells (arrV l) 45)) := below_alloc (Below.refl _ _) _
  obtain ⟨cs, hcs⟩ : ∃ cs, arrV l = cs := ⟨_, rfl⟩
  rw [hcs] at hc hbe ⊢
  have HBE := Lib.hid hbe
  clear hb hcs hbe
  have hx8 : x / 8 < 16 := by omega
  have hx80 : 0 ≤ x / 8 := by omega
  have hx7 : x % 8 < 8 := by omega
  have hx70 : 0 ≤ x % 8 := by omega
  have hr := hl.rd (x / 8)
  have hd := div_lt256 (rd l (x / 8)) (7 - x % 8).toNat hr.1 hr.2
  have hbt : bitA l x.toNat = rd l (x / 8) / 2 ^ (7 - x % 8).toNat % 2 := by
    unfold bitA
    rw [show ((x.toNat / 8 : Nat) : Int) = x / 8 by omega, show 7 - x.toNat % 8 = (7 - x % 8).toNat by omega]
  rw [hbt]
  clear hbt
  go_enter Tryd.func112, Tryd.ntmps112
  go_wp2
  go_ret
  refine ⟨?_, HBE.out⟩
  simp

/-- What lies in a block that holds an address, in every world that goes on from one. -/
structure AdrAt (w : World) (g : Nat) (v : Int) (l : List Int) : Prop where
  all : ∀ w0, Below w.heap.size w w0 →
    (Instr.loadAt 47 (.pointer (some ⟨g, 0, none⟩))).run Tryd.prog w0 = .ok (.agg (adrV v l)) w0 ∧
    (Instr.loadAt 3 (.pointer (some ⟨g, 0, none⟩))).run Tryd.prog w0 = .ok (.int .i64 v) w0 ∧
    (Instr.loadAt 45 (.pointer (some ⟨g, 1, none⟩))).run Tryd.prog w0 = .ok (.agg (arrV l)) w0
theorem adr_at {w : World} {g : Nat} {v : Int} {l : List Int} (hl : B16 l) (h : w.heap[g]? = some (.cells (adrV v l) 47 (0, 0))) : AdrAt w g v l := by
  refine ⟨fun w0 hb => ?_⟩
  have h0 := blk_below h hb
  have c1 : ∀ i, i < 16 → w0.cell? ⟨g, 1 + i, none⟩ = some (.int .u8 (rd l (i : Int))) := fun i hi => adr_b h0 i (by rw [hl.len]; exact hi)
  exact ⟨load_adr hl (adr_v h0) (fun i hi => by rw [show 0 + 1 + i = 1 + i by omega]; exact c1 i hi), load_int (adr_v h0), load_arr hl c1⟩

set_option maxHeartbeats 1000000 in
theorem rightAddr_any (v : Int) (l : List Int) (w : World) (hl : B16 l) : Calls Tryd.prog 111 #[.agg (adrV v l)] w fun e w' => e = .returned (.bool (rightA v l)) ∧ Below w.heap.size w w' := by
  have hb := blk_new w (.cells (adrV v l) 47)
  have hv := adr_v hb
  have hbe : Below w.heap.size w (w.alloc (.cells (adrV v l) 47)) := below_alloc (Below.refl _ _) _
  have HA := Lib.hid (adr_at hl hb)
  have HBE := Lib.hid hbe
  obtain ⟨cs, hcs⟩ : ∃ cs, adrV v l = cs := ⟨_, rfl⟩
  rw [hcs] at hv HA HBE ⊢
  clear hb hcs hbe
  go_enter Tryd.func111, Tryd.ntmps111
  go_wp2_with fail
  refine (refwidth_any v _).mono ?_
  rintro e w1 ⟨rfl, rfl⟩
  go_wp2_with fail
  clear hv
  have hwl := widthA_le v
  go_loopw [4] (fun i wr => ∃ m : Nat, i = .int .i64 m ∧ Hid (widthA v ≤ m ∧ ∀ j, widthA v ≤ j → j < m → j < 128 → bitA l j = 0) ∧ Hid (Below (w.alloc (.cells cs 47)).heap.size (w.alloc (.cells cs 47)) wr)) (fun i _ => 128 - (intOf i).toNat)
  case atStart => exact ⟨widthA v, rfl, ⟨Nat.le_refl _, fun j h1 h2 => by omega⟩, Below.refl _ _⟩
  case round =>
    obtain ⟨m, rfl, HH, HW⟩ := hrel
    by_cases hlt : m < 128
    · have hld := (HA.out.all wr HW.out).2.2
      have hlt' : (m : Int) < 128 := by omega
      have HLT := Lib.hid hlt
      clear hlt
      go_wp2_with (refine wpList_load_g hld _ rfl rfl (by go_simp) ?_)
      refine (refat_any l m wr hl (by omega) (by omega)).mono ?_
      rintro e w2 ⟨rfl, hb2⟩
      rw [show (m : Int).toNat = m by omega]
      have HW2 := Lib.hid (below_step HW.out hb2)
      clear hb2 hld
      by_cases hbit : bitA l m = 1
      · have hbt : (bitA l m == 1) = true := by simpa using hbit
        have hr : rightA v l = false := by
          unfold rightA
          have : clearA l (widthA v) = false := by
            rw [Bool.eq_false_iff]
            intro h
            have := (clearA_iff l (widthA v)).1 h m HH.out.1 HLT.out
            omega
          rw [this, Bool.and_false]
        have HR := Lib.hid hr
        clear hbit hr
        go_wp2
        go_ret
        rw [HR.out]
        exact ⟨rfl, below_step HBE.out HW2.out⟩
      · have hbt : (bitA l m == 1) = false := by simpa using hbit
        have HZ : Hid (bitA l m = 0) := (bitA_range l m).resolve_right hbit
        clear hbit
        go_wp2_with fail
        go_roundw
        case measure => simp [intOf]; omega
        case rel =>
          refine ⟨m + 1, by go_num, ⟨by have := HH.out.1; omega, fun j h1 h2 h3 => ?_⟩, HW2.out⟩
          by_cases hj : j < m
          · exact HH.out.2 j h1 hj h3
          · rw [show j = m by omega]
            exact HZ.out
    · have hm1 : decide ((m : Int) < 128) = false := decide_eq_false (by omega)
      have hr : rightA v l = decide (0 < widthA v) := by
        unfold rightA
        rw [(clearA_iff l (widthA v)).2 (fun j h1 h2 => HH.out.2 j h1 (by omega) h2), Bool.and_true]
        exact decide_eq_decide.2 ⟨fun h => Nat.pos_of_ne_zero h, fun h => Nat.ne_of_gt h⟩
      have HR := Lib.hid hr
      obtain ⟨n, hn⟩ : ∃ n, widthA v = n := ⟨_, rfl⟩
      rw [hn] at HR
      rw [hn]
      clear hr hlt hwl HH hn
      rcases Nat.eq_zero_or_pos n with h0 | h0
      · subst h0
        go_wp2_with fail
        go_ret
        rw [HR.out]
        exact ⟨rfl, below_step HBE.out HW.out⟩
      · have hd : decide ((0 : Int) < (n : Int)) = true := decide_eq_true (by omega)
        have hd2 : decide (0 < n) = true := decide_eq_true h0
        have HD2 := Lib.hid hd2
        clear hd2 h0
        go_wp2_with fail
        go_ret
        rw [HR.out, HD2.out]
        exact ⟨by simp, below_step HBE.out HW.out⟩
end Go.Proofs.YtnpeedmicjeleaaDoor

/- Layer 5 (prefix): Of. -/
namespace Go.Proofs.YtnpeedmicjeleaaDoor
open Go.RowKit
set_option linter.unusedVariables false
set_option linter.unusedSimpArgs false
set_option maxRecDepth 4000

/-- A store of a whole prefix; a load of one, as a result. -/
theorem store_pfx_fit {c : Array Value} {v x : Int} {l : List Int} (hl : l.length = 16) (hc : c.size = 18) : 0 + (pfxV v l x).size ≤ c.size := by rw [pfx_size hl, hc]; exact Nat.le_refl _
end Go.Proofs.YtnpeedmicjeleaaDoor

/- The document's answer for layer 5: Of. -/
namespace Go.Proofs.YtnpeedmicjeleaaDoor
open Go.RowKit
set_option linter.unusedVariables false
set_option linter.unusedSimpArgs false
set_option maxRecDepth 4000

theorem pfx_byte {w : World} {g : Nat} {t : TypeId} {v b : Int} {l : List Int} (hl : B16 l) (h : w.heap[g]? = some (.cells (pfxV v l b) t (0, 0))) (i : Nat) (hi : i < 16) : w.cell? ⟨g, 1 + i, none⟩ = some (.int .u8 (rd l (i : Int))) := by
  rw [blk_cell h, Nat.add_comm]
  unfold pfxV
  rw [List.getElem?_toArray, List.getElem?_cons_succ, List.getElem?_append_left (by simp [nums, hl.len]; exact hi)]
  exact nums_get .u8 l i (by rw [hl.len]; exact hi)
end Go.Proofs.YtnpeedmicjeleaaDoor

/- Slices of int of the call's own. -/
namespace Go.Proofs.YtnpeedmicjeleaaDoor
open Go.RowKit
set_option linter.unusedVariables false
set_option linter.unusedSimpArgs false
set_option maxRecDepth 4000

structure RI (w : World) (A : Option Addr) (n c : Nat) (xs : List Int) : Prop where
  rv : RV w 1 A n c (nums .i64 xs)
structure OI (w : World) (base : Nat) (A : Option Addr) (n c : Nat) (xs : List Int) : Prop where
  ov : OV w base 3 1 A n c (nums .i64 xs)
section
variable {w w1 : World} {base base' : Nat} {A : Option Addr} {n c : Nat} {xs : List Int}
theorem RI.len (h : RI w A n c xs) : xs.length = n := by have := h.rv.len; simpa [nums] using this
theorem RI.cap (h : RI w A n c xs) : n ≤ c := h.rv.cap
theorem RI.small (h : RI w A n c xs) : n ≤ 281474976710656 := h.rv.small
theorem RI.at_ (h : RI w A n c xs) (i : Int) (h0 : 0 ≤ i) (h1 : i < n) : ∃ ad, A = some ad ∧ w.cell? (ad.add i.toNat) = some (.int .i64 (rd xs i)) := by
  obtain ⟨ad, e, hc⟩ := h.rv.cells (by omega)
  exact ⟨ad, e, hc _ _ (nums_get _ _ _ (by have := h.len; omega))⟩
theorem RI.below (h : RI w A n c xs) (hb : Below w.heap.size w w1) : RI w1 A n c xs := ⟨h.rv.below hb⟩
theorem RI.grown (h : RI w A n c xs) {row : Option Nat} (hg : w.grownBy w1 row) (hne : ∀ ad, A = some ad → some ad.block ≠ row) : RI w1 A n c xs := ⟨h.rv.grown hg hne⟩
theorem OI.len (h : OI w base A n c xs) : xs.length = n := by have := h.ov.len; simpa [nums] using this
theorem OI.cap (h : OI w base A n c xs) : n ≤ c := h.ov.cap
theorem OI.small (h : OI w base A n c xs) : n ≤ 281474976710656 := h.ov.small
theorem OI.base_ (h : OI w base A n c xs) : ∀ ad, A = some ad → base ≤ ad.block := h.ov.base_
theorem OI.lt (h : OI w base A n c xs) : ∀ ad, A = some ad → ad.block < w.heap.size := h.ov.lt
theorem OI.reads (h : OI w base A n c xs) : RI w A n c xs := ⟨h.ov.reads⟩
theorem OI.lower (h : OI w base A n c xs) (hb : base' ≤ base) : OI w base' A n c xs := ⟨h.ov.lower hb⟩
theorem OI.grown (h : OI w base A n c xs) {row : Option Nat} (hg : w.grownBy w1 row) (hne : ∀ ad, A = some ad → some ad.block ≠ row) : OI w1 base A n c xs := ⟨h.ov.grown hg hne⟩
theorem OI.below (h : OI w base A n c xs) (hb : Below w.heap.size w w1) : OI w1 base A n c xs := ⟨h.ov.below hb⟩
end
theorem OI.new (W : World) (base : Nat) (xs : List Int) (hb : base ≤ W.heap.size) (hn : xs.length ≤ 281474976710656) :
    OI (W.alloc (.cells (nums .i64 xs).toArray 3)) base (some ⟨W.heap.size, 0, none⟩) xs.length xs.length xs :=
  ⟨by have := OV.new W base 3 1 (nums .i64 xs).toArray xs.length hb (by simp [nums]) hn; simpa using this⟩
theorem RI.one (W : World) (y : Int) : RI (W.alloc (.cells #[.int .i64 y] 3)) (some ⟨W.heap.size, 0, none⟩) 1 1 [y] := (OI.new W 0 [y] (by omega) (by simp)).reads
theorem info_i64 : (Tryd.prog.info? 3).map (fun i => (i.zero, i.size, i.bytes)) = some (some (.int .i64 0), 1, 8) := by kernel_rfl
theorem run_append_ints (W : World) (base : Nat) (ty : TypeId) (A : Option Addr) (n c : Nat) (xs : List Int) (A2 : Option Addr) (m c2 : Nat) (ys : List Int)
    (HO : OI W base A n c xs) (HR : RI W A2 m c2 ys) (hbase : base ≤ W.heap.size) (hl : (n + m) * 8 ≤ 140737488355328) :
    ∃ A' c' w', (Builtin.append_ #[142, 142] ty #[.slice A n c, .slice A2 m c2]).run Tryd.prog W = .ok (.slice A' (n + m) c') w' ∧
      OI w' base A' (n + m) c' (xs ++ ys) ∧ W.grownBy w' ((Value.slice A n c).ownBlock) ∧ (A' = A ∨ ∀ ad, A' = some ad → W.heap.size ≤ ad.block) := by
  obtain ⟨A', c', w', h1, h2, h3, h4⟩ := run_append_rows W base 142 ty 3 1 8 (.int .i64 0) A n c (nums .i64 xs) A2 m c2 (nums .i64 ys) Tryd.underlying142 info_i64 rfl (by omega) (by omega) HO.ov HR.rv (nums_one _ _) hbase hl
  exact ⟨A', c', w', h1, ⟨by rw [nums_append]; exact h2⟩, h3, h4⟩
theorem wpList_append_ints {ops : Array Oper} {rest : List Oper} {o : Oper} {a : Act} {Q : Exit → Act → World → Prop} {W : World} (hgd : o.guard = none) (s x : Operand) (ho : o.op = .call { callee := .builtin .append, args := #[s, x], argTypes := #[142, 142] })
    {base : Nat} {A : Option Addr} {n c : Nat} {xs : List Int} {A2 : Option Addr} {m c2 : Nat} {ys : List Int} (hs : a.eval s = .slice A n c) (hx : a.eval x = .slice A2 m c2)
    (HO : OI W base A n c xs) (HR : RI W A2 m c2 ys) (hbase : base ≤ W.heap.size) (hl : (n + m) * 8 ≤ 140737488355328)
    (h : ∀ A' c' w', OI w' base A' (n + m) c' (xs ++ ys) → W.grownBy w' ((Value.slice A n c).ownBlock) → (A' = A ∨ ∀ ad, A' = some ad → W.heap.size ≤ ad.block) → wpList Tryd.prog ops Q rest (a.put o.dst (.slice A' (n + m) c')) w') :
    wpList Tryd.prog ops Q (o :: rest) a W := by
  obtain ⟨A', c', w', h1, h2, h3, h4⟩ := run_append_ints W base o.type A n c xs A2 m c2 ys HO HR hbase hl
  exact wpList_exec hgd (exec_append s x _ ho hs hx h1) (h _ _ _ h2 h3 h4)
end Go.Proofs.YtnpeedmicjeleaaDoor

/- Layer 5 (prefix): Compare. -/
namespace Go.Proofs.YtnpeedmicjeleaaDoor
open Go.RowKit
set_option linter.unusedVariables false
set_option linter.unusedSimpArgs false
set_option maxRecDepth 4000

theorem cmpint_any (x y : Int) (w : World) : Calls Tryd.prog 82 #[.int .i64 x, .int .i64 y] w fun e w' => e = .returned (.int .i64 (cmpN x y)) ∧ w = w' := by
  unfold cmpN
  by_cases h1 : x < y
  · rw [if_pos h1]
    go_enter Tryd.func82, Tryd.ntmps82
    go_wp2
    go_ret
    exact ⟨rfl, rfl⟩
  · rw [if_neg h1]
    by_cases h2 : y < x
    · rw [if_pos h2]
      go_enter Tryd.func82, Tryd.ntmps82
      go_wp2
      go_ret
      exact ⟨rfl, rfl⟩
    · rw [if_neg h2]
      obtain rfl : x = y := by omega
      clear h1 h2
      go_enter Tryd.func82, Tryd.ntmps82
      go_wp2
      go_ret
      exact ⟨rfl, rfl⟩
def orI : List Int → Int
  | [] => 0
  | x :: xs => if x ≠ 0 then x else orI xs
theorem orI_skip : ∀ (xs : List Int) (k : Nat), (∀ j : Nat, j < k → rd xs (j : Int) = 0) → orI xs = orI (xs.drop k)
  | _, 0, _ => rfl
  | [], _ + 1, _ => by simp
  | x :: xs, k + 1, h => by
    have h0 := h 0 (by omega)
    simp [rd] at h0
    rw [List.drop_succ_cons, ← orI_skip xs k (fun j hj => by have := h (j + 1) (by omega); simpa [rd] using this)]
    simp [orI, h0]
theorem orI_at (xs : List Int) (k : Nat) (hk : k < xs.length) (h : ∀ j : Nat, j < k → rd xs (j : Int) = 0) (hn : rd xs (k : Int) ≠ 0) : orI xs = rd xs (k : Int) := by
  rw [orI_skip xs k h, List.drop_eq_getElem_cons hk]
  have e : rd xs (k : Int) = xs[k] := by simp [rd, List.getD_eq_getElem?_getD, hk]
  rw [e] at hn ⊢
  simp [orI, hn]
theorem or_any (A : Option Addr) (n c : Nat) (xs : List Int) (w : World) (hr : RI w A n c xs) : Calls Tryd.prog 80 #[.slice A n c] w fun e w' => e = .returned (.int .i64 (orI xs)) ∧ w = w' := by
  have hn := hr.small
  have HL := Lib.hid hr.len
  have HR := Lib.hid hr
  clear hr
  go_enter Tryd.func80, Tryd.ntmps80
  go_wp2
  go_loop [5, 8] (fun _ i => ∃ k : Nat, i = .int .i64 k ∧ k ≤ n ∧ Hid (∀ j : Nat, j < k → rd xs (j : Int) = 0)) (fun _ i => n - (intOf i).toNat)
  case atStart => exact ⟨0, rfl, Nat.zero_le _, fun j h => by omega⟩
  case round =>
    obtain ⟨k, rfl, hk, HH⟩ := hrel
    by_cases hlt : k < n
    · obtain ⟨ad, rfl, hc⟩ := HR.out.at_ k (by omega) (by omega)
      have hc' : w.cell? (ad.add k) = some (.int .i64 (rd xs k)) := hc
      clear hc
      by_cases h0 : rd xs k = 0
      · have hb : (rd xs k != 0) = false := by simp [h0]
        have H0 := Lib.hid h0
        clear h0
        go_wp2
        go_round
        case measure => simp [intOf]; omega
        case rel =>
          refine ⟨k + 1, by go_num, by omega, fun j hj => ?_⟩
          by_cases hj' : j < k
          · exact HH.out j hj'
          · rw [show j = k by omega]; exact H0.out
      · have hb : (rd xs k != 0) = true := by simpa using h0
        have HE := Lib.hid (orI_at xs k (by rw [HL.out]; exact hlt) HH.out h0)
        clear h0
        go_wp2
        go_ret
        rw [HE.out]
        exact ⟨rfl, rfl⟩
    · obtain rfl : k = n := by omega
      have HE := Lib.hid (show orI xs = 0 by rw [orI_skip xs k HH.out, List.drop_of_length_le (by rw [HL.out]; exact Nat.le_refl _)]; rfl)
      clear hlt
      go_wp2
      go_ret
      rw [HE.out]
      exact ⟨rfl, rfl⟩

theorem rb_pfx {w : World} {g : Nat} {t : TypeId} {v b : Int} {l : List Int} (hl : B16 l) (h : w.heap[g]? = some (.cells (pfxV v l b) t (0, 0))) : RB w (some ⟨g, 1, none⟩) 16 16 l :=
  ⟨⟨by simp [nums, hl.len], Nat.le_refl _, by omega, fun _ => ⟨_, rfl, fun j u hj => by
    have hlt := (List.getElem?_eq_some_iff.1 hj).1
    simp only [nums, List.length_map, hl.len] at hlt
    rw [nums_get _ _ _ (by rw [hl.len]; exact hlt)] at hj
    rw [add_spot _ rfl, ← hj]
    exact pfx_byte hl h j hlt⟩⟩, hl.rng⟩
theorem cmp_or (p q : Pfx) (hp : B16 p.l) (hq : B16 q.l) : p.cmp q = orI [cmpN p.v q.v, cmpI p.l q.l, cmpN p.b q.b] := by
  rw [p.cmp_eq q hp hq]
  simp only [orI]
  split
  · rfl
  · split
    · rfl
    · split
      · rfl
      · omega

set_option maxHeartbeats 2000000 in
theorem compare_any (p q : Pfx) (w : World) (hp : B16 p.l) (hq : B16 q.l) : Calls Tryd.prog 81 #[.agg (pfxV p.v p.l p.b), .agg (pfxV q.v q.l q.b)] w fun e w' => e = .returned (.int .i64 (p.cmp q)) ∧ Below w.heap.size w w' := by
  have hblk1 := blk_new w (.cells (pfxV p.v p.l p.b) 49)
  have hbel1 : Below w.heap.size w (w.alloc (.cells (pfxV p.v p.l p.b) 49)) := below_alloc (Below.refl _ _) _
  have hblk2 := blk_new (w.alloc (.cells (pfxV p.v p.l p.b) 49)) (.cells (pfxV q.v q.l q.b) 49)
  have hbel2 : Below w.heap.size w ((w.alloc (.cells (pfxV p.v p.l p.b) 49)).alloc (.cells (pfxV q.v q.l q.b) 49)) := below_alloc (hbel1) _
  rw [show (w.alloc (.cells (pfxV p.v p.l p.b) 49)).heap.size = w.heap.size + 1 by simp] at hblk2
  replace hblk1 := blk_below hblk1 (below_alloc (Below.refl _ _) (.cells (pfxV q.v q.l q.b) 49))
  have HP1 := Lib.hid (pfx_at hp hblk1)
  have HBK1 := Lib.hid hblk1
  have HP2 := Lib.hid (pfx_at hq hblk2)
  have HBK2 := Lib.hid hblk2
  have HBE := Lib.hid hbel2
  obtain ⟨cs1, hcs1⟩ : ∃ cs, pfxV p.v p.l p.b = cs := ⟨_, rfl⟩
  obtain ⟨cs2, hcs2⟩ : ∃ cs, pfxV q.v q.l q.b = cs := ⟨_, rfl⟩
  simp only [hcs1, hcs2] at HBE HP1 HP2 HBK1 HBK2 ⊢
  have HC1 := Lib.hid hcs1
  have HC2 := Lib.hid hcs2
  clear hcs1 hblk1 hbel1 hcs2 hblk2 hbel2
  have HE := Lib.hid (cmp_or p q hp hq)
  go_enter Tryd.func81, Tryd.ntmps81
  go_wp2_with fail
  refine wp_region_mix (fun w0 => Below ((w.alloc (.cells cs1 49)).alloc (.cells cs2 49)).heap.size ((w.alloc (.cells cs1 49)).alloc (.cells cs2 49)) w0) [(0, 0), (1, 0), (2, 0), (3, 0), (4, 0), (5, 0), (7, 0), (8, 0), (9, 0), (10, 0), (11, 0), (12, 0), (14, 0), (15, 0), (16, 0), (17, 0), (6, 2), (13, 2), (18, 2), (19, 2), (20, 2), (21, 0)] (by kernel_rfl) (by kernel_rfl) (below_drew1 _) ?_
  simp only [List.map_cons, List.map_nil]
  iterate 2 (refine wpO_step0 rfl rfl (fun K hK => ?_); go_simp; refine hK _ _ ?_; clear hK K)
  refine wpO_loadW (t := 3) (ad := ⟨w.heap.size, 0, none⟩) rfl rfl ?hw rfl rfl ((fun w0 hS => (HP1.out.all w0 hS).2.2.1)) ?_
  case hw => go_simp
  iterate 2 (refine wpO_step0 rfl rfl (fun K hK => ?_); go_simp; refine hK _ _ ?_; clear hK K)
  refine wpO_loadW (t := 3) (ad := ⟨(w.heap.size+1), 0, none⟩) rfl rfl ?hw rfl rfl ((fun w0 hS => (HP2.out.all w0 hS).2.2.1)) ?_
  case hw => go_simp
  iterate 7 (refine wpO_step0 rfl rfl (fun K hK => ?_); go_simp; refine hK _ _ ?_; clear hK K)
  refine wpO_loadW (t := 3) (ad := ⟨w.heap.size, 17, none⟩) rfl rfl ?hw rfl rfl ((fun w0 hS => (HP1.out.all w0 hS).2.1)) ?_
  case hw => go_simp
  iterate 1 (refine wpO_step0 rfl rfl (fun K hK => ?_); go_simp; refine hK _ _ ?_; clear hK K)
  refine wpO_loadW (t := 3) (ad := ⟨(w.heap.size+1), 17, none⟩) rfl rfl ?hw rfl rfl ((fun w0 hS => (HP2.out.all w0 hS).2.1)) ?_
  case hw => go_simp
  refine wpO_step2 rfl rfl (below_drew1 _) (fun K hK => ?_)
  go_simp
  refine (cmpint_any p.v q.v _).mono ?_
  rintro e w1 ⟨rfl, rfl⟩
  refine hK _ _ ⟨below_drew1 _, ?_⟩
  clear hK K
  refine wpO_step2 rfl rfl (below_drew1 _) (fun K hK => ?_)
  go_simp
  refine (bcompare_any (some ⟨w.heap.size, 1, none⟩) 16 16 p.l (some ⟨w.heap.size + 1, 1, none⟩) 16 16 q.l _ (rb_pfx hp (by rw [HC1.out]; exact HBK1.out)) (rb_pfx hq (by rw [HC2.out]; exact HBK2.out))).mono ?_
  rintro e w1 ⟨rfl, rfl⟩
  refine hK _ _ ⟨below_drew1 _, ?_⟩
  clear hK K
  refine wpO_step2 rfl rfl (below_drew1 _) (fun K hK => ?_)
  go_simp
  refine (cmpint_any p.b q.b _).mono ?_
  rintro e w1 ⟨rfl, rfl⟩
  refine hK _ _ ⟨below_drew1 _, ?_⟩
  clear hK K
  obtain ⟨x0, h0⟩ : ∃ x, cmpN p.v q.v = x := ⟨_, rfl⟩
  obtain ⟨x1, h1⟩ : ∃ x, cmpI p.l q.l = x := ⟨_, rfl⟩
  obtain ⟨x2, h2⟩ : ∃ x, cmpN p.b q.b = x := ⟨_, rfl⟩
  rw [h0, h1, h2] at HE
  rw [h0, h1, h2]
  clear h0 h1 h2
  refine wpO_step2 rfl rfl (below_drew1 _) (fun K hK => ?_)
  go_simp
  have hri := (OI.new ((w.alloc (.cells cs1 49)).alloc (.cells cs2 49)) 0 [x0, x1, x2] (by omega) (by simp)).reads.below (below_drew1 _)
  rw [show ((w.alloc (.cells cs1 49)).alloc (.cells cs2 49)).heap.size = w.heap.size + 1 + 1 by simp] at hri
  have HRI := Lib.hid hri
  clear hri
  refine hK _ _ ⟨(below_alloc (Below.refl _ _) _).drew, ?_⟩
  clear hK K
  refine wpO_step2 rfl rfl ((below_alloc (Below.refl _ _) _).drew) (fun K hK => ?_)
  go_simp
  refine (or_any _ 3 3 [x0, x1, x2] _ HRI.out).mono ?_
  rintro e w1 ⟨rfl, rfl⟩
  refine hK _ _ ⟨(below_alloc (Below.refl _ _) _).drew, ?_⟩
  clear hK K
  iterate 1 (refine wpO_step0 rfl rfl (fun K hK => ?_); go_simp; refine hK _ _ ?_; clear hK K)
  refine wpO_nil ?_
  go_wp2
  go_ret
  rw [HE.out]
  exact ⟨rfl, below_step HBE.out (below_alloc (Below.refl _ _) _).drew⟩

/-- The document's Compare. -/
theorem cmpI_rd : ∀ (xs ys : List Int) (k : Nat), xs.length = ys.length → (∀ j : Nat, j < k → rd xs (j : Int) = rd ys (j : Int)) → cmpI xs ys = cmpI (xs.drop k) (ys.drop k)
  | _, _, 0, _, _ => rfl
  | [], [], k + 1, _, _ => by simp
  | [], _ :: _, _, h, _ => by simp at h
  | _ :: _, [], _, h, _ => by simp at h
  | x :: xs, y :: ys, k + 1, h, hk => by
    have h0 := hk 0 (by omega)
    simp [rd] at h0
    subst h0
    rw [List.drop_succ_cons, List.drop_succ_cons, ← cmpI_rd xs ys k (by simpa using h) (fun j hj => by have := hk (j + 1) (by omega); simpa [rd] using this)]
    simp [cmpI]
theorem cmpI_at (xs ys : List Int) (k : Nat) (hl : xs.length = ys.length) (hk : k < xs.length) (h : ∀ j : Nat, j < k → rd xs (j : Int) = rd ys (j : Int)) (hn : rd xs (k : Int) ≠ rd ys (k : Int)) : cmpI xs ys = if rd xs (k : Int) < rd ys (k : Int) then -1 else 1 := by
  rw [cmpI_rd xs ys k hl h, List.drop_eq_getElem_cons hk, List.drop_eq_getElem_cons (show k < ys.length by omega)]
  have e1 : rd xs (k : Int) = xs[k] := by simp [rd, List.getD_eq_getElem?_getD, hk]
  have e2 : rd ys (k : Int) = ys[k]'(by omega) := by simp [rd, List.getD_eq_getElem?_getD, show k < ys.length by omega]
  rw [e1, e2] at hn ⊢
  generalize xs[k] = x at hn ⊢
  generalize ys[k]'(by omega) = y at hn ⊢
  simp only [cmpI]
  by_cases h1 : x < y
  · rw [if_pos h1, if_pos h1]
  · rw [if_neg h1, if_neg h1, if_pos (by omega)]
theorem cmpI_same (xs ys : List Int) (hl : xs.length = ys.length) (h : ∀ j : Nat, j < xs.length → rd xs (j : Int) = rd ys (j : Int)) : cmpI xs ys = 0 := by
  rw [cmpI_rd xs ys xs.length hl h, List.drop_of_length_le (Nat.le_refl _), List.drop_of_length_le (by omega)]
  rfl
theorem row_take (p : Pfx) (hp : B16 p.l) (k : Nat) (hk : k < 16) : (p.row).take (k + 2) = (p.row).take (k + 1) ++ [rd p.l (k : Int)] := by
  have e : (p.row).take (k + 1 + 1) = (p.row).take (k + 1) ++ [(p.row)[k + 1]'(by simp [Pfx.row, hp.len]; omega)] := List.take_succ_eq_append_getElem (by simp [Pfx.row, hp.len]; omega)
  rw [e]
  congr 2
  simp only [Pfx.row, List.getElem_cons_succ]
  rw [List.getElem_append_left (by rw [hp.len]; exact hk)]
  simp [rd, List.getD_eq_getElem?_getD, hp.len, hk]
theorem row_len (p : Pfx) (hp : B16 p.l) : p.row.length = 18 := by simp [Pfx.row, hp.len]
theorem row_17 (p : Pfx) (hp : B16 p.l) : p.row.take 17 ++ [p.b] = p.row := by
  simp [Pfx.row, hp.len, List.take_append]

end Go.Proofs.YtnpeedmicjeleaaDoor

/- Layer 9 (table): against, hop, and the closure of place. -/
namespace Go.Proofs.YtnpeedmicjeleaaDoor
open Go.RowKit
set_option linter.unusedVariables false
set_option linter.unusedSimpArgs false
set_option maxRecDepth 4000

theorem against_any (r : Row) (p : Pfx) (w : World) (hr : r.fits) (hp : B16 p.l) : Calls Tryd.prog 56 #[.agg (rowV r), .agg (pfxV p.v p.l p.b)] w fun e w' => e = .returned (.int .i64 (r.p.cmp p)) ∧ Below w.heap.size w w' := by
  have hblk1 := blk_new w (.cells (rowV r) 93)
  have hbel1 : Below w.heap.size w (w.alloc (.cells (rowV r) 93)) := below_alloc (Below.refl _ _) _
  have hblk2 := blk_new (w.alloc (.cells (rowV r) 93)) (.cells (pfxV p.v p.l p.b) 49)
  have hbel2 : Below w.heap.size w ((w.alloc (.cells (rowV r) 93)).alloc (.cells (pfxV p.v p.l p.b) 49)) := below_alloc (hbel1) _
  rw [show (w.alloc (.cells (rowV r) 93)).heap.size = w.heap.size + 1 by simp] at hblk2
  replace hblk1 := blk_below hblk1 (below_alloc (Below.refl _ _) (.cells (pfxV p.v p.l p.b) 49))
  have HP1 := Lib.hid (row_at hr hblk1)
  have HBK1 := Lib.hid hblk1
  have HP2 := Lib.hid (pfx_at hp hblk2)
  have HBK2 := Lib.hid hblk2
  have HBE := Lib.hid hbel2
  obtain ⟨cs1, hcs1⟩ : ∃ cs, rowV r = cs := ⟨_, rfl⟩
  obtain ⟨cs2, hcs2⟩ : ∃ cs, pfxV p.v p.l p.b = cs := ⟨_, rfl⟩
  simp only [hcs1, hcs2] at HBE HP1 HP2 HBK1 HBK2 ⊢
  have HC1 := Lib.hid hcs1
  have HC2 := Lib.hid hcs2
  clear hcs1 hblk1 hbel1 hcs2 hblk2 hbel2
  have hl1 := (HP1.out.all _ (Below.refl _ _)).pfx
  have hl2 := (HP2.out.all _ (Below.refl _ _)).2.2.2.2
  go_enter Tryd.func56, Tryd.ntmps56
  go_wp2_with (first | ((with_reducible show wpList _ _ _ (Oper.mk _ (Op.load _ _) _ _ _ _ :: _) _ _); refine wpList_load_g hl1 _ rfl rfl (by go_simp) ?_) | ((with_reducible show wpList _ _ _ (Oper.mk _ (Op.load _ _) _ _ _ _ :: _) _ _); refine wpList_load_g hl2 _ rfl rfl (by go_simp) ?_))
  refine (compare_any r.p p _ hr hp).mono ?_
  rintro e w1 ⟨rfl, hbb1⟩
  have HB1 := Lib.hid hbb1
  clear hbb1 hl1 hl2
  go_wp2
  go_ret
  exact ⟨rfl, below_step HBE.out HB1.out⟩
def hopB (n : Int) : Bool := decide (1 ≤ n) && decide (n ≤ 255)
theorem hop_any (n : Int) (w : World) : Calls Tryd.prog 55 #[.int .i64 n] w fun e w' => e = .returned (.bool (hopB n)) ∧ w = w' := by
  by_cases h1 : 1 ≤ n
  · by_cases h2 : n ≤ 255
    · have HE := Lib.hid (show hopB n = true by unfold hopB; simp [h1, h2])
      go_enter Tryd.func55, Tryd.ntmps55
      go_wp2
      go_ret
      rw [HE.out]
      exact ⟨rfl, rfl⟩
    · have HE := Lib.hid (show hopB n = false by unfold hopB; simp [h2])
      have h2' : decide (n ≤ 255) = false := decide_eq_false h2
      clear h2
      go_enter Tryd.func55, Tryd.ntmps55
      go_wp2
      go_ret
      rw [HE.out]
      exact ⟨rfl, rfl⟩
  · have HE := Lib.hid (show hopB n = false by unfold hopB; simp [h1])
    have h1' : decide (1 ≤ n) = false := decide_eq_false h1
    clear h1
    go_enter Tryd.func55, Tryd.ntmps55
    go_wp2
    go_ret
    rw [HE.out]
    exact ⟨rfl, rfl⟩
theorem place1_any (r : Row) (p : Pfx) (w : World) (hr : r.fits) (hp : B16 p.l) : Calls Tryd.prog 93 #[.agg (rowV r), .agg (pfxV p.v p.l p.b)] w fun e w' => e = .returned (.int .i64 (r.p.cmp p)) ∧ Below w.heap.size w w' := by
  have hblk1 := blk_new w (.cells (rowV r) 79)
  have hbel1 : Below w.heap.size w (w.alloc (.cells (rowV r) 79)) := below_alloc (Below.refl _ _) _
  have hblk2 := blk_new (w.alloc (.cells (rowV r) 79)) (.cells (pfxV p.v p.l p.b) 49)
  have hbel2 : Below w.heap.size w ((w.alloc (.cells (rowV r) 79)).alloc (.cells (pfxV p.v p.l p.b) 49)) := below_alloc (hbel1) _
  rw [show (w.alloc (.cells (rowV r) 79)).heap.size = w.heap.size + 1 by simp] at hblk2
  replace hblk1 := blk_below hblk1 (below_alloc (Below.refl _ _) (.cells (pfxV p.v p.l p.b) 49))
  have HP1 := Lib.hid (row_at hr hblk1)
  have HBK1 := Lib.hid hblk1
  have HP2 := Lib.hid (pfx_at hp hblk2)
  have HBK2 := Lib.hid hblk2
  have HBE := Lib.hid hbel2
  obtain ⟨cs1, hcs1⟩ : ∃ cs, rowV r = cs := ⟨_, rfl⟩
  obtain ⟨cs2, hcs2⟩ : ∃ cs, pfxV p.v p.l p.b = cs := ⟨_, rfl⟩
  simp only [hcs1, hcs2] at HBE HP1 HP2 HBK1 HBK2 ⊢
  have HC1 := Lib.hid hcs1
  have HC2 := Lib.hid hcs2
  clear hcs1 hblk1 hbel1 hcs2 hblk2 hbel2
  have hl1 := (HP1.out.all _ (Below.refl _ _)).row
  have hl2 := (HP2.out.all _ (Below.refl _ _)).2.2.2.2
  rw [HC1.out] at hl1
  rw [HC2.out] at hl2
  go_enter Tryd.func93, Tryd.ntmps93
  go_wp2_with (first | ((with_reducible show wpList _ _ _ (Oper.mk _ (Op.load _ _) _ _ _ _ :: _) _ _); refine wpList_load_g hl1 _ rfl rfl (by go_simp) ?_) | ((with_reducible show wpList _ _ _ (Oper.mk _ (Op.load _ _) _ _ _ _ :: _) _ _); refine wpList_load_g hl2 _ rfl rfl (by go_simp) ?_))
  rw [← HC1.out, ← HC2.out]
  refine (against_any r p _ hr hp).mono ?_
  rintro e w1 ⟨rfl, hbb1⟩
  rw [HC1.out, HC2.out] at hbb1
  have HB1 := Lib.hid hbb1
  clear hbb1 hl1 hl2
  go_wp2
  go_ret
  exact ⟨rfl, below_step HBE.out HB1.out⟩
end Go.Proofs.YtnpeedmicjeleaaDoor

/- Layer 9 (table): the place of a prefix. -/
namespace Go.Proofs.YtnpeedmicjeleaaDoor
open Go.RowKit
set_option linter.unusedVariables false
set_option linter.unusedSimpArgs false
set_option maxRecDepth 4000

set_option maxHeartbeats 2000000 in
theorem bsearch_any (A : Option Addr) (n c : Nat) (t : List Row) (p : Pfx) (w : World) (ht : RT w A n c t) (hu : rising t = true) (hp : B16 p.l) (hn : n ≤ 1000) :
    Calls Tryd.prog 92 #[.slice A n c, .agg (pfxV p.v p.l p.b), .func (Fn.func 93) #[] #[]] w fun e w' => e = .returned (.tuple #[.int .i64 (lowN t p), .bool (thereB t p)]) ∧ Below w.heap.size w w' := by
  have hblk1 := blk_new w (.cells (pfxV p.v p.l p.b) 49)
  have hbel1 : Below w.heap.size w (w.alloc (.cells (pfxV p.v p.l p.b) 49)) := below_alloc (Below.refl _ _) _
  have HP1 := Lib.hid (pfx_at hp hblk1)
  have HBK1 := Lib.hid hblk1
  have HBE := Lib.hid hbel1
  obtain ⟨cs1, hcs1⟩ : ∃ cs, pfxV p.v p.l p.b = cs := ⟨_, rfl⟩
  simp only [hcs1] at HBE HP1 HBK1 ⊢
  have HC1 := Lib.hid hcs1
  clear hcs1 hblk1 hbel1
  have HT := Lib.hid ht
  have HU := Lib.hid hu
  have HLE := Lib.hid (show lowN t p ≤ n by rw [← ht.len]; exact lowN_le t p)
  have hl2 := (HP1.out.all _ (Below.refl _ _)).2.2.2.2
  rw [HC1.out] at hl2
  clear ht hu
  go_enter Tryd.func92, Tryd.ntmps92
  go_wp2_with fail
  clear hl2
  go_loopw [9, 10] (fun x y wr => ∃ i j : Nat, x = .int .i64 i ∧ y = .int .i64 j ∧ Hid (i ≤ lowN t p ∧ lowN t p ≤ j ∧ j ≤ n ∧ Below (w.alloc (.cells cs1 49)).heap.size (w.alloc (.cells cs1 49)) wr)) (fun x y _ => (intOf y).toNat - (intOf x).toNat)
  case atStart => exact ⟨0, n, rfl, rfl, Nat.zero_le _, HLE.out, Nat.le_refl _, Below.refl _ _⟩
  case round =>
    obtain ⟨i, j, rfl, rfl, HH⟩ := hrel
    have hij := Nat.le_trans HH.out.1 HH.out.2.1
    have hjn := HH.out.2.2.1
    by_cases hlt : i < j
    · have hlt' : (i : Int) < j := by omega
      have hw1 : IntKind.i64.wrap ((i : Int) + j) = i + j := by simp only [IntKind.wrap, IntKind.bits, IntKind.signed]; simp; omega
      have hw2 : IntKind.u64.wrap ((i : Int) + j) = i + j := by simp only [IntKind.wrap, IntKind.bits, IntKind.signed]; simp; omega
      obtain ⟨h, hh⟩ : ∃ h : Nat, ((i : Int) + j) / 2 = h := ⟨(i + j) / 2, by omega⟩
      have hih : i ≤ h := by omega
      have hhj : h < j := by omega
      have HI := Lib.hid (And.intro hih hhj)
      obtain ⟨b, o, rfl, hc⟩ := HT.out.at_ (by omega)
      have hhn : h < n := by omega
      have hhn' : (h : Int) < n := by omega
      have HC := Lib.hid (hc h hhn)
      have HF := Lib.hid (HT.out.fits_at hhn)
      have HSP := Lib.hid (lowN_spec p HU.out h (by rw [HT.out.len]; exact hhn))
      clear hih hhj hc
      go_wp2_with fail
      refine wp_region_mix (fun w0 => Below (wr).heap.size (wr) w0) [(0, 0), (1, 0), (2, 0), (3, 0), (4, 0), (5, 0), (6, 2), (7, 0)] (by kernel_rfl) (by kernel_rfl) (below_drew1 _) ?_
      simp only [List.map_cons, List.map_nil]
      iterate 4 (refine wpO_step0 rfl rfl (fun K hK => ?_); go_simp; refine hK _ _ ?_; clear hK K)
      refine wpO_loadW (t := 79) (ad := ⟨b, (o+h*19), none⟩) rfl rfl ?hw rfl rfl ((fun w0 hS => (rowLd_of HF.out (HC.out.below (below_step HBE.out (below_step HH.out.2.2.2 hS)))).row)) ?_
      case hw => go_simp
      refine wpO_loadW (t := 49) (ad := ⟨w.heap.size, 0, none⟩) rfl rfl ?hw rfl rfl ((fun w0 hS => (HP1.out.all w0 (below_step HH.out.2.2.2 hS)).2.2.2.2)) ?_
      case hw => go_simp
      refine wpO_step2 rfl rfl (below_drew1 _) (fun K hK => ?_)
      go_simp
      refine (place1_any (rowAt t h) p _ HF.out hp).mono ?_
      rintro e w3 ⟨rfl, hbb3⟩
      have HB3 := Lib.hid (below_step (below_drew1 _) hbb3)
      clear hbb3
      refine hK _ _ ⟨HB3.out, ?_⟩
      clear hK K
      cases hcm : decide ((rowAt t h).p.cmp p < 0) with
      | true =>
        iterate 1 (refine wpO_step0 rfl rfl (fun K hK => ?_); go_simp; refine hK _ _ ?_; clear hK K)
        refine wpO_nil ?_
        have HQ := Lib.hid (of_decide_eq_true hcm)
        go_wp2_with fail
        go_roundw
        case measure => simp [intOf]; have := HI.out; omega
        case rel =>
          refine ⟨h + 1, j, by go_num, rfl, ?_, HH.out.2.1, hjn, below_step HH.out.2.2.2 HB3.out⟩
          rcases Nat.lt_or_ge h (lowN t p) with hl | hl
          · exact hl
          · have h1 := HSP.out.2 hl
            have h2 := HQ.out
            omega
      | false =>
        iterate 1 (refine wpO_step0 rfl rfl (fun K hK => ?_); go_simp; refine hK _ _ ?_; clear hK K)
        refine wpO_nil ?_
        have HQ := Lib.hid (of_decide_eq_false hcm)
        go_wp2_with fail
        go_roundw
        case measure => simp [intOf]; have := HI.out; omega
        case rel =>
          refine ⟨i, h, rfl, rfl, HH.out.1, ?_, by omega, below_step HH.out.2.2.2 HB3.out⟩
          rcases Nat.lt_or_ge h (lowN t p) with hl | hl
          · have h1 := HSP.out.1 hl
            have h2 := HQ.out
            omega
          · exact hl
    · have hlt' : decide (i < j) = false := decide_eq_false hlt
      have hlow : i = lowN t p := by have h1 := HH.out.1; have h2 := HH.out.2.1; omega
      have HLO := Lib.hid hlow
      clear hlow hlt
      by_cases hin : i < n
      · obtain ⟨b, o, rfl, hc⟩ := HT.out.at_ (by omega)
        have hin' : (i : Int) < n := by omega
        have HC := Lib.hid (hc i hin)
        have HF := Lib.hid (HT.out.fits_at hin)
        have HTH := Lib.hid (show thereB t p = ((rowAt t i).p.cmp p == 0) by unfold thereB; rw [← HLO.out, rowAt_get (by rw [HT.out.len]; exact hin)])
        clear hc
        go_wp2_with fail
        refine wp_region_mix (fun w0 => Below (wr).heap.size (wr) w0) [(0, 0), (1, 0), (2, 0), (3, 0), (4, 0), (5, 0), (6, 0), (7, 0), (8, 0), (9, 0), (10, 0), (11, 2), (12, 0), (13, 0), (14, 0), (15, 0)] (by kernel_rfl) (by kernel_rfl) (below_drew1 _) ?_
        simp only [List.map_cons, List.map_nil]
        iterate 9 (refine wpO_step0 rfl rfl (fun K hK => ?_); go_simp; refine hK _ _ ?_; clear hK K)
        refine wpO_loadW (t := 79) (ad := ⟨b, (o+i*19), none⟩) rfl rfl ?hw rfl rfl ((fun w0 hS => (rowLd_of HF.out (HC.out.below (below_step HBE.out (below_step HH.out.2.2.2 hS)))).row)) ?_
        case hw => go_simp
        refine wpO_loadW (t := 49) (ad := ⟨w.heap.size, 0, none⟩) rfl rfl ?hw rfl rfl ((fun w0 hS => (HP1.out.all w0 (below_step HH.out.2.2.2 hS)).2.2.2.2)) ?_
        case hw => go_simp
        refine wpO_step2 rfl rfl (below_drew1 _) (fun K hK => ?_)
        go_simp
        refine (place1_any (rowAt t i) p _ HF.out hp).mono ?_
        rintro e w3 ⟨rfl, hbb3⟩
        have HB3 := Lib.hid (below_step (below_drew1 _) hbb3)
        clear hbb3
        refine hK _ _ ⟨HB3.out, ?_⟩
        clear hK K
        iterate 4 (refine wpO_step0 rfl rfl (fun K hK => ?_); go_simp; refine hK _ _ ?_; clear hK K)
        refine wpO_nil ?_
        go_wp2
        refine bodyPost_ret (results_tmp2 rfl _ _ _) rfl ?_
        rw [← HLO.out, HTH.out]
        exact ⟨rfl, below_step HBE.out (below_step HH.out.2.2.2 HB3.out)⟩
      · have hin' : decide (i < n) = false := decide_eq_false hin
        have HTH := Lib.hid (show thereB t p = false by unfold thereB; rw [← HLO.out, List.getElem?_eq_none_iff.2 (by rw [HT.out.len]; omega)])
        clear hin
        go_wp2_with fail
        refine wp_region_mix (fun w0 => Below (wr).heap.size (wr) w0) [(0, 0), (1, 0), (2, 0), (3, 0), (4, 0), (5, 0), (6, 0), (7, 0), (8, 0), (9, 0), (10, 0), (11, 2), (12, 0), (13, 0), (14, 0), (15, 0)] (by kernel_rfl) (by kernel_rfl) (below_drew1 _) ?_
        simp only [List.map_cons, List.map_nil]
        repeat first | (refine wpO_step0 rfl rfl (fun K hK => ?_); go_simp; refine hK _ _ ?_; clear hK K) | (refine wpO_step2 rfl rfl (below_drew1 _) (fun K hK => ?_); go_simp; refine hK _ _ ⟨below_drew1 _, ?_⟩; clear hK K)
        refine wpO_nil ?_
        go_wp2
        refine bodyPost_ret (results_tmp2 rfl _ _ _) rfl ?_
        rw [← HLO.out, HTH.out]
        exact ⟨rfl, below_step HBE.out (below_step HH.out.2.2.2 (below_drew1 _))⟩
theorem place_any (A : Option Addr) (n c : Nat) (t : List Row) (p : Pfx) (w : World) (ht : RT w A n c t) (hu : rising t = true) (hp : B16 p.l) (hn : n ≤ 1000) : Calls Tryd.prog 57 #[.agg (tabV A n c), .agg (pfxV p.v p.l p.b)] w fun e w' => e = .returned (.tuple #[.int .i64 (lowN t p), .bool (thereB t p)]) ∧ Below w.heap.size w w' := by
  have hblk1 := blk_new w (.cells (tabV A n c) 39)
  have hbel1 : Below w.heap.size w (w.alloc (.cells (tabV A n c) 39)) := below_alloc (Below.refl _ _) _
  have hblk2 := blk_new (w.alloc (.cells (tabV A n c) 39)) (.cells (pfxV p.v p.l p.b) 49)
  have hbel2 : Below w.heap.size w ((w.alloc (.cells (tabV A n c) 39)).alloc (.cells (pfxV p.v p.l p.b) 49)) := below_alloc (hbel1) _
  rw [show (w.alloc (.cells (tabV A n c) 39)).heap.size = w.heap.size + 1 by simp] at hblk2
  replace hblk1 := blk_below hblk1 (below_alloc (Below.refl _ _) (.cells (pfxV p.v p.l p.b) 49))
  have HP1 := Lib.hid (tab_at hblk1)
  have HBK1 := Lib.hid hblk1
  have HP2 := Lib.hid (pfx_at hp hblk2)
  have HBK2 := Lib.hid hblk2
  have HBE := Lib.hid hbel2
  obtain ⟨cs1, hcs1⟩ : ∃ cs, tabV A n c = cs := ⟨_, rfl⟩
  obtain ⟨cs2, hcs2⟩ : ∃ cs, pfxV p.v p.l p.b = cs := ⟨_, rfl⟩
  simp only [hcs1, hcs2] at HBE HP1 HP2 HBK1 HBK2 ⊢
  have HC1 := Lib.hid hcs1
  have HC2 := Lib.hid hcs2
  clear hcs1 hblk1 hbel1 hcs2 hblk2 hbel2
  have HT := Lib.hid ht
  have HU := Lib.hid hu
  clear ht hu
  have hl1 := (HP1.out.all _ (Below.refl _ _)).2
  have hl2 := (HP2.out.all _ (Below.refl _ _)).2.2.2.2
  rw [HC2.out] at hl2
  go_enter Tryd.func57, Tryd.ntmps57
  go_wp2_with (first | ((with_reducible show wpList _ _ _ (Oper.mk _ (Op.load _ _) _ _ _ _ :: _) _ _); refine wpList_load_g hl1 _ rfl rfl (by go_simp) ?_) | ((with_reducible show wpList _ _ _ (Oper.mk _ (Op.load _ _) _ _ _ _ :: _) _ _); refine wpList_load_g hl2 _ rfl rfl (by go_simp) ?_))
  have hbs := bsearch_any A n c t p _ (HT.out.below HBE.out) HU.out hp hn
  rw [HC2.out] at hbs
  refine hbs.mono ?_
  clear hbs
  rintro e w1 ⟨rfl, hbb1⟩
  have HB1 := Lib.hid hbb1
  clear hbb1 hl1 hl2
  go_wp2
  refine bodyPost_ret (results_tmp2 rfl _ _ _) rfl ?_
  exact ⟨rfl, below_step HBE.out HB1.out⟩
end Go.Proofs.YtnpeedmicjeleaaDoor

/- Layer 9 (table): Check. -/
namespace Go.Proofs.YtnpeedmicjeleaaDoor
open Go.RowKit
set_option linter.unusedVariables false
set_option linter.unusedSimpArgs false
set_option maxRecDepth 4000

theorem store_row_fit {cs : Array Value} {r : Row} (hf : r.fits) (h : cs.size = 19) : 0 + (rowV r).size ≤ cs.size := by rw [rowV_size hf, h]; omega
theorem splice_row {cs : Array Value} {r : Row} (hf : r.fits) (h : cs.size = 19) : splice cs 0 (rowV r).toList = rowV r := splice_all _ _ (by rw [Array.length_toList, rowV_size hf, h])
def errT (t : List Row) : Int := if tabB t then 0 else 190
set_option maxHeartbeats 4000000 in
theorem tcheck_any (A : Option Addr) (n c : Nat) (t : List Row) (w : World) (hL : Laid w) (ht : RT w A n c t) (hn : n ≤ 100000) : Calls Tryd.prog 19 #[.agg (tabV A n c)] w fun e w' => e = .returned (.int .i64 (errT t)) ∧ Below w.heap.size w w' := by
  have hblk1 := blk_new w (.cells (tabV A n c) 39)
  have hbel1 : Below w.heap.size w (w.alloc (.cells (tabV A n c) 39)) := below_alloc (Below.refl _ _) _
  have HP1 := Lib.hid (tab_at hblk1)
  have HBK1 := Lib.hid hblk1
  have HBE := Lib.hid hbel1
  have HL := Lib.hid (hL.below HBE.out)
  obtain ⟨cs1, hcs1⟩ : ∃ cs, tabV A n c = cs := ⟨_, rfl⟩
  simp only [hcs1] at HBE HL HP1 HBK1 ⊢
  have HC1 := Lib.hid hcs1
  clear hL hcs1 hblk1 hbel1
  have HT := Lib.hid ht
  have hl1 := (HP1.out.all _ (Below.refl _ _)).2
  clear ht
  go_enter Tryd.func19, Tryd.ntmps19
  go_wp2_with ((with_reducible show wpList _ _ _ (Oper.mk _ (Op.load _ _) _ _ _ _ :: _) _ _); refine wpList_load_g hl1 _ rfl rfl (by go_simp) ?_)
  clear hl1
  go_loopw [8] (fun x wr => ∃ i : Nat, x = .int .i64 i ∧ Hid (i ≤ n ∧ i ≤ 40 ∧ (∀ k, k < i → (rowAt t k).okB = true) ∧ (∀ k, k + 1 < i → (rowAt t k).p.cmp (rowAt t (k + 1)).p < 0) ∧ Below (w.alloc (.cells cs1 39)).heap.size (w.alloc (.cells cs1 39)) wr)) (fun x _ => n - (intOf x).toNat)
  case atStart => exact ⟨0, rfl, Nat.zero_le _, by omega, fun k h => by omega, fun k h => by omega, Below.refl _ _⟩
  case round =>
    obtain ⟨i, rfl, HH⟩ := hrel
    by_cases hlt : i < n
    · have hlt' : (i : Int) < n := by omega
      obtain ⟨b, o, rfl, hc⟩ := HT.out.at_ (by omega)
      have HC := Lib.hid hc
      have HF := Lib.hid (HT.out.fits_at hlt)
      have hrow := (rowLd_of HF.out ((hc i hlt).below (below_step HBE.out HH.out.2.2.2.2))).row
      clear hc
      go_wp2_with (first | ((with_reducible show wpList _ _ _ (Oper.mk _ (Op.load _ _) _ _ _ _ :: _) _ _); refine wpList_load_g hrow _ rfl rfl (by go_simp) ?_) | (refine wpList_store_blk (blk_new wr _) 79 0 (rowV (rowAt t i)) (store_row_fit HF.out rfl) (info_row HF.out) (rowV_one _) _ _ rfl rfl rfl rfl ?_; intro w2 hg hs hb; rw [splice_row HF.out rfl] at hb; have H2 := Lib.hid (And.intro (below_grown (below_alloc (Below.refl wr.heap.size wr) _) hg (Nat.le_refl _)) (row_at HF.out hb)); clear hg hs hb))
      clear hrow
      have HBW := Lib.hid (below_step HH.out.2.2.2.2 H2.out.1)
      by_cases h40 : i = 40
      · have HE := Lib.hid (show errT t = 190 by
          unfold errT
          rw [if_neg]
          intro h
          have := ((tabB_iff t).1 h).1
          rw [HT.out.len] at this
          omega)
        have h40' : ((i : Int) == 40) = true := by simp; omega
        clear h40
        refine wp_region_mix (fun w0 => Below (w2).heap.size (w2) w0) [(0, 0), (1, 0), (2, 0), (3, 0), (4, 0), (5, 2), (6, 0), (7, 0), (8, 0), (9, 0), (10, 0), (11, 0), (12, 0), (13, 0), (14, 0), (15, 0), (16, 0), (17, 0), (18, 0), (19, 0), (20, 0), (21, 0), (22, 0), (23, 0), (24, 0), (25, 0), (26, 2), (27, 0), (28, 0), (29, 0)] (by kernel_rfl) (by kernel_rfl) (below_drew1 _) ?_
        simp only [List.map_cons, List.map_nil]
        repeat first | (refine wpO_step0 rfl rfl (fun K hK => ?_); go_simp; refine hK _ _ ?_; clear hK K) | (refine wpO_step2 rfl rfl (below_drew1 _) (fun K hK => ?_); go_simp; refine hK _ _ ⟨below_drew1 _, ?_⟩; clear hK K)
        refine wpO_nil ?_
        go_wp2
        go_ret
        rw [HE.out]
        exact ⟨rfl, below_step HBE.out (below_step HBW.out (below_drew1 _))⟩
      · have h40' : ((i : Int) == 40) = false := by simp; omega
        have HI := Lib.hid h40
        clear h40
        refine wp_region_mix (fun w0 => Below (w2).heap.size (w2) w0) [(0, 0), (1, 0), (2, 0), (3, 0), (4, 0), (5, 2), (6, 0), (7, 0), (8, 0), (9, 0), (10, 0), (11, 0), (12, 0), (13, 0), (14, 0), (15, 0), (16, 0), (17, 0), (18, 0), (19, 0), (20, 0), (21, 0), (22, 0), (23, 0), (24, 0), (25, 0), (26, 2), (27, 0), (28, 0), (29, 0)] (by kernel_rfl) (by kernel_rfl) (below_drew1 _) ?_
        simp only [List.map_cons, List.map_nil]
        iterate 4 (refine wpO_step0 rfl rfl (fun K hK => ?_); go_simp; refine hK _ _ ?_; clear hK K)
        refine wpO_loadW (t := 49) (ad := ⟨wr.heap.size, 0, none⟩) rfl rfl ?hw rfl rfl ((fun w0 hS => (H2.out.2.all w0 hS).pfx)) ?_
        case hw => go_simp
        refine wpO_step2 rfl rfl (below_drew1 _) (fun K hK => ?_)
        go_simp
        refine (check_any (rowAt t i).p.v (rowAt t i).p.l (rowAt t i).p.b _ (HL.out.below (below_step HBW.out (below_drew1 _))) HF.out).mono ?_
        rintro e w3 ⟨rfl, hbb3⟩
        have HB3 := Lib.hid (below_step (below_drew1 _) hbb3)
        clear hbb3
        refine hK _ _ ⟨HB3.out, ?_⟩
        clear hK K
        have hNO : ∀ P : Prop, (errT t = 190 ↔ tabB t = false) := fun _ => by unfold errT; cases tabB t <;> simp
        cases hR : rightP (rowAt t i).p.v (rowAt t i).p.l (rowAt t i).p.b with
        | false =>
          have HE := Lib.hid (show errT t = 190 by
            unfold errT
            rw [if_neg]
            intro h
            have h2 := ((okB_iff _).1 (((tabB_iff t).1 h).2.1 i (by rw [HT.out.len]; exact hlt))).1
            have h3 : (rowAt t i).p.right = false := hR
            rw [h3] at h2
            cases h2)
          have hE : errP (rowAt t i).p.v (rowAt t i).p.l (rowAt t i).p.b = 151 := by unfold errP; rw [hR]; rfl
          rw [hE]
          clear hE hR hNO
          repeat first | (refine wpO_step0 rfl rfl (fun K hK => ?_); go_simp; refine hK _ _ ?_; clear hK K) | (refine wpO_step2 rfl rfl (HB3.out) (fun K hK => ?_); go_simp; refine hK _ _ ⟨HB3.out, ?_⟩; clear hK K)
          refine wpO_nil ?_
          go_wp2
          go_ret
          rw [HE.out]
          exact ⟨rfl, below_step HBE.out (below_step HBW.out HB3.out)⟩
        | true =>
          have HR := Lib.hid (show (rowAt t i).p.right = true from hR)
          have hE : errP (rowAt t i).p.v (rowAt t i).p.l (rowAt t i).p.b = 0 := by unfold errP; rw [hR]; rfl
          rw [hE]
          clear hE hR hNO
          iterate 4 (refine wpO_step0 rfl rfl (fun K hK => ?_); go_simp; refine hK _ _ ?_; clear hK K)
          refine wpO_loadW (t := 3) (ad := ⟨wr.heap.size, 18, none⟩) rfl rfl ?hw rfl rfl ((fun w0 hS => (H2.out.2.all w0 hS).hop)) ?_
          case hw => go_simp
          refine wpO_quiet rfl rfl ?hw Tryd.func55 (by kernel_rfl) (by kernel_rfl) rfl rfl (fun w0 hS => hop_any (rowAt t i).h w0) ?_
          case hw => go_simp
          cases hH : hopB (rowAt t i).h with
          | false =>
            have HE := Lib.hid (show errT t = 190 by
              unfold errT
              rw [if_neg]
              intro h
              have h2 := ((okB_iff _).1 (((tabB_iff t).1 h).2.1 i (by rw [HT.out.len]; exact hlt))).2
              have h3 : hopB (rowAt t i).h = true := by unfold hopB; simp [h2]
              rw [hH] at h3
              cases h3)
            clear hH
            repeat first | (refine wpO_step0 rfl rfl (fun K hK => ?_); go_simp; refine hK _ _ ?_; clear hK K) | (refine wpO_step2 rfl rfl (HB3.out) (fun K hK => ?_); go_simp; refine hK _ _ ⟨HB3.out, ?_⟩; clear hK K)
            refine wpO_nil ?_
            go_wp2
            go_ret
            rw [HE.out]
            exact ⟨rfl, below_step HBE.out (below_step HBW.out HB3.out)⟩
          | true =>
            have HOK := Lib.hid (show (rowAt t i).okB = true by
              unfold hopB at hH
              simp only [Bool.and_eq_true, decide_eq_true_eq] at hH
              exact (okB_iff _).2 ⟨HR.out, hH⟩)
            clear hH
            by_cases h0 : i = 0
            · have h0' : decide (0 < i) = false := decide_eq_false (by omega)
              have HI0 := Lib.hid h0
              clear h0
              repeat first | (refine wpO_step0 rfl rfl (fun K hK => ?_); go_simp; refine hK _ _ ?_; clear hK K) | (refine wpO_step2 rfl rfl (HB3.out) (fun K hK => ?_); go_simp; refine hK _ _ ⟨HB3.out, ?_⟩; clear hK K)
              refine wpO_nil ?_
              go_wp2_with fail
              go_roundw
              case measure => simp [intOf]; omega
              case rel =>
                have hi0 := HI0.out
                have := HI.out
                refine ⟨i + 1, by go_num, by omega, by omega, fun k hk => ?_, fun k hk => by omega, below_step HBW.out HB3.out⟩
                rw [show k = i by omega]
                exact HOK.out
            · have h0' : 0 < i := by omega
              obtain ⟨k, hk⟩ : ∃ k : Nat, (i : Int) - 1 = k := ⟨i - 1, by omega⟩
              have hik : i = k + 1 := by omega
              have HK := Lib.hid hik
              have hwk : IntKind.i64.wrap (k : Int) = k := by simp only [IntKind.wrap, IntKind.bits, IntKind.signed]; simp; omega
              have hkn : k < n := by omega
              have hkn' : (k : Int) < n := by omega
              have HFK := Lib.hid (HT.out.fits_at hkn)
              have HCK := Lib.hid (HC.out k hkn)
              have HPOS := Lib.hid h0
              clear hik h0
              iterate 7 (refine wpO_step0 rfl rfl (fun K hK => ?_); go_simp; refine hK _ _ ?_; clear hK K)
              refine wpO_loadW (t := 37) (ad := ⟨w.heap.size, 0, none⟩) rfl rfl ?hw rfl rfl ((fun w0 hS => (HP1.out.all w0 (below_step HBW.out hS)).2)) ?_
              case hw => go_simp
              iterate 3 (refine wpO_step0 rfl rfl (fun K hK => ?_); go_simp; refine hK _ _ ?_; clear hK K)
              refine wpO_loadW (t := 79) (ad := ⟨b, (o+k*19), none⟩) rfl rfl ?hw rfl rfl ((fun w0 hS => (rowLd_of HFK.out (HCK.out.below (below_step HBE.out (below_step HBW.out hS)))).row)) ?_
              case hw => go_simp
              iterate 1 (refine wpO_step0 rfl rfl (fun K hK => ?_); go_simp; refine hK _ _ ?_; clear hK K)
              refine wpO_loadW (t := 49) (ad := ⟨wr.heap.size, 0, none⟩) rfl rfl ?hw rfl rfl ((fun w0 hS => (H2.out.2.all w0 hS).pfx)) ?_
              case hw => go_simp
              refine wpO_step2 rfl rfl (HB3.out) (fun K hK => ?_)
              go_simp
              refine (against_any (rowAt t k) (rowAt t i).p _ HFK.out HF.out).mono ?_
              rintro e w4 ⟨rfl, hbb4⟩
              have HB4 := Lib.hid (below_step HB3.out hbb4)
              clear hbb4
              refine hK _ _ ⟨HB4.out, ?_⟩
              clear hK K
              cases hcm : decide (0 ≤ (rowAt t k).p.cmp (rowAt t i).p) with
              | true =>
                have HE := Lib.hid (show errT t = 190 by
                  unfold errT
                  rw [if_neg]
                  intro h
                  have h2 := ((tabB_iff t).1 h).2.2 k (by rw [HT.out.len]; have := HK.out; omega)
                  rw [← HK.out] at h2
                  have h3 := of_decide_eq_true hcm
                  omega)
                iterate 3 (refine wpO_step0 rfl rfl (fun K hK => ?_); go_simp; refine hK _ _ ?_; clear hK K)
                refine wpO_nil ?_
                go_wp2
                go_ret
                rw [HE.out]
                exact ⟨rfl, below_step HBE.out (below_step HBW.out HB4.out)⟩
              | false =>
                have HQ := Lib.hid (of_decide_eq_false hcm)
                iterate 3 (refine wpO_step0 rfl rfl (fun K hK => ?_); go_simp; refine hK _ _ ?_; clear hK K)
                refine wpO_nil ?_
                go_wp2_with fail
                go_roundw
                case measure => simp [intOf]; omega
                case rel =>
                  have hkk := HK.out
                  have := HI.out
                  have h40n := HH.out.2.1
                  refine ⟨i + 1, by go_num, by omega, by omega, fun q hq => ?_, fun q hq => ?_, below_step HBW.out HB4.out⟩
                  · by_cases hqi : q < i
                    · exact HH.out.2.2.1 q hqi
                    · rw [show q = i by omega]; exact HOK.out
                  · by_cases hqi : q + 1 < i
                    · exact HH.out.2.2.2.1 q hqi
                    · have e1 : q = k := by omega
                      have e2 : q + 1 = i := by omega
                      rw [e2, e1]
                      have := HQ.out
                      omega
    · have hlt' : decide (i < n) = false := decide_eq_false hlt
      have HE := Lib.hid (show errT t = 0 by
        unfold errT
        rw [if_pos ((tabB_iff t).2 ⟨by rw [HT.out.len]; have := HH.out.1; have := HH.out.2.1; omega, fun k hk => HH.out.2.2.1 k (by rw [HT.out.len] at hk; omega), fun k hk => HH.out.2.2.2.1 k (by rw [HT.out.len] at hk; omega)⟩)])
      have HB := Lib.hid HH.out.2.2.2.2
      clear hlt
      go_wp2_with fail
      go_ret
      rw [HE.out]
      exact ⟨rfl, below_step HBE.out HB.out⟩
end Go.Proofs.YtnpeedmicjeleaaDoor

/- The library's functions over slices, at rows. -/
namespace Go.Proofs.YtnpeedmicjeleaaDoor
open Go.RowKit
set_option linter.unusedVariables false
set_option linter.unusedSimpArgs false
set_option maxRecDepth 4000
theorem cloneR_any (A : Option Addr) (n c : Nat) (t : List Row) (w : World) (hr : RS rowK w A n c t) (hn : n ≤ 1000000) :
    Calls Tryd.prog 87 #[.slice A n c] w fun e w' => ∃ A' c', e = .returned (.slice A' n c') ∧ OS rowK w' w.heap.size A' n c' t ∧ Below w.heap.size w w' := by
  have hnil := fun (w : World) (A : Option Addr) (n c : Nat) => Lib.run_eql_slice_nil (P := Tryd.prog) w 37 79 A n c 0 0 Tryd.underlying37
  cases A with
  | none =>
    have h0 : n = 0 := by
      rcases Nat.eq_zero_or_pos n with h | h
      · exact h
      · obtain ⟨ad, e, _⟩ := hr.rv.cells h
        cases e
    subst h0
    obtain rfl : t = [] := List.eq_nil_of_length_eq_zero hr.len
    go_enter Tryd.func87, Tryd.ntmps87
    go_wp2
    go_ret
    exact ⟨_, _, rfl, OS.nil _ _ _, Below.refl _ _⟩
  | some ad =>
    go_enter Tryd.func87, Tryd.ntmps87
    go_wp2_with (at_builtin; refine wpList_append_shp rowK rfl (.tmp 5) (.tmp 6) rfl rfl rfl (OS.empty rowK w w.heap.size (Nat.le_refl _)) (hr.below (below_alloc (Below.refl _ _) _)) (by simp) (by omega) ?_; intro A' c' w' h1 h2 h3; rw [Nat.zero_add, List.nil_append] at h1; rw [Nat.zero_add])
    go_ret
    exact ⟨_, _, rfl, h1, below_own (below_alloc (Below.refl _ _) _) h2 (fun ad h => by injection h with h; subst h; exact Nat.le_refl _)⟩
set_option maxHeartbeats 4000000 in
set_option maxRecDepth 100000 in
theorem insertR_any (base : Nat) (A : Option Addr) (n c j vb : Nat) (t : List Row) (r : Row) (w : World) (ho : OS rowK w base A n c t) (hj : j ≤ n) (hn : n ≤ 100000) (hb : base ≤ w.heap.size)
    (hv : w.heap[vb]? = some (.cells (Shape.enc rowK r).toArray 79 (0, 0))) (hrk : Shape.ok rowK r) (hne : ∀ ad, A = some ad → ad.block ≠ vb) :
    Calls Tryd.prog 88 #[.slice A n c, .int .i64 j, .slice (some ⟨vb, 0, none⟩) 1 1] w fun e w' => ∃ A' c', e = .returned (.slice A' (n + 1) c') ∧ OS rowK w' base A' (n + 1) c' (t.take j ++ r :: t.drop j) ∧ w.grownBy w' ((Value.slice A n c).ownBlock) ∧ (A' = A ∨ ∀ ad, A' = some ad → w.heap.size ≤ ad.block) := by
  have hcap := ho.cap
  have hcmax : c ≤ 9223372036854775807 := ho.ov.capmax
  have hRV : RS rowK w (some ⟨vb, 0, none⟩) 1 1 [r] := ⟨⟨by rw [Shape.cells_one, rowK.len r hrk]; simp, by omega, by omega, fun _ => ⟨_, rfl, fun q u hq => by
    rw [Shape.cells_one] at hq
    rw [add_plain, blk_cell hv]
    simpa using hq⟩⟩, Shape.all_one hrk⟩
  have HRV := Lib.hid hRV
  have HN := Lib.hid hne
  have hjn' : (j : Int) ≤ n := by omega
  have hj1 : (j : Int) + 1 = ((j + 1 : Nat) : Int) := by omega
  have hn1 : (n : Int) + 1 = ((n + 1 : Nat) : Int) := by omega
  obtain ⟨A0, hA0⟩ : ∃ A0, (if c = j then A else A.map (·.add (j * 19))) = A0 := ⟨_, rfl⟩
  have hv0 : ∀ W : World, (Instr.slice 37 (.slice A n c) (some (.int .i64 (j : Int))) none none).run Tryd.prog W = .ok (.slice A0 (n - j) (c - j)) W := fun W => by
    rw [← hA0]
    exact cutL rowK A n c _ j rfl hj W
  have HA0 := Lib.hid hA0
  clear hA0
  by_cases hjn : j = n
  · subst hjn
    have htk : t.take j = t := List.take_of_length_le (by rw [ho.len]; exact Nat.le_refl _)
    have htd : t.drop j = [] := List.drop_eq_nil_of_le (by rw [ho.len]; exact Nat.le_refl _)
    rw [htk, htd]
    have HO := Lib.hid ho
    clear ho htk htd hRV hj1 hn1
    go_enter Tryd.func88, Tryd.ntmps88
    go_wp2_with (at_builtin; refine wpList_append_shp rowK rfl (.tmp 23) (.tmp 24) rfl rfl rfl HO.out HRV.out hb (by omega) ?_; intro A' c' w' h1 h2 h3)
    go_ret
    exact ⟨_, _, rfl, h1, h2, h3⟩
  · have hlt : j < n := by omega
    have hjnb : (j == n) = false := by simpa using hjn
    obtain ⟨ad, rfl⟩ : ∃ ad, A = some ad := by
      cases A with
      | none => have := ho.ov.bare rfl; omega
      | some ad => exact ⟨ad, rfl⟩
    have hadlt := ho.lt ad rfl
    have hsub : n + 1 - (j + 1) = n - j := by omega
    have HT := Lib.hid ho.len
    have HO := Lib.hid ho
    have HAL := Lib.hid hadlt
    clear hjn ho hRV hadlt
    by_cases hroom : n + 1 ≤ c
    · have hr1 : decide (c < n + 1) = false := decide_eq_false (by omega)
      have hr2 : decide ((c : Int) < n + 1) = false := decide_eq_false (by omega)
      have hw1 : IntKind.i64.wrap ((n : Int) + 1) = n + 1 := IntWalk.i64_in _ (by omega)
      have hw2 : IntKind.i64.wrap ((j : Int) + 1) = j + 1 := IntWalk.i64_in _ (by omega)
      have hv1 : ∀ W : World, (Instr.slice 37 (.slice (some ad) n c) none (some (.int .i64 ((n : Int) + 1))) none).run Tryd.prog W = .ok (.slice (some ad) (n + 1) c) W := fun W => cutH rowK (some ad) n c _ (n + 1) hn1 hroom W
      obtain ⟨A6, hA6⟩ : ∃ A6, (if c = j + 1 then some ad else some (ad.add ((j + 1) * 19))) = A6 := ⟨_, rfl⟩
      have hv6 : ∀ W : World, (Instr.slice 37 (.slice (some ad) (n + 1) c) (some (.int .i64 ((j : Int) + 1))) none none).run Tryd.prog W = .ok (.slice A6 (n - j) (c - (j + 1))) W := fun W => by
        rw [← hA6, ← hsub]
        exact cutL rowK (some ad) (n + 1) c _ (j + 1) hj1 (by omega) W
      have hv7 : ∀ W : World, (Instr.slice 37 (.slice (some ad) (n + 1) c) (some (.int .i64 (j : Int))) none none).run Tryd.prog W = .ok (.slice A0 (n + 1 - j) (c - j)) W := fun W => by
        rw [← HA0.out]
        exact cutL rowK (some ad) (n + 1) c _ j rfl (by omega) W
      obtain ⟨q1, q2, cur, q3, q4, q5⟩ := HO.out.ov.form _ rfl
      have hcur : cur.size ≠ 0 := by
        have h2 : 1 * 19 ≤ c * 19 := Nat.mul_le_mul_right _ (by omega)
        have h3 : ad.off + c * 19 ≤ cur.size := q4
        omega
      have hvne : vb ≠ ad.block := fun h => HN.out ad rfl h.symm
      obtain ⟨ad6, hA6b⟩ : ∃ ad6, A6 = some ad6 ∧ ad6.block = ad.block := by
        rw [← hA6]
        split
        · exact ⟨_, rfl, rfl⟩
        · exact ⟨_, rfl, add_block _ _⟩
      have hov : ∀ lb cb W, W = w → (callFunc 109 #[.slice (some ⟨vb, 0, none⟩) 1 1, .slice A6 lb cb]).run Tryd.prog W = .ok (.value (.bool false)) W := fun lb cb W hW => by
        subst hW
        obtain ⟨e6, e7⟩ := hA6b
        rw [e6, run_callFunc_extern Tryd.func109 (by kernel_rfl) (by kernel_rfl) (by kernel_rfl) (e := Extern.SlicesOverlaps.overlaps #[37, 37] #[4]) (by kernel_rfl),
          Lib.run_overlaps_apart W 37 4 79 (Shape.und rowK) 19 (Shape.run_size rowK) ⟨vb, 0, none⟩ ad6 1 1 lb cb (by rw [e7]; exact hvne) 79 79 _ cur.size (by simp only [World.shape?, hv]; rfl) (by rw [e7]; simp only [World.shape?, q3]; rfl) hcur (blk_frozen hv 0) (blk_frozen hv _)]
        rfl
      have hov1 := hov (n - j) (c - (j + 1)) w rfl
      clear hov hA6b hcur q1 q2 q3 q4 q5 hvne
      obtain ⟨more, hE⟩ := HO.out.ov.extendTo (n + 1) (by omega) hroom (by omega)
      have hml := hE.len
      have hcl := HO.out.ov.len
      have hEd := hE.below (below_drew1 w)
      have hRd := hEd.reads.drop j (by omega)
      rw [show (if c = j then some ad else Option.map (fun x => x.add (j * rowK.sz)) (some ad)) = A0 from HA0.out] at hRd
      have hdt : ∀ x : List Value, (x.drop (j * rowK.sz)).take ((n - j) * rowK.sz) = (x.drop (j * rowK.sz)).take ((n - j) * rowK.sz) := fun _ => rfl
      have hmin : min (n + 1 - j) (n + 1 - (j + 1)) = n - j := by omega
      have hone1 : ∀ u ∈ ((rowK.cells t ++ more).drop (j * rowK.sz)).take (min (n + 1 - j) (n + 1 - (j + 1)) * rowK.sz), u.oneCell' = true := by
        rw [hmin]
        intro u hu
        have hjs : j * rowK.sz ≤ n * rowK.sz := Nat.mul_le_mul_right _ (by omega)
        rw [List.drop_append_of_le_length (by rw [hcl]; exact hjs), List.take_append_of_le_length (by rw [List.length_drop, hcl, ← Nat.sub_mul]; exact Nat.le_refl _)] at hu
        exact Shape.cells_cell t u (List.mem_of_mem_drop (List.mem_of_mem_take hu))
      obtain ⟨w1, hc1, hO1, hg1⟩ := run_copy_rows (P := Tryd.prog) w.drew 37 3 79 rowK.sz (Shape.und rowK) (Shape.size rowK) ad (n + 1) c (j + 1) _ A0 (n + 1 - j) (c - j) _ hEd hRd (by omega) hone1 (d := A6) hA6.symm (c - (j + 1))
      rw [hmin] at hO1 hc1
      rw [hsub] at hc1
      have hRV1 := ((HRV.out.below (below_drew1 w)).grown hg1 (fun ad' e => by injection e with e; subst e; intro h; injection h with h; exact HN.out ad rfl h.symm)).rv
      rw [Shape.cells_one] at hRV1
      have hmin2 : min 1 (n + 1 - j) = 1 := by omega
      obtain ⟨w2, hc2, hO2, hg2⟩ := run_copy_rows (P := Tryd.prog) w1 37 3 79 rowK.sz (Shape.und rowK) (Shape.size rowK) ad (n + 1) c j _ (some ⟨vb, 0, none⟩) 1 1 _ hO1 hRV1 (by omega) (by rw [hmin2]; intro u hu; exact rowK.one r u (List.mem_of_mem_take hu)) (d := A0) HA0.out.symm (c - j)
      rw [hmin2] at hO2 hc2
      rw [shift_list (rowK.cells t) more (rowK.enc r) rowK.sz j n hcl hml (rowK.len r hrk) (by omega), Shape.cells_take HO.out.fits j (by rw [HT.out]; omega), Shape.cells_drop HO.out.fits j (by rw [HT.out]; omega)] at hO2
      have hO3 : OS rowK w2 base (some ad) (n + 1) c (t.take j ++ r :: t.drop j) := ⟨by
        have : rowK.cells (t.take j ++ r :: t.drop j) = rowK.cells (t.take j) ++ rowK.enc r ++ rowK.cells (t.drop j) := by rw [Shape.cells_append, Shape.cells_cons, List.append_assoc]
        rw [this]
        exact hO2, (HO.out.fits.take j).append (fun x hx => by
        rcases List.mem_cons.1 hx with rfl | hx
        · exact hrk
        · exact HO.out.fits.drop j x hx)⟩
      have H3 := Lib.hid (And.intro hO3 (grown_trans (grown_trans (grown_drewN w 1 _) hg1) hg2))
      clear hO3 hO2 hO1 hg1 hg2 hE hEd hRd hone1 hmin hmin2 hRV1 hdt hml hcl hn1 hj1 hA6 hsub
      go_enter Tryd.func88, Tryd.ntmps88
      go_wp2_with fail
      refine wp_region_mix ((fun _ => True)) [(0, 0), (1, 0), (2, 0), (3, 0), (4, 0), (5, 0), (6, 0), (7, 0), (8, 2)] (by kernel_rfl) (by kernel_rfl) (trivial) ?_
      simp only [List.map_cons, List.map_nil]
      iterate 8 (refine wpO_step0 rfl rfl (fun K hK => ?_); go_simp; refine hK _ _ ?_; clear hK K)
      refine wpO_step2 rfl rfl (trivial) (fun K hK => ?_)
      rw [if_pos (show Region.wanted _ _ = true from rfl)]
      refine oper_exec (exec_copy (.tmp 73) (.tmp 76) _ rfl rfl rfl hc1) ?_
      refine hK _ _ ⟨trivial, ?_⟩
      clear hK K
      refine wpO_nil ?_
      go_wp2_with (refine wpList_exec rfl (exec_copy (.tmp 80) (.tmp 81) _ rfl rfl rfl hc2) ?_)
      go_ret
      exact ⟨_, _, rfl, H3.out.1, H3.out.2, .inl rfl⟩
    · have hr1 : c < n + 1 := by omega
      have hr2 : (c : Int) < n + 1 := by omega
      have hw1 : IntKind.i64.wrap ((n : Int) + 1) = n + 1 := IntWalk.i64_in _ (by omega)
      have hw2 : IntKind.i64.wrap ((j : Int) + 1) = j + 1 := IntWalk.i64_in _ (by omega)
      have hw3 : IntKind.i64.wrap ((n : Int) + 1 - j) = n + 1 - j := IntWalk.i64_in _ (by omega)
      have hv1 : ∀ W : World, (Instr.slice 37 (.slice (some ad) n c) none (some (.int .i64 (j : Int))) none).run Tryd.prog W = .ok (.slice (some ad) j c) W := fun W => cutH rowK (some ad) n c _ j rfl (by omega) W
      have hk : (n : Int) + 1 - j = ((n + 1 - j : Nat) : Int) := by omega
      obtain ⟨ad1, c1, w1, hc1, hO1, hb1, hblk⟩ := run_growz_shp (base := w.heap.size) rowK w 3 37 .i64 .i64 Tryd.underlying3 (some ad) j c (n + 1 - j) _ (HO.out.reads.take j (by omega)) (by omega) (by omega) (by omega) (Nat.le_refl _)
      rw [← hk] at hc1
      rw [show j + (n + 1 - j) = n + 1 by omega] at hc1 hO1
      have hcap1 := hO1.cap
      have hc1max : c1 ≤ 9223372036854775807 := hO1.ov.capmax
      obtain ⟨A4, hA4⟩ : ∃ A4, (if c1 = j then some ad1 else some (ad1.add (j * 19))) = A4 := ⟨_, rfl⟩
      have hv4 : ∀ W : World, (Instr.slice 37 (.slice (some ad1) (n + 1) c1) (some (.int .i64 (j : Int))) none none).run Tryd.prog W = .ok (.slice A4 (n + 1 - j) (c1 - j)) W := fun W => by
        rw [← hA4]
        exact cutL rowK (some ad1) (n + 1) c1 _ j rfl (by omega) W
      obtain ⟨A5, hA5⟩ : ∃ A5, (if c1 = j + 1 then some ad1 else some (ad1.add ((j + 1) * 19))) = A5 := ⟨_, rfl⟩
      have hv5 : ∀ W : World, (Instr.slice 37 (.slice (some ad1) (n + 1) c1) (some (.int .i64 ((j : Int) + 1))) none none).run Tryd.prog W = .ok (.slice A5 (n - j) (c1 - (j + 1))) W := fun W => by
        rw [← hA5, ← hsub]
        exact cutL rowK (some ad1) (n + 1) c1 _ (j + 1) hj1 (by omega) W
      have hvlt := blk_lt hv
      obtain ⟨w2, hc2, hO2, hg2⟩ := run_copy_shp rowK w1 3 ad1 (n + 1) c1 j _ (some ⟨vb, 0, none⟩) 1 1 [r] hO1 (HRV.out.below hb1) (by omega) (d := A4) hA4.symm (c1 - j)
      have hRD := ((((HO.out.reads.drop j (by omega)).below hb1).grown hg2 (fun ad' e => by
        intro h
        injection h with h
        have hb : ad'.block = ad.block := by
          split at e
          · injection e with e; rw [← e]
          · simp only [Option.map_some, Option.some.injEq] at e; rw [← e, add_block]
        have := HAL.out
        omega)).below (below_drew1 w2))
      rw [show (if c = j then some ad else Option.map (fun x => x.add (j * rowK.sz)) (some ad)) = A0 from HA0.out] at hRD
      obtain ⟨w3, hc3, hO3, hg3⟩ := run_copy_shp rowK w2.drew 3 ad1 (n + 1) c1 (j + 1) _ A0 (n - j) (c - j) (t.drop j) (hO2.below (below_drew1 w2)) hRD (by omega) (d := A5) hA5.symm (c1 - (j + 1))
      rw [grow_list t r _ j n HT.out (by omega)] at hO3
      rw [hsub] at hc3
      have hbz : Below w.heap.size w w3 := below_grown (below_step (below_grown hb1 hg2 (by omega)) (below_drew1 w2)) hg3 (by omega)
      have H3 := Lib.hid (And.intro (hO3.lower hb) (And.intro (grown_of_below hbz ((Value.slice (some ad) n c).ownBlock)) (show ∀ ad', some ad1 = some ad' → w.heap.size ≤ ad'.block from fun ad' e => by injection e with e; rw [← e]; omega)))
      clear hO3 hO2 hO1 hg2 hg3 hRD hbz hA4 hA5 hk hblk hn1 hj1 hvlt hb1 hsub
      go_enter Tryd.func88, Tryd.ntmps88
      go_wp2_with (first | (refine wpList_exec rfl (exec_append (.tmp 34) (.tmp 39) _ rfl rfl rfl hc1) ?_) | (refine wpList_exec rfl (exec_copy (.tmp 43) (.tmp 44) _ rfl rfl rfl hc2) ?_))
      refine wp_region_mix ((fun _ => True)) [(0, 0), (1, 0), (2, 0), (3, 0), (4, 0), (5, 0), (6, 0), (7, 0), (8, 2)] (by kernel_rfl) (by kernel_rfl) (trivial) ?_
      simp only [List.map_cons, List.map_nil]
      iterate 8 (refine wpO_step0 rfl rfl (fun K hK => ?_); go_simp; refine hK _ _ ?_; clear hK K)
      refine wpO_step2 rfl rfl (trivial) (fun K hK => ?_)
      rw [if_pos (show Region.wanted _ _ = true from rfl)]
      refine oper_exec (exec_copy (.tmp 50) (.tmp 53) _ rfl rfl rfl hc3) ?_
      refine hK _ _ ⟨trivial, ?_⟩
      clear hK K
      refine wpO_nil ?_
      go_wp2
      go_ret
      exact ⟨_, _, rfl, H3.out.1, H3.out.2.1, .inr H3.out.2.2⟩
end Go.Proofs.YtnpeedmicjeleaaDoor

/- Two rows of the call's own, appended to by turns. -/
namespace Go.Proofs.YtnpeedmicjeleaaDoor
open Go.RowKit
set_option linter.unusedVariables false
set_option linter.unusedSimpArgs false
set_option maxRecDepth 4000
def Apart (A1 A2 : Option Addr) : Prop := ∀ a b, A1 = some a → A2 = some b → a.block ≠ b.block
theorem Apart.symm {A1 A2 : Option Addr} (h : Apart A1 A2) : Apart A2 A1 := fun a b ha hb e => h b a hb ha e.symm
theorem own_of {A : Option Addr} {n c k : Nat} (h : (Value.slice A n c).ownBlock = some k) : ∃ ad, A = some ad ∧ ad.block = k := by
  cases A with
  | none => cases h
  | some ad =>
    injection h with h
    exact ⟨ad, rfl, h⟩
theorem two_app {W wr w3 : World} {B : Nat} {o : Obj} {e1 e2 : TypeId} {s1 s2 : Nat} {A1 A2 A3 : Option Addr} {n m c1 c2 : Nat} {xs ys : List Value} (hB : W.heap.size ≤ B) (h1 : OV wr B e1 s1 A1 n c1 xs) (h2 : OV wr B e2 s2 A2 m c2 ys)
    (hd : Apart A1 A2) (hb : Below W.heap.size W wr) (k2 : (wr.alloc o).grownBy w3 ((Value.slice A1 n c1).ownBlock)) (k3 : A3 = A1 ∨ ∀ ad, A3 = some ad → (wr.alloc o).heap.size ≤ ad.block) :
    OV w3 B e2 s2 A2 m c2 ys ∧ Apart A3 A2 ∧ Below W.heap.size W w3 := by
  refine ⟨(h2.below (below_alloc (Below.refl _ _) o)).grown k2 (fun ad ha hk => ?_), ?_, (hb.alloc hb.size o).grown k2 (by have := hb.size; simp; omega) (fun k hk => ?_)⟩
  · obtain ⟨a1, e1, e2⟩ := own_of hk.symm
    exact hd a1 ad e1 ha e2
  · rcases k3 with rfl | k3
    · exact hd
    · intro a b ha hb' e
      have h4 := k3 a ha
      have h5 := h2.lt b hb'
      simp at h4
      omega
  · obtain ⟨a1, e1, e2⟩ := own_of hk
    have := h1.base_ a1 e1
    omega
end Go.Proofs.YtnpeedmicjeleaaDoor

/- The document's answer for layer 5: Compare. -/
namespace Go.Proofs.YtnpeedmicjeleaaDoor
open Go.RowKit
set_option linter.unusedVariables false
set_option linter.unusedSimpArgs false
set_option maxRecDepth 4000

theorem row_cons (p : Pfx) (hp : B16 p.l) (k : Nat) (hk : k < 16) : (p.row).take (k + 1 + 1) = (p.row).take (k + 1) ++ [rd p.l (k : Int)] := row_take p hp k hk
/-- The two rows that Compare makes. -/
structure CmpRows (W w : World) (B : Nat) (A1 A2 : Option Addr) (n1 c1 n2 c2 : Nat) (xs ys : List Int) : Prop where
  x : OI w B A1 n1 c1 xs
  y : OI w B A2 n2 c2 ys
  apart : Apart A1 A2
  below : Below W.heap.size W w
theorem CmpRows.appX {W w w3 : World} {B : Nat} {o : Obj} {A1 A2 A3 : Option Addr} {n1 c1 n2 c2 n3 c3 : Nat} {xs ys zs : List Int} (hB : W.heap.size ≤ B) (h : CmpRows W w B A1 A2 n1 c1 n2 c2 xs ys)
    (k1 : OI w3 B A3 n3 c3 zs) (k2 : (w.alloc o).grownBy w3 ((Value.slice A1 n1 c1).ownBlock)) (k3 : A3 = A1 ∨ ∀ ad, A3 = some ad → (w.alloc o).heap.size ≤ ad.block) : CmpRows W w3 B A3 A2 n3 c3 n2 c2 zs ys := by
  obtain ⟨h1, h2, h3⟩ := two_app hB h.x.ov h.y.ov h.apart h.below k2 k3
  exact ⟨k1, ⟨h1⟩, h2, h3⟩
theorem CmpRows.appY {W w w3 : World} {B : Nat} {o : Obj} {A1 A2 A3 : Option Addr} {n1 c1 n2 c2 n3 c3 : Nat} {xs ys zs : List Int} (hB : W.heap.size ≤ B) (h : CmpRows W w B A1 A2 n1 c1 n2 c2 xs ys)
    (k1 : OI w3 B A3 n3 c3 zs) (k2 : (w.alloc o).grownBy w3 ((Value.slice A2 n2 c2).ownBlock)) (k3 : A3 = A2 ∨ ∀ ad, A3 = some ad → (w.alloc o).heap.size ≤ ad.block) : CmpRows W w3 B A1 A3 n1 c1 n3 c3 xs zs := by
  obtain ⟨h1, h2, h3⟩ := two_app hB h.y.ov h.x.ov h.apart.symm h.below k2 k3
  exact ⟨⟨h1⟩, k1, h2.symm, h3⟩

set_option maxHeartbeats 4000000 in
theorem refcompare_any (p q : Pfx) (w : World) (hp : B16 p.l) (hq : B16 q.l) : Calls Tryd.prog 85 #[.agg (pfxV p.v p.l p.b), .agg (pfxV q.v q.l q.b)] w fun e w' => e = .returned (.int .i64 (p.cmp q)) ∧ Below w.heap.size w w' := by
  have hblk1 := blk_new w (.cells (pfxV p.v p.l p.b) 49)
  have hbel1 : Below w.heap.size w (w.alloc (.cells (pfxV p.v p.l p.b) 49)) := below_alloc (Below.refl _ _) _
  have hblk2 := blk_new (w.alloc (.cells (pfxV p.v p.l p.b) 49)) (.cells (pfxV q.v q.l q.b) 49)
  have hbel2 : Below w.heap.size w ((w.alloc (.cells (pfxV p.v p.l p.b) 49)).alloc (.cells (pfxV q.v q.l q.b) 49)) := below_alloc (hbel1) _
  rw [show (w.alloc (.cells (pfxV p.v p.l p.b) 49)).heap.size = w.heap.size + 1 by simp] at hblk2
  replace hblk1 := blk_below hblk1 (below_alloc (Below.refl _ _) (.cells (pfxV q.v q.l q.b) 49))
  have HP1 := Lib.hid (pfx_at hp hblk1)
  have HBK1 := Lib.hid hblk1
  have HP2 := Lib.hid (pfx_at hq hblk2)
  have HBK2 := Lib.hid hblk2
  have HBE := Lib.hid hbel2
  obtain ⟨cs1, hcs1⟩ : ∃ cs, pfxV p.v p.l p.b = cs := ⟨_, rfl⟩
  obtain ⟨cs2, hcs2⟩ : ∃ cs, pfxV q.v q.l q.b = cs := ⟨_, rfl⟩
  simp only [hcs1, hcs2] at HBE HP1 HP2 HBK1 HBK2 ⊢
  have HC1 := Lib.hid hcs1
  have HC2 := Lib.hid hcs2
  clear hcs1 hblk1 hbel1 hcs2 hblk2 hbel2
  have hv := (HP1.out.all _ (Below.refl _ _)).2.2.1
  have hz := (HP2.out.all _ (below_alloc (Below.refl _ _) (.cells #[.int .i64 p.v] 3))).2.2.1
  obtain ⟨W, hW⟩ : ∃ W, (w.alloc (.cells cs1 49)).alloc (.cells cs2 49) = W := ⟨_, rfl⟩
  have hWs : W.heap.size = w.heap.size + 1 + 1 := by rw [← hW]; simp
  have hst : CmpRows W ((W.alloc (.cells #[.int .i64 p.v] 3)).alloc (.cells #[.int .i64 q.v] 3)) (w.heap.size + 1 + 1) (some ⟨w.heap.size + 1 + 1, 0, none⟩) (some ⟨w.heap.size + 1 + 1 + 1, 0, none⟩) 1 1 1 1 (p.row.take 1) (q.row.take 1) := by
    have h1 := (OI.new W W.heap.size [p.v] (Nat.le_refl _) (by simp)).below (below_alloc (Below.refl _ _) (.cells #[.int .i64 q.v] 3))
    have h2 := OI.new (W.alloc (.cells #[.int .i64 p.v] 3)) W.heap.size [q.v] (by simp) (by simp)
    rw [show (W.alloc (.cells #[.int .i64 p.v] 3)).heap.size = w.heap.size + 1 + 1 + 1 by simp [hWs]] at h2
    rw [hWs] at h1 h2
    refine ⟨h1, h2, fun a b ha hb => ?_, below_alloc (below_alloc (Below.refl _ _) _) _⟩
    injection ha with ha
    injection hb with hb
    rw [← ha, ← hb]
    simp
  rw [← hW] at hst
  have HST := Lib.hid hst
  have HBW : Hid (W.heap.size ≤ w.heap.size + 1 + 1) := by rw [hWs]; exact Nat.le_refl _
  rw [← hW] at HBW
  clear hst hWs hW W
  go_enter Tryd.func85, Tryd.ntmps85
  go_wp2_with (first | ((with_reducible show wpList _ _ _ (Oper.mk _ (Op.load _ _) _ _ _ _ :: _) _ _); refine wpList_load_g hv _ rfl rfl (by go_simp) ?_) | ((with_reducible show wpList _ _ _ (Oper.mk _ (Op.load _ _) _ _ _ _ :: _) _ _); refine wpList_load_g hz _ rfl rfl (by go_simp) ?_))
  clear hv hz
  go_loopw [5, 6, 7] (fun x y i wr => ∃ (k : Nat) (A1 A2 : Option Addr) (c1 c2 : Nat), i = .int .i64 k ∧ x = .slice A1 (k + 1) c1 ∧ y = .slice A2 (k + 1) c2 ∧ Hid (k ≤ 16 ∧ CmpRows ((w.alloc (.cells cs1 49)).alloc (.cells cs2 49)) wr (w.heap.size + 1 + 1) A1 A2 (k + 1) c1 (k + 1) c2 (p.row.take (k + 1)) (q.row.take (k + 1)))) (fun _ _ i _ => 16 - (intOf i).toNat)
  case atStart => exact ⟨0, _, _, 1, 1, rfl, rfl, rfl, Nat.zero_le _, HST.out⟩
  case round =>
    obtain ⟨k, A1, A2, c1, c2, rfl, rfl, rfl, HH⟩ := hrel
    clear HST
    have hk := HH.out.1
    have hsz := HH.out.2.below.size
    simp at hsz
    by_cases hlt : k < 16
    · have hlt' : (k : Int) < 16 := by omega
      have hb1 := blk_below HBK1.out HH.out.2.below
      rw [← HC1.out] at hb1
      have hc1 := pfx_byte hp hb1 k hlt
      have hr1 := hp.rd (k : Int)
      have hr2 := hq.rd (k : Int)
      clear hb1
      go_wp2_with (first | (at_builtin; refine wpList_append_ints rfl (.tmp 21) (.tmp 28) rfl rfl rfl (HH.out.2.x.below (below_alloc (Below.refl _ _) _)) (RI.one _ _) (by simp; omega) (by omega) ?_; intro A3 c3 w3 h1 h2 h3; have H3 := Lib.hid (HH.out.2.appX HBW.out h1 h2 h3); have hb2 := blk_below HBK2.out H3.out.below; rw [← HC2.out] at hb2; have hc2 := pfx_byte hq hb2 k hlt; have hsz3 := H3.out.below.size; simp at hsz3; clear h1 h2 h3 hb2) | (at_builtin; refine wpList_append_ints rfl (.tmp 30) (.tmp 37) rfl rfl rfl (H3.out.y.below (below_alloc (Below.refl _ _) _)) (RI.one _ _) (by simp; omega) (by omega) ?_; intro A4 c4 w4 h1 h2 h3; have H4 := Lib.hid (H3.out.appY HBW.out h1 h2 h3); clear h1 h2 h3))
      go_roundw
      case measure => simp [intOf]; omega
      case rel =>
        refine ⟨k + 1, A3, A4, c3, c4, by go_num, rfl, rfl, by omega, ?_⟩
        rw [row_cons p hp k hlt, row_cons q hq k hlt]
        exact H4.out
    · obtain rfl : k = 16 := by omega
      have hpb := (HP1.out.all wr HH.out.2.below).2.1
      have hm1 : decide (((16 : Nat) : Int) < 16) = false := rfl
      clear hlt hk
      go_wp2_with (first | ((with_reducible show wpList _ _ _ (Oper.mk _ (Op.load _ _) _ _ _ _ :: _) _ _); refine wpList_load_g hpb _ rfl rfl (by go_simp) ?_) | (at_builtin; refine wpList_append_ints rfl (.tmp 39) (.tmp 42) rfl rfl rfl (HH.out.2.x.below (below_alloc (Below.refl _ _) _)) (RI.one _ _) (by simp; omega) (by omega) ?_; intro A3 c3 w3 h1 h2 h3; have H3 := Lib.hid (HH.out.2.appX HBW.out h1 h2 h3); have hqb := (HP2.out.all w3 H3.out.below).2.1; have hsz3 := H3.out.below.size; simp at hsz3; clear h1 h2 h3) | ((with_reducible show wpList _ _ _ (Oper.mk _ (Op.load _ _) _ _ _ _ :: _) _ _); refine wpList_load_g hqb _ rfl rfl (by go_simp) ?_) | (at_builtin; refine wpList_append_ints rfl (.tmp 44) (.tmp 47) rfl rfl rfl (H3.out.y.below (below_alloc (Below.refl _ _) _)) (RI.one _ _) (by simp; omega) (by omega) ?_; intro A4 c4 w4 h1 h2 h3; have H4 := Lib.hid (H3.out.appY HBW.out h1 h2 h3); clear h1 h2 h3))
      have hx := H4.out.x.reads
      have hy := H4.out.y.reads
      rw [row_17 p hp] at hx
      rw [row_17 q hq] at hy
      have HX := Lib.hid hx
      have HY := Lib.hid hy
      clear hx hy hpb hqb hm1
      go_loopw [8] (fun i wr2 => ∃ m : Nat, i = .int .i64 m ∧ Hid (m ≤ 18 ∧ (∀ j : Nat, j < m → rd p.row (j : Int) = rd q.row (j : Int)) ∧ Below w4.heap.size w4 wr2)) (fun i _ => 18 - (intOf i).toNat)
      case atStart => exact ⟨0, rfl, Nat.zero_le _, fun j h => by omega, Below.refl _ _⟩
      case round =>
        obtain ⟨m, rfl, HM⟩ := hrel
        have hm := HM.out.1
        by_cases hlt : m < 18
        · have hlt' : (m : Int) < 18 := by omega
          have hm0 : (0 : Int) ≤ m := by omega
          obtain ⟨ad1, rfl, hc1⟩ := (HX.out.below HM.out.2.2).at_ m (by omega) (by omega)
          obtain ⟨ad2, rfl, hc2⟩ := (HY.out.below HM.out.2.2).at_ m (by omega) (by omega)
          have hd1 : wr.cell? (ad1.add m) = some (.int .i64 (rd p.row m)) := hc1
          have hd2 : wr.cell? (ad2.add m) = some (.int .i64 (rd q.row m)) := hc2
          clear hc1 hc2
          have hi0 : (m : Int) < (16 + 1 + 1 : Nat) := by omega
          have HLT := Lib.hid hlt
          clear hlt
          obtain ⟨x, hx⟩ : ∃ x, rd p.row (m : Int) = x := ⟨_, rfl⟩
          obtain ⟨y, hy⟩ : ∃ y, rd q.row (m : Int) = y := ⟨_, rfl⟩
          have HXY := Lib.hid (And.intro hx hy)
          rw [hx] at hd1
          rw [hy] at hd2
          clear hx hy
          by_cases h1 : x < y
          · have HE := Lib.hid (show p.cmp q = -1 by
              have e := cmpI_at p.row q.row m (by rw [row_len p hp, row_len q hq]) (by rw [row_len p hp]; exact HLT.out) HM.out.2.1 (by rw [HXY.out.1, HXY.out.2]; omega)
              rw [HXY.out.1, HXY.out.2, if_pos h1] at e
              exact e)
            go_wp2
            go_quiet (fail)
            go_wp2
            go_ret
            rw [HE.out]
            exact ⟨rfl, below_step HBE.out (below_step H4.out.below (below_drewN HM.out.2.2 _))⟩
          · have hge : y ≤ x := by omega
            by_cases h2 : y < x
            · have HE := Lib.hid (show p.cmp q = 1 by
                have e := cmpI_at p.row q.row m (by rw [row_len p hp, row_len q hq]) (by rw [row_len p hp]; exact HLT.out) HM.out.2.1 (by rw [HXY.out.1, HXY.out.2]; omega)
                rw [HXY.out.1, HXY.out.2, if_neg h1] at e
                exact e)
              clear h1
              go_wp2
              go_quiet (fail)
              go_wp2
              go_quiet (fail)
              go_wp2
              go_ret
              rw [HE.out]
              exact ⟨rfl, below_step HBE.out (below_step H4.out.below (below_drewN (below_drewN HM.out.2.2 _) _))⟩
            · obtain rfl : x = y := by omega
              clear h1 h2 hge
              go_wp2
              go_quiet (fail)
              go_wp2
              go_quiet (fail)
              go_wp2
              go_roundw
              case measure => simp [intOf]; omega
              case rel =>
                refine ⟨m + 1, by go_num, by have := HLT.out; omega, fun j hj => ?_, below_drewN HM.out.2.2 _⟩
                by_cases hj' : j < m
                · exact HM.out.2.1 j hj'
                · rw [show j = m by omega, HXY.out.1, HXY.out.2]
        · obtain rfl : m = 18 := by omega
          have hm1 : decide (((18 : Nat) : Int) < 18) = false := rfl
          have HE := Lib.hid (show p.cmp q = 0 from cmpI_same _ _ (by rw [row_len p hp, row_len q hq]) (fun j hj => HM.out.2.1 j (by rw [row_len p hp] at hj; exact hj)))
          clear hlt
          go_wp2
          go_ret
          rw [HE.out]
          exact ⟨rfl, below_step HBE.out (below_step H4.out.below HM.out.2.2)⟩
end Go.Proofs.YtnpeedmicjeleaaDoor

/- The document's answer for layer 5 (junctionboxref05): Right. -/
namespace Go.Proofs.YtnpeedmicjeleaaDoor
open Go.RowKit
set_option linter.unusedVariables false
set_option linter.unusedSimpArgs false
set_option maxRecDepth 4000

set_option maxHeartbeats 2000000 in
theorem right_any (v : Int) (l : List Int) (b : Int) (w : World) (hl : B16 l) (hb1 : b ≤ 9223372036854775807) : Calls Tryd.prog 94 #[.agg (pfxV v l b)] w fun e w' => e = .returned (.bool (rightP v l b)) ∧ Below w.heap.size w w' := by
  have hpa := pfx_at hl (blk_new w (.cells (pfxV v l b) 49))
  have hbe : Below w.heap.size w (w.alloc (.cells (pfxV v l b) 49)) := below_alloc (Below.refl _ _) _
  have HBE := Lib.hid hbe
  obtain ⟨cs, hcs⟩ : ∃ cs, pfxV v l b = cs := ⟨_, rfl⟩
  rw [hcs] at hpa HBE ⊢
  have HP := Lib.hid hpa
  clear hcs hbe hpa
  go_enter Tryd.func94, Tryd.ntmps94
  go_wp2_with fail
  refine wp_region_mix (fun w0 => Below (w.alloc (.cells cs 49)).heap.size (w.alloc (.cells cs 49)) w0) [(0, 0), (1, 0), (2, 2), (3, 0), (4, 0), (5, 0), (6, 0), (7, 0), (8, 0), (9, 0), (10, 0), (11, 0), (12, 0), (13, 0), (14, 0), (15, 2), (16, 0), (17, 0)] (by kernel_rfl) (by kernel_rfl) (below_drew1 _) ?_
  simp only [List.map_cons, List.map_nil]
  iterate 1 (refine wpO_step0 rfl rfl (fun K hK => ?_); go_simp; refine hK _ _ ?_; clear hK K)
  refine wpO_loadW (t := 47) (ad := ⟨w.heap.size, 0, none⟩) rfl rfl ?hw rfl rfl (fun w0 hS => (HP.out.all w0 hS).1) ?_
  case hw => go_simp
  refine wpO_step2 rfl rfl (below_drew1 _) (fun K hK => ?_)
  go_simp
  refine (rightAddr_any v l _ hl).mono ?_
  rintro e w1 ⟨rfl, hbb1⟩
  have HS1 := Lib.hid (below_step (below_drew1 _) hbb1)
  clear hbb1
  refine hK _ _ ⟨HS1.out, ?_⟩
  clear hK K
  cases hA : rightA v l with
  | false =>
    have HE : Hid (rightP v l b = false) := by unfold rightP; rw [hA]; rfl
    clear hA
    repeat first | (refine wpO_step0 rfl rfl (fun K hK => ?_); go_simp; refine hK _ _ ?_; clear hK K) | (refine wpO_step2 rfl rfl HS1.out (fun K hK => ?_); go_simp; refine hK _ _ ⟨HS1.out, ?_⟩; clear hK K)
    refine wpO_nil ?_
    go_wp2
    go_ret
    rw [HE.out]
    exact ⟨rfl, below_step HBE.out HS1.out⟩
  | true =>
    iterate 3 (refine wpO_step0 rfl rfl (fun K hK => ?_); go_simp; refine hK _ _ ?_; clear hK K)
    refine wpO_loadW (t := 3) (ad := ⟨w.heap.size, 17, none⟩) rfl rfl ?hw rfl rfl (fun w0 hS => (HP.out.all w0 hS).2.1) ?_
    case hw => go_simp
    by_cases hb0 : b < 0
    · have HE : Hid (rightP v l b = false) := by
        unfold rightP
        rw [decide_eq_false (show ¬ 0 ≤ b by omega)]
        cases rightA v l <;> rfl
      clear hA
      repeat first | (refine wpO_step0 rfl rfl (fun K hK => ?_); go_simp; refine hK _ _ ?_; clear hK K) | (refine wpO_step2 rfl rfl HS1.out (fun K hK => ?_); go_simp; refine hK _ _ ⟨HS1.out, ?_⟩; clear hK K)
      refine wpO_nil ?_
      go_wp2
      go_ret
      rw [HE.out]
      exact ⟨rfl, below_step HBE.out HS1.out⟩
    · have hb0' : 0 ≤ b := by omega
      clear hb0
      iterate 4 (refine wpO_step0 rfl rfl (fun K hK => ?_); go_simp; refine hK _ _ ?_; clear hK K)
      refine wpO_loadW (t := 3) (ad := ⟨w.heap.size, 17, none⟩) rfl rfl ?hw rfl rfl (fun w0 hS => (HP.out.all w0 hS).2.1) ?_
      case hw => go_simp
      iterate 2 (refine wpO_step0 rfl rfl (fun K hK => ?_); go_simp; refine hK _ _ ?_; clear hK K)
      refine wpO_loadW (t := 3) (ad := ⟨w.heap.size, 0, none⟩) rfl rfl ?hw rfl rfl (fun w0 hS => (HP.out.all w0 hS).2.2.1) ?_
      case hw => go_simp
      refine wpO_step2 rfl rfl HS1.out (fun K hK => ?_)
      go_simp
      refine (refwidth_any v _).mono ?_
      rintro e w2 ⟨rfl, rfl⟩
      refine hK _ _ ⟨HS1.out, ?_⟩
      clear hK K
      have hwl := widthA_le v
      by_cases hbw : (widthA v : Int) < b
      · have HE : Hid (rightP v l b = false) := by
          unfold rightP
          rw [decide_eq_false (show ¬ b ≤ widthA v by omega)]
          cases rightA v l <;> cases decide (0 ≤ b) <;> rfl
        clear hA
        repeat first | (refine wpO_step0 rfl rfl (fun K hK => ?_); go_simp; refine hK _ _ ?_; clear hK K) | (refine wpO_step2 rfl rfl HS1.out (fun K hK => ?_); go_simp; refine hK _ _ ⟨HS1.out, ?_⟩; clear hK K)
        refine wpO_nil ?_
        go_wp2
        go_ret
        rw [HE.out]
        exact ⟨rfl, below_step HBE.out HS1.out⟩
      · have hbw' : b ≤ (widthA v : Int) := by omega
        clear hbw
        obtain ⟨k, rfl⟩ := Int.eq_ofNat_of_zero_le hb0'
        have hbn : k ≤ widthA v := by omega
        have hrp : rightP v l k = clearA l k := by
          unfold rightP
          rw [show (k : Int).toNat = k by omega, hA, decide_eq_true hb0', decide_eq_true hbw']
          rfl
        have HRP := Lib.hid hrp
        have hk128 : k ≤ 128 := by omega
        clear hrp hA
        repeat (refine wpO_step0 rfl rfl (fun K hK => ?_); go_simp; refine hK _ _ ?_; clear hK K)
        refine wpO_nil ?_
        have hldb := (HP.out.all w1 HS1.out).2.1
        go_wp2_with (refine wpList_load_g hldb _ rfl rfl (by go_simp) ?_)
        clear hbn hbw' hwl hb0'
        go_loopw [3] (fun i wr => ∃ m : Nat, i = .int .i64 m ∧ Hid (k ≤ m ∧ ∀ j, k ≤ j → j < m → j < 128 → bitA l j = 0) ∧ Hid (Below (w.alloc (.cells cs 49)).heap.size (w.alloc (.cells cs 49)) wr)) (fun i _ => 128 - (intOf i).toNat)
        case atStart => exact ⟨k, rfl, ⟨Nat.le_refl _, fun j h1 h2 => by omega⟩, HS1.out⟩
        case round =>
          obtain ⟨m, rfl, HH, HW⟩ := hrel
          by_cases hlt : m < 128
          · have hld := (HP.out.all wr HW.out).2.2.2.1
            have hlt' : (m : Int) < 128 := by omega
            have HLT := Lib.hid hlt
            clear hlt hldb
            go_wp2_with (refine wpList_load_g hld _ rfl rfl (by go_simp) ?_)
            refine (refat_any l m wr hl (by omega) (by omega)).mono ?_
            rintro e w2 ⟨rfl, hb2⟩
            rw [show (m : Int).toNat = m by omega]
            have HW2 := Lib.hid (below_step HW.out hb2)
            clear hb2 hld
            by_cases hbit : bitA l m = 1
            · have hbt : (bitA l m == 1) = true := by simpa using hbit
              have hr : clearA l k = false := by
                rw [Bool.eq_false_iff]
                intro h
                have := (clearA_iff l k).1 h m HH.out.1 HLT.out
                omega
              have HR := Lib.hid hr
              clear hbit hr
              go_wp2
              go_ret
              rw [HRP.out, HR.out]
              exact ⟨rfl, below_step HBE.out HW2.out⟩
            · have hbt : (bitA l m == 1) = false := by simpa using hbit
              have HZ : Hid (bitA l m = 0) := (bitA_range l m).resolve_right hbit
              clear hbit
              go_wp2_with fail
              go_roundw
              case measure => simp [intOf]; omega
              case rel =>
                refine ⟨m + 1, by go_num, ⟨by have := HH.out.1; omega, fun j h1 h2 h3 => ?_⟩, HW2.out⟩
                by_cases hj : j < m
                · exact HH.out.2 j h1 hj h3
                · rw [show j = m by omega]
                  exact HZ.out
          · have hm1 : decide ((m : Int) < 128) = false := decide_eq_false (by omega)
            have hr : clearA l k = true := (clearA_iff l k).2 (fun j h1 h2 => HH.out.2 j h1 (by omega) h2)
            have HR := Lib.hid hr
            clear hr hlt
            go_wp2_with fail
            go_ret
            rw [HRP.out, HR.out]
            exact ⟨rfl, below_step HBE.out HW.out⟩
end Go.Proofs.YtnpeedmicjeleaaDoor

/- The document's answer for layer 9: Right. -/
namespace Go.Proofs.YtnpeedmicjeleaaDoor
open Go.RowKit
set_option linter.unusedVariables false
set_option linter.unusedSimpArgs false
set_option maxRecDepth 4000

def Oks (t : List Row) : Prop := ∀ r ∈ t, r.ok
theorem Oks.at_ {t : List Row} (h : Oks t) {i : Nat} (hi : i < t.length) : (rowAt t i).ok := h _ (List.mem_of_getElem? (rowAt_get hi))
end Go.Proofs.YtnpeedmicjeleaaDoor

/- Arguments that are rows and tables, opened. -/
namespace Go.Proofs.YtnpeedmicjeleaaDoor
open Go.ChangeShapes Go.WideShapes Go.ChangeAt Go.RowKit
set_option linter.unusedVariables false
set_option linter.unusedSimpArgs false
set_option maxRecDepth 4000
section
variable {H : Type} {enc : TypeId × Value → H} {W : World} {base : Nat} {spare : Nat → Bool} {held : Bool}
end
end Go.Proofs.YtnpeedmicjeleaaDoor

/- Layer 11 (route): candidates (Rte, 21 cells) and updates (Upd, 22 cells) in memory, built, held equal. -/
namespace Go.Proofs.YtnpeedmicjeleaaDoor
open Go.RowKit
set_option linter.unusedVariables false
set_option linter.unusedSimpArgs false
set_option maxRecDepth 4000
theorem loadr_bool {w : World} {ad : Addr} {v : Value} (h : w.cell? ad = some v) : (Instr.loadAt 4 (.pointer (some ad))).run Tryd.prog w = .ok v w := by
  go_simp
structure Rte where
  p : Pfx
  s : Int
  f : Int
  h : Int
structure Upd where
  p : Pfx
  s : Int
  g : Bool
  f : Int
  h : Int
def Rte.fits (r : Rte) : Prop := B16 r.p.l
def Upd.fits (r : Upd) : Prop := B16 r.p.l

def rteC (r : Rte) : List Value := (pfxV r.p.v r.p.l r.p.b).toList ++ [.int .i64 r.s, .int .i64 r.f, .int .i64 r.h]
def rteV (r : Rte) : Array Value := (rteC r).toArray
theorem rteP_len {r : Rte} (h : r.fits) : (pfxV r.p.v r.p.l r.p.b).toList.length = 18 := by rw [Array.length_toList]; exact pfx_size h.len
theorem rteC_len {r : Rte} (h : r.fits) : (rteC r).length = 21 := by
  unfold rteC
  rw [List.length_append, rteP_len h]
  rfl
theorem rteV_size {r : Rte} (h : r.fits) : (rteV r).size = 21 := by simp [rteV, rteC_len h]
theorem rteC_one (r : Rte) : ∀ u ∈ rteC r, u.oneCell' = true := by
  intro u hu
  rcases List.mem_append.1 hu with hu | hu
  · have := pfx_one r.p.v r.p.b r.p.l
    rw [← Array.all_toList, List.all_eq_true] at this
    exact this u hu
  · simp only [List.mem_cons, List.not_mem_nil, or_false] at hu
    rcases hu with rfl | rfl | rfl <;> rfl
def rteZ : Rte := ⟨⟨0, zero16, 0⟩, 0, 0, 0⟩
theorem rteZ_fits : rteZ.fits := zero16_B
theorem zero_rte : (Tryd.prog.info? 51).map (fun i => (i.zero, i.size, i.bytes)) = some (some (.agg (rteV rteZ)), 21, 56) := by kernel_rfl
theorem info_rte {r : Rte} (h : r.fits) : (Tryd.prog.info? 51).map (·.size) = some (rteV r).size := by rw [rteV_size h]; kernel_rfl
def rteK : Shape Rte where
  t := 51
  ts := 22
  sz := 21
  bytes := 56
  z := rteZ
  ok := Rte.fits
  enc := rteC
  val := fun r => .agg (rteV r)
  len := fun _ h => rteC_len h
  one := rteC_one
  okz := rteZ_fits
  pos := by omega
  bpos := by omega
  blt := by omega
  und := Tryd.underlying22
  info := zero_rte
  venc := fun _ => rfl
  ld := fun _ _ _ r hr h => load_cells (cs := rteV r) h Tryd.underlying51 rfl (info_rte hr)
theorem rteV_one (r : Rte) : (rteV r).all (·.oneCell') = true := by
  rw [← Array.all_toList, List.all_eq_true]
  exact fun u hu => rteC_one r u (by simpa [rteV] using hu)
/-- What loads of it tell. -/
structure RteLd (w : World) (g o : Nat) (r : Rte) : Prop where
  all : (Instr.loadAt 51 (.pointer (some ⟨g, o, none⟩))).run Tryd.prog w = .ok (.agg (rteV r)) w
  pfx : (Instr.loadAt 49 (.pointer (some ⟨g, o, none⟩))).run Tryd.prog w = .ok (.agg (pfxV r.p.v r.p.l r.p.b)) w
  src : (Instr.loadAt 3 (.pointer (some ⟨g, o + 18, none⟩))).run Tryd.prog w = .ok (.int .i64 r.s) w
  prf : (Instr.loadAt 3 (.pointer (some ⟨g, o + 19, none⟩))).run Tryd.prog w = .ok (.int .i64 r.f) w
  hop : (Instr.loadAt 3 (.pointer (some ⟨g, o + 20, none⟩))).run Tryd.prog w = .ok (.int .i64 r.h) w
theorem rteLd_of {w : World} {g o : Nat} {r : Rte} (hf : r.fits) (h : CellsAt w g o (rteC r)) : RteLd w g o r := by
  have h1 : CellsAt w g o (pfxV r.p.v r.p.l r.p.b).toList := h.left
  have h2 : CellsAt w g (o + 18) [.int .i64 r.s, .int .i64 r.f, .int .i64 r.h] := by
    have := h.right
    rw [rteP_len hf] at this
    exact this
  exact ⟨load_cells (cs := rteV r) h Tryd.underlying51 rfl (info_rte hf), load_cells h1 Tryd.underlying49 rfl (info_pfx hf.len), load_int (h2 0 _ rfl), load_int (h2 1 _ rfl), load_int (h2 2 _ rfl)⟩
structure RteAt (w : World) (g : Nat) (r : Rte) : Prop where
  all : ∀ w0, Below w.heap.size w w0 → RteLd w0 g 0 r
theorem rte_at {w : World} {g : Nat} {t : TypeId} {r : Rte} (hr : r.fits) (h : w.heap[g]? = some (.cells (rteV r) t (0, 0))) : RteAt w g r :=
  ⟨fun w0 hb => rteLd_of hr (cells_blk (blk_below h hb))⟩
structure Rte.ok (r : Rte) : Prop where
  p : r.p.ok
  s : (Lit.int .i64 r.s).wf = true
  f : (Lit.int .i64 r.f).wf = true
  h : (Lit.int .i64 r.h).wf = true
theorem Rte.ok.fits {r : Rte} (h : r.ok) : r.fits := h.p.l
def Rte.eqB (r s : Rte) : Bool := r.p.eqB s.p && decide (r.s = s.s) && decide (r.f = s.f) && decide (r.h = s.h)
theorem Rte.eqB_iff (r s : Rte) : r.eqB s = true ↔ r = s := by
  unfold Rte.eqB
  simp only [Bool.and_eq_true, decide_eq_true_eq, Pfx.eqB_iff, beq_iff_eq]
  constructor
  · rintro h
    cases r; cases s
    simp_all
  · rintro rfl
    simp
section
variable {r : Operand → Value} {o : Oper} {x y : Operand} {ty : TypeId}
end
theorem store_rte_fit {cs : Array Value} {r : Rte} (hf : r.fits) (h : cs.size = 21) : 0 + (rteV r).size ≤ cs.size := by rw [rteV_size hf, h]; omega
theorem splice_rte {cs : Array Value} {r : Rte} (hf : r.fits) (h : cs.size = 21) : splice cs 0 (rteV r).toList = rteV r := splice_all _ _ (by rw [Array.length_toList, rteV_size hf, h])

def updC (r : Upd) : List Value := (pfxV r.p.v r.p.l r.p.b).toList ++ [.int .i64 r.s, .bool r.g, .int .i64 r.f, .int .i64 r.h]
def updV (r : Upd) : Array Value := (updC r).toArray
theorem updP_len {r : Upd} (h : r.fits) : (pfxV r.p.v r.p.l r.p.b).toList.length = 18 := by rw [Array.length_toList]; exact pfx_size h.len
theorem updC_len {r : Upd} (h : r.fits) : (updC r).length = 22 := by
  unfold updC
  rw [List.length_append, updP_len h]
  rfl
theorem updV_size {r : Upd} (h : r.fits) : (updV r).size = 22 := by simp [updV, updC_len h]
theorem updC_one (r : Upd) : ∀ u ∈ updC r, u.oneCell' = true := by
  intro u hu
  rcases List.mem_append.1 hu with hu | hu
  · have := pfx_one r.p.v r.p.b r.p.l
    rw [← Array.all_toList, List.all_eq_true] at this
    exact this u hu
  · simp only [List.mem_cons, List.not_mem_nil, or_false] at hu
    rcases hu with rfl | rfl | rfl | rfl <;> rfl
def updZ : Upd := ⟨⟨0, zero16, 0⟩, 0, false, 0, 0⟩
theorem updZ_fits : updZ.fits := zero16_B
theorem zero_upd : (Tryd.prog.info? 75).map (fun i => (i.zero, i.size, i.bytes)) = some (some (.agg (updV updZ)), 22, 64) := by kernel_rfl
theorem info_upd {r : Upd} (h : r.fits) : (Tryd.prog.info? 75).map (·.size) = some (updV r).size := by rw [updV_size h]; kernel_rfl
def updK : Shape Upd where
  t := 75
  ts := 25
  sz := 22
  bytes := 64
  z := updZ
  ok := Upd.fits
  enc := updC
  val := fun r => .agg (updV r)
  len := fun _ h => updC_len h
  one := updC_one
  okz := updZ_fits
  pos := by omega
  bpos := by omega
  blt := by omega
  und := Tryd.underlying25
  info := zero_upd
  venc := fun _ => rfl
  ld := fun _ _ _ r hr h => load_cells (cs := updV r) h Tryd.underlying75 rfl (info_upd hr)
theorem updV_one (r : Upd) : (updV r).all (·.oneCell') = true := by
  rw [← Array.all_toList, List.all_eq_true]
  exact fun u hu => updC_one r u (by simpa [updV] using hu)
/-- What loads of it tell. -/
structure UpdLd (w : World) (g o : Nat) (r : Upd) : Prop where
  all : (Instr.loadAt 75 (.pointer (some ⟨g, o, none⟩))).run Tryd.prog w = .ok (.agg (updV r)) w
  pfx : (Instr.loadAt 49 (.pointer (some ⟨g, o, none⟩))).run Tryd.prog w = .ok (.agg (pfxV r.p.v r.p.l r.p.b)) w
  src : (Instr.loadAt 3 (.pointer (some ⟨g, o + 18, none⟩))).run Tryd.prog w = .ok (.int .i64 r.s) w
  gon : (Instr.loadAt 4 (.pointer (some ⟨g, o + 19, none⟩))).run Tryd.prog w = .ok (.bool r.g) w
  prf : (Instr.loadAt 3 (.pointer (some ⟨g, o + 20, none⟩))).run Tryd.prog w = .ok (.int .i64 r.f) w
  hop : (Instr.loadAt 3 (.pointer (some ⟨g, o + 21, none⟩))).run Tryd.prog w = .ok (.int .i64 r.h) w
theorem updLd_of {w : World} {g o : Nat} {r : Upd} (hf : r.fits) (h : CellsAt w g o (updC r)) : UpdLd w g o r := by
  have h1 : CellsAt w g o (pfxV r.p.v r.p.l r.p.b).toList := h.left
  have h2 : CellsAt w g (o + 18) [.int .i64 r.s, .bool r.g, .int .i64 r.f, .int .i64 r.h] := by
    have := h.right
    rw [updP_len hf] at this
    exact this
  exact ⟨load_cells (cs := updV r) h Tryd.underlying75 rfl (info_upd hf), load_cells h1 Tryd.underlying49 rfl (info_pfx hf.len), load_int (h2 0 _ rfl), loadr_bool (h2 1 _ rfl), load_int (h2 2 _ rfl), load_int (h2 3 _ rfl)⟩
structure UpdAt (w : World) (g : Nat) (r : Upd) : Prop where
  all : ∀ w0, Below w.heap.size w w0 → UpdLd w0 g 0 r
theorem upd_at {w : World} {g : Nat} {t : TypeId} {r : Upd} (hr : r.fits) (h : w.heap[g]? = some (.cells (updV r) t (0, 0))) : UpdAt w g r :=
  ⟨fun w0 hb => updLd_of hr (cells_blk (blk_below h hb))⟩
structure Upd.ok (r : Upd) : Prop where
  p : r.p.ok
  s : (Lit.int .i64 r.s).wf = true
  f : (Lit.int .i64 r.f).wf = true
  h : (Lit.int .i64 r.h).wf = true
theorem Upd.ok.fits {r : Upd} (h : r.ok) : r.fits := h.p.l
def Upd.eqB (r s : Upd) : Bool := r.p.eqB s.p && decide (r.s = s.s) && (r.g == s.g) && decide (r.f = s.f) && decide (r.h = s.h)
theorem Upd.eqB_iff (r s : Upd) : r.eqB s = true ↔ r = s := by
  unfold Upd.eqB
  simp only [Bool.and_eq_true, decide_eq_true_eq, Pfx.eqB_iff, beq_iff_eq]
  constructor
  · rintro h
    cases r; cases s
    simp_all
  · rintro rfl
    simp
section
variable {r : Operand → Value} {o : Oper} {x y : Operand} {ty : TypeId}
end
theorem store_upd_fit {cs : Array Value} {r : Upd} (hf : r.fits) (h : cs.size = 22) : 0 + (updV r).size ≤ cs.size := by rw [updV_size hf, h]; omega
theorem splice_upd {cs : Array Value} {r : Upd} (hf : r.fits) (h : cs.size = 22) : splice cs 0 (updV r).toList = updV r := splice_all _ _ (by rw [Array.length_toList, updV_size hf, h])
end Go.Proofs.YtnpeedmicjeleaaDoor

/- Plain laws of lists in order by a key (rows of numbers): the place, put, take away; the document's way of putting. -/
namespace Go.Proofs.YtnpeedmicjeleaaDoor
set_option linter.unusedVariables false
set_option linter.unusedSimpArgs false
set_option maxRecDepth 4000
section
variable {α : Type} (K : α → List Int)
def cK (a b : α) : Int := cmpI (K a) (K b)
def risK : List α → Bool
  | [] => true
  | [_] => true
  | a :: b :: t => decide (cK K a b < 0) && risK (b :: t)
def lowK (t : List α) (p : α) : Nat := (t.takeWhile fun r => decide (cK K r p < 0)).length
def thereK (t : List α) (p : α) : Bool := match t[lowK K t p]? with
  | some r => cK K r p == 0
  | none => false
def setK (t : List α) (p : α) : List α := t.take (lowK K t p) ++ p :: t.drop (if thereK K t p then lowK K t p + 1 else lowK K t p)
def dropK (t : List α) (p : α) : List α := t.take (lowK K t p) ++ t.drop (lowK K t p + 1)
variable {K}
theorem cK_refl (a : α) : cK K a a = 0 := cmpI_refl _
theorem cK_neg (a b : α) : cK K a b = - cK K b a := cmpI_neg _ _
theorem cK_trans {a b d : α} (h : cK K a b < 0) (k : cK K b d < 0) : cK K a d < 0 := cmpI_trans _ _ _ h k
theorem cK_congL {a b d : α} (h : K a = K b) : cK K a d = cK K b d := by unfold cK; rw [h]
theorem cK_congR {a b d : α} (h : K a = K b) : cK K d a = cK K d b := by unfold cK; rw [h]
theorem cK_irrefl (a : α) : ¬ cK K a a < 0 := by rw [cK_refl]; omega
theorem cK_pos {a b : α} (h : ¬ cK K a b < 0) (h0 : cK K a b ≠ 0) : cK K b a < 0 := by have := cK_neg (K := K) a b; omega
theorem cK_ne {a b : α} (h : cK K a b ≠ 0) : K a ≠ K b := fun e => h (by unfold cK; rw [e]; exact cmpI_refl _)
theorem risK_cons {a : α} {t : List α} (h : risK K (a :: t) = true) : risK K t = true := by
  cases t with
  | nil => rfl
  | cons b t => simp only [risK, Bool.and_eq_true] at h; exact h.2
theorem risK_head {a : α} : ∀ {t : List α}, risK K (a :: t) = true → ∀ r ∈ t, cK K a r < 0
  | [], _, r, hr => by cases hr
  | b :: t, h, r, hr => by
    have h2 := h
    simp only [risK, Bool.and_eq_true, decide_eq_true_eq] at h2
    rcases List.mem_cons.1 hr with rfl | hr
    · exact h2.1
    · exact cK_trans h2.1 (risK_head (risK_cons h) r hr)
theorem risK_of {a : α} {t : List α} (h : ∀ r ∈ t, cK K a r < 0) (ht : risK K t = true) : risK K (a :: t) = true := by
  cases t with
  | nil => rfl
  | cons b t => simp only [risK, Bool.and_eq_true, decide_eq_true_eq]; exact ⟨h b (by simp), ht⟩
theorem risK_iff (z : α) (t : List α) : risK K t = true ↔ ∀ i, i + 1 < t.length → cK K (t.getD i z) (t.getD (i + 1) z) < 0 := by
  induction t with
  | nil => simp [risK]
  | cons a t ih =>
    cases t with
    | nil => simp [risK]
    | cons b t =>
      simp only [risK, Bool.and_eq_true, decide_eq_true_eq, ih]
      constructor
      · rintro ⟨h1, h2⟩ i hi
        cases i with
        | zero => exact h1
        | succ i => exact h2 i (by simpa using hi)
      · intro h
        exact ⟨h 0 (by simp), fun i hi => h (i + 1) (by simpa using hi)⟩
theorem lowK_cons (a : α) (t : List α) (p : α) : lowK K (a :: t) p = if cK K a p < 0 then lowK K t p + 1 else 0 := by
  unfold lowK
  rw [List.takeWhile_cons]
  by_cases h : cK K a p < 0
  · simp [h]
  · simp [h]
theorem lowK_le (t : List α) (p : α) : lowK K t p ≤ t.length := by
  induction t with
  | nil => simp [lowK]
  | cons a t ih =>
    rw [lowK_cons]
    split
    · simp; exact ih
    · simp
theorem lowK_spec (z : α) {t : List α} (p : α) (ht : risK K t = true) (i : Nat) (hi : i < t.length) : (i < lowK K t p → cK K (t.getD i z) p < 0) ∧ (lowK K t p ≤ i → ¬ cK K (t.getD i z) p < 0) := by
  induction t generalizing i with
  | nil => simp at hi
  | cons a t ih =>
    rw [lowK_cons]
    by_cases h : cK K a p < 0
    · rw [if_pos h]
      cases i with
      | zero => exact ⟨fun _ => h, fun h => by omega⟩
      | succ i =>
        have := ih (risK_cons ht) i (by simpa using hi)
        exact ⟨fun h => this.1 (by omega), fun h => this.2 (by omega)⟩
    · rw [if_neg h]
      refine ⟨fun h => by omega, fun _ => ?_⟩
      cases i with
      | zero => exact h
      | succ i =>
        intro hlt
        have hi' : i < t.length := by simpa using hi
        have hm : t.getD i z ∈ t := by
          rw [List.getD_eq_getElem?_getD, List.getElem?_eq_getElem hi']
          exact List.getElem_mem hi'
        have h1 := risK_head ht _ hm
        exact h (cK_trans h1 hlt)
theorem thereK_cons {a : α} {t : List α} {p : α} : thereK K (a :: t) p = if cK K a p < 0 then thereK K t p else cK K a p == 0 := by
  unfold thereK
  rw [lowK_cons]
  by_cases h : cK K a p < 0
  · rw [if_pos h, if_pos h]
    rfl
  · rw [if_neg h, if_neg h]
    rfl
theorem thereK_lt {t : List α} {p : α} (h : thereK K t p = true) : lowK K t p < t.length := by
  unfold thereK at h
  split at h
  · rename_i r hr
    exact (List.getElem?_eq_some_iff.1 hr).1
  · cases h
theorem setK_cons (a : α) (t : List α) (p : α) : setK K (a :: t) p = if cK K a p < 0 then a :: setK K t p else if cK K a p = 0 then p :: t else p :: a :: t := by
  unfold setK
  rw [lowK_cons, thereK_cons]
  by_cases h1 : cK K a p < 0
  · rw [if_pos h1, if_pos h1, if_pos h1]
    split <;> rfl
  · rw [if_neg h1, if_neg h1, if_neg h1]
    by_cases h2 : cK K a p = 0
    · rw [if_pos h2, h2]; rfl
    · rw [if_neg h2, if_neg (by simpa using h2)]; rfl
theorem dropK_cons (a : α) (t : List α) (p : α) : dropK K (a :: t) p = if cK K a p < 0 then a :: dropK K t p else t := by
  unfold dropK
  rw [lowK_cons]
  by_cases h1 : cK K a p < 0
  · rw [if_pos h1, if_pos h1]; rfl
  · rw [if_neg h1, if_neg h1]; rfl
/-- Where keys that compare as 0 are the same. -/
def KeyZ (K : α → List Int) (t : List α) (p : α) : Prop := ∀ r ∈ t, cK K r p = 0 → K r = K p
theorem KeyZ.tail {a p : α} {t : List α} (h : KeyZ K (a :: t) p) : KeyZ K t p := fun r hr => h r (by simp [hr])
theorem ne_of_cK {a b : α} (h : cK K a b < 0) : K a ≠ K b := cK_ne (by omega)
theorem mem_setK {x p : α} : ∀ {t : List α}, KeyZ K t p → risK K t = true → (x ∈ setK K t p ↔ x = p ∨ (x ∈ t ∧ K x ≠ K p))
  | [], _, _ => by simp [setK]
  | a :: t, hf, ht => by
    have ih := mem_setK (x := x) hf.tail (risK_cons ht)
    have hh := risK_head ht
    rw [setK_cons]
    by_cases h1 : cK K a p < 0
    · rw [if_pos h1, List.mem_cons, List.mem_cons, ih]
      constructor
      · rintro (rfl | rfl | h)
        · exact .inr ⟨.inl rfl, ne_of_cK h1⟩
        · exact .inl rfl
        · exact .inr ⟨.inr h.1, h.2⟩
      · rintro (rfl | ⟨rfl | h, hn⟩)
        · exact .inr (.inl rfl)
        · exact .inl rfl
        · exact .inr (.inr ⟨h, hn⟩)
    · rw [if_neg h1]
      by_cases h2 : cK K a p = 0
      · have he := hf a (by simp) h2
        rw [if_pos h2, List.mem_cons, List.mem_cons]
        constructor
        · rintro (rfl | hm)
          · exact .inl rfl
          · refine .inr ⟨.inr hm, fun e => ?_⟩
            have := hh x hm
            rw [cK_congL he, cK_congR e] at this
            exact cK_irrefl p this
        · rintro (rfl | ⟨rfl | hm, hn⟩)
          · exact .inl rfl
          · exact absurd he hn
          · exact .inr hm
      · have hgt := cK_pos h1 h2
        rw [if_neg h2, List.mem_cons, List.mem_cons]
        constructor
        · rintro (rfl | rfl | hm)
          · exact .inl rfl
          · exact .inr ⟨.inl rfl, cK_ne h2⟩
          · refine .inr ⟨.inr hm, fun e => ?_⟩
            have := cK_trans hgt (hh x hm)
            rw [cK_congR e] at this
            exact cK_irrefl p this
        · rintro (rfl | ⟨hm, _⟩)
          · exact .inl rfl
          · exact .inr hm
theorem risK_set {p : α} : ∀ {t : List α}, KeyZ K t p → risK K t = true → risK K (setK K t p) = true
  | [], _, _ => rfl
  | a :: t, hf, ht => by
    have ih := risK_set hf.tail (risK_cons ht)
    have hh := risK_head ht
    rw [setK_cons]
    by_cases h1 : cK K a p < 0
    · rw [if_pos h1]
      refine risK_of (fun r hr => ?_) ih
      rcases (mem_setK hf.tail (risK_cons ht)).1 hr with rfl | ⟨hm, _⟩
      · exact h1
      · exact hh r hm
    · rw [if_neg h1]
      by_cases h2 : cK K a p = 0
      · have he := hf a (by simp) h2
        rw [if_pos h2]
        refine risK_of (fun r hr => ?_) (risK_cons ht)
        rw [← cK_congL he]
        exact hh r hr
      · have hgt := cK_pos h1 h2
        rw [if_neg h2]
        refine risK_of (fun r hr => ?_) ht
        rcases List.mem_cons.1 hr with rfl | hr
        · exact hgt
        · exact cK_trans hgt (hh r hr)
theorem mem_dropK_of {x p : α} : ∀ {t : List α}, x ∈ dropK K t p → x ∈ t
  | [], h => h
  | a :: t, h => by
    rw [dropK_cons] at h
    split at h
    · rcases List.mem_cons.1 h with rfl | h
      · simp
      · exact List.mem_cons_of_mem _ (mem_dropK_of h)
    · exact List.mem_cons_of_mem _ h
theorem risK_drop {p : α} : ∀ {t : List α}, risK K t = true → risK K (dropK K t p) = true
  | [], _ => rfl
  | a :: t, ht => by
    rw [dropK_cons]
    split
    · exact risK_of (fun r hr => risK_head ht r (mem_dropK_of hr)) (risK_drop (risK_cons ht))
    · exact risK_cons ht
theorem len_setK {p : α} : ∀ t : List α, (setK K t p).length = if thereK K t p then t.length else t.length + 1
  | [] => rfl
  | a :: t => by
    have ih := len_setK (p := p) t
    rw [setK_cons, thereK_cons]
    by_cases h1 : cK K a p < 0
    · rw [if_pos h1, if_pos h1, List.length_cons, ih]
      split <;> rfl
    · rw [if_neg h1, if_neg h1]
      by_cases h2 : cK K a p = 0
      · rw [if_pos h2, h2]; rfl
      · rw [if_neg h2, if_neg (by simpa using h2)]; rfl
theorem len_dropK {p : α} : ∀ t : List α, (dropK K t p).length ≤ t.length
  | [] => Nat.le_refl _
  | a :: t => by
    have ih := len_dropK (p := p) t
    rw [dropK_cons]
    split
    · simp; exact ih
    · simp
end
end Go.Proofs.YtnpeedmicjeleaaDoor

/- Plain laws of layer 11 (route): batches, RIBs, and what comes of a RIB behind a batch. -/
namespace Go.Proofs.YtnpeedmicjeleaaDoor
set_option linter.unusedVariables false
set_option linter.unusedSimpArgs false
set_option maxRecDepth 4000
set_option maxRecDepth 4000

theorem keyZ {α : Type} (K : α → List Int) (t : List α) (p : α) : KeyZ K t p := fun r _ h => cmpI_zero _ _ h
abbrev rteAt (l : List Rte) (i : Nat) : Rte := l.getD i rteZ
abbrev updAt (l : List Upd) (i : Nat) : Upd := l.getD i updZ
theorem getD_get {α : Type} {l : List α} {i : Nat} {z : α} (h : i < l.length) : l[i]? = some (l.getD i z) := by
  rw [List.getD_eq_getElem?_getD, List.getElem?_eq_getElem h]
  rfl
theorem getD_mem {α : Type} {l : List α} {i : Nat} {z : α} (h : i < l.length) : l.getD i z ∈ l := List.mem_of_getElem? (getD_get h)
theorem mem_getD {α : Type} {l : List α} {a z : α} (h : a ∈ l) : ∃ i, i < l.length ∧ l.getD i z = a := by
  obtain ⟨i, hi, he⟩ := List.getElem_of_mem h
  refine ⟨i, hi, ?_⟩
  rw [List.getD_eq_getElem?_getD, List.getElem?_eq_getElem hi]
  exact he
theorem take_getD {α : Type} {l : List α} {i : Nat} (z : α) (h : i < l.length) : l.take (i + 1) = l.take i ++ [l.getD i z] := by
  rw [List.take_add_one, getD_get (z := z) h]
  rfl
def Rte.key (r : Rte) : List Int := r.p.row ++ [r.s]
def Upd.rte (u : Upd) : Rte := ⟨u.p, u.s, u.f, u.h⟩
def Okr (l : List Rte) : Prop := ∀ r ∈ l, r.ok
def Oku (l : List Upd) : Prop := ∀ u ∈ l, u.ok
theorem Okr.at_ {l : List Rte} (h : Okr l) {i : Nat} (hi : i < l.length) : (rteAt l i).ok := h _ (getD_mem hi)
theorem Oku.at_ {l : List Upd} (h : Oku l) {i : Nat} (hi : i < l.length) : (updAt l i).ok := h _ (getD_mem hi)
theorem Upd.ok.rte {u : Upd} (h : u.ok) : u.rte.ok := ⟨h.p, h.s, h.f, h.h⟩
def fitB (p : Pfx) (s f h : Int) : Bool := p.right && decide (1 ≤ s) && decide (s ≤ 4) && decide (0 ≤ f) && decide (f ≤ 255) && decide (1 ≤ h) && decide (h ≤ 255)
def Rte.fit (r : Rte) : Bool := fitB r.p r.s r.f r.h
def updB (u : Upd) : Bool := if u.g then decide (u.f = 0) && decide (u.h = 0) && fitB u.p u.s 0 1 else fitB u.p u.s u.f u.h
def twin (a b : Upd) : Bool := a.p.eqB b.p && decide (a.s = b.s)
def batsB (l : List Upd) : Bool := decide (∀ j, j < l.length → updB (updAt l j) = true ∧ ∀ k, k < j → twin (updAt l k) (updAt l j) = false)
def batB (l : List Upd) : Bool := decide (1 ≤ l.length) && decide (l.length ≤ 8) && batsB l
/-! How many prefixes. -/
def newP (l : List Rte) (i : Nat) : Bool := decide (i = 0) || !(rteAt l (i - 1)).p.eqB (rteAt l i).p
def newF (l : List Rte) (i : Nat) : Bool := decide (∀ k, k < i → (rteAt l k).p.eqB (rteAt l i).p = false)
def cntP (l : List Rte) (k : Nat) : Nat := ((List.range k).filter (newP l)).length
def cntF (l : List Rte) (k : Nat) : Nat := ((List.range k).filter (newF l)).length
theorem cntP_succ (l : List Rte) (k : Nat) : cntP l (k + 1) = cntP l k + if newP l k then 1 else 0 := by
  unfold cntP
  rw [List.range_succ, List.filter_append, List.length_append]
  cases h : newP l k <;> simp [h]
theorem cntF_succ (l : List Rte) (k : Nat) : cntF l (k + 1) = cntF l k + if newF l k then 1 else 0 := by
  unfold cntF
  rw [List.range_succ, List.filter_append, List.length_append]
  cases h : newF l k <;> simp [h]
theorem cntP_le (l : List Rte) (k : Nat) : cntP l k ≤ k := by
  unfold cntP
  have := List.length_filter_le (newP l) (List.range k)
  rwa [List.length_range] at this
theorem cntF_le (l : List Rte) (k : Nat) : cntF l k ≤ k := by
  unfold cntF
  have := List.length_filter_le (newF l) (List.range k)
  rwa [List.length_range] at this
def pfxsN (l : List Rte) : Nat := cntP l l.length
def pfxsF (l : List Rte) : Nat := cntF l l.length
/-- The order of candidates. -/
def cR (a b : Rte) : Int := cK Rte.key a b
theorem cmpI_app {a b c d : List Int} (h : a.length = b.length) : cmpI (a ++ c) (b ++ d) = if cmpI a b ≠ 0 then cmpI a b else cmpI c d := by
  rw [cmpI_append _ _ _ _ h]
theorem rtrow_len {p : Pfx} (h : B16 p.l) : p.row.length = 18 := by unfold Pfx.row; simp [h.len]
theorem cR_eq (a b : Rte) (ha : a.fits) (hb : b.fits) : cR a b = if a.p.cmp b.p ≠ 0 then a.p.cmp b.p else cmpN a.s b.s := by
  unfold cR cK Rte.key
  rw [cmpI_app (by rw [rtrow_len ha, rtrow_len hb]), cmpI_one]
  rfl
theorem cR_or (a b : Rte) (ha : a.fits) (hb : b.fits) : cR a b = orI [a.p.cmp b.p, cmpN a.s b.s] := by
  rw [cR_eq a b ha hb]
  unfold orI orI orI
  by_cases h : a.p.cmp b.p ≠ 0
  · rw [if_pos h, if_pos h]
  · rw [if_neg h, if_neg h]
    by_cases h2 : cmpN a.s b.s ≠ 0
    · rw [if_pos h2]
    · rw [if_neg h2]
      omega
/-- Does a candidate stand ahead of another? -/
def aheadB (a b : Rte) : Bool := decide (a.p.cmp b.p < 0) || (decide (a.p.cmp b.p = 0) && decide (a.s < b.s))
theorem ahead_iff (a b : Rte) (ha : a.fits) (hb : b.fits) : aheadB a b = decide (cR a b < 0) := by
  rw [cR_eq a b ha hb]
  unfold aheadB cmpN
  rcases Int.lt_trichotomy (a.p.cmp b.p) 0 with h | h | h
  · rw [if_pos (show a.p.cmp b.p ≠ 0 by omega), decide_eq_true h]
    rfl
  · rw [if_neg (show ¬ a.p.cmp b.p ≠ 0 by omega), decide_eq_false (show ¬ a.p.cmp b.p < 0 by omega), decide_eq_true h]
    rcases Int.lt_trichotomy a.s b.s with k | k | k
    · rw [if_pos k, decide_eq_true k]; rfl
    · rw [if_neg (by omega), if_neg (by omega), decide_eq_false (by omega)]; rfl
    · rw [if_neg (by omega), if_pos k, decide_eq_false (by omega)]; rfl
  · rw [if_pos (show a.p.cmp b.p ≠ 0 by omega), decide_eq_false (show ¬ a.p.cmp b.p < 0 by omega), decide_eq_false (show ¬ a.p.cmp b.p = 0 by omega)]
    rfl
/-- In order, a prefix is new where it is not the one ahead. -/
theorem cmp_of_cR {a b : Rte} (ha : a.fits) (hb : b.fits) (h : cR a b < 0) : a.p.cmp b.p ≤ 0 := by
  rw [cR_eq a b ha hb] at h
  split at h <;> omega
theorem risK_lt {l : List Rte} (h : risK Rte.key l = true) : ∀ {i j : Nat}, i < j → j < l.length → cR (rteAt l i) (rteAt l j) < 0 := by
  induction l with
  | nil => intro i j _ hj; simp at hj
  | cons a t ih =>
    intro i j hij hj
    cases j with
    | zero => omega
    | succ j =>
      have hj' : j < t.length := by simpa using hj
      cases i with
      | zero => exact risK_head h _ (getD_mem hj')
      | succ i => exact ih (risK_cons h) (by omega) hj'
theorem new_eq {l : List Rte} (hf : ∀ r ∈ l, r.fits) (h : risK Rte.key l = true) {i : Nat} (hi : i < l.length) : newP l i = newF l i := by
  unfold newP newF
  cases i with
  | zero => simp
  | succ i =>
    have hfi : ∀ j, j < l.length → (rteAt l j).fits := fun j hj => hf _ (getD_mem hj)
    rw [decide_eq_false (by omega), Bool.false_or, show i + 1 - 1 = i from rfl]
    cases he : (rteAt l i).p.eqB (rteAt l (i + 1)).p with
    | true =>
      rw [eq_comm, Bool.not_true, decide_eq_false_iff_not]
      intro hh
      have := hh i (by omega)
      rw [he] at this
      cases this
    | false =>
      rw [eq_comm, Bool.not_false, decide_eq_true_iff]
      intro k hk
      rw [Bool.eq_false_iff]
      intro hke
      have e1 := (Pfx.eqB_iff _ _).1 hke
      rcases Nat.lt_or_ge k i with hki | hki
      · have h1 := cmp_of_cR (hfi k (by omega)) (hfi i (by omega)) (risK_lt h hki (by omega))
        have h2 := cmp_of_cR (hfi i (by omega)) (hfi (i + 1) hi) (risK_lt h (Nat.lt_succ_self i) hi)
        rw [e1, Pfx.cmp_neg] at h1
        have h0 : (rteAt l i).p.cmp (rteAt l (i + 1)).p = 0 := by omega
        have e2 := ((rteAt l i).p.cmp_zero _ (hfi i (by omega)) (hfi (i + 1) hi)).1 h0
        rw [(Pfx.eqB_iff _ _).2 e2] at he
        cases he
      · have : k = i := by omega
        subst this
        rw [he] at hke
        cases hke
theorem pfxs_eq {l : List Rte} (hf : ∀ r ∈ l, r.fits) (h : risK Rte.key l = true) : pfxsF l = pfxsN l := by
  unfold pfxsF pfxsN cntF cntP
  congr 1
  refine List.filter_congr fun i hi => ?_
  rw [List.mem_range] at hi
  exact (new_eq hf h hi).symm
/-- May it be a RIB? -/
def ribsB (l : List Rte) : Bool := decide (l.length ≤ 160) && l.all Rte.fit && risK Rte.key l
def ribB (l : List Rte) : Bool := ribsB l && decide (pfxsN l ≤ 40)
theorem ribsB_iff (l : List Rte) : ribsB l = true ↔ l.length ≤ 160 ∧ (∀ i, i < l.length → (rteAt l i).fit = true) ∧ ∀ i, i + 1 < l.length → cR (rteAt l i) (rteAt l (i + 1)) < 0 := by
  unfold ribsB
  rw [Bool.and_eq_true, Bool.and_eq_true, decide_eq_true_eq, risK_iff rteZ, List.all_eq_true]
  constructor
  · rintro ⟨⟨h1, h2⟩, h3⟩
    exact ⟨h1, fun i hi => h2 _ (getD_mem hi), h3⟩
  · rintro ⟨h1, h2, h3⟩
    refine ⟨⟨h1, fun r hr => ?_⟩, h3⟩
    obtain ⟨i, hi, he⟩ := mem_getD (z := rteZ) hr
    rw [← he]
    exact h2 i hi
theorem ribs_ris {l : List Rte} (h : ribsB l = true) : risK Rte.key l = true := by
  unfold ribsB at h
  rw [Bool.and_eq_true] at h
  exact h.2
/-- One update. -/
def appS (l : List Rte) (u : Upd) : Option (List Rte) := if u.g then (if thereK Rte.key l u.rte then some (dropK Rte.key l u.rte) else none) else some (setK Rte.key l u.rte)
def appL : List Rte → List Upd → Option (List Rte)
  | l, [] => some l
  | l, u :: b => match appS l u with
    | some m => appL m b
    | none => none
theorem appL_snoc : ∀ (b : List Upd) (l : List Rte) (u : Upd), appL l (b ++ [u]) = (appL l b).bind fun m => appS m u
  | [], l, u => by
    show (match appS l u with | some m => some m | none => none) = appS l u
    cases appS l u <;> rfl
  | v :: b, l, u => by
    simp only [List.cons_append, appL]
    cases h : appS l v with
    | none => rfl
    | some m => exact appL_snoc b m u
theorem appL_none {b : List Upd} {l : List Rte} {k : Nat} (h : appL l (b.take k) = none) : appL l b = none := by
  induction b generalizing l k with
  | nil => simpa using h
  | cons u b ih =>
    cases k with
    | zero => simp [appL] at h
    | succ k =>
      rw [List.take_succ_cons] at h
      simp only [appL] at h ⊢
      cases hs : appS l u with
      | none => rfl
      | some m =>
        rw [hs] at h
        exact ih h
def appN (l : List Rte) (b : List Upd) : Int := if ribB l then (if batB b then (match appL l b with | some m => if pfxsN m ≤ 40 then 0 else 6 | none => 4) else 210) else 211
def appR (l : List Rte) (b : List Upd) : List Rte := if appN l b = 0 then (appL l b).getD [] else []
/-- What stays of a list in order. -/
structure Rok (l : List Rte) : Prop where
  ok : Okr l
  ris : risK Rte.key l = true
theorem appS_rok {l m : List Rte} {u : Upd} (h : Rok l) (hu : u.ok) (hs : appS l u = some m) : Rok m := by
  unfold appS at hs
  split at hs
  · split at hs
    · injection hs with hs
      subst hs
      exact ⟨fun r hr => h.ok r (mem_dropK_of hr), risK_drop h.ris⟩
    · cases hs
  · injection hs with hs
    subst hs
    refine ⟨fun r hr => ?_, risK_set (keyZ _ _ _) h.ris⟩
    rcases (mem_setK (keyZ _ _ _) h.ris).1 hr with rfl | ⟨hm, _⟩
    · exact hu.rte
    · exact h.ok r hm
theorem appS_len {l m : List Rte} {u : Upd} (hs : appS l u = some m) : m.length ≤ l.length + 1 := by
  unfold appS at hs
  split at hs
  · split at hs
    · injection hs with hs
      subst hs
      exact Nat.le_succ_of_le (len_dropK l)
    · cases hs
  · injection hs with hs
    subst hs
    rw [len_setK]
    split <;> omega
theorem appL_rok : ∀ {b : List Upd} {l m : List Rte}, Rok l → Oku b → appL l b = some m → Rok m ∧ m.length ≤ l.length + b.length
  | [], l, m, h, _, hs => by
    injection hs with hs
    subst hs
    exact ⟨h, Nat.le_refl _⟩
  | u :: b, l, m, h, hb, hs => by
    simp only [appL] at hs
    cases hk : appS l u with
    | none => rw [hk] at hs; cases hs
    | some k =>
      rw [hk] at hs
      obtain ⟨h1, h2⟩ := appL_rok (appS_rok h (hb u (by simp)) hk) (fun v hv => hb v (by simp [hv])) hs
      have := appS_len hk
      exact ⟨h1, by simp; omega⟩
end Go.Proofs.YtnpeedmicjeleaaDoor
