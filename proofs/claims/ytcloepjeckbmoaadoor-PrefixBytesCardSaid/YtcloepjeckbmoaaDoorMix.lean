/- A region that draws its order, walked once: operations that only compute go first, loads may go in any order among themselves, what else acts stands in one forced order. Built on the library's Orders and Still. -/
import Derived.Test.YtcloepjeckbmoaaDoorLib
import Derived.Orders
import Derived.Still
namespace Go.Proofs.YtcloepjeckbmoaaDoor
set_option linter.unusedVariables false
set_option linter.unusedSimpArgs false

section
variable {P : Program} {S : World → Prop} {ops : Array Oper} {Q : Exit → Act → World → Prop} {md : Region.Mode} {cl : Nat → Nat}

/-- What an operation yields in every world of a kind. -/
def YieldsS (P : Program) (ops : Array Oper) (S : World → Prop) (o : Oper) (v : Value) (a : Act) : Prop :=
  (Region.wanted o (yielded ops a.tmps) = true ∧ ∀ w, S w → ((execOp a.eval o).run P w = .ok (.value v) w ∨
    ∃ f args, (execOp a.eval o).run P w = .ok (.enter f args) w ∧ Calls P f args w fun e w' => e = .returned v ∧ w = w')) ∨
  (Region.wanted o (yielded ops a.tmps) = false ∧ v = undef)
theorem YieldsS.wpOp {S : World → Prop} {i : Nat} {o : Oper} {v : Value} {a : Act} (hi : ops[i]? = some o) (hy : YieldsS P ops S o v a)
    {K : Act → World → Prop} {w : World} (hw0 : S w) (h : K (a.put o.dst v) w) : wpOp P ops Q i K a w := by
  unfold Go.wpOp
  simp only [hi]
  rcases hy with ⟨hw, hv⟩ | ⟨hw, rfl⟩
  · rcases hv w hw0 with hv | ⟨f, args, hv, hc⟩
    · simp only [hw, if_true, Oper.wp, hv, Oper.upon]; exact .inl h
    · simp only [hw, if_true, Oper.wp, hv, Oper.upon]
      refine .inl (hc.mono ?_)
      rintro e w' ⟨rfl, rfl⟩
      exact h
  · simp only [hw, Bool.false_eq_true, if_false]; exact h
theorem YieldsS.of_same {S : World → Prop} {o : Oper} {v : Value} {a a' : Act} (hy : YieldsS P ops S o v a) (he : execOp a'.eval o = execOp a.eval o)
    (hw : Region.wanted o (yielded ops a'.tmps) = Region.wanted o (yielded ops a.tmps)) : YieldsS P ops S o v a' := by
  unfold YieldsS at *
  rw [he, hw]
  exact hy
theorem wpOp_putS {S : World → Prop} {j : Nat} {oi oj : Oper} {v : Value} (hj : ops[j]? = some oj) (hap : oi.apart ops oj = true)
    (hsi : ∀ cs b, oi.op ≠ .select cs b) (hsj : ∀ cs b, oj.op ≠ .select cs b)
    (hQ : ∀ c a w, Q (.panic c) (a.put oi.dst v) w → Q (.panic c) a w) {K : Act → World → Prop} {a : Act} {w : World}
    (hy : YieldsS P ops S oi v a) (h : wpOp P ops Q j K (a.put oi.dst v) w) :
    wpOp P ops Q j (fun a' w' => YieldsS P ops S oi v a' ∧ K (a'.put oi.dst v) w') a w := by
  obtain ⟨h1, h2, h3⟩ := Oper.apart_spec hap
  have keep : ∀ (a : Act), YieldsS P ops S oi v a → ∀ u, YieldsS P ops S oi v (a.put oj.dst u) := fun a hy u =>
    hy.of_same (execOp_put oi hsi a oj.dst u h3) (wanted_put oi a oj.dst u h3)
  have keepD : ∀ d, YieldsS P ops S oi v { a with defers := d :: a.defers } := fun d => hy.of_same rfl rfl
  unfold wpOp at *
  simp only [hj] at *
  rw [wanted_put oj a oi.dst v h1] at h
  split
  · rename_i hw
    simp only [hw, if_true] at h
    rcases h with h | ⟨hasks, hlets⟩
    case inr => exact .inr ⟨by unfold Oper.asks at *; rw [execOp_put oj hsj a oi.dst v h1] at hasks; exact hasks, hlets⟩
    refine .inl ?_
    unfold Oper.wp at *
    rw [execOp_put oj hsj a oi.dst v h1] at h
    generalize (execOp a.eval oj).run P w = r at *
    cases r with
    | ok n w' =>
      cases n <;> simp only [Oper.upon] at h ⊢
      case value u => exact ⟨keep a hy u, by rw [← Act.put_comm a v u h2]; exact h⟩
      case skip => exact ⟨keep a hy _, by rw [← Act.put_comm a v undef h2]; exact h⟩
      case defer d =>
        refine ⟨keep _ (keepD d) _, ?_⟩
        rw [← Act.put_comm _ v undef h2, ← Act.put_defers]
        exact h
      case enter f args =>
        refine Calls.mono h fun e w'' he => ?_
        cases e with
        | returned u => exact ⟨keep a hy u, by rw [← Act.put_comm a v u h2]; exact he⟩
        | panicked c => exact hQ _ _ _ he
        | outgrown => exact he
      case row row args => exact Rows.mono h fun u w'' he => ⟨keep a hy u, by rw [← Act.put_comm a v u h2]; exact he⟩
    | halt x w' =>
      cases x <;> simp only [Oper.upon] at h ⊢
      case panic u => exact hQ _ _ _ h
  · rename_i hw
    simp only [hw] at h
    exact ⟨keep a hy _, by rw [← Act.put_comm a v undef h2]; exact h⟩

/-- One operation, by its class: 0 it computes, whatever the world; 1 it reads; 2 it acts. -/
def mOp (P : Program) (S : World → Prop) (ops : Array Oper) (Q : Exit → Act → World → Prop) (cl : Nat → Nat) (i : Nat) (K : Act → World → Prop) (a : Act) (w : World) : Prop :=
  match ops[i]? with
  | none => K a w
  | some o => match cl i with
    | 0 => ∃ v, YieldsS P ops S o v a ∧ K (a.put o.dst v) w
    | 1 => ∃ v, YieldsAt P ops w o v a ∧ K (a.put o.dst v) w
    | _ => wpOp P ops Q i (fun a' w' => S w' ∧ K a' w') a w
def wpM (P : Program) (S : World → Prop) (md : Region.Mode) (ops : Array Oper) (Q : Exit → Act → World → Prop) (cl : Nat → Nat) : Nat → Array Bool → Act → World → Prop
  | 0, listed, a, w => Region.ready md ops listed = [] ∧ Q .normal a w
  | fuel + 1, listed, a, w =>
    (Region.ready md ops listed = [] → Q .normal a w) ∧
    ∀ i ∈ Region.ready md ops listed, mOp P S ops Q cl i (wpM P S md ops Q cl fuel (listed.setIfInBounds i true)) a w
theorem yieldsAt_wpOp {i : Nat} {o : Oper} {v : Value} {a : Act} {w : World} (hi : ops[i]? = some o) (hy : YieldsAt P ops w o v a) {K : Act → World → Prop} (h : K (a.put o.dst v) w) : wpOp P ops Q i K a w :=
  wpOp_of_stOp (K := fun a' => K a' w) (fun _ h => h) (hy.stOp hi h)
theorem wpOp_of_mOp {i : Nat} {K : Act → World → Prop} {a : Act} {w : World} (hs : S w) (h : mOp P S ops Q cl i K a w) : wpOp P ops Q i (fun a' w' => S w' ∧ K a' w') a w := by
  unfold mOp at h
  cases hi : ops[i]? with
  | none => rw [hi] at h; unfold wpOp; rw [hi]; exact ⟨hs, h⟩
  | some o =>
    rw [hi] at h
    simp only at h
    split at h
    · obtain ⟨v, hy, hk⟩ := h; exact hy.wpOp hi hs ⟨hs, hk⟩
    · obtain ⟨v, hy, hk⟩ := h; exact yieldsAt_wpOp hi hy ⟨hs, hk⟩
    · exact h
theorem wpAny_of_wpM : ∀ (fuel : Nat) (listed : Array Bool) (a : Act) (w : World), S w → wpM P S md ops Q cl fuel listed a w → wpAny P md ops Q fuel listed a w
  | 0, _, _, _, _, h => h
  | fuel + 1, _, _, _, hs, h => ⟨h.1, fun i hi => wpOp_mono (fun a' w' h' => wpAny_of_wpM fuel _ a' w' h'.1 h'.2) (wpOp_of_mOp hs (h.2 i hi))⟩

theorem mOp_mono {i : Nat} {K K' : Act → World → Prop} {a : Act} {w : World} (hk : ∀ a w, K a w → K' a w) (h : mOp P S ops Q cl i K a w) : mOp P S ops Q cl i K' a w := by
  unfold mOp at *
  cases hi : ops[i]? with
  | none => rw [hi] at h; exact hk _ _ h
  | some o =>
    rw [hi] at h
    simp only at h ⊢
    split at h
    · obtain ⟨v, hy, h1⟩ := h; exact ⟨v, hy, hk _ _ h1⟩
    · obtain ⟨v, hy, h1⟩ := h; exact ⟨v, hy, hk _ _ h1⟩
    · exact wpOp_mono (fun a w h => ⟨h.1, hk _ _ h.2⟩) h

/-- What is listed has all listed that it waits for. -/
def Closed (md : Region.Mode) (ops : Array Oper) (listed : Array Bool) : Prop :=
  ∀ j oj, ops[j]? = some oj → listed.getD j false = true → ∀ e ∈ oj.after, Region.binds md e = true → listed.getD e.on false = true
theorem Closed.start (n : Nat) : Closed md ops (Array.replicate n false) := by
  intro j oj _ h
  rcases Nat.lt_or_ge j n with h' | h'
  · simp [h'] at h
  · simp [Array.getElem?_eq_none (show (Array.replicate n false).size ≤ j by simpa using h')] at h
theorem Closed.set {listed : Array Bool} {i : Nat} (h : Closed md ops listed) (hi : i ∈ Region.ready md ops listed) : Closed md ops (listed.setIfInBounds i true) := by
  obtain ⟨_, oi, hoi, hall⟩ := mem_ready.1 hi
  intro j oj hj hl e he hb
  by_cases hij : i = j
  · subst hij
    obtain rfl : oj = oi := Option.some.inj (hj.symm.trans hoi)
    exact getD_set_true (hall e he hb)
  · rw [getD_set_ne false hij] at hl
    exact getD_set_true (h j oj hj hl e he hb)
/-- i stands ahead of j, by whatever way. -/
def reach (md : Region.Mode) (ops : Array Oper) (i : Nat) : Nat → Nat → Bool
  | 0, _ => false
  | n + 1, j => match ops[j]? with
    | some oj => oj.after.any fun e => Region.binds md e && (e.on == i || reach md ops i n e.on)
    | none => false
theorem reach_spec {listed : Array Bool} {i : Nat} (hc : Closed md ops listed) : ∀ (n j : Nat) (oj : Oper), ops[j]? = some oj → (∀ e ∈ oj.after, Region.binds md e = true → listed.getD e.on false = true) →
    reach md ops i n j = true → listed.getD i false = true
  | 0, _, _, _, _, h => by simp [reach] at h
  | n + 1, j, oj, hj, hall, h => by
    simp only [reach, hj] at h
    obtain ⟨e, he, h1⟩ := Array.any_eq_true'.1 h
    simp only [Bool.and_eq_true, Bool.or_eq_true, beq_iff_eq] at h1
    have hl := hall e he h1.1
    rcases h1.2 with h2 | h2
    · rw [← h2]; exact hl
    · cases ho : ops[e.on]? with
      | none =>
        cases n with
        | zero => simp [reach] at h2
        | succ n => simp [reach, ho] at h2
      | some oe => exact reach_spec hc n e.on oe ho (hc e.on oe ho hl) h2

theorem listed_not {listed : Array Bool} {i : Nat} (h0 : listed.getD i true = false) (h1 : listed.getD i false = true) : False := by
  rcases Nat.lt_or_ge i listed.size with h' | h'
  · simp [h'] at h0 h1; rw [h0] at h1; cases h1
  · simp [Array.getElem?_eq_none h'] at h1

theorem wpM_first0 {i : Nat} {oi : Oper} {v : Value} (hi : ops[i]? = some oi) (hci : cl i = 0) (hsel : ∀ (j : Nat) (o : Oper) cs b, ops[j]? = some o → o.op ≠ .select cs b)
    (hQ : ∀ c a w, Q (.panic c) (a.put oi.dst v) w → Q (.panic c) a w) :
    ∀ (fuel : Nat) (listed : Array Bool) (a : Act) (w : World),
      (∀ j oj, ops[j]? = some oj → j ≠ i → listed.getD j true = false → (∀ e ∈ oj.after, Region.binds md e = true → e.on ≠ i) → oi.apart ops oj = true) →
      i ∈ Region.ready md ops listed → YieldsS P ops S oi v a →
      wpM P S md ops Q cl fuel (listed.setIfInBounds i true) (a.put oi.dst v) w → wpM P S md ops Q cl (fuel + 1) listed a w := by
  intro fuel
  induction fuel with
  | zero =>
    intro listed a w _ hr hy H
    refine ⟨fun h => (by rw [h] at hr; cases hr), fun j hj => ?_⟩
    by_cases hji : j = i
    · subst hji; unfold mOp; rw [hi]; simp only [hci]; exact ⟨v, hy, H⟩
    · have := ready_mono hj hji
      rw [H.1] at this
      cases this
  | succ fuel ih =>
    intro listed a w hfree hr hy H
    refine ⟨fun h => (by rw [h] at hr; cases hr), fun j hj => ?_⟩
    by_cases hji : j = i
    · subst hji; unfold mOp; rw [hi]; simp only [hci]; exact ⟨v, hy, H⟩
    · have h1 := H.2 j (ready_mono hj hji)
      obtain ⟨hjun, oj, hoj, hall⟩ := mem_ready.1 hj
      have hnot : ∀ e ∈ oj.after, Region.binds md e = true → e.on ≠ i := fun e he hb heq => by
        have h1 := hall e he hb
        rw [heq] at h1
        exact listed_not (mem_ready.1 hr).1 h1
      have hap := hfree j oj hoj hji hjun hnot
      obtain ⟨p1, p2, p3⟩ := Oper.apart_spec hap
      have hfree' : ∀ k ok, ops[k]? = some ok → k ≠ i → (listed.setIfInBounds j true).getD k true = false →
          (∀ e ∈ ok.after, Region.binds md e = true → e.on ≠ i) → oi.apart ops ok = true := fun k ok hk hki hun hno => by
        refine hfree k ok hk hki ?_ hno
        by_cases hjk : j = k
        · subst hjk; exact hjun
        · rw [getD_set_ne true hjk] at hun; exact hun
      have next : ∀ (a' : Act) (w' : World), YieldsS P ops S oi v a' → wpM P S md ops Q cl fuel ((listed.setIfInBounds i true).setIfInBounds j true) (a'.put oi.dst v) w' → wpM P S md ops Q cl (fuel + 1) (listed.setIfInBounds j true) a' w' := fun a' w' hy' h' =>
        ih (listed.setIfInBounds j true) a' w' hfree' (ready_mono hr (Ne.symm hji)) hy' (by rw [Array.setIfInBounds_comm _ _ hji]; exact h')
      have keep : ∀ u, YieldsS P ops S oi v (a.put oj.dst u) := fun u =>
        hy.of_same (execOp_put oi (fun cs b => hsel i oi cs b hi) a oj.dst u p3) (wanted_put oi a oj.dst u p3)
      unfold mOp at h1 ⊢
      rw [hoj] at h1 ⊢
      simp only at h1 ⊢
      split at h1
      · rename_i hc
        obtain ⟨u, hyu, hk⟩ := h1
        refine ⟨u, hyu.of_same (execOp_put oj (fun cs b => hsel j oj cs b hoj) a oi.dst v p1).symm (wanted_put oj a oi.dst v p1).symm, next _ _ (keep u) ?_⟩
        rw [← Act.put_comm a v u p2]
        exact hk
      · rename_i hc
        obtain ⟨u, hyu, hk⟩ := h1
        refine ⟨u, hyu.of_same (execOp_put oj (fun cs b => hsel j oj cs b hoj) a oi.dst v p1).symm (wanted_put oj a oi.dst v p1).symm, next _ _ (keep u) ?_⟩
        rw [← Act.put_comm a v u p2]
        exact hk
      · exact wpOp_mono (fun a' w' h3 => ⟨h3.2.1, next a' w' h3.1 h3.2.2⟩) (wpOp_putS hoj hap (fun cs b => hsel i oi cs b hi) (fun cs b => hsel j oj cs b hoj) hQ hy h1)

theorem wpM_first1 {i N : Nat} {oi : Oper} {v : Value} {w : World} (hi : ops[i]? = some oi) (hci : cl i = 1) (hsel : ∀ (j : Nat) (o : Oper) cs b, ops[j]? = some o → o.op ≠ .select cs b) :
    ∀ (fuel : Nat) (listed : Array Bool) (a : Act), Closed md ops listed →
      (∀ j oj, ops[j]? = some oj → listed.getD j true = false → cl j = 0 ∨ cl j = 1 ∨ reach md ops i N j = true) →
      (∀ j oj, ops[j]? = some oj → j ≠ i → listed.getD j true = false → (∀ e ∈ oj.after, Region.binds md e = true → e.on ≠ i) → oi.apart ops oj = true) →
      i ∈ Region.ready md ops listed → YieldsAt P ops w oi v a →
      wpM P S md ops Q cl fuel (listed.setIfInBounds i true) (a.put oi.dst v) w → wpM P S md ops Q cl (fuel + 1) listed a w := by
  intro fuel
  induction fuel with
  | zero =>
    intro listed a _ _ _ hr hy H
    refine ⟨fun h => (by rw [h] at hr; cases hr), fun j hj => ?_⟩
    by_cases hji : j = i
    · subst hji; unfold mOp; rw [hi]; simp only [hci]; exact ⟨v, hy, H⟩
    · have := ready_mono hj hji
      rw [H.1] at this
      cases this
  | succ fuel ih =>
    intro listed a hcl hblock hfree hr hy H
    refine ⟨fun h => (by rw [h] at hr; cases hr), fun j hj => ?_⟩
    by_cases hji : j = i
    · subst hji; unfold mOp; rw [hi]; simp only [hci]; exact ⟨v, hy, H⟩
    · have h1 := H.2 j (ready_mono hj hji)
      obtain ⟨hjun, oj, hoj, hall⟩ := mem_ready.1 hj
      have hnot : ∀ e ∈ oj.after, Region.binds md e = true → e.on ≠ i := fun e he hb heq => by
        have h1 := hall e he hb
        rw [heq] at h1
        exact listed_not (mem_ready.1 hr).1 h1
      have hap := hfree j oj hoj hji hjun hnot
      obtain ⟨p1, p2, p3⟩ := Oper.apart_spec hap
      have hmono : ∀ k, (listed.setIfInBounds j true).getD k true = false → listed.getD k true = false := fun k hun => by
        by_cases hjk : j = k
        · subst hjk; exact hjun
        · rw [getD_set_ne true hjk] at hun; exact hun
      have next : ∀ (a' : Act), YieldsAt P ops w oi v a' → wpM P S md ops Q cl fuel ((listed.setIfInBounds i true).setIfInBounds j true) (a'.put oi.dst v) w → wpM P S md ops Q cl (fuel + 1) (listed.setIfInBounds j true) a' w := fun a' hy' h' =>
        ih (listed.setIfInBounds j true) a' (hcl.set hj) (fun k ok hk hun => hblock k ok hk (hmono k hun)) (fun k ok hk hki hun hno => hfree k ok hk hki (hmono k hun) hno) (ready_mono hr (Ne.symm hji)) hy' (by rw [Array.setIfInBounds_comm _ _ hji]; exact h')
      have keep : ∀ u, YieldsAt P ops w oi v (a.put oj.dst u) := fun u =>
        hy.of_same (execOp_put oi (fun cs b => hsel i oi cs b hi) a oj.dst u p3) (wanted_put oi a oj.dst u p3)
      unfold mOp at h1 ⊢
      rw [hoj] at h1 ⊢
      simp only at h1 ⊢
      rcases hblock j oj hoj hjun with hc | hc | hc
      · rw [hc] at h1 ⊢
        obtain ⟨u, hyu, hk⟩ := h1
        refine ⟨u, hyu.of_same (execOp_put oj (fun cs b => hsel j oj cs b hoj) a oi.dst v p1).symm (wanted_put oj a oi.dst v p1).symm, next _ (keep u) ?_⟩
        rw [← Act.put_comm a v u p2]
        exact hk
      · rw [hc] at h1 ⊢
        obtain ⟨u, hyu, hk⟩ := h1
        refine ⟨u, hyu.of_same (execOp_put oj (fun cs b => hsel j oj cs b hoj) a oi.dst v p1).symm (wanted_put oj a oi.dst v p1).symm, next _ (keep u) ?_⟩
        rw [← Act.put_comm a v u p2]
        exact hk
      · exact (listed_not (mem_ready.1 hr).1 (reach_spec hcl N j oj hoj hall hc)).elim

theorem wpM_only {i fuel : Nat} {listed : Array Bool} {a : Act} {w : World} (hr : Region.ready md ops listed = [i])
    (H : mOp P S ops Q cl i (wpM P S md ops Q cl fuel (listed.setIfInBounds i true)) a w) : wpM P S md ops Q cl (fuel + 1) listed a w := by
  refine ⟨fun h => (by rw [h] at hr; cases hr), fun j hj => ?_⟩
  rw [hr, List.mem_singleton] at hj
  subst hj
  exact H

/-- The operations in the order that is told. -/
def wpO (P : Program) (S : World → Prop) (ops : Array Oper) (Q : Exit → Act → World → Prop) (cl : Nat → Nat) : List Nat → Act → World → Prop
  | [], a, w => Q .normal a w
  | i :: l, a, w => mOp P S ops Q cl i (wpO P S ops Q cl l) a w
def ordB (md : Region.Mode) (ops : Array Oper) (cl : Nat → Nat) : List Nat → Array Bool → Bool
  | [], listed => (Region.ready md ops listed).isEmpty
  | i :: l, listed => (match cl i with
    | 0 => (Region.ready md ops listed).contains i && Region.free md ops listed i
    | 1 => (Region.ready md ops listed).contains i && Region.free md ops listed i && (List.range ops.size).all fun j => listed.getD j true || cl j == 0 || cl j == 1 || reach md ops i ops.size j
    | _ => Region.ready md ops listed == [i]) && ordB md ops cl l (listed.setIfInBounds i true)
theorem wpM_of_wpO (hs : Region.noSelect ops = true) (hQ : ∀ c dst v a w, Q (.panic c) (a.put dst v) w → Q (.panic c) a w) : ∀ (l : List Nat) (listed : Array Bool) (a : Act) (w : World), Closed md ops listed →
    ordB md ops cl l listed = true → wpO P S ops Q cl l a w → wpM P S md ops Q cl l.length listed a w
  | [], _, _, _, _, hB, h => ⟨by simpa [ordB] using hB, h⟩
  | i :: l, listed, a, w, hcl, hB, h => by
    simp only [ordB, Bool.and_eq_true] at hB
    obtain ⟨hB1, hB2⟩ := hB
    simp only [wpO] at h
    have h0 := h
    unfold mOp at h
    split at hB1
    · rename_i hc
      simp only [Bool.and_eq_true, List.contains_iff_mem] at hB1
      obtain ⟨_, oi, hoi, _⟩ := mem_ready.1 hB1.1
      rw [hoi] at h
      simp only [hc] at h
      obtain ⟨v, hy, hk⟩ := h
      exact wpM_first0 hoi hc (Region.noSelect_spec hs) (fun c a w => hQ c oi.dst v a w) l.length listed a w (Region.free_spec hoi hB1.2) hB1.1 hy (wpM_of_wpO hs hQ l _ _ w (hcl.set hB1.1) hB2 hk)
    · rename_i hc
      simp only [Bool.and_eq_true, List.contains_iff_mem, List.all_eq_true, List.mem_range, Bool.or_eq_true, beq_iff_eq] at hB1
      obtain ⟨_, oi, hoi, _⟩ := mem_ready.1 hB1.1.1
      rw [hoi] at h
      simp only [hc] at h
      obtain ⟨v, hy, hk⟩ := h
      refine wpM_first1 (N := ops.size) hoi hc (Region.noSelect_spec hs) l.length listed a hcl (fun j oj hj hun => ?_) (Region.free_spec hoi hB1.1.2) hB1.1.1 hy (wpM_of_wpO hs hQ l _ _ w (hcl.set hB1.1.1) hB2 hk)
      have := hB1.2 j (Array.getElem?_eq_some_iff.1 hj).1
      rw [hun] at this
      simpa [or_assoc] using this
    · simp only [beq_iff_eq] at hB1
      have hr : i ∈ Region.ready md ops listed := by rw [hB1]; exact List.mem_singleton.2 rfl
      exact wpM_only hB1 (mOp_mono (fun a' w' h' => wpM_of_wpO hs hQ l _ a' w' (hcl.set hr) hB2 h') h0)
end

def onlyNormal (K : Act → World → Prop) : Exit → Act → World → Prop
  | .normal, a, w => K a w
  | _, _, _ => False
def clOf (l : List (Nat × Nat)) (i : Nat) : Nat := ((l.find? fun p => p.1 == i).map (·.2)).getD 2
theorem wp_region_mix {P : Program} (S : World → Prop) {ops : Array Oper} {id : Nat} {Q : Exit → Act → World → Prop} {a : Act} {w : World} (l : List (Nat × Nat)) (hm : P.follows .mixedOrders = true)
    (hB : (Region.noSelect ops && decide (l.length = ops.size) && ordB .any ops (clOf l) (l.map (·.1)) (Array.replicate ops.size false)) = true)
    (hS : S w.drew) (h : wpO P S ops (onlyNormal (Q .normal)) (clOf l) (l.map (·.1)) a w.drew) : (Code.region id ops true).wp P Q a w := by
  simp only [Bool.and_eq_true, decide_eq_true_eq] at hB
  refine wp_mono (Q := onlyNormal (Q .normal)) (wp_region_any hm (wpAny_of_wpM (S := S) (cl := clOf l) _ _ _ _ hS ?_)) (fun e a w hq => ?_)
  · have := wpM_of_wpO (P := P) (S := S) (md := .any) (Q := onlyNormal (Q .normal)) (cl := clOf l) hB.1.1 (fun c dst v a w h => h) (l.map (·.1)) (Array.replicate ops.size false) a w.drew (Closed.start _) hB.2 h
    rw [List.length_map, hB.1.2] at this
    exact this
  · cases e <;> first | exact hq | exact hq.elim

section
variable {P : Program} {S : World → Prop} {ops : Array Oper} {Q : Exit → Act → World → Prop} {cl : Nat → Nat} {i : Nat} {l : List Nat} {o : Oper} {a : Act} {w : World}
theorem wpO_step0 (ho : ops[i]? = some o) (hc : cl i = 0) (h : ∀ K : Act → World → Prop, (∀ a w, wpO P S ops Q cl l a w → K a w) →
    if Region.wanted o (yielded ops a.tmps) then ∃ v, (∀ w0, (execOp a.eval o).run P w0 = .ok (.value v) w0) ∧ K (a.put o.dst v) w else K (a.put o.dst undef) w) : wpO P S ops Q cl (i :: l) a w := by
  have h1 := h _ (fun _ _ h => h)
  simp only [wpO, mOp, ho, hc]
  split at h1
  · rename_i hw
    obtain ⟨v, hv, hk⟩ := h1
    exact ⟨v, .inl ⟨hw, fun w0 _ => .inl (hv w0)⟩, hk⟩
  · rename_i hw
    exact ⟨undef, .inr ⟨by simpa using hw, rfl⟩, h1⟩
theorem wpO_step1 (ho : ops[i]? = some o) (hc : cl i = 1) (h : ∀ K : Act → World → Prop, (∀ a w, wpO P S ops Q cl l a w → K a w) →
    if Region.wanted o (yielded ops a.tmps) then ∃ v, (execOp a.eval o).run P w = .ok (.value v) w ∧ K (a.put o.dst v) w else K (a.put o.dst undef) w) : wpO P S ops Q cl (i :: l) a w := by
  have h1 := h _ (fun _ _ h => h)
  simp only [wpO, mOp, ho, hc]
  split at h1
  · rename_i hw
    obtain ⟨v, hv, hk⟩ := h1
    exact ⟨v, .inl ⟨hw, .inl hv⟩, hk⟩
  · rename_i hw
    exact ⟨undef, .inr ⟨by simpa using hw, rfl⟩, h1⟩
/-- A load whose cell holds the same in every world of the kind. -/
theorem wpO_load (ho : ops[i]? = some o) (hc : cl i = 0) (hg : o.guard = none) {t : TypeId} {x : Operand} (hop : o.op = .load t x) {ad : Addr} {v : Value} (hx : a.eval x = .pointer (some ad))
    (hrun : ∀ w0, S w0 → (Instr.loadAt t (.pointer (some ad))).run P w0 = .ok v w0) (h : wpO P S ops Q cl l (a.put o.dst v) w) : wpO P S ops Q cl (i :: l) a w := by
  simp only [wpO, mOp, ho, hc]
  refine ⟨v, .inl ⟨by simp [Region.wanted, hg], fun w0 hs => .inl ?_⟩, h⟩
  unfold execOp
  simp only [hop, hx, Sem.run_bind, hrun w0 hs, Result.andThen_ok, Sem.run_pure]
/-- The same where it bears a guard that lets it. -/
theorem wpO_loadW (ho : ops[i]? = some o) (hc : cl i = 0) (hg : Region.wanted o (yielded ops a.tmps) = true) {t : TypeId} {x : Operand} (hop : o.op = .load t x) {ad : Addr} {v : Value} (hx : a.eval x = .pointer (some ad))
    (hrun : ∀ w0, S w0 → (Instr.loadAt t (.pointer (some ad))).run P w0 = .ok v w0) (h : wpO P S ops Q cl l (a.put o.dst v) w) : wpO P S ops Q cl (i :: l) a w := by
  simp only [wpO, mOp, ho, hc]
  refine ⟨v, .inl ⟨hg, fun w0 hs => .inl ?_⟩, h⟩
  unfold execOp
  simp only [hop, hx, Sem.run_bind, hrun w0 hs, Result.andThen_ok, Sem.run_pure]
/-- A call that leaves the world as it is, and answers the same in every world of the kind. -/
theorem wpO_quiet (ho : ops[i]? = some o) (hc : cl i = 0) (hg : Region.wanted o (yielded ops a.tmps) = true) {f : FuncId} {fn : Func} {xs : Array Operand} {ts : Array TypeId} {vs : Array Value} {v : Value} (hf : P.funcs[f]? = some fn)
    (hn : (fn.name == "runtime.NumGoroutine") = false) (hb : fn.body.isNone = false) (hop : o.op = .call { callee := .value (.func f), args := xs, argTypes := ts }) (hvs : xs.toList.map a.eval = vs.toList)
    (hcall : ∀ w0, S w0 → Calls P f vs w0 fun e w' => e = .returned v ∧ w0 = w') (h : wpO P S ops Q cl l (a.put o.dst v) w) : wpO P S ops Q cl (i :: l) a w := by
  simp only [wpO, mOp, ho, hc]
  refine ⟨v, .inl ⟨hg, fun w0 hs => .inr ⟨f, vs, ?_, hcall w0 hs⟩⟩, h⟩
  have hv : xs.map a.eval = vs := by
    apply Array.toList_inj.1
    rw [Array.toList_map]
    exact hvs
  have h1 : fn.name ≠ "runtime.NumGoroutine" := by simpa using hn
  have he : (callFunc f vs).run P w0 = .ok (.enter f vs) w0 := by
    cases hbd : fn.body with
    | none => rw [hbd] at hb; cases hb
    | some c => simp [callFunc, hf, h1, hbd]
  have hd : (resolve a.eval { callee := .value (.func f), args := xs, argTypes := ts } o.type).run P w0 = .ok { target := .fn (.func f) #[], args := vs } w0 := by
    simp [resolve, hv, Deferred.ofValue, Act.eval]
  unfold execOp
  simp only [hop, Sem.run_bind, hd, Result.andThen_ok, invoke]
  simpa using he
theorem wpO_step2 (ho : ops[i]? = some o) (hc : cl i = 2) (hS : S w) (h : ∀ K : Act → World → Prop, (∀ a w, S w ∧ wpO P S ops Q cl l a w → K a w) →
    if Region.wanted o (yielded ops a.tmps) then o.wp P a w K Q else K (a.put o.dst undef) w) : wpO P S ops Q cl (i :: l) a w := by
  have h1 := h _ (fun _ _ h => h)
  simp only [wpO, mOp, ho, hc]
  unfold wpOp
  rw [ho]
  simp only
  split at h1
  · rename_i hw
    rw [if_pos hw]
    exact .inl h1
  · rename_i hw
    rw [if_neg hw]
    exact h1
theorem wpO_nil {K : Act → World → Prop} (h : K a w) : wpO P S ops (onlyNormal K) cl [] a w := h
end

open Go.RowKit in
theorem below_drew1 (w : World) : Below w.heap.size w w.drew := ⟨rfl, rfl, rfl, Nat.le_refl _, fun _ _ => rfl⟩

end Go.Proofs.YtcloepjeckbmoaaDoor
