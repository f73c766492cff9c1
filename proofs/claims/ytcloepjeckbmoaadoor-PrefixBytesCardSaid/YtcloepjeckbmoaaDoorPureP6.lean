/- Plain laws of layer 5, sixth part: there and back. -/
import Derived.Test.YtcloepjeckbmoaaDoorPureP5
namespace Go.Proofs.YtcloepjeckbmoaaDoor
set_option linter.unusedVariables false
set_option linter.unusedSimpArgs false

def encP (p : Pfx) : List Int := p.v % 256 :: p.b % 256 :: p.l.take (fullB p.b)
theorem rd_0 (a : Int) (l : List Int) : rd (a :: l) 0 = a := rfl
theorem rd_1 (a b : Int) (l : List Int) : rd (a :: b :: l) 1 = b := rfl
theorem right_v {p : Pfx} (h : p.right = true) : p.v = 4 ∨ p.v = 6 := by
  have h1 := ((rightA_iff _ _).1 ((p.right_iff).1 h).1).1
  unfold widthA at h1
  split at h1
  · rename_i h2; exact .inl h2
  · split at h1
    · rename_i h2; exact .inr h2
    · exact absurd rfl h1
theorem right_b {p : Pfx} (h : p.right = true) : ∃ b : Nat, p.b = b ∧ b ≤ widthA p.v ∧ b ≤ 128 := by
  obtain ⟨h1, h2, h3, h4⟩ := (p.right_iff).1 h
  have := widthA_le p.v
  exact ⟨p.b.toNat, by omega, by omega, by omega⟩
/-- The bytes behind those that stay are nought. -/
theorem right_pad {p : Pfx} (hp : B16 p.l) (h : p.right = true) : pad (p.l.take (fullB p.b)) = p.l := by
  obtain ⟨b, hb, hw, h128⟩ := right_b h
  have hz := ((p.right_iff).1 h).2.2.2
  rw [hb]
  have hf := fullB_le h128
  have hl : (p.l.take (fullB b)).length = fullB b := by rw [List.length_take, hp.len]; omega
  refine ext16 (pad_16 (by omega) (hp.rng.take _)) hp (fun i hi => ?_)
  obtain ⟨q, r, rfl, hr⟩ : ∃ q r, i = 8 * q + r ∧ r < 8 := ⟨i / 8, i % 8, by omega, by omega⟩
  rw [bitA_mk _ _ _ hr, bitA_mk _ _ _ hr, rd_pad, hl]
  by_cases hq : q < fullB b
  · rw [if_pos hq, rd_take, if_pos hq]
  · rw [if_neg hq]
    have := hz (8 * q + r) (by rw [hb]; unfold fullB at hq; omega) hi
    rw [bitA_mk _ _ _ hr] at this
    rw [this]
    simp
theorem encP_len {p : Pfx} (hp : B16 p.l) (h : p.right = true) : (encP p).length = 2 + fullB p.b := by
  obtain ⟨b, hb, hw, h128⟩ := right_b h
  have hf := fullB_le h128
  simp [encP, hp.len, hb]
  omega
/-- What was encoded is decoded, whatever stands behind. -/
theorem dec_enc {p : Pfx} (hp : B16 p.l) (h : p.right = true) (raw : List Int) : decPE (encP p ++ raw) = 0 ∧ decP (encP p ++ raw) = p ∧ decPN (encP p ++ raw) = (encP p).length := by
  obtain ⟨b, hb, hw, h128⟩ := right_b h
  have hf := fullB_le h128
  have hv := right_v h
  have hpad := right_pad hp h
  have hz := ((p.right_iff).1 h).2.2.2
  have h256 : p.v % 256 = p.v := by rcases hv with h | h <;> rw [h] <;> rfl
  have hb256 : p.b % 256 = p.b := by omega
  have e : encP p ++ raw = p.v :: p.b :: (p.l.take (fullB p.b) ++ raw) := by unfold encP; rw [h256, hb256]; rfl
  have hw0 : widthA p.v ≠ 0 := by rcases hv with h | h <;> rw [h] <;> decide
  have hver : verE (p.v :: p.b :: (p.l.take (fullB p.b) ++ raw)) 151 = 0 := by
    rw [verE_cons (by simp), rd_0, if_neg hw0]
  have hl : (p.l.take (fullB p.b)).length = fullB p.b := by rw [List.length_take, hp.len, hb]; omega
  have htk : (p.l.take (fullB p.b) ++ raw).take (fullB p.b) = p.l.take (fullB p.b) := List.take_left' hl
  have hse : someE (p.l.take (fullB p.b) ++ raw) b 151 = 0 := by
    refine some_ok (by rw [List.length_append, hl, hb]; omega) ?_
    rw [← hb, htk, hpad, clearA_iff]
    intro i h1 h2
    exact hz i (by omega) h2
  have hpe : decPE (p.v :: p.b :: (p.l.take (fullB p.b) ++ raw)) = 0 := by
    unfold decPE
    rw [if_neg (by rw [hver]; simp), if_neg (by simp), rd_0, rd_1, if_neg (by omega), hb, Int.toNat_natCast, ← hb]
    exact hse
  rw [e]
  refine ⟨hpe, ?_, ?_⟩
  · unfold decP
    rw [if_pos hpe, rd_0, rd_1]
    show Pfx.mk p.v (pad ((p.l.take (fullB p.b) ++ raw).take (fullB p.b))) p.b = p
    rw [htk, hpad]
  · unfold decPN
    rw [if_pos hpe, rd_1, encP_len hp h]
    omega
/-- Of each beginning it is too short. -/
theorem dec_cut {p : Pfx} (hp : B16 p.l) (h : p.right = true) (k : Nat) (hk : k < (encP p).length) : decPE ((encP p).take k) = 7 := by
  obtain ⟨b, hb, hw, h128⟩ := right_b h
  have hf := fullB_le h128
  have hv := right_v h
  have h256 : p.v % 256 = p.v := by rcases hv with h | h <;> rw [h] <;> rfl
  have hb256 : p.b % 256 = p.b := by omega
  have e : encP p = p.v :: p.b :: (p.l.take (fullB p.b)) := by unfold encP; rw [h256, hb256]
  have hw0 : widthA p.v ≠ 0 := by rcases hv with h | h <;> rw [h] <;> decide
  rw [encP_len hp h, hb] at hk
  rw [e]
  match k with
  | 0 => rfl
  | 1 =>
    have hver : verE [p.v] 151 = 0 := by
      rw [verE_cons (by simp), rd_0, if_neg hw0]
    show decPE [p.v] = 7
    unfold decPE
    rw [if_neg (by rw [hver]; simp), if_pos (by simp)]
  | j + 2 =>
    show decPE (p.v :: p.b :: ((p.l.take (fullB p.b)).take j)) = 7
    have hver : verE (p.v :: p.b :: ((p.l.take (fullB p.b)).take j)) 151 = 0 := by
      rw [verE_cons (by simp), rd_0, if_neg hw0]
    unfold decPE
    rw [if_neg (by rw [hver]; simp), if_neg (by simp), rd_0, rd_1, if_neg (by omega), hb, Int.toNat_natCast]
    refine some_short ?_
    show ((p.l.take (fullB b)).take j).length < fullB b
    rw [List.length_take, List.length_take]
    omega
/-- What is decoded is encoded into the same bytes. -/
theorem enc_dec {xs : List Int} (hx : Bytes xs) (h : decPE xs = 0) : (decP xs).right = true ∧ B16 (decP xs).l ∧ ∃ n : Nat, decPN xs = n ∧ n ≤ xs.length ∧ encP (decP xs) = xs.take n := by
  have h0 := h
  unfold decPE at h
  split at h
  · rename_i hv; exact absurd h hv
  · rename_i hv
    split at h
    · cases h
    · rename_i h2
      split at h
      · cases h
      · rename_i hw
        have hv' : verE xs 151 = 0 := by simpa using hv
        have hr0 := hx.getD 0
        have hr1 := hx.getD 1
        have e0 : rd xs 0 = xs.getD 0 0 := rfl
        have e1 : rd xs 1 = xs.getD 1 0 := rfl
        obtain ⟨b, hb⟩ := Int.eq_ofNat_of_zero_le (show 0 ≤ rd xs 1 by rw [e1]; exact hr1.1)
        rw [hb, Int.toNat_natCast] at h
        have hwl := widthA_le (rd xs 0)
        have hbw : b ≤ widthA (rd xs 0) := by omega
        have hf := fullB_le (bits := b) (by omega)
        have hlen : fullB b ≤ (xs.drop 2).length := by
          rcases Nat.lt_or_ge (xs.drop 2).length (fullB b) with hh | hh
          · rw [some_short hh] at h; cases h
          · exact hh
        have hcl : clearA (pad ((xs.drop 2).take (fullB b))) b = true := by
          cases hc : clearA (pad ((xs.drop 2).take (fullB b))) b
          · rw [some_wrong hlen hc] at h; cases h
          · rfl
        have hdp : decP xs = ⟨rd xs 0, pad ((xs.drop 2).take (fullB b)), b⟩ := by unfold decP; rw [if_pos h0, hb]
        have hdn : decPN xs = ((2 + fullB b : Nat) : Int) := by unfold decPN; rw [if_pos h0, hb]; omega
        have h16 : B16 (pad ((xs.drop 2).take (fullB b))) := pad_16 (by rw [List.length_take]; omega) ((hx.drop 2).take _)
        rw [List.length_drop] at hlen
        have hw0 : widthA (rd xs 0) ≠ 0 := by
          intro hz
          rw [verE_cons (by omega), if_pos hz] at hv'
          cases hv'
        have hright : Pfx.right ⟨rd xs 0, pad ((xs.drop 2).take (fullB b)), b⟩ = true := by
          rw [Pfx.right_iff]
          refine ⟨?_, by show (0 : Int) ≤ (b : Int); omega, by show (b : Int) ≤ widthA (rd xs 0); omega, fun i h1 h2 => ?_⟩
          · rw [rightA_iff]
            exact ⟨hw0, fun i h1 h2 => (clearA_iff _ _).1 hcl i (by have h1' : widthA (rd xs 0) ≤ i := h1; omega) h2⟩
          · have h1' : (b : Int) ≤ i := h1
            exact (clearA_iff _ _).1 hcl i (by omega) h2
        rw [hdp]
        refine ⟨hright, h16, 2 + fullB b, hdn, by omega, ?_⟩
        have hl2 : ((xs.drop 2).take (fullB b)).length = fullB b := by rw [List.length_take, List.length_drop]; omega
        rcases xs with _ | ⟨a, _ | ⟨c, r⟩⟩
        · exact absurd (by simp) h2
        · exact absurd (by simp) h2
        · clear h0 h
          have ea : rd (a :: c :: r) 0 = a := rfl
          have ec : rd (a :: c :: r) 1 = c := rfl
          rw [ec] at hb
          subst hb
          have ha : a % 256 = a := by have := hx a (by simp); omega
          have hb' : (b : Int) % 256 = b := by have := hx (b : Int) (by simp); omega
          show (a % 256) :: ((b : Int) % 256) :: (pad (r.take (fullB b))).take (fullB b) = (a :: (b : Int) :: r).take (2 + fullB b)
          rw [ha, hb', show 2 + fullB b = fullB b + 1 + 1 by omega, List.take_succ_cons, List.take_succ_cons]
          congr 2
          unfold pad
          exact List.take_left' hl2
end Go.Proofs.YtcloepjeckbmoaaDoor
