/- Own texts of this claim, one behind the other. No condition. -/
import Derived.Test.YtcfbbgbjlgonpaaGreatDoorObPkAA
import Derived.Lib.ItoaNum

namespace Go.Proofs.YtcfbbgbjlgonpaaGreatDoor

/-! ### digits, no program in sight -/
def isDig (c : UInt8) : Bool := decide (48 ≤ (c.toNat : Int)) && decide ((c.toNat : Int) ≤ 57)
def valL (l : List UInt8) : Nat := l.foldl (fun n c => n * 10 + (c.toNat - 48)) 0
def badL (l : List UInt8) : Bool := !(decide (1 ≤ l.length) && decide (l.length ≤ 18) && (decide (l.length ≤ 1) || bAt l 0 != 48) && l.all isDig)
def parseN (l : List UInt8) (most : Int) : Int := if badL l then 0 else if most < (valL l : Int) then 0 else valL l
def parseF (l : List UInt8) (most : Int) : Int := if badL l then 3 else if most < (valL l : Int) then 2 else 0

theorem valL_snoc (l : List UInt8) (c : UInt8) : valL (l ++ [c]) = valL l * 10 + (c.toNat - 48) := by simp [valL]
theorem dig_snoc0 (l : List UInt8) (k : Nat) (h : k < l.length) : l.take (k + 1) = l.take k ++ [l.getD k 0] := by
  rw [List.take_succ_eq_append_getElem h, List.getD_eq_getElem?_getD, List.getElem?_eq_getElem h]; rfl
theorem isDig_at (l : List UInt8) (k : Nat) : isDig (l.getD k 0) = (decide (48 ≤ bAt l k) && decide (bAt l k ≤ 57)) := rfl
theorem valL_take (l : List UInt8) (k : Nat) (h : k < l.length) (hd : 48 ≤ bAt l k) : (valL (l.take (k + 1)) : Int) = valL (l.take k) * 10 + (bAt l k - 48) := by
  rw [dig_snoc0 l k h, valL_snoc]; unfold bAt at *; omega
theorem all_take (l : List UInt8) (k : Nat) (h : k < l.length) (ha : (l.take k).all isDig = true) (hd : isDig (l.getD k 0) = true) : (l.take (k + 1)).all isDig = true := by
  rw [dig_snoc0 l k h, List.all_append, ha]; simpa using hd
theorem all_not (l : List UInt8) (k : Nat) (h : k < l.length) (hd : isDig (l.getD k 0) = false) : l.all isDig = false := by
  rw [List.all_eq_false]
  refine ⟨l.getD k 0, ?_, by rw [hd]; decide⟩
  rw [List.getD_eq_getElem?_getD, List.getElem?_eq_getElem h]
  exact List.getElem_mem h
theorem val_fold : ∀ (l : List UInt8) (n : Nat), l.all isDig = true → l.foldl (fun n c => n * 10 + (c.toNat - 48)) n < (n + 1) * 10 ^ l.length
  | [], n, _ => by simp
  | c :: l, n, h => by
    simp only [List.all_cons, Bool.and_eq_true] at h
    have hc : c.toNat ≤ 57 := by have := h.1; simp [isDig] at this; omega
    have h1 := val_fold l (n * 10 + (c.toNat - 48)) h.2
    rw [List.foldl_cons, List.length_cons, Nat.pow_succ]
    refine Nat.lt_of_lt_of_le h1 ?_
    rw [Nat.mul_comm (10 ^ l.length) 10, ← Nat.mul_assoc]
    exact Nat.mul_le_mul_right _ (by omega)
theorem valL_lt (l : List UInt8) (h : l.all isDig = true) : valL l < 10 ^ l.length := by
  have := val_fold l 0 h
  simpa [valL] using this
theorem valL_take_lt (l : List UInt8) (k : Nat) (hk : k ≤ 17) (h : k ≤ l.length) (ha : (l.take k).all isDig = true) : valL (l.take k) < 100000000000000000 := by
  have h1 := valL_lt _ ha
  rw [List.length_take, Nat.min_eq_left h] at h1
  have : 10 ^ k ≤ 10 ^ 17 := Nat.pow_le_pow_right (by decide) hk
  exact Nat.lt_of_lt_of_le h1 this
theorem bad_of (l : List UInt8) (h : l.length < 1 ∨ 18 < l.length ∨ (1 < l.length ∧ bAt l 0 = 48) ∨ l.all isDig = false) : badL l = true := by
  unfold badL
  rcases h with h | h | h | h
  · have : decide (1 ≤ l.length) = false := decide_eq_false (by omega)
    rw [this]; simp
  · have : decide (l.length ≤ 18) = false := decide_eq_false (by omega)
    rw [this]; simp
  · have e1 : decide (l.length ≤ 1) = false := decide_eq_false (by omega)
    have e2 : (bAt l 0 != 48) = false := by rw [h.2]; decide
    rw [e1, e2]; simp
  · rw [h]; simp
theorem good_of (l : List UInt8) (h1 : 1 ≤ l.length) (h2 : l.length ≤ 18) (h3 : l.length ≤ 1 ∨ bAt l 0 ≠ 48) (h4 : l.all isDig = true) : badL l = false := by
  unfold badL
  rw [h4, decide_eq_true h1, decide_eq_true h2]
  rcases h3 with h | h
  · rw [decide_eq_true h]; simp
  · have : (bAt l 0 != 48) = true := by simpa using h
    rw [this]; simp

/-! ### a number's digits -/
def printL (n : Int) : List UInt8 := if n < 0 then [] else Lib.decDigits n.toNat
theorem dec_small (u : Nat) (h : u < 10) : Lib.decDigits u = [UInt8.ofNat (48 + u)] := by rw [Lib.decDigits, dif_pos h]
theorem dec_big (u : Nat) (h : ¬ u < 10) : Lib.decDigits u = Lib.decDigits (u / 10) ++ Lib.decDigits (u % 10) := by
  rw [Lib.decDigits, dif_neg h, dec_small (u % 10) (by omega)]
theorem dig_nat (d : Nat) (h : d < 10) : (UInt8.ofNat (48 + d)).toNat = 48 + d := by
  rw [UInt8.toNat_ofNat']; omega
theorem dec_back (u : Nat) : valL (Lib.decDigits u) = u ∧ (Lib.decDigits u).all isDig = true ∧ 1 ≤ (Lib.decDigits u).length ∧ (10 ≤ u → 49 ≤ bAt (Lib.decDigits u) 0) ∧ (1 ≤ u → 10 ^ ((Lib.decDigits u).length - 1) ≤ u) ∧ (1 ≤ u → 49 ≤ bAt (Lib.decDigits u) 0) := by
  induction u using Nat.strongRecOn with
  | _ u ih =>
    by_cases h : u < 10
    · rw [dec_small u h]
      have e := dig_nat u h
      refine ⟨?_, ?_, by simp, fun h1 => by omega, fun h1 => by simpa using h1, fun h1 => ?_⟩
      · simp only [valL, List.foldl_cons, List.foldl_nil, e]; omega
      · simp only [List.all_cons, List.all_nil, Bool.and_true, isDig, e]; simp; omega
      · simp only [bAt, List.getD_cons_zero, e]; omega
    · obtain ⟨i1, i2, i3, i4, i5, i6⟩ := ih (u / 10) (by omega)
      have e := dig_nat (u % 10) (by omega)
      have hx : Lib.decDigits u = Lib.decDigits (u / 10) ++ [UInt8.ofNat (48 + u % 10)] := by rw [dec_big u h, dec_small (u % 10) (by omega)]
      have hb : bAt (Lib.decDigits u) 0 = bAt (Lib.decDigits (u / 10)) 0 := by
        rw [hx]; unfold bAt
        rw [List.getD_eq_getElem?_getD, List.getD_eq_getElem?_getD, List.getElem?_append_left (by omega)]
      refine ⟨?_, ?_, by rw [hx]; simp, fun _ => by rw [hb]; exact i6 (by omega), fun _ => ?_, fun _ => by rw [hb]; exact i6 (by omega)⟩
      · rw [hx, valL_snoc, i1, e]; omega
      · rw [hx, List.all_append, i2]; simp only [List.all_cons, List.all_nil, Bool.and_true, isDig, e]; simp; omega
      · rw [hx, List.length_append, List.length_singleton]
        obtain ⟨q, hq⟩ : ∃ q, (Lib.decDigits (u / 10)).length = q + 1 := ⟨_, (Nat.sub_add_cancel i3).symm⟩
        have := i5 (by omega)
        rw [hq] at this ⊢
        simp only [Nat.add_sub_cancel] at this ⊢
        rw [Nat.pow_succ]
        omega

/-- What is printed is read as it was. -/
theorem parse_print (k : Int) (h0 : 0 ≤ k) (h1 : k < 288230376151711744) : parseN (printL k) k = k ∧ parseF (printL k) k = 0 := by
  obtain ⟨u, rfl⟩ := Int.eq_ofNat_of_zero_le h0
  have e : printL (u : Int) = Lib.decDigits u := by unfold printL; rw [if_neg (by omega)]; rfl
  obtain ⟨i1, i2, i3, i4, i5, i6⟩ := dec_back u
  have hbad : badL (Lib.decDigits u) = false := by
    refine good_of _ i3 ?_ ?_ i2
    · rcases Nat.lt_or_ge 18 (Lib.decDigits u).length with h | h
      · by_cases hu : 1 ≤ u
        · have h2 := i5 hu
          have : 10 ^ 18 ≤ 10 ^ ((Lib.decDigits u).length - 1) := Nat.pow_le_pow_right (by decide) (by omega)
          have h3 : (10 : Nat) ^ 18 ≤ u := Nat.le_trans this h2
          have h4 : (10 : Nat) ^ 18 = 1000000000000000000 := by decide
          omega
        · rw [dec_small u (by omega)] at h; simp at h
      · exact h
    · by_cases hu : u < 10
      · left; rw [dec_small u hu]; simp
      · right; have := i4 (by omega); omega
  unfold parseN parseF
  rw [e, hbad, i1]
  simp
end Go.Proofs.YtcfbbgbjlgonpaaGreatDoor
