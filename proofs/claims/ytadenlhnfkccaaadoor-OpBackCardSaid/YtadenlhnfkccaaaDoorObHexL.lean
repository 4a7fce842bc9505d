/- Bytes as text, in plain Lean. No condition. -/
import Derived.Test.YtadenlhnfkccaaaDoorObBase
namespace Go.Proofs.YtadenlhnfkccaaaDoor
open Go.RowKit
set_option linter.unusedVariables false
set_option linter.unusedSimpArgs false
/-- The digit of a number below 16. -/
def hexD (n : Nat) : UInt8 := if n < 10 then UInt8.ofNat (48 + n) else UInt8.ofNat (87 + n)
def hexP (l : List UInt8) : List UInt8 := l.flatMap fun b => [hexD (b.toNat / 16), hexD (b.toNat % 16)]
/-- A digit's number; 16: it is none. -/
def hexV (c : UInt8) : Nat := if 48 ≤ c.toNat ∧ c.toNat ≤ 57 then c.toNat - 48 else if 97 ≤ c.toNat ∧ c.toNat ≤ 102 then c.toNat - 87 else 16
def hexG : List UInt8 → List UInt8
  | a :: b :: t => UInt8.ofNat (hexV a * 16 + hexV b) :: hexG t
  | _ => []
def hexOk (l : List UInt8) : Bool := l.all fun c => decide (hexV c < 16)
/-- Where the first sign stands that is none. -/
def hexAt : List UInt8 → Nat
  | [] => 0
  | c :: t => if hexV c < 16 then hexAt t + 1 else 0
/-- What Parse tells: the bytes, a place, a fault. -/
def hexR (l : List UInt8) : List UInt8 × Nat × Nat := if hexOk l = false then ([], hexAt l, 3) else if l.length % 2 = 1 then ([], l.length, 3) else (hexG l, 0, 0)
theorem hexV_le (c : UInt8) : hexV c ≤ 16 := by
  unfold hexV
  split
  · omega
  · split <;> omega
theorem hexP_snoc (l : List UInt8) (b : UInt8) : hexP (l ++ [b]) = hexP l ++ [hexD (b.toNat / 16), hexD (b.toNat % 16)] := by simp [hexP]
theorem hexP_len (l : List UInt8) : (hexP l).length = 2 * l.length := by
  induction l with
  | nil => rfl
  | cons b t ih => simp [hexP] at ih ⊢; omega
theorem hexAt_ok : ∀ {l : List UInt8} {k : Nat} (hk : k < l.length), hexOk (l.take k) = true → ¬ hexV l[k] < 16 → hexAt l = k ∧ hexOk l = false
  | c :: t, 0, _, _, h => by
    have h : ¬ hexV c < 16 := h
    refine ⟨if_neg h, ?_⟩
    unfold hexOk
    rw [List.all_cons, decide_eq_false h]
    rfl
  | c :: t, k + 1, hk, ho, h => by
    unfold hexOk at ho
    rw [List.take_succ_cons, List.all_cons, Bool.and_eq_true, decide_eq_true_iff] at ho
    obtain ⟨h1, h2⟩ := hexAt_ok (l := t) (k := k) (by simpa using hk) ho.2 (by simpa using h)
    refine ⟨?_, ?_⟩
    · show (if hexV c < 16 then hexAt t + 1 else 0) = _
      rw [if_pos ho.1, h1]
    · unfold hexOk at h2 ⊢
      rw [List.all_cons, h2, Bool.and_false]
theorem hexOk_snoc {l : List UInt8} {k : Nat} (hk : k < l.length) (h : hexOk (l.take k) = true) (hv : hexV l[k] < 16) : hexOk (l.take (k + 1)) = true := by
  unfold hexOk at h ⊢
  rw [List.take_succ_eq_append_getElem hk, List.all_append, h]
  simp [hv]
theorem hexG_snoc : ∀ (l : List UInt8) (a b : UInt8), l.length % 2 = 0 → hexG (l ++ [a, b]) = hexG l ++ [UInt8.ofNat (hexV a * 16 + hexV b)]
  | [], a, b, _ => rfl
  | [x], a, b, h => by simp at h
  | x :: y :: t, a, b, h => by
    have ih := hexG_snoc t a b (by simp at h; omega)
    show _ :: hexG (t ++ [a, b]) = _ :: hexG t ++ _
    rw [ih]
    rfl
theorem hexG_one : ∀ (l : List UInt8) (a : UInt8), l.length % 2 = 0 → hexG (l ++ [a]) = hexG l
  | [], a, _ => rfl
  | [x], a, h => by simp at h
  | x :: y :: t, a, h => by
    have ih := hexG_one t a (by simp at h; omega)
    show _ :: hexG (t ++ [a]) = _ :: hexG t
    rw [ih]
theorem hexG_len : ∀ l : List UInt8, (hexG l).length = l.length / 2
  | [] => rfl
  | [x] => by show 0 = 1 / 2; rfl
  | x :: y :: t => by
    show (hexG t).length + 1 = (t.length + 2) / 2
    rw [hexG_len t]; omega
theorem hexG_take2 {l : List UInt8} {k : Nat} (hk : k + 1 < l.length) (he : k % 2 = 0) : hexG (l.take (k + 2)) = hexG (l.take k) ++ [UInt8.ofNat (hexV l[k] * 16 + hexV l[k + 1])] := by
  rw [List.take_succ_eq_append_getElem (by omega : k + 1 < l.length), List.take_succ_eq_append_getElem (by omega : k < l.length), List.append_assoc]
  exact hexG_snoc _ _ _ (by rw [List.length_take]; omega)
theorem hexD_toNat {n : Nat} (h : n < 16) : ((hexD n).toNat : Int) = if n < 10 then 48 + (n : Int) else 87 + n := by
  unfold hexD
  split
  · rw [UInt8.toNat_ofNat_of_lt' (by show _ < 256; omega)]; omega
  · rw [UInt8.toNat_ofNat_of_lt' (by show _ < 256; omega)]; omega
theorem hexV_hexD {k : Nat} (h : k < 16) : hexV (hexD k) = k := by
  have hd := hexD_toNat h
  unfold hexV
  by_cases h10 : k < 10
  · rw [if_pos h10] at hd
    rw [if_pos (by omega)]; omega
  · rw [if_neg h10] at hd
    rw [if_neg (by omega), if_pos (by omega)]; omega
theorem hexD_hexV {c : UInt8} (h : hexV c < 16) : hexD (hexV c) = c := by
  have hd := hexD_toNat h
  apply UInt8.toNat_inj.1
  have hc := c.toNat_lt
  unfold hexV at h hd
  by_cases h1 : 48 ≤ c.toNat ∧ c.toNat ≤ 57
  · rw [if_pos h1] at h hd
    unfold hexV
    rw [if_pos h1]
    rw [if_pos (by omega)] at hd
    omega
  · rw [if_neg h1] at h hd
    by_cases h2 : 97 ≤ c.toNat ∧ c.toNat ≤ 102
    · rw [if_pos h2] at h hd
      unfold hexV
      rw [if_neg h1, if_pos h2]
      rw [if_neg (by omega)] at hd
      omega
    · rw [if_neg h2] at h; omega
theorem hexV_cases (c : UInt8) : (48 ≤ c.toNat ∧ c.toNat ≤ 57 ∧ hexV c = c.toNat - 48) ∨ (97 ≤ c.toNat ∧ c.toNat ≤ 102 ∧ hexV c = c.toNat - 87) ∨ (¬ (48 ≤ c.toNat ∧ c.toNat ≤ 57) ∧ ¬ (97 ≤ c.toNat ∧ c.toNat ≤ 102) ∧ hexV c = 16) := by
  by_cases h1 : 48 ≤ c.toNat ∧ c.toNat ≤ 57
  · exact .inl ⟨h1.1, h1.2, if_pos h1⟩
  · by_cases h2 : 97 ≤ c.toNat ∧ c.toNat ≤ 102
    · exact .inr (.inl ⟨h2.1, h2.2, by unfold hexV; rw [if_neg h1, if_pos h2]⟩)
    · exact .inr (.inr ⟨h1, h2, by unfold hexV; rw [if_neg h1, if_neg h2]⟩)
end Go.Proofs.YtadenlhnfkccaaaDoor
