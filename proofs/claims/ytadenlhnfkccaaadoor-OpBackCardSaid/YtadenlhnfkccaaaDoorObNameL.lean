/- Names, in plain Lean: parts, and what stands between points. No condition. -/
import Derived.Test.YtadenlhnfkccaaaDoorObBase
namespace Go.Proofs.YtadenlhnfkccaaaDoor
open Go.RowKit
set_option linter.unusedVariables false
/-- A small letter or a figure below 128. -/
def smallA (b : UInt8) : Bool := (decide (48 ≤ b.toNat) && decide (b.toNat ≤ 57)) || (decide (97 ≤ b.toNat) && decide (b.toNat ≤ 122))
/-- The second byte of a small letter of Latin-1, behind 195. -/
def smallC (b : UInt8) : Bool := decide (159 ≤ b.toNat) && decide (b.toNat ≤ 191) && decide (b.toNat ≠ 183)
/-- A rune that may be in a name. -/
def smallR (r : Nat) : Bool := (decide (48 ≤ r) && decide (r ≤ 57)) || (decide (97 ≤ r) && decide (r ≤ 122)) || (decide (223 ≤ r) && decide (r ≤ 255) && decide (r ≠ 247))
/-- How many runes, if all may be in a name. -/
def runesN : List UInt8 → Option Nat
  | [] => some 0
  | [b] => if smallA b = true then some 1 else none
  | b :: c :: l => if smallA b = true then (runesN (c :: l)).map (· + 1) else if b = 195 ∧ smallC c = true then (runesN l).map (· + 1) else none
def partL (l : List UInt8) : Bool := match runesN l with
  | some n => decide (1 ≤ n) && decide (n ≤ 8)
  | none => false
/-- How many bytes the rune has with which a text begins, if it may be in a name; else 0. -/
def smallAt : List UInt8 → Nat
  | [] => 0
  | [b] => if smallA b = true then 1 else 0
  | b :: c :: _ => if smallA b = true then 1 else if b = 195 ∧ smallC c = true then 2 else 0
theorem runesN_step : ∀ {l : List UInt8} {k : Nat}, smallAt l = k → 0 < k → k ≤ l.length ∧ k ≤ 2 ∧ runesN l = (runesN (l.drop k)).map (· + 1)
  | [], k, h, hk => by simp only [smallAt] at h; omega
  | [b], k, h, hk => by
    simp only [smallAt] at h
    by_cases hb : smallA b = true
    · rw [if_pos hb] at h
      subst h
      refine ⟨Nat.le_refl _, by decide, ?_⟩
      simp only [runesN]
      rw [if_pos hb]
      rfl
    · rw [if_neg hb] at h; omega
  | b :: c :: l, k, h, hk => by
    simp only [smallAt] at h
    by_cases hb : smallA b = true
    · rw [if_pos hb] at h
      subst h
      refine ⟨by simp, by decide, ?_⟩
      rw [runesN, if_pos hb]
      rfl
    · rw [if_neg hb] at h
      by_cases hc : b = 195 ∧ smallC c = true
      · rw [if_pos hc] at h
        subst h
        refine ⟨by simp, by decide, ?_⟩
        rw [runesN, if_neg hb, if_pos hc]
        rfl
      · rw [if_neg hc] at h; omega
theorem runesN_stop : ∀ {l : List UInt8}, smallAt l = 0 → l ≠ [] → runesN l = none
  | [], _, hl => absurd rfl hl
  | [b], h, _ => by
    simp only [smallAt] at h
    by_cases hb : smallA b = true
    · rw [if_pos hb] at h; omega
    · simp only [runesN]; rw [if_neg hb]
  | b :: c :: l, h, _ => by
    simp only [smallAt] at h
    by_cases hb : smallA b = true
    · rw [if_pos hb] at h; omega
    · rw [if_neg hb] at h
      by_cases hc : b = 195 ∧ smallC c = true
      · rw [if_pos hc] at h; omega
      · rw [runesN, if_neg hb, if_neg hc]
theorem getBang (l : List UInt8) (i : Nat) (h : i < l.length) : (⟨l.toArray⟩ : ByteArray).get! i = l[i] := by
  unfold ByteArray.get!
  simp [h]
/-- What the model reads of a text: its rune may be in a name just where the bytes say so. -/
theorem decode_small (l : List UInt8) (i : Nat) (hi : i < l.length) : smallAt (l.drop i) = if smallR (Utf8.decode ⟨l.toArray⟩ i).1 = true then (Utf8.decode ⟨l.toArray⟩ i).2 else 0 := by
  have hsz : (⟨l.toArray⟩ : ByteArray).size = l.length := by simp [ByteArray.size]
  have h0 : (⟨l.toArray⟩ : ByteArray).get! (i + 0) = l[i] := getBang l i hi
  have hd : l.drop i = l[i] :: l.drop (i + 1) := List.drop_eq_getElem_cons hi
  have hb := (l[i]).toNat_lt
  generalize l[i] = b at *
  unfold Utf8.decode
  simp only [hsz, h0]
  by_cases h1 : b.toNat < 128
  · rw [if_pos h1]
    have hA : smallR b.toNat = smallA b := by
      unfold smallR smallA
      have : (decide (223 ≤ b.toNat) && decide (b.toNat ≤ 255) && decide (b.toNat ≠ 247)) = false := by simp; omega
      rw [this, Bool.or_false]
    simp only [hA]
    rw [hd]
    have hne : b ≠ 195 := by intro e; rw [e] at h1; revert h1; decide
    match l.drop (i + 1) with
    | [] => rfl
    | c :: t =>
      simp only [smallAt]
      by_cases ha : smallA b = true
      · rw [if_pos ha, if_pos ha]
      · rw [if_neg ha, if_neg ha, if_neg (fun e => hne e.1)]
  · rw [if_neg h1]
    have ha : ¬ smallA b = true := by unfold smallA; simp; omega
    have hR : ∀ r, 256 ≤ r → ¬ smallR r = true := fun r hr => by unfold smallR; simp; omega
    have hE : ¬ smallR Utf8.runeError = true := by decide
    have hS : smallAt (l.drop i) = if i + 1 < l.length ∧ b = 195 ∧ smallC (l.getD (i + 1) 0) = true then 2 else 0 := by
      rw [hd]
      by_cases hl : i + 1 < l.length
      · rw [List.drop_eq_getElem_cons hl]
        simp only [smallAt]
        rw [if_neg ha]
        have : l.getD (i + 1) 0 = l[i + 1] := by rw [List.getD_eq_getElem?_getD, List.getElem?_eq_getElem hl]; rfl
        rw [this]
        by_cases h : b = 195 ∧ smallC l[i + 1] = true
        · rw [if_pos h, if_pos ⟨hl, h⟩]
        · rw [if_neg h, if_neg (fun e => h e.2)]
      · rw [List.drop_eq_nil_of_le (by omega), if_neg (fun e => hl e.1)]
        simp only [smallAt]
        rw [if_neg ha]
    have hg : ∀ h : i + 1 < l.length, (⟨l.toArray⟩ : ByteArray).get! (i + 1) = l.getD (i + 1) 0 := fun h => by
      rw [getBang l (i + 1) h, List.getD_eq_getElem?_getD, List.getElem?_eq_getElem h]; rfl
    have hcl : (l.getD (i + 1) 0).toNat < 256 := (l.getD (i + 1) 0).toNat_lt
    obtain ⟨c, hc⟩ : ∃ c, c = l.getD (i + 1) 0 := ⟨_, rfl⟩
    rw [← hc] at hS hg hcl
    rw [hS] 
    have h195 : b = 195 ↔ b.toNat = 195 := ⟨fun h => by rw [h]; rfl, fun h => UInt8.toNat_inj.1 h⟩
    by_cases h2 : b.toNat / 32 = 6 ∧ i + 1 < l.length ∧ c.toNat / 64 = 2
    · obtain ⟨h2, h3, h4⟩ := h2
      have hc2 : (b.toNat / 32 == 6 && (decide (i + 1 < l.length) && ((⟨l.toArray⟩ : ByteArray).get! (i + 1)).toNat / 64 == 2)) = true := by
        rw [hg h3]; simp [h2, h3, h4]
      rw [if_pos hc2, hg h3]
      by_cases h5 : (b.toNat % 32) * 64 + c.toNat % 64 ≥ 128
      · rw [if_pos h5]
        by_cases h6 : b.toNat = 195 ∧ smallC c = true
        · have hr : smallR ((b.toNat % 32) * 64 + c.toNat % 64) = true := by
            obtain ⟨h7, h8⟩ := h6
            unfold smallC at h8
            simp at h8
            unfold smallR
            simp
            omega
          rw [if_pos ⟨h3, h195.2 h6.1, h6.2⟩, if_pos hr]
        · have hr : ¬ smallR ((b.toNat % 32) * 64 + c.toNat % 64) = true := by
            intro hr
            apply h6
            unfold smallR at hr
            simp at hr
            have h7 : b.toNat = 195 := by omega
            refine ⟨h7, ?_⟩
            unfold smallC
            simp
            omega
          rw [if_neg hr, if_neg (fun e => h6 ⟨h195.1 e.2.1, e.2.2⟩)]
      · rw [if_neg h5, if_neg hE, if_neg]
        rintro ⟨_, e1, e2⟩
        have := h195.1 e1
        omega
    · have hc2 : ¬ (b.toNat / 32 == 6 && (decide (i + 1 < l.length) && ((⟨l.toArray⟩ : ByteArray).get! (i + 1)).toNat / 64 == 2)) = true := by
        intro h
        simp only [Bool.and_eq_true, beq_iff_eq, decide_eq_true_eq] at h
        obtain ⟨e1, e2, e3⟩ := h
        rw [hg e2] at e3
        exact h2 ⟨e1, e2, e3⟩
      rw [if_neg hc2, if_neg (by
        rintro ⟨e0, e1, e2⟩
        apply h2
        have := h195.1 e1
        unfold smallC at e2
        simp at e2
        exact ⟨by omega, e0, by omega⟩)]
      split
      · split
        · next h => 
          simp only [Bool.and_eq_true, decide_eq_true_eq] at h
          rw [if_neg (hR _ (by omega))]
        · first | rfl | rw [if_neg hE]
      · split
        · split
          · next h =>
            simp only [Bool.and_eq_true, decide_eq_true_eq] at h
            rw [if_neg (hR _ (by omega))]
          · first | rfl | rw [if_neg hE]
        · first | rfl | rw [if_neg hE]
end Go.Proofs.YtadenlhnfkccaaaDoor
