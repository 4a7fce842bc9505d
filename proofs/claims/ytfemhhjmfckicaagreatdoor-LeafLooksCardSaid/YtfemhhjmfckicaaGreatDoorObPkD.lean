/- Own texts of this claim, one behind the other. No condition. -/
import Derived.Test.YtfemhhjmfckicaaGreatDoorObPkA

/- Names, in plain Lean: parts, and what stands between points. No condition. -/
namespace Go.Proofs.YtfemhhjmfckicaaGreatDoor
open Go.RowKit
set_option linter.unusedVariables false
/-- A small letter or a figure below 128. -/
def smallA (b : UInt8) : Bool := (decide (48 ≤ b.toNat) && decide (b.toNat ≤ 57)) || (decide (97 ≤ b.toNat) && decide (b.toNat ≤ 122))
/-- The second byte of a small letter of Latin-1, behind 195. -/
def smallC (b : UInt8) : Bool := decide (159 ≤ b.toNat) && decide (b.toNat ≤ 191) && decide (b.toNat ≠ 183)
/-- A rune that may be in a name. -/
def smallR (r : Nat) : Bool := (decide (48 ≤ r) && decide (r ≤ 57)) || (decide (97 ≤ r) && decide (r ≤ 122)) || (decide (223 ≤ r) && decide (r ≤ 255) && decide (r ≠ 247))
/-- How many runes, if all may be in a name. -/
def runesN : List UInt8 → Option Nat
  | [] => some 0
  | [b] => if smallA b = true then some 1 else none
  | b :: c :: l => if smallA b = true then (runesN (c :: l)).map (· + 1) else if b = 195 ∧ smallC c = true then (runesN l).map (· + 1) else none
def partL (l : List UInt8) : Bool := match runesN l with
  | some n => decide (1 ≤ n) && decide (n ≤ 8)
  | none => false
/-- How many bytes the rune has with which a text begins, if it may be in a name; else 0. -/
def smallAt : List UInt8 → Nat
  | [] => 0
  | [b] => if smallA b = true then 1 else 0
  | b :: c :: _ => if smallA b = true then 1 else if b = 195 ∧ smallC c = true then 2 else 0
theorem runesN_step : ∀ {l : List UInt8} {k : Nat}, smallAt l = k → 0 < k → k ≤ l.length ∧ k ≤ 2 ∧ runesN l = (runesN (l.drop k)).map (· + 1)
  | [], k, h, hk => by simp only [smallAt] at h; omega
  | [b], k, h, hk => by
    simp only [smallAt] at h
    by_cases hb : smallA b = true
    · rw [if_pos hb] at h
      subst h
      refine ⟨Nat.le_refl _, by decide, ?_⟩
      simp only [runesN]
      rw [if_pos hb]
      rfl
    · rw [if_neg hb] at h; omega
  | b :: c :: l, k, h, hk => by
    simp only [smallAt] at h
    by_cases hb : smallA b = true
    · rw [if_pos hb] at h
      subst h
      refine ⟨by simp, by decide, ?_⟩
      rw [runesN, if_pos hb]
      rfl
    · rw [if_neg hb] at h
      by_cases hc : b = 195 ∧ smallC c = true
      · rw [if_pos hc] at h
        subst h
        refine ⟨by simp, by decide, ?_⟩
        rw [runesN, if_neg hb, if_pos hc]
        rfl
      · rw [if_neg hc] at h; omega
theorem runesN_stop : ∀ {l : List UInt8}, smallAt l = 0 → l ≠ [] → runesN l = none
  | [], _, hl => absurd rfl hl
  | [b], h, _ => by
    simp only [smallAt] at h
    by_cases hb : smallA b = true
    · rw [if_pos hb] at h; omega
    · simp only [runesN]; rw [if_neg hb]
  | b :: c :: l, h, _ => by
    simp only [smallAt] at h
    by_cases hb : smallA b = true
    · rw [if_pos hb] at h; omega
    · rw [if_neg hb] at h
      by_cases hc : b = 195 ∧ smallC c = true
      · rw [if_pos hc] at h; omega
      · rw [runesN, if_neg hb, if_neg hc]
theorem getBang (l : List UInt8) (i : Nat) (h : i < l.length) : (⟨l.toArray⟩ : ByteArray).get! i = l[i] := by
  unfold ByteArray.get!
  simp [h]
/-- What the model reads of a text: its rune may be in a name just where the bytes say so. -/
theorem decode_small (l : List UInt8) (i : Nat) (hi : i < l.length) : smallAt (l.drop i) = if smallR (Utf8.decode ⟨l.toArray⟩ i).1 = true then (Utf8.decode ⟨l.toArray⟩ i).2 else 0 := by
  have hsz : (⟨l.toArray⟩ : ByteArray).size = l.length := by simp [ByteArray.size]
  have h0 : (⟨l.toArray⟩ : ByteArray).get! (i + 0) = l[i] := getBang l i hi
  have hd : l.drop i = l[i] :: l.drop (i + 1) := List.drop_eq_getElem_cons hi
  have hb := (l[i]).toNat_lt
  generalize l[i] = b at *
  unfold Utf8.decode
  simp only [hsz, h0]
  by_cases h1 : b.toNat < 128
  · rw [if_pos h1]
    have hA : smallR b.toNat = smallA b := by
      unfold smallR smallA
      have : (decide (223 ≤ b.toNat) && decide (b.toNat ≤ 255) && decide (b.toNat ≠ 247)) = false := by simp; omega
      rw [this, Bool.or_false]
    simp only [hA]
    rw [hd]
    have hne : b ≠ 195 := by intro e; rw [e] at h1; revert h1; decide
    match l.drop (i + 1) with
    | [] => rfl
    | c :: t =>
      simp only [smallAt]
      by_cases ha : smallA b = true
      · rw [if_pos ha, if_pos ha]
      · rw [if_neg ha, if_neg ha, if_neg (fun e => hne e.1)]
  · rw [if_neg h1]
    have ha : ¬ smallA b = true := by unfold smallA; simp; omega
    have hR : ∀ r, 256 ≤ r → ¬ smallR r = true := fun r hr => by unfold smallR; simp; omega
    have hE : ¬ smallR Utf8.runeError = true := by decide
    have hS : smallAt (l.drop i) = if i + 1 < l.length ∧ b = 195 ∧ smallC (l.getD (i + 1) 0) = true then 2 else 0 := by
      rw [hd]
      by_cases hl : i + 1 < l.length
      · rw [List.drop_eq_getElem_cons hl]
        simp only [smallAt]
        rw [if_neg ha]
        have : l.getD (i + 1) 0 = l[i + 1] := by rw [List.getD_eq_getElem?_getD, List.getElem?_eq_getElem hl]; rfl
        rw [this]
        by_cases h : b = 195 ∧ smallC l[i + 1] = true
        · rw [if_pos h, if_pos ⟨hl, h⟩]
        · rw [if_neg h, if_neg (fun e => h e.2)]
      · rw [List.drop_eq_nil_of_le (by omega), if_neg (fun e => hl e.1)]
        simp only [smallAt]
        rw [if_neg ha]
    have hg : ∀ h : i + 1 < l.length, (⟨l.toArray⟩ : ByteArray).get! (i + 1) = l.getD (i + 1) 0 := fun h => by
      rw [getBang l (i + 1) h, List.getD_eq_getElem?_getD, List.getElem?_eq_getElem h]; rfl
    have hcl : (l.getD (i + 1) 0).toNat < 256 := (l.getD (i + 1) 0).toNat_lt
    obtain ⟨c, hc⟩ : ∃ c, c = l.getD (i + 1) 0 := ⟨_, rfl⟩
    rw [← hc] at hS hg hcl
    rw [hS] 
    have h195 : b = 195 ↔ b.toNat = 195 := ⟨fun h => by rw [h]; rfl, fun h => UInt8.toNat_inj.1 h⟩
    by_cases h2 : b.toNat / 32 = 6 ∧ i + 1 < l.length ∧ c.toNat / 64 = 2
    · obtain ⟨h2, h3, h4⟩ := h2
      have hc2 : (b.toNat / 32 == 6 && (decide (i + 1 < l.length) && ((⟨l.toArray⟩ : ByteArray).get! (i + 1)).toNat / 64 == 2)) = true := by
        rw [hg h3]; simp [h2, h3, h4]
      rw [if_pos hc2, hg h3]
      by_cases h5 : (b.toNat % 32) * 64 + c.toNat % 64 ≥ 128
      · rw [if_pos h5]
        by_cases h6 : b.toNat = 195 ∧ smallC c = true
        · have hr : smallR ((b.toNat % 32) * 64 + c.toNat % 64) = true := by
            obtain ⟨h7, h8⟩ := h6
            unfold smallC at h8
            simp at h8
            unfold smallR
            simp
            omega
          rw [if_pos ⟨h3, h195.2 h6.1, h6.2⟩, if_pos hr]
        · have hr : ¬ smallR ((b.toNat % 32) * 64 + c.toNat % 64) = true := by
            intro hr
            apply h6
            unfold smallR at hr
            simp at hr
            have h7 : b.toNat = 195 := by omega
            refine ⟨h7, ?_⟩
            unfold smallC
            simp
            omega
          rw [if_neg hr, if_neg (fun e => h6 ⟨h195.1 e.2.1, e.2.2⟩)]
      · rw [if_neg h5, if_neg hE, if_neg]
        rintro ⟨_, e1, e2⟩
        have := h195.1 e1
        omega
    · have hc2 : ¬ (b.toNat / 32 == 6 && (decide (i + 1 < l.length) && ((⟨l.toArray⟩ : ByteArray).get! (i + 1)).toNat / 64 == 2)) = true := by
        intro h
        simp only [Bool.and_eq_true, beq_iff_eq, decide_eq_true_eq] at h
        obtain ⟨e1, e2, e3⟩ := h
        rw [hg e2] at e3
        exact h2 ⟨e1, e2, e3⟩
      rw [if_neg hc2, if_neg (by
        rintro ⟨e0, e1, e2⟩
        apply h2
        have := h195.1 e1
        unfold smallC at e2
        simp at e2
        exact ⟨by omega, e0, by omega⟩)]
      split
      · split
        · next h => 
          simp only [Bool.and_eq_true, decide_eq_true_eq] at h
          rw [if_neg (hR _ (by omega))]
        · first | rfl | rw [if_neg hE]
      · split
        · split
          · next h =>
            simp only [Bool.and_eq_true, decide_eq_true_eq] at h
            rw [if_neg (hR _ (by omega))]
          · first | rfl | rw [if_neg hE]
        · first | rfl | rw [if_neg hE]
end Go.Proofs.YtfemhhjmfckicaaGreatDoor

/- Names, in plain Lean: the reference's runes, and pieces between points. No condition. -/
namespace Go.Proofs.YtfemhhjmfckicaaGreatDoor
open Go.RowKit
set_option linter.unusedVariables false
/-- How many bytes a first byte asks for, and what it gives. -/
def leadR (c : Nat) : Nat × Nat := if 240 ≤ c then (4, c - 240) else if 224 ≤ c then (3, c - 224) else if 192 ≤ c then (2, c - 192) else (1, c)
def contB (b : UInt8) : Bool := decide (128 ≤ b.toNat) && decide (b.toNat ≤ 191)
/-- The rune's number behind the first i bytes. -/
def valR (l : List UInt8) (r0 : Nat) : Nat → Nat
  | 0 => r0
  | 1 => r0
  | i + 2 => valR l r0 (i + 1) * 64 + ((l.getD (i + 1) 0).toNat - 128)
def okR (l : List UInt8) : Nat → Bool
  | 0 => true
  | 1 => true
  | i + 2 => okR l (i + 1) && contB (l.getD (i + 1) 0)
def rightR (r : Nat) : Bool := decide (r ≤ 1114111) && (decide (r < 55296) || decide (57343 < r))
def bytesR (r : Nat) : List UInt8 :=
  if r < 128 then [UInt8.ofNat r] else if r < 2048 then [UInt8.ofNat (192 + r / 64), UInt8.ofNat (128 + r % 64)]
  else if r < 65536 then [UInt8.ofNat (224 + r / 4096), UInt8.ofNat (128 + r / 64 % 64), UInt8.ofNat (128 + r % 64)]
  else [UInt8.ofNat (240 + r / 262144), UInt8.ofNat (128 + r / 4096 % 64), UInt8.ofNat (128 + r / 64 % 64), UInt8.ofNat (128 + r % 64)]
/-- The rune with which a text begins, and its size; size 0: none. -/
def firstR (l : List UInt8) : Nat × Nat := match l with
  | [] => (0, 0)
  | b :: _ =>
    let s := (leadR b.toNat).1
    let r := valR l (leadR b.toNat).2 s
    if l.length < s then (0, 0) else if okR l s = false then (0, 0) else if rightR r = false ∨ bytesR r ≠ l.take s then (0, 0) else (r, s)
theorem first_small : ∀ {l : List UInt8} {k : Nat}, smallAt l = k → 0 < k → (firstR l).2 = k ∧ smallR (firstR l).1 = true
  | [], k, h, hk => by simp only [smallAt] at h; omega
  | b :: t, k, h, hk => by
    by_cases hb : smallA b = true
    · have hs : smallAt (b :: t) = 1 := by cases t <;> simp only [smallAt] <;> rw [if_pos hb]
      rw [hs] at h
      subst h
      have hb' := hb
      unfold smallA at hb'
      simp at hb'
      have hl : leadR b.toNat = (1, b.toNat) := by unfold leadR; rw [if_neg (by omega), if_neg (by omega), if_neg (by omega)]
      have hr : rightR b.toNat = true := by
        unfold rightR
        rw [Bool.and_eq_true, Bool.or_eq_true, decide_eq_true_eq, decide_eq_true_eq]
        exact ⟨by omega, .inl (by omega)⟩
      have hy : bytesR b.toNat = (b :: t).take 1 := by unfold bytesR; rw [if_pos (by omega)]; simp
      have hf : firstR (b :: t) = (b.toNat, 1) := by
        simp only [firstR]
        rw [hl]
        show (if (b :: t).length < 1 then ((0 : Nat), (0 : Nat)) else if okR (b :: t) 1 = false then (0, 0) else if rightR b.toNat = false ∨ bytesR b.toNat ≠ (b :: t).take 1 then (0, 0) else (b.toNat, 1)) = _
        rw [if_neg (by simp), if_neg (by show ¬ true = false; decide), if_neg]
        rintro (e | e)
        · rw [hr] at e; cases e
        · exact e hy
      rw [hf]
      refine ⟨rfl, ?_⟩
      unfold smallR
      simp
      omega
    · match t, h with
      | [], h => simp only [smallAt] at h; rw [if_neg hb] at h; omega
      | c :: t, h =>
        simp only [smallAt] at h
        rw [if_neg hb] at h
        by_cases hc : b = 195 ∧ smallC c = true
        · rw [if_pos hc] at h
          subst h
          obtain ⟨rfl, hc⟩ := hc
          have hc' := hc
          unfold smallC at hc'
          simp at hc'
          have hl : leadR (195 : UInt8).toNat = (2, 3) := by decide
          have hv : valR (195 :: c :: t) 3 2 = 192 + (c.toNat - 128) := by
            show 3 * 64 + (c.toNat - 128) = _
            omega
          have ho : okR (195 :: c :: t) 2 = true := by
            show (true && contB c) = true
            unfold contB
            rw [Bool.true_and, Bool.and_eq_true, decide_eq_true_eq, decide_eq_true_eq]
            exact ⟨by omega, by omega⟩
          have hr : rightR (192 + (c.toNat - 128)) = true := by
            unfold rightR
            rw [Bool.and_eq_true, Bool.or_eq_true, decide_eq_true_eq, decide_eq_true_eq]
            exact ⟨by omega, .inl (by omega)⟩
          have hy : bytesR (192 + (c.toNat - 128)) = (195 :: c :: t).take 2 := by
            unfold bytesR
            rw [if_neg (by omega), if_pos (by omega)]
            have e1 : (192 + (192 + (c.toNat - 128)) / 64) = 195 := by omega
            have e2 : (128 + (192 + (c.toNat - 128)) % 64) = c.toNat := by omega
            rw [e1, e2]
            simp
          have hf : firstR (195 :: c :: t) = (192 + (c.toNat - 128), 2) := by
            simp only [firstR]
            rw [hl]
            show (if (195 :: c :: t).length < 2 then ((0 : Nat), (0 : Nat)) else if okR (195 :: c :: t) 2 = false then (0, 0) else if rightR (valR (195 :: c :: t) 3 2) = false ∨ bytesR (valR (195 :: c :: t) 3 2) ≠ (195 :: c :: t).take 2 then (0, 0) else (valR (195 :: c :: t) 3 2, 2)) = _
            rw [hv, if_neg (by simp), if_neg (by rw [ho]; decide), if_neg]
            rintro (e | e)
            · rw [hr] at e; cases e
            · exact e hy
          rw [hf]
          refine ⟨rfl, ?_⟩
          unfold smallR
          simp
          omega
        · rw [if_neg hc] at h; omega
/-- Where the bytes begin no rune of a name: none, or another one. -/
theorem first_other : ∀ {l : List UInt8}, smallAt l = 0 → (firstR l).2 = 0 ∨ ¬ smallR (firstR l).1 = true
  | [], _ => .inl rfl
  | b :: t, h => by
    by_cases h0 : (firstR (b :: t)).2 = 0
    · exact .inl h0
    · right
      intro hr
      have hf : firstR (b :: t) = (valR (b :: t) (leadR b.toNat).2 (leadR b.toNat).1, (leadR b.toNat).1) ∧ bytesR (valR (b :: t) (leadR b.toNat).2 (leadR b.toNat).1) = (b :: t).take (leadR b.toNat).1 := by
        unfold firstR at h0 ⊢
        simp only at h0 ⊢
        split at h0
        · exact absurd rfl h0
        · split at h0
          · exact absurd rfl h0
          · split at h0
            · exact absurd rfl h0
            · next h1 h2 h3 =>
              rw [if_neg h1, if_neg h2, if_neg h3]
              exact ⟨rfl, Classical.byContradiction fun e => h3 (.inr e)⟩
      obtain ⟨h1, h2⟩ := hf
      rw [h1] at hr
      generalize valR (b :: t) (leadR b.toNat).2 (leadR b.toNat).1 = r at *
      unfold smallR at hr
      simp only [Bool.or_eq_true, Bool.and_eq_true, decide_eq_true_eq] at hr
      have hlead : 1 ≤ (leadR b.toNat).1 := by unfold leadR; repeat (first | split | exact (by decide : 1 ≤ 4) | exact (by decide : 1 ≤ 3) | exact (by decide : 1 ≤ 2) | exact Nat.le_refl 1)
      unfold bytesR at h2
      by_cases hr1 : r < 128
      · rw [if_pos hr1] at h2
        obtain ⟨s, hs⟩ : ∃ s, (leadR b.toNat).1 = s + 1 := ⟨(leadR b.toNat).1 - 1, by omega⟩
        rw [hs, List.take_succ_cons] at h2
        injection h2 with h2 _
        have hb : b.toNat = r := by rw [← h2]; simp; omega
        have : smallA b = true := by unfold smallA; rw [hb]; simp; omega
        cases t <;> simp only [smallAt] at h <;> rw [if_pos this] at h <;> omega
      · rw [if_neg hr1, if_pos (by omega)] at h2
        obtain ⟨s, hs⟩ : ∃ s, (leadR b.toNat).1 = s + 1 := ⟨(leadR b.toNat).1 - 1, by omega⟩
        rw [hs, List.take_succ_cons] at h2
        injection h2 with h2 h3
        have hb : b = 195 := by rw [← h2]; have : 192 + r / 64 = 195 := by omega
                                rw [this]; rfl
        match t, h, h3 with
        | [], _, h3 => simp at h3
        | c :: t, h, h3 =>
          cases s with
          | zero => simp at h3
          | succ s =>
            rw [List.take_succ_cons] at h3
            injection h3 with h3 _
            have hc : smallC c = true := by
              unfold smallC
              rw [← h3]
              simp
              omega
            have hna : ¬ smallA b = true := by rw [hb]; decide
            simp only [smallAt] at h
            rw [if_neg hna, if_pos ⟨hb, hc⟩] at h
            omega
def runesR : Nat → List UInt8 → Option (List Nat)
  | _, [] => some []
  | 0, _ :: _ => none
  | f + 1, b :: t => if (firstR (b :: t)).2 = 0 then none else (runesR f ((b :: t).drop (firstR (b :: t)).2)).map ((firstR (b :: t)).1 :: ·)
def smallsO (o : Option (List Nat)) : Option Nat := match o with
  | some rs => if rs.all smallR = true then some rs.length else none
  | none => none
theorem runesR_small : ∀ (f : Nat) (l : List UInt8), l.length ≤ f → smallsO (runesR f l) = runesN l
  | _, [], _ => by simp [runesR, smallsO, runesN]
  | 0, _ :: _, h => by simp at h
  | f + 1, b :: t, h => by
    rcases Nat.eq_zero_or_pos (smallAt (b :: t)) with h0 | h0
    · rw [runesN_stop h0 (by simp)]
      rcases first_other h0 with h1 | h1
      · simp only [runesR]; rw [if_pos h1]; rfl
      · simp only [runesR]
        split
        · rfl
        · cases hq : runesR f ((b :: t).drop (firstR (b :: t)).2) with
          | none => rfl
          | some rs =>
            show (if (List.all ((firstR (b :: t)).1 :: rs) smallR) = true then _ else none) = none
            rw [List.all_cons, if_neg]
            simp [h1]
    · obtain ⟨h1, h2⟩ := first_small rfl h0
      obtain ⟨h3, h4, h5⟩ := runesN_step rfl h0
      have ih := runesR_small f ((b :: t).drop (smallAt (b :: t))) (by rw [List.length_drop]; simp at h; simp; omega)
      rw [h5, ← ih]
      simp only [runesR]
      rw [h1, if_neg (by omega)]
      cases hq : runesR f ((b :: t).drop (smallAt (b :: t))) with
      | none => rfl
      | some rs =>
        show (if (List.all ((firstR (b :: t)).1 :: rs) smallR) = true then some (rs.length + 1) else none) = _
        rw [List.all_cons, h2, Bool.true_and]
        show _ = Option.map _ (if rs.all smallR = true then some rs.length else none)
        split <;> rfl
/-- The reference's part. -/
def partR (l : List UInt8) : Bool := match runesR l.length l with
  | some rs => decide (1 ≤ rs.length) && decide (rs.length ≤ 8) && rs.all smallR
  | none => false
theorem partR_eq (l : List UInt8) : partR l = partL l := by
  have h := runesR_small l.length l (Nat.le_refl _)
  unfold partR partL
  rw [← h]
  cases runesR l.length l with
  | none => rfl
  | some rs =>
    show _ = (match (if rs.all smallR = true then some rs.length else none) with | some n => decide (1 ≤ n) && decide (n ≤ 8) | none => false)
    by_cases ha : rs.all smallR = true
    · rw [if_pos ha]
      show (decide (1 ≤ rs.length) && decide (rs.length ≤ 8) && rs.all smallR) = (decide (1 ≤ rs.length) && decide (rs.length ≤ 8))
      rw [ha, Bool.and_true]
    · rw [if_neg ha]
      have : rs.all smallR = false := by simpa using ha
      show (decide (1 ≤ rs.length) && decide (rs.length ≤ 8) && rs.all smallR) = false
      rw [this, Bool.and_false]
end Go.Proofs.YtfemhhjmfckicaaGreatDoor
