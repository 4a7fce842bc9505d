/- Own texts of this claim, one behind the other. No condition. -/
import Derived.Test.YtfemhhjmfckicaaGreatDoorObPkD
import Derived.Lib.IndexLaws
import Derived.Lib.ValidU

/- Names, in plain Lean: pieces between points, and which texts are names. No condition. -/
namespace Go.Proofs.YtfemhhjmfckicaaGreatDoor
open Go.RowKit
set_option linter.unusedVariables false
def consH (b : UInt8) : List (List UInt8) → List (List UInt8)
  | [] => [[b]]
  | p :: ps => (b :: p) :: ps
/-- What stands between points. -/
def piecesL : List UInt8 → List (List UInt8)
  | [] => [[]]
  | b :: t => if b = 46 then [] :: piecesL t else consH b (piecesL t)
theorem pieces_ne : ∀ l, piecesL l ≠ []
  | [], h => by cases h
  | b :: t, h => by
    unfold piecesL at h
    split at h
    · cases h
    · cases hp : piecesL t with
      | nil => exact pieces_ne t hp
      | cons p ps => rw [hp] at h; cases h
theorem pieces_none : ∀ l : List UInt8, (∀ b ∈ l, b ≠ 46) → piecesL l = [l]
  | [], _ => rfl
  | b :: t, h => by
    unfold piecesL
    rw [if_neg (h b List.mem_cons_self), pieces_none t (fun c hc => h c (List.mem_cons_of_mem _ hc))]
    rfl
theorem pieces_cut : ∀ (l : List UInt8) (i : Nat), l[i]? = some 46 → (∀ j, j < i → l[j]? ≠ some 46) → piecesL l = l.take i :: piecesL (l.drop (i + 1))
  | [], i, h, _ => by simp at h
  | b :: t, 0, h, _ => by
    have : b = 46 := by simpa using h
    show (if b = 46 then [] :: piecesL t else consH b (piecesL t)) = _
    rw [if_pos this]
    rfl
  | b :: t, i + 1, h, hj => by
    have hb : b ≠ 46 := fun e => hj 0 (by omega) (by simp [e])
    have ih := pieces_cut t i (by simpa using h) (fun j hji => by have := hj (j + 1) (by omega); simpa using this)
    show (if b = 46 then [] :: piecesL t else consH b (piecesL t)) = _
    rw [if_neg hb, ih]
    rfl
theorem pieces_index (l : List UInt8) (i : Int) (h : Lib.indexByte l 46 = i) : (i = -1 ∧ piecesL l = [l]) ∨ ∃ k : Nat, i = k ∧ k < l.length ∧ piecesL l = l.take k :: piecesL (l.drop (k + 1)) := by
  by_cases h0 : i < 0
  · have := Lib.indexByte_ge l 46
    have hi : i = -1 := by omega
    subst hi
    left
    refine ⟨rfl, pieces_none l fun b hb e => ?_⟩
    subst e
    obtain ⟨k, hk, he⟩ := List.getElem_of_mem hb
    exact Lib.indexByte_none h k ((List.getElem?_eq_getElem hk).trans (by rw [he]))
  · right
    obtain ⟨k, rfl⟩ : ∃ k : Nat, i = k := ⟨i.toNat, by omega⟩
    obtain ⟨h1, h2⟩ := Lib.indexByte_some h
    exact ⟨k, rfl, (List.getElem?_eq_some_iff.1 h1).1, pieces_cut l k h1 h2⟩
/-- The reference's way: byte by byte. -/
def pushP (ps : List (List UInt8)) (b : UInt8) : List (List UInt8) := if b = 46 then ps ++ [[]] else ps.dropLast ++ [ps.getLastD [] ++ [b]]
theorem consH_push (b c : UInt8) (hb : b ≠ 46) (ps : List (List UInt8)) (hne : ps ≠ []) : consH b (pushP ps c) = pushP (consH b ps) c := by
  match ps, hne with
  | [p], _ =>
    unfold pushP
    by_cases hc : c = 46
    · rw [if_pos hc, if_pos hc]; rfl
    · rw [if_neg hc, if_neg hc]; rfl
  | p :: q :: ps, _ =>
    unfold pushP
    by_cases hc : c = 46
    · rw [if_pos hc, if_pos hc]; rfl
    · rw [if_neg hc, if_neg hc]
      simp [consH, List.dropLast, List.getLastD]
theorem pieces_snoc : ∀ (l : List UInt8) (c : UInt8), piecesL (l ++ [c]) = pushP (piecesL l) c
  | [], c => by
    show (if c = 46 then [] :: piecesL [] else consH c (piecesL [])) = _
    unfold pushP
    by_cases hc : c = 46
    · rw [if_pos hc, if_pos hc]; rfl
    · rw [if_neg hc, if_neg hc]; rfl
  | b :: t, c => by
    show (if b = 46 then [] :: piecesL (t ++ [c]) else consH b (piecesL (t ++ [c]))) = pushP (if b = 46 then [] :: piecesL t else consH b (piecesL t)) c
    rw [pieces_snoc t c]
    by_cases hb : b = 46
    · rw [if_pos hb, if_pos hb]
      have hne := pieces_ne t
      unfold pushP
      by_cases hc : c = 46
      · rw [if_pos hc, if_pos hc]; rfl
      · rw [if_neg hc, if_neg hc]
        cases hp : piecesL t with
        | nil => exact absurd hp hne
        | cons p ps => rfl
    · rw [if_neg hb, if_neg hb, consH_push b c hb _ (pieces_ne t)]
/-- How many runes the pieces have, each with its point. -/
def sumN (ps : List (List UInt8)) : Nat := (ps.map fun p => (runesN p).getD 0 + 1).sum
def rightL (l : List UInt8) : Bool := (piecesL l).all partL && decide ((piecesL l).length ≤ 4) && decide (sumN (piecesL l) ≤ 25)
def okP (ps : List (List UInt8)) : Prop := ∀ p ∈ ps, runesN p ≠ none
theorem partL_ok {p : List UInt8} (h : partL p = true) : runesN p ≠ none := by
  intro e
  unfold partL at h
  rw [e] at h
  cases h
theorem first_point (t : List UInt8) : firstR (46 :: t) = (46, 1) := by
  simp only [firstR]
  have hl : leadR (46 : UInt8).toNat = (1, 46) := by decide
  rw [hl]
  show (if (46 :: t).length < 1 then ((0 : Nat), (0 : Nat)) else if okR (46 :: t) 1 = false then (0, 0) else if rightR 46 = false ∨ bytesR 46 ≠ (46 :: t).take 1 then (0, 0) else (46, 1)) = _
  rw [if_neg (by simp), if_neg (by show ¬ true = false; decide), if_neg]
  rintro (e | e)
  · revert e; decide
  · exact e rfl
theorem smallAt_point (t : List UInt8) : smallAt (46 :: t) = 0 := by cases t <;> rfl
/-- All runes of a text of such pieces, points among them. -/
theorem count_pieces : ∀ (f : Nat) (l : List UInt8), l.length ≤ f → okP (piecesL l) → ∃ rs, runesR f l = some rs ∧ rs.length + 1 = sumN (piecesL l)
  | _, [], _, _ => ⟨[], by simp [runesR], by simp [piecesL, sumN, runesN]⟩
  | 0, _ :: _, h, _ => by simp at h
  | f + 1, b :: t, h, ho => by
    have hlen : t.length ≤ f := by simpa using h
    by_cases hb : b = 46
    · subst hb
      have hp : piecesL (46 :: t) = [] :: piecesL t := by show (if (46 : UInt8) = 46 then _ else _) = _; rw [if_pos rfl]
      rw [hp] at ho ⊢
      obtain ⟨rs, h1, h2⟩ := count_pieces f t hlen (fun p hq => ho p (List.mem_cons_of_mem _ hq))
      refine ⟨46 :: rs, ?_, ?_⟩
      · simp only [runesR]
        rw [first_point, if_neg (by decide)]
        show Option.map _ (runesR f t) = _
        rw [h1]
        rfl
      · show rs.length + 1 + 1 = sumN ([] :: piecesL t)
        unfold sumN at h2 ⊢
        rw [List.map_cons, List.sum_cons, ← h2]
        simp [runesN]
        omega
    · have hp : piecesL (b :: t) = consH b (piecesL t) := by show (if b = 46 then _ else _) = _; rw [if_neg hb]
      cases hq : piecesL t with
      | nil => exact absurd hq (pieces_ne t)
      | cons p ps =>
        rw [hq] at hp
        have hp : piecesL (b :: t) = (b :: p) :: ps := hp
        rw [hp] at ho ⊢
        have hr := ho (b :: p) List.mem_cons_self
        by_cases ha : smallA b = true
        · have hs : smallAt (b :: p) = 1 := by cases p <;> simp only [smallAt] <;> rw [if_pos ha]
          have hs2 : smallAt (b :: t) = 1 := by cases t <;> simp only [smallAt] <;> rw [if_pos ha]
          obtain ⟨h1, h2⟩ := first_small hs2 (by decide)
          obtain ⟨_, _, h3⟩ := runesN_step hs (by decide)
          rw [List.drop_one, List.tail_cons] at h3
          have hpn : runesN p ≠ none := fun e => hr (by rw [h3, e]; rfl)
          obtain ⟨rs, e1, e2⟩ := count_pieces f t hlen (by rw [hq]; exact fun x hx => (List.mem_cons.1 hx).elim (fun e => e ▸ hpn) (fun hx => ho x (List.mem_cons_of_mem _ hx)))
          refine ⟨(firstR (b :: t)).1 :: rs, ?_, ?_⟩
          · simp only [runesR]
            rw [h1, if_neg (by decide), List.drop_one, List.tail_cons, e1]
            rfl
          · rw [hq] at e2
            unfold sumN at e2 ⊢
            rw [List.map_cons, List.sum_cons] at e2 ⊢
            rw [h3, List.length_cons]
            cases hv : runesN p with
            | none => exact absurd hv hpn
            | some n => rw [hv] at e2; simp at e2 ⊢; omega
        · -- two bytes
          match p, hr, hp, hq with
          | [], hr, _, _ => exact absurd (by simp only [runesN]; rw [if_neg ha]) hr
          | c :: p', hr, hp, hq =>
            by_cases hc : b = 195 ∧ smallC c = true
            · have hs : smallAt (b :: c :: p') = 2 := by simp only [smallAt]; rw [if_neg ha, if_pos hc]
              -- t begins with c
              obtain ⟨t', rfl, hq'⟩ : ∃ t', t = c :: t' ∧ piecesL t' = p' :: ps := by
                match t, hq with
                | [], hq => simp [piecesL] at hq
                | d :: t', hq =>
                  by_cases hd : d = 46
                  · have : piecesL (d :: t') = [] :: piecesL t' := by show (if d = 46 then _ else _) = _; rw [if_pos hd]
                    rw [this] at hq
                    cases hq
                  · have : piecesL (d :: t') = consH d (piecesL t') := by show (if d = 46 then _ else _) = _; rw [if_neg hd]
                    rw [this] at hq
                    cases hw : piecesL t' with
                    | nil => exact absurd hw (pieces_ne t')
                    | cons x xs =>
                      rw [hw] at hq
                      have hq : (d :: x) :: xs = (c :: p') :: ps := hq
                      injection hq with h1 h2
                      injection h1 with h1 h3
                      exact ⟨t', by rw [h1], by rw [hw, h3, h2]⟩
              have hs2 : smallAt (b :: c :: t') = 2 := by simp only [smallAt]; rw [if_neg ha, if_pos hc]
              obtain ⟨h1, h2⟩ := first_small hs2 (by decide)
              obtain ⟨_, _, h3⟩ := runesN_step hs (by decide)
              have h3 : runesN (b :: c :: p') = (runesN p').map (· + 1) := h3
              have hpn : runesN p' ≠ none := fun e => hr (by rw [h3, e]; rfl)
              obtain ⟨rs, e1, e2⟩ := count_pieces f t' (by simp at hlen; omega) (by rw [hq']; exact fun x hx => (List.mem_cons.1 hx).elim (fun e => e ▸ hpn) (fun hx => ho x (List.mem_cons_of_mem _ hx)))
              refine ⟨(firstR (b :: c :: t')).1 :: rs, ?_, ?_⟩
              · simp only [runesR]
                rw [h1, if_neg (by decide)]
                show Option.map _ (runesR f t') = _
                rw [e1]
                rfl
              · rw [hq'] at e2
                unfold sumN at e2 ⊢
                rw [List.map_cons, List.sum_cons] at e2 ⊢
                rw [h3, List.length_cons]
                cases hv : runesN p' with
                | none => exact absurd hv hpn
                | some n => rw [hv] at e2; simp at e2 ⊢; omega
            · exact absurd (by rw [runesN, if_neg ha, if_neg hc]) hr
/-- The reference's names. -/
def rightRef (l : List UInt8) : Bool := (piecesL l).all partR && decide ((piecesL l).length ≤ 4) && (match runesR l.length l with | some rs => decide (rs.length ≤ 24) | none => true)
theorem rightRef_eq (l : List UInt8) : rightRef l = rightL l := by
  unfold rightRef rightL
  have hp : (piecesL l).all partR = (piecesL l).all partL := by congr 1; funext x; exact partR_eq x
  rw [hp]
  cases ha : (piecesL l).all partL with
  | false => rfl
  | true =>
    obtain ⟨rs, h1, h2⟩ := count_pieces l.length l (Nat.le_refl _) (fun p hx => partL_ok (List.all_eq_true.1 ha p hx))
    rw [h1]
    show (_ && _ && decide (rs.length ≤ 24)) = _
    have : decide (rs.length ≤ 24) = decide (sumN (piecesL l) ≤ 25) := by rw [← h2]; exact decide_eq_decide.2 (by omega)
    rw [this]
end Go.Proofs.YtfemhhjmfckicaaGreatDoor

/- Names, in plain Lean: texts of such runes are valid, and as many runes. No condition. -/
namespace Go.Proofs.YtfemhhjmfckicaaGreatDoor
open Go.RowKit
set_option linter.unusedVariables false
theorem decodeL_small {l : List UInt8} {k : Nat} (h : smallAt l = k) (hk : 0 < k) (hl : l ≠ []) : (Lib.decodeL l).2 = k ∧ smallR (Lib.decodeL l).1 = true := by
  have hpos : 0 < l.length := List.length_pos_iff.2 hl
  have hd := decode_small l 0 hpos
  rw [List.drop_zero] at hd
  show (Utf8.decode ⟨l.toArray⟩ 0).2 = k ∧ smallR (Utf8.decode ⟨l.toArray⟩ 0).1 = true
  by_cases hs : smallR (Utf8.decode ⟨l.toArray⟩ 0).1 = true
  · rw [if_pos hs] at hd
    exact ⟨by omega, hs⟩
  · rw [if_neg hs] at hd
    omega
theorem smallAt_pos {l : List UInt8} (h : runesN l ≠ none) (hl : l ≠ []) : 0 < smallAt l := by
  rcases Nat.eq_zero_or_pos (smallAt l) with h0 | h0
  · exact absurd (runesN_stop h0 hl) h
  · exact h0
theorem valid_small : ∀ (f : Nat) (l : List UInt8), l.length ≤ f → runesN l ≠ none → Lib.validGoD f l = true
  | 0, _, _, _ => rfl
  | f + 1, l, hf, h => by
    unfold Lib.validGoD
    by_cases hl : l = []
    · rw [if_pos hl]
    · rw [if_neg hl]
      have hp := smallAt_pos h hl
      obtain ⟨h1, h2⟩ := decodeL_small rfl hp hl
      obtain ⟨h3, h4, h5⟩ := runesN_step rfl hp
      rw [if_neg (fun e => by rw [e.1] at h2; revert h2; decide), h1]
      exact valid_small f (l.drop (smallAt l)) (by rw [List.length_drop]; omega) (fun e => h (by rw [h5, e]; rfl))
theorem valid_of {l : List UInt8} (h : runesN l ≠ none) : Lib.validD l = true := valid_small l.length l (Nat.le_refl _) h
end Go.Proofs.YtfemhhjmfckicaaGreatDoor
