/- Own texts of this claim, one behind the other. No condition. -/
import Derived.Test.YtfemhhjmfckicaaGreatDoorObPkS

/- Names, in plain Lean: what is joined is split again; the order of names. No condition. -/
namespace Go.Proofs.YtfemhhjmfckicaaGreatDoor
open Go.RowKit
set_option linter.unusedVariables false
set_option linter.unusedSimpArgs false
theorem joinTail_append (r s : List (List UInt8)) : Lib.joinTail [46] (r ++ s) = Lib.joinTail [46] r ++ Lib.joinTail [46] s := by simp [Lib.joinTail]
theorem joinTail_cons (x : List UInt8) (r : List (List UInt8)) : Lib.joinTail [46] (x :: r) = 46 :: (x ++ Lib.joinTail [46] r) := by simp [Lib.joinTail]
theorem joinL_cons (x : List UInt8) (r : List (List UInt8)) : joinL (x :: r) = x ++ Lib.joinTail [46] r := Lib.join_cons x r _
theorem joinL_append (xs ys : List (List UInt8)) (hx : xs ≠ []) (hy : ys ≠ []) : joinL (xs ++ ys) = joinL xs ++ [46] ++ joinL ys := by
  match xs, ys, hx, hy with
  | x :: r, y :: q, _, _ =>
    rw [List.cons_append, joinL_cons, joinL_cons, joinL_cons, joinTail_append, joinTail_cons]
    simp
/-- What stands between points holds none. -/
theorem pieces_free : ∀ (l : List UInt8), ∀ p ∈ piecesL l, (46 : UInt8) ∉ p
  | [], p, hp => by simp [piecesL] at hp; subst hp; simp
  | b :: t, p, hp => by
    unfold piecesL at hp
    split at hp
    · rcases List.mem_cons.1 hp with rfl | hp
      · simp
      · exact pieces_free t p hp
    · next hb =>
      cases hq : piecesL t with
      | nil => exact absurd hq (pieces_ne t)
      | cons q qs =>
        rw [hq] at hp
        rcases List.mem_cons.1 hp with rfl | hp
        · rintro h
          rcases List.mem_cons.1 h with h | h
          · exact hb h.symm
          · exact pieces_free t q (by rw [hq]; exact List.mem_cons_self) h
        · exact pieces_free t p (by rw [hq]; exact List.mem_cons_of_mem _ hp)
theorem join_pieces : ∀ l : List UInt8, joinL (piecesL l) = l
  | [] => rfl
  | b :: t => by
    have ih := join_pieces t
    unfold piecesL
    split
    · next hb =>
      subst hb
      cases hq : piecesL t with
      | nil => exact absurd hq (pieces_ne t)
      | cons q qs =>
        rw [hq, joinL_cons] at ih
        rw [joinL_cons, joinTail_cons, ih]
        rfl
    · cases hq : piecesL t with
      | nil => exact absurd hq (pieces_ne t)
      | cons q qs =>
        rw [hq, joinL_cons] at ih
        show joinL ((b :: q) :: qs) = _
        rw [joinL_cons, List.cons_append, ih]
theorem pieces_pre : ∀ (p l : List UInt8), (46 : UInt8) ∉ p → piecesL (p ++ 46 :: l) = p :: piecesL l
  | [], l, _ => by show (if (46 : UInt8) = 46 then _ else _) = _; rw [if_pos rfl]
  | b :: p, l, h => by
    have hb : b ≠ 46 := fun e => h (e ▸ List.mem_cons_self)
    show (if b = 46 then _ else consH b (piecesL (p ++ 46 :: l))) = _
    rw [if_neg hb, pieces_pre p l (fun hp => h (List.mem_cons_of_mem _ hp))]
    rfl
theorem pieces_join : ∀ ps : List (List UInt8), ps ≠ [] → (∀ p ∈ ps, (46 : UInt8) ∉ p) → piecesL (joinL ps) = ps
  | [], h, _ => absurd rfl h
  | [p], _, hp => by
    rw [joinL_one]
    exact pieces_none p fun b hb e => hp p List.mem_cons_self (e ▸ hb)
  | p :: q :: qs, _, hp => by
    have ih := pieces_join (q :: qs) (by simp) (fun x hx => hp x (List.mem_cons_of_mem _ hx))
    rw [joinL_cons, joinTail_cons, ← joinL_cons, pieces_pre _ _ (hp p List.mem_cons_self), ih]
theorem sumN_take (ps : List (List UInt8)) (i : Nat) : sumN (ps.take i) ≤ sumN ps := by
  have h : sumN ps = sumN (ps.take i) + sumN (ps.drop i) := by
    unfold sumN
    rw [← List.sum_append_nat, ← List.map_append, List.take_append_drop]
  omega
theorem rightL_parts {l : List UInt8} (h : rightL l = true) : (piecesL l).all partL = true ∧ (piecesL l).length ≤ 4 ∧ sumN (piecesL l) ≤ 25 := by
  unfold rightL at h
  rw [Bool.and_eq_true, Bool.and_eq_true, decide_eq_true_iff, decide_eq_true_iff] at h
  exact ⟨h.1.1, h.1.2, h.2⟩
/-- The first parts of a name. -/
def topL (l : List UInt8) (i : Nat) : List UInt8 := joinL ((piecesL l).take i)
theorem top_pieces {l : List UInt8} {i : Nat} (h0 : 0 < i) : piecesL (topL l i) = (piecesL l).take i := by
  apply pieces_join
  · intro e
    have := congrArg List.length e
    rw [List.length_take] at this
    have h2 := List.length_pos_iff.2 (pieces_ne l)
    rw [List.length_nil] at this
    omega
  · exact fun p hp => pieces_free l p (List.mem_of_mem_take hp)
theorem right_top {l : List UInt8} {i : Nat} (h : rightL l = true) (h0 : 0 < i) : rightL (topL l i) = true := by
  obtain ⟨h1, h2, h3⟩ := rightL_parts h
  unfold rightL
  rw [top_pieces h0, Bool.and_eq_true, Bool.and_eq_true, decide_eq_true_iff, decide_eq_true_iff]
  refine ⟨⟨?_, ?_⟩, Nat.le_trans (sumN_take _ i) h3⟩
  · rw [List.all_eq_true] at h1 ⊢
    exact fun p hp => h1 p (List.mem_of_mem_take hp)
  · rw [List.length_take]; omega
theorem top_all (l : List UInt8) (i : Nat) (h : (piecesL l).length ≤ i) : topL l i = l := by
  unfold topL
  rw [List.take_of_length_le h, join_pieces]
theorem joinR_top {l : List UInt8} {i : Nat} (h : rightL l = true) (h0 : 0 < i) : joinR ((piecesL l).take i) = (topL l i, 0) := by
  obtain ⟨h1, h2, h3⟩ := rightL_parts h
  have hl := List.length_pos_iff.2 (pieces_ne l)
  have ht : ((piecesL l).take i).length = min i (piecesL l).length := List.length_take
  unfold joinR
  rw [if_neg (by rw [ht]; omega), if_neg, if_neg]
  · rfl
  · have := right_top h h0
    unfold topL at this
    rw [this]; decide
  · have : ((piecesL l).take i).all partL = true := by
      rw [List.all_eq_true] at h1 ⊢
      exact fun p hp => h1 p (List.mem_of_mem_take hp)
    rw [this]; decide
theorem joinR_pieces {l : List UInt8} (h : rightL l = true) : joinR (piecesL l) = (l, 0) := by
  have h0 := joinR_top h (List.length_pos_iff.2 (pieces_ne l))
  rwa [List.take_length, top_all l _ (Nat.le_refl _)] at h0
theorem top_split (l : List UInt8) (i : Nat) (h0 : 0 < i) (hi : i < (piecesL l).length) : l = topL l i ++ [46] ++ joinL ((piecesL l).drop i) := by
  have h := joinL_append ((piecesL l).take i) ((piecesL l).drop i) (by intro e; have := congrArg List.length e; rw [List.length_take, List.length_nil] at this; omega) (by intro e; have := congrArg List.length e; rw [List.length_drop, List.length_nil] at this; omega)
  rw [List.take_append_drop, join_pieces] at h
  exact h
theorem pre_of {l t : List UInt8} (r : List UInt8) (h : l = t ++ r) : Lib.hasPrefix l t = true := by
  subst h
  unfold Lib.hasPrefix
  rw [List.isPrefixOf_iff_prefix]
  exact List.prefix_append _ _
theorem below_top {l : List UInt8} {i : Nat} (h : rightL l = true) (h0 : 0 < i) (hi : i < (piecesL l).length) : belowP l (topL l i) = true := by
  unfold belowP
  rw [h, right_top h h0, pre_of _ (top_split l i h0 hi)]
  rfl
theorem below_short {s t : List UInt8} (h : s.length ≤ t.length) : belowP s t = false := by
  unfold belowP
  have : Lib.hasPrefix s (t ++ [46]) = false := by
    rw [Bool.eq_false_iff]
    intro e
    have h2 : (t ++ [46]).length ≤ s.length := by
      unfold Lib.hasPrefix at e
      rw [List.isPrefixOf_iff_prefix] at e
      exact e.length_le
    rw [List.length_append, List.length_singleton] at h2
    omega
  rw [this, Bool.and_false]
theorem top_len (l : List UInt8) (i : Nat) (h0 : 0 < i) (hi : i < (piecesL l).length) : (topL l i).length ≤ l.length := by
  have h := congrArg List.length (top_split l i h0 hi)
  rw [List.length_append, List.length_append] at h
  omega
/-- How two texts stand. -/
def cmpB (x y : List UInt8) : Int := if Op.bytesLess x y = true then -1 else if (Op.bytesLess x y || x == y) = false then 1 else 0
def compareL : List (List UInt8) → List (List UInt8) → Int
  | [], [] => 0
  | [], _ :: _ => -1
  | _ :: _, [] => 1
  | x :: xs, y :: ys => if cmpB x y = 0 then compareL xs ys else cmpB x y
theorem less_same : ∀ x : List UInt8, Op.bytesLess x x = false
  | [] => rfl
  | a :: x => by rw [Op.bytesLess, less_same x]; simp
theorem lt_three (a b : UInt8) : a < b ∨ a = b ∨ b < a := by
  rw [UInt8.lt_iff_toNat_lt, UInt8.lt_iff_toNat_lt]
  have : a.toNat = b.toNat → a = b := UInt8.toNat_inj.1
  by_cases h : a.toNat = b.toNat
  · exact .inr (.inl (this h))
  · omega
theorem less_turn : ∀ x y : List UInt8, Op.bytesLess y x = (!Op.bytesLess x y && !(x == y))
  | [], [] => by simp [Op.bytesLess]
  | _ :: _, [] => by simp [Op.bytesLess]
  | [], _ :: _ => by simp [Op.bytesLess]
  | a :: x, b :: y => by
    rw [Op.bytesLess, Op.bytesLess, less_turn x y]
    rcases lt_three a b with h | h | h
    · have h2 : ¬ b < a := UInt8.lt_asymm h
      have h3 : a ≠ b := UInt8.ne_of_lt h
      simp [h, h2, h3, Ne.symm h3]
    · subst h
      simp [UInt8.lt_irrefl]
    · have h2 : ¬ a < b := UInt8.lt_asymm h
      have h3 : b ≠ a := UInt8.ne_of_lt h
      simp [h, h2, h3, Ne.symm h3]
theorem cmpB_same (x : List UInt8) : cmpB x x = 0 := by unfold cmpB; simp [less_same]
theorem cmpB_turn (x y : List UInt8) : cmpB y x = - cmpB x y := by
  unfold cmpB
  rw [less_turn x y]
  have h : (y == x) = (x == y) := by rw [Bool.eq_iff_iff, beq_iff_eq, beq_iff_eq]; exact eq_comm
  rw [h]
  by_cases h1 : Op.bytesLess x y = true
  · have h2 : ¬ (x == y) = true := by
      intro e
      rw [beq_iff_eq] at e
      subst e
      rw [less_same] at h1
      cases h1
    simp [h1]
    simpa using h2
  · rw [Bool.not_eq_true] at h1
    cases h2 : (x == y) <;> simp [h1]
theorem cmpB_cases (x y : List UInt8) : cmpB x y = -1 ∨ cmpB x y = 0 ∨ cmpB x y = 1 := by
  unfold cmpB
  split
  · exact .inl rfl
  · split
    · exact .inr (.inr rfl)
    · exact .inr (.inl rfl)
theorem compare_turn : ∀ xs ys, compareL ys xs = - compareL xs ys
  | [], [] => rfl
  | [], _ :: _ => rfl
  | _ :: _, [] => rfl
  | x :: xs, y :: ys => by
    unfold compareL
    rw [cmpB_turn x y, compare_turn xs ys]
    by_cases h : cmpB x y = 0
    · rw [if_pos h, if_pos (by omega)]
    · rw [if_neg h, if_neg (by omega)]
theorem compare_cases : ∀ xs ys, compareL xs ys = -1 ∨ compareL xs ys = 0 ∨ compareL xs ys = 1
  | [], [] => .inr (.inl rfl)
  | [], _ :: _ => .inl rfl
  | _ :: _, [] => .inr (.inr rfl)
  | x :: xs, y :: ys => by
    unfold compareL
    split
    · exact compare_cases xs ys
    · exact cmpB_cases x y
theorem compare_take : ∀ (xs : List (List UInt8)) (i : Nat), i < xs.length → compareL (xs.take i) xs = -1
  | [], i, h => by simp at h
  | x :: xs, 0, _ => rfl
  | x :: xs, i + 1, h => by
    rw [List.take_succ_cons]
    unfold compareL
    rw [if_pos (cmpB_same x)]
    exact compare_take xs i (by simpa using h)
/-- How two names stand. -/
def cmpL (s t : List UInt8) : Int := if rightL s = true ∧ rightL t = true then compareL (piecesL s) (piecesL t) else 0
theorem cmpL_turn (s t : List UInt8) : cmpL t s = - cmpL s t := by
  unfold cmpL
  by_cases h : rightL s = true ∧ rightL t = true
  · rw [if_pos h, if_pos ⟨h.2, h.1⟩, compare_turn]
  · rw [if_neg h, if_neg (fun h' => h ⟨h'.2, h'.1⟩)]; rfl
theorem cmpL_cases (s t : List UInt8) : cmpL s t = -1 ∨ cmpL s t = 0 ∨ cmpL s t = 1 := by
  unfold cmpL
  split
  · exact compare_cases _ _
  · exact .inr (.inl rfl)
theorem cmpL_top {l : List UInt8} {i : Nat} (h : rightL l = true) (h0 : 0 < i) (hi : i < (piecesL l).length) : cmpL (topL l i) l = -1 := by
  unfold cmpL
  rw [if_pos ⟨right_top h h0, h⟩, top_pieces h0, compare_take _ _ hi]
end Go.Proofs.YtfemhhjmfckicaaGreatDoor
