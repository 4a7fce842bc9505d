/- Own texts of this claim, one behind the other. No condition. -/
import Derived.Test.YtfemhhjmfckicaaGreatDoorObPkT

/- Heads in order, in plain Lean. No condition. -/
namespace Go.Proofs.YtfemhhjmfckicaaGreatDoor
open Go.RowKit
set_option linter.unusedVariables false
set_option linter.unusedSimpArgs false
theorem less_trans : ∀ x y z : List UInt8, Op.bytesLess x y = true → Op.bytesLess y z = true → Op.bytesLess x z = true
  | x, [], z, h, _ => by cases x <;> simp [Op.bytesLess] at h
  | x, _ :: _, [], _, h => by simp [Op.bytesLess] at h
  | [], _ :: _, _ :: _, _, _ => rfl
  | a :: x, b :: y, c :: z, h, k => by
    rw [Op.bytesLess] at h k ⊢
    simp only [Bool.or_eq_true, Bool.and_eq_true, decide_eq_true_eq, beq_iff_eq] at h k ⊢
    rcases h with h | ⟨rfl, h⟩ <;> rcases k with k | ⟨rfl, k⟩
    · exact .inl (UInt8.lt_trans h k)
    · exact .inl h
    · exact .inl k
    · exact .inr ⟨rfl, less_trans x y z h k⟩
theorem cmpB_less {x y : List UInt8} : cmpB x y = -1 ↔ Op.bytesLess x y = true := by
  unfold cmpB
  by_cases h : Op.bytesLess x y = true
  · rw [if_pos h]; exact ⟨fun _ => h, fun _ => rfl⟩
  · rw [if_neg h]
    refine ⟨fun e => ?_, fun e => absurd e h⟩
    split at e <;> omega
theorem cmpB_zero {x y : List UInt8} (h : cmpB x y = 0) : x = y := by
  unfold cmpB at h
  split at h
  · omega
  · split at h
    · omega
    · next h1 h2 =>
      rw [Bool.not_eq_false, Bool.or_eq_true] at h2
      rcases h2 with h2 | h2
      · exact absurd h2 h1
      · exact beq_iff_eq.1 h2
theorem cmpB_trans {x y z : List UInt8} (h : cmpB x y = -1) (k : cmpB y z = -1) : cmpB x z = -1 := cmpB_less.2 (less_trans x y z (cmpB_less.1 h) (cmpB_less.1 k))
theorem compare_same : ∀ xs, compareL xs xs = 0
  | [] => rfl
  | x :: xs => by unfold compareL; rw [if_pos (cmpB_same x)]; exact compare_same xs
theorem compare_zero : ∀ {xs ys}, compareL xs ys = 0 → xs = ys
  | [], [], _ => rfl
  | [], _ :: _, h => by simp [compareL] at h
  | _ :: _, [], h => by simp [compareL] at h
  | x :: xs, y :: ys, h => by
    unfold compareL at h
    split at h
    · next h1 => rw [cmpB_zero h1, compare_zero h]
    · next h1 => exact absurd h h1
theorem compare_trans : ∀ {xs ys zs}, compareL xs ys = -1 → compareL ys zs = -1 → compareL xs zs = -1
  | [], [], _, h, _ => by simp [compareL] at h
  | _ :: _, [], _, h, _ => by simp [compareL] at h
  | _, _ :: _, [], _, k => by simp [compareL] at k
  | [], _ :: _, _ :: _, _, _ => rfl
  | x :: xs, y :: ys, z :: zs, h, k => by
    unfold compareL at h k ⊢
    by_cases h1 : cmpB x y = 0
    · rw [if_pos h1] at h
      have hxy := cmpB_zero h1
      subst hxy
      by_cases k1 : cmpB x z = 0
      · rw [if_pos k1] at k ⊢
        exact compare_trans h k
      · rw [if_neg k1] at k ⊢
        exact k
    · rw [if_neg h1] at h
      by_cases k1 : cmpB y z = 0
      · have hyz := cmpB_zero k1
        subst hyz
        rw [if_neg h1]
        exact h
      · rw [if_neg k1] at k
        have hx := cmpB_trans h k
        rw [if_neg (by rw [hx]; omega)]
        exact hx
theorem cmpL_zero {s t : List UInt8} (hs : rightL s = true) (ht : rightL t = true) (h : cmpL s t = 0) : s = t := by
  unfold cmpL at h
  rw [if_pos ⟨hs, ht⟩] at h
  have := compare_zero h
  rw [← join_pieces s, ← join_pieces t, this]
theorem cmpL_same (s : List UInt8) : cmpL s s = 0 := by
  unfold cmpL
  split
  · exact compare_same _
  · rfl
/-! ### the order of heads -/
def headC (a b : List UInt8) : Int := if rightL a = true then (if rightL b = true then cmpL a b else 1) else if rightL b = true then -1 else cmpB a b
theorem headC_cases (a b : List UInt8) : headC a b = -1 ∨ headC a b = 0 ∨ headC a b = 1 := by
  unfold headC
  split
  · split
    · exact cmpL_cases a b
    · exact .inr (.inr rfl)
  · split
    · exact .inl rfl
    · exact cmpB_cases a b
theorem headC_turn (a b : List UInt8) : headC b a = - headC a b := by
  unfold headC
  by_cases ha : rightL a = true <;> by_cases hb : rightL b = true
  · rw [if_pos ha, if_pos hb, if_pos ha, if_pos hb]; exact cmpL_turn a b
  · simp only [ha, hb, if_true, if_false, Bool.false_eq_true]
  · simp only [ha, hb, if_true, if_false, Bool.false_eq_true]; rfl
  · simp only [ha, hb, if_true, if_false, Bool.false_eq_true]; exact cmpB_turn a b
theorem headC_same (a : List UInt8) : headC a a = 0 := by
  unfold headC
  split
  · exact cmpL_same a
  · exact cmpB_same a
theorem headC_zero {a b : List UInt8} (h : headC a b = 0) : a = b := by
  unfold headC at h
  split at h
  · next ha =>
    split at h
    · next hb => exact cmpL_zero ha hb h
    · omega
  · split at h
    · omega
    · exact cmpB_zero h
theorem headC_trans {a b c : List UInt8} (h : headC a b = -1) (k : headC b c = -1) : headC a c = -1 := by
  unfold headC at *
  by_cases ha : rightL a = true <;> by_cases hb : rightL b = true <;> by_cases hc : rightL c = true
  all_goals simp only [ha, hb, hc, if_true, if_false, Bool.false_eq_true] at h k ⊢
  · unfold cmpL at *
    rw [if_pos ⟨ha, hb⟩] at h
    rw [if_pos ⟨hb, hc⟩] at k
    rw [if_pos ⟨ha, hc⟩]
    exact compare_trans h k
  all_goals first | omega | exact cmpB_trans h k
abbrev LtH (a b : List UInt8) : Prop := headC a b = -1
theorem ltH_not {a b : List UInt8} (h : LtH a b) : ¬ LtH b a := fun k => by
  have := headC_turn a b
  unfold LtH at h k
  omega
theorem ltH_ne {a b : List UInt8} (h : LtH a b) : a ≠ b := fun e => by
  subst e
  have := headC_same a
  unfold LtH at h
  omega
theorem ltH_three (a b : List UInt8) : LtH a b ∨ a = b ∨ LtH b a := by
  rcases headC_cases a b with h | h | h
  · exact .inl h
  · exact .inr (.inl (headC_zero h))
  · right; right
    have := headC_turn a b
    unfold LtH
    omega
/-- Names in order, each once. -/
def InOrder (L : List (List UInt8)) : Prop := L.Pairwise LtH
/-- The names of heads. -/
def NamesOf (hs N : List (List UInt8)) : Prop := InOrder N ∧ ∀ x, x ∈ N ↔ x ∈ hs ∧ x ≠ []
theorem order_same : ∀ {L M : List (List UInt8)}, InOrder L → InOrder M → (∀ x, x ∈ L ↔ x ∈ M) → L = M
  | [], [], _, _, _ => rfl
  | [], m :: M, _, _, h => by have := (h m).2 List.mem_cons_self; cases this
  | l :: L, [], _, _, h => by have := (h l).1 List.mem_cons_self; cases this
  | l :: L, m :: M, hL, hM, h => by
    unfold InOrder at hL hM
    rw [List.pairwise_cons] at hL hM
    have e : l = m := by
      rcases List.mem_cons.1 ((h l).1 List.mem_cons_self) with e | hl
      · exact e
      rcases List.mem_cons.1 ((h m).2 List.mem_cons_self) with e | hm
      · exact e.symm
      exact absurd (hM.1 l hl) (ltH_not (hL.1 m hm))
    subst e
    rw [order_same (L := L) (M := M) hL.2 hM.2 (fun x => ⟨fun hx => ?_, fun hx => ?_⟩)]
    · rcases List.mem_cons.1 ((h x).1 (List.mem_cons_of_mem _ hx)) with e | hx'
      · exact absurd e.symm (ltH_ne (hL.1 x hx))
      · exact hx'
    · rcases List.mem_cons.1 ((h x).2 (List.mem_cons_of_mem _ hx)) with e | hx'
      · exact absurd e.symm (ltH_ne (hM.1 x hx))
      · exact hx'
theorem names_same {hs N M : List (List UInt8)} (h : NamesOf hs N) (k : NamesOf hs M) : N = M := order_same h.1 k.1 fun x => (h.2 x).trans (k.2 x).symm
theorem names_perm {hs gs N : List (List UInt8)} (h : NamesOf hs N) (hp : ∀ x, x ∈ gs ↔ x ∈ N) : NamesOf gs N :=
  ⟨h.1, fun x => ⟨fun hx => ⟨(hp x).2 hx, ((h.2 x).1 hx).2⟩, fun hx => (hp x).1 hx.1⟩⟩
/-! ### the program's way: in order, then each once -/
def compactL : List (List UInt8) → List (List UInt8)
  | [] => []
  | [x] => [x]
  | x :: y :: l => if x = y then compactL (y :: l) else x :: compactL (y :: l)
theorem compact_mem : ∀ (l : List (List UInt8)) (x : List UInt8), x ∈ compactL l ↔ x ∈ l
  | [], x => Iff.rfl
  | [a], x => Iff.rfl
  | a :: b :: l, x => by
    have ih := compact_mem (b :: l) x
    unfold compactL
    split
    · next h =>
      subst h
      rw [ih]
      simp
    · rw [List.mem_cons, ih, List.mem_cons (l := b :: l)]
theorem compact_len : ∀ (l : List (List UInt8)), (compactL l).length ≤ l.length
  | [] => Nat.le_refl _
  | [a] => Nat.le_refl _
  | a :: b :: l => by
    have ih := compact_len (b :: l)
    unfold compactL
    split
    · simp at ih ⊢; omega
    · simp at ih ⊢; omega
/-- Weakly in order: nothing stands behind what it is ahead of. -/
def Weak (L : List (List UInt8)) : Prop := L.Pairwise fun a b => ¬ LtH b a
theorem compact_order : ∀ {l : List (List UInt8)}, Weak l → InOrder (compactL l)
  | [], _ => List.Pairwise.nil
  | [a], _ => List.pairwise_singleton _ _
  | a :: b :: l, h => by
    unfold Weak at h
    rw [List.pairwise_cons] at h
    have ih := compact_order (l := b :: l) h.2
    unfold compactL
    split
    · exact ih
    · next hne =>
      unfold InOrder
      rw [List.pairwise_cons]
      refine ⟨fun x hx => ?_, ih⟩
      rw [compact_mem] at hx
      have hab : LtH a b := by
        rcases ltH_three a b with h1 | h1 | h1
        · exact h1
        · exact absurd h1 hne
        · exact absurd h1 (h.1 b List.mem_cons_self)
      rcases List.mem_cons.1 hx with rfl | hx
      · exact hab
      · rw [List.pairwise_cons] at h
        rcases ltH_three b x with h1 | h1 | h1
        · exact headC_trans hab h1
        · rw [← h1]; exact hab
        · exact absurd h1 (h.2.1 x hx)
def fullH (hs : List (List UInt8)) : List (List UInt8) := hs.filter fun x => !(x == [])
theorem compact_names {hs S : List (List UInt8)} (hp : S.Perm (fullH hs)) (hw : Weak S) : NamesOf hs (compactL S) := by
  refine ⟨compact_order hw, fun x => ?_⟩
  rw [compact_mem, hp.mem_iff]
  unfold fullH
  rw [List.mem_filter]
  simp
/-! ### the reference's way: each one put where it stands -/
def putH (h : List UInt8) : List (List UInt8) → List (List UInt8)
  | [] => [h]
  | x :: l => if headC x h = -1 then x :: putH h l else h :: x :: l
def stepH (out : List (List UInt8)) (h : List UInt8) : List (List UInt8) := if h = [] ∨ h ∈ out then out else putH h out
theorem put_mem (h : List UInt8) : ∀ (l : List (List UInt8)) (x : List UInt8), x ∈ putH h l ↔ x = h ∨ x ∈ l
  | [], x => by simp [putH]
  | a :: l, x => by
    unfold putH
    split
    · rw [List.mem_cons, put_mem h l x, List.mem_cons]
      constructor
      · rintro (h1 | h1 | h1)
        · exact .inr (.inl h1)
        · exact .inl h1
        · exact .inr (.inr h1)
      · rintro (h1 | h1 | h1)
        · exact .inr (.inl h1)
        · exact .inl h1
        · exact .inr (.inr h1)
    · rw [List.mem_cons]
theorem put_order {h : List UInt8} : ∀ {l : List (List UInt8)}, InOrder l → h ∉ l → InOrder (putH h l)
  | [], _, _ => List.pairwise_singleton _ _
  | a :: l, hl, hn => by
    unfold InOrder at hl
    have hl0 := hl
    rw [List.pairwise_cons] at hl
    have hne : a ≠ h := fun e => hn (by rw [e]; exact List.mem_cons_self)
    unfold putH
    split
    · next h1 =>
      unfold InOrder
      rw [List.pairwise_cons]
      refine ⟨fun x hx => ?_, put_order hl.2 (fun hm => hn (List.mem_cons_of_mem _ hm))⟩
      rcases (put_mem h l x).1 hx with rfl | hx
      · exact h1
      · exact hl.1 x hx
    · next h1 =>
      have hha : LtH h a := by
        rcases ltH_three h a with h2 | h2 | h2
        · exact h2
        · exact absurd h2.symm hne
        · exact absurd h2 h1
      unfold InOrder
      rw [List.pairwise_cons]
      refine ⟨fun x hx => ?_, hl0⟩
      rcases List.mem_cons.1 hx with rfl | hx
      · exact hha
      · exact headC_trans hha (hl.1 x hx)
theorem step_names {hs out : List (List UInt8)} (h : NamesOf hs out) (x : List UInt8) : NamesOf (hs ++ [x]) (stepH out x) := by
  unfold stepH
  split
  · next h1 =>
    refine ⟨h.1, fun y => ?_⟩
    rw [h.2 y, List.mem_append, List.mem_singleton]
    constructor
    · rintro ⟨h2, h3⟩; exact ⟨.inl h2, h3⟩
    · rintro ⟨h2 | h2, h3⟩
      · exact ⟨h2, h3⟩
      · subst h2
        rcases h1 with h1 | h1
        · exact absurd h1 h3
        · exact (h.2 y).1 h1
  · next h1 =>
    have hx0 : x ≠ [] := fun e => h1 (.inl e)
    have hxo : x ∉ out := fun e => h1 (.inr e)
    refine ⟨put_order h.1 hxo, fun y => ?_⟩
    rw [put_mem, h.2 y, List.mem_append, List.mem_singleton]
    constructor
    · rintro (h2 | ⟨h2, h3⟩)
      · subst h2; exact ⟨.inr rfl, hx0⟩
      · exact ⟨.inl h2, h3⟩
    · rintro ⟨h2 | h2, h3⟩
      · exact .inr ⟨h2, h3⟩
      · exact .inl h2
theorem names_nil : NamesOf [] [] := ⟨List.Pairwise.nil, fun x => by simp⟩
/-- Where the reference puts a head: behind those that it is not ahead of. -/
def atH (h : List UInt8) (l : List (List UInt8)) : Nat := (l.takeWhile fun x => headC x h == -1).length
theorem put_at (h : List UInt8) : ∀ l : List (List UInt8), putH h l = l.take (atH h l) ++ h :: l.drop (atH h l)
  | [] => rfl
  | a :: l => by
    unfold putH atH
    by_cases h1 : headC a h = -1
    · rw [if_pos h1, List.takeWhile_cons_of_pos (by simpa using h1), List.length_cons, List.take_succ_cons, List.drop_succ_cons, put_at h l]
      rfl
    · rw [if_neg h1, List.takeWhile_cons_of_neg (by simpa using h1)]
      rfl
theorem atH_step {h : List UInt8} {l : List (List UInt8)} {k : Nat} (hk : k < l.length) (ha : ∀ j (hj : j < k), headC (l[j]'(by omega)) h = -1) : (headC l[k] h = -1 → True) ∧ (headC l[k] h ≠ -1 → atH h l = k) := by
  refine ⟨fun _ => trivial, ?_⟩
  intro hn
  induction l generalizing k with
  | nil => simp at hk
  | cons a l ih =>
    cases k with
    | zero =>
      unfold atH
      rw [List.takeWhile_cons_of_neg (by simpa using hn)]
      rfl
    | succ k =>
      have h0 := ha 0 (by omega)
      unfold atH
      rw [List.takeWhile_cons_of_pos (by simpa using h0), List.length_cons]
      have := ih (k := k) (by simpa using hk) (fun j hj => by have := ha (j + 1) (by omega); simpa using this) (by simpa using hn)
      unfold atH at this
      rw [this]
theorem atH_all {h : List UInt8} {l : List (List UInt8)} (ha : ∀ j (hj : j < l.length), headC l[j] h = -1) : atH h l = l.length := by
  unfold atH
  induction l with
  | nil => rfl
  | cons a l ih =>
    have h0 := ha 0 (by simp)
    rw [List.takeWhile_cons_of_pos (by simpa using h0), List.length_cons, ih (fun j hj => by have := ha (j + 1) (by simpa using hj); simpa using this), List.length_cons]
/-! ### where a name is -/
def findH (hs : List (List UInt8)) (s : List UInt8) : Int := if s = [] then -1 else match hs.findIdx? (· == s) with
  | some i => (i : Int)
  | none => -1
def freeH (hs : List (List UInt8)) : Int := match hs.findIdx? (· == []) with
  | some i => (i : Int)
  | none => -1
def usedH (hs : List (List UInt8)) : Nat := (fullH hs).length
theorem find_some {hs : List (List UInt8)} {s : List UInt8} (h : s ∈ hs) (h0 : s ≠ []) : 0 ≤ findH hs s := by
  unfold findH
  rw [if_neg h0]
  cases hf : hs.findIdx? (· == s) with
  | some i => simp
  | none =>
    rw [List.findIdx?_eq_none_iff] at hf
    have := hf s h
    simp at this
theorem find_none {hs : List (List UInt8)} {s : List UInt8} (h : ¬ (s ∈ hs ∧ s ≠ [])) : findH hs s = -1 := by
  unfold findH
  by_cases h0 : s = []
  · rw [if_pos h0]
  · rw [if_neg h0]
    have : hs.findIdx? (· == s) = none := by
      rw [List.findIdx?_eq_none_iff]
      intro x hx
      rw [beq_eq_false_iff_ne]
      rintro rfl
      exact h ⟨hx, h0⟩
    rw [this]
theorem find_at {L : List (List UInt8)} (hL : InOrder L) {i : Nat} (hi : i < L.length) (h0 : L[i] ≠ []) : findH L L[i] = i := by
  unfold findH
  rw [if_neg h0]
  have : L.findIdx? (· == L[i]) = some i := by
    rw [List.findIdx?_eq_some_iff_getElem]
    refine ⟨hi, by simp, fun j hj => ?_⟩
    have h1 := List.pairwise_iff_getElem.1 hL j i (by omega) hi hj
    have := ltH_ne h1
    simpa using this
  rw [this]
end Go.Proofs.YtfemhhjmfckicaaGreatDoor
