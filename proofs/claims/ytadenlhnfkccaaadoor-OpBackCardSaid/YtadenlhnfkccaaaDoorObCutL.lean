/- Texts cut at a sign, in plain Lean. No condition. -/
import Derived.Test.YtadenlhnfkccaaaDoorObNameH
import Derived.Lib.IndexLaws
import Derived.Lib.Join
import Derived.Lib.SplitLaws
import Derived.Lib.CountLaws
namespace Go.Proofs.YtadenlhnfkccaaaDoor
open Go.RowKit
set_option linter.unusedVariables false
set_option linter.unusedSimpArgs false
def consC (b : UInt8) : List (List UInt8) → List (List UInt8)
  | [] => [[b]]
  | p :: ps => (b :: p) :: ps
/-- What stands between such signs. -/
def cutL (c : UInt8) : List UInt8 → List (List UInt8)
  | [] => [[]]
  | b :: t => if b = c then [] :: cutL c t else consC b (cutL c t)
theorem cut_ne (c : UInt8) : ∀ l, cutL c l ≠ []
  | [], h => by cases h
  | b :: t, h => by
    unfold cutL at h
    split at h
    · cases h
    · cases hp : cutL c t with
      | nil => exact cut_ne c t hp
      | cons p ps => rw [hp] at h; cases h
theorem cut_none (c : UInt8) : ∀ l : List UInt8, (∀ b ∈ l, b ≠ c) → cutL c l = [l]
  | [], _ => rfl
  | b :: t, h => by
    unfold cutL
    rw [if_neg (h b List.mem_cons_self), cut_none c t (fun x hx => h x (List.mem_cons_of_mem _ hx))]
    rfl
theorem cut_cut (c : UInt8) : ∀ (l : List UInt8) (i : Nat), l[i]? = some c → (∀ j, j < i → l[j]? ≠ some c) → cutL c l = l.take i :: cutL c (l.drop (i + 1))
  | [], i, h, _ => by simp at h
  | b :: t, 0, h, _ => by
    have : b = c := by simpa using h
    show (if b = c then [] :: cutL c t else consC b (cutL c t)) = _
    rw [if_pos this]
    rfl
  | b :: t, i + 1, h, hj => by
    have hb : b ≠ c := fun e => hj 0 (by omega) (by simp [e])
    have ih := cut_cut c t i (by simpa using h) (fun j hji => by have := hj (j + 1) (by omega); simpa using this)
    show (if b = c then [] :: cutL c t else consC b (cutL c t)) = _
    rw [if_neg hb, ih]
    rfl
theorem cut_index (c : UInt8) (l : List UInt8) (i : Int) (h : Lib.indexByte l c = i) : (i = -1 ∧ cutL c l = [l]) ∨ ∃ k : Nat, i = k ∧ k < l.length ∧ cutL c l = l.take k :: cutL c (l.drop (k + 1)) := by
  by_cases h0 : i < 0
  · have := Lib.indexByte_ge l c
    have hi : i = -1 := by omega
    subst hi
    left
    refine ⟨rfl, cut_none c l fun b hb e => ?_⟩
    subst e
    obtain ⟨k, hk, he⟩ := List.getElem_of_mem hb
    exact Lib.indexByte_none h k ((List.getElem?_eq_getElem hk).trans (by rw [he]))
  · right
    obtain ⟨k, rfl⟩ : ∃ k : Nat, i = k := ⟨i.toNat, by omega⟩
    obtain ⟨h1, h2⟩ := Lib.indexByte_some h
    exact ⟨k, rfl, (List.getElem?_eq_some_iff.1 h1).1, cut_cut c l k h1 h2⟩
/-- The reference's way: byte by byte. -/
def pushC (c : UInt8) (ps : List (List UInt8)) (b : UInt8) : List (List UInt8) := if b = c then ps ++ [[]] else ps.dropLast ++ [ps.getLastD [] ++ [b]]
theorem consC_push (c b x : UInt8) (hb : b ≠ c) (ps : List (List UInt8)) (hne : ps ≠ []) : consC b (pushC c ps x) = pushC c (consC b ps) x := by
  match ps, hne with
  | [p], _ =>
    unfold pushC
    by_cases hc : x = c
    · rw [if_pos hc, if_pos hc]; rfl
    · rw [if_neg hc, if_neg hc]; rfl
  | p :: q :: ps, _ =>
    unfold pushC
    by_cases hc : x = c
    · rw [if_pos hc, if_pos hc]; rfl
    · rw [if_neg hc, if_neg hc]
      simp [consC, List.dropLast, List.getLastD]
theorem cut_snoc (c : UInt8) : ∀ (l : List UInt8) (x : UInt8), cutL c (l ++ [x]) = pushC c (cutL c l) x
  | [], x => by
    show (if x = c then [] :: cutL c [] else consC x (cutL c [])) = _
    unfold pushC
    by_cases hc : x = c
    · rw [if_pos hc, if_pos hc]; rfl
    · rw [if_neg hc, if_neg hc]; rfl
  | b :: t, x => by
    show (if b = c then [] :: cutL c (t ++ [x]) else consC b (cutL c (t ++ [x]))) = pushC c (if b = c then [] :: cutL c t else consC b (cutL c t)) x
    rw [cut_snoc c t x]
    by_cases hb : b = c
    · rw [if_pos hb, if_pos hb]
      have hne := cut_ne c t
      unfold pushC
      by_cases hc : x = c
      · rw [if_pos hc, if_pos hc]; rfl
      · rw [if_neg hc, if_neg hc]
        cases hp : cutL c t with
        | nil => exact absurd hp hne
        | cons p ps => rfl
    · rw [if_neg hb, if_neg hb, consC_push c b x hb _ (cut_ne c t)]
theorem cut_snd (c : UInt8) : ∀ l : List UInt8, ∃ init z, cutL c l = init ++ [z] := fun l => by
  obtain ⟨init, z, h⟩ := List.eq_nil_or_concat (cutL c l) |>.resolve_left (cut_ne c l)
  exact ⟨init, z, by simpa using h⟩
theorem cut_size (c : UInt8) : ∀ l : List UInt8, (cutL c l).length ≤ l.length + 1 ∧ ∀ p ∈ cutL c l, p.length ≤ l.length
  | [] => ⟨by simp [cutL], by simp [cutL]⟩
  | b :: t => by
    obtain ⟨h1, h2⟩ := cut_size c t
    unfold cutL
    by_cases hb : b = c
    · rw [if_pos hb]
      refine ⟨by simp; exact h1, fun p hp => ?_⟩
      rcases List.mem_cons.1 hp with rfl | hp
      · simp
      · have := h2 p hp; simp; omega
    · rw [if_neg hb]
      cases hq : cutL c t with
      | nil => exact absurd hq (cut_ne c t)
      | cons q ps =>
        rw [hq] at h1 h2
        refine ⟨by show ((b :: q) :: ps).length ≤ _; simp at h1 ⊢; omega, fun p hp => ?_⟩
        have hp : p ∈ (b :: q) :: ps := hp
        rcases List.mem_cons.1 hp with rfl | hp
        · have := h2 q List.mem_cons_self; simp; omega
        · have := h2 p (List.mem_cons_of_mem _ hp); simp; omega
theorem push_here (c : UInt8) (init : List (List UInt8)) (z : List UInt8) : pushC c (init ++ [z]) c = (init ++ [z]) ++ [[]] := by unfold pushC; rw [if_pos rfl]
theorem push_else (c : UInt8) (init : List (List UInt8)) (z : List UInt8) (b : UInt8) (h : b ≠ c) : pushC c (init ++ [z]) b = init ++ [z ++ [b]] := by
  unfold pushC
  rw [if_neg h, List.dropLast_concat, List.getLastD_concat]
theorem take_textC (l : List UInt8) (s : ByteArray) (hs : s = ⟨l.toArray⟩) (k : Nat) : s.extract 0 k = ⟨(l.take k).toArray⟩ := by
  subst hs
  apply ByteArray.ext
  simp [ByteArray.extract, ByteArray.copySlice]
/-- The library's way. -/
theorem split_cut (c : UInt8) : ∀ (k : Nat) (s : ByteArray), Lib.countB s ⟨#[c]⟩ = k → (Lib.splitB ⟨#[c]⟩ 0 k s).map Value.string = (cutL c s.data.toList).map strc := by
  intro k
  induction k with
  | zero =>
    intro s hk
    have hix : Lib.indexB s ⟨#[c]⟩ = Lib.indexByte s.data.toList c := Lib.index_one s.data.toList c
    rcases cut_index c s.data.toList _ rfl with ⟨hi, hp⟩ | ⟨j, hi, hj, hp⟩
    · rw [hp]; rfl
    · rw [hi] at hix
      have := Lib.countB_hit s ⟨#[c]⟩ j (by simp [ByteArray.size]) hix
      omega
  | succ k ih =>
    intro s hk
    have hix : Lib.indexB s ⟨#[c]⟩ = Lib.indexByte s.data.toList c := Lib.index_one s.data.toList c
    rcases cut_index c s.data.toList _ rfl with ⟨hi, hp⟩ | ⟨j, hi, hj, hp⟩
    · rw [hi] at hix
      have := Lib.countB_miss s ⟨#[c]⟩ hix
      omega
    · rw [hi] at hix
      have hc := Lib.countB_hit s ⟨#[c]⟩ j (by simp [ByteArray.size]) hix
      rw [Lib.splitB_hit _ 0 k s j hix, hp, List.map_cons, List.map_cons, ih _ (by omega)]
      have e1 : (⟨#[c]⟩ : ByteArray).size = 1 := rfl
      have hs : s = ⟨s.data.toList.toArray⟩ := by cases s; rfl
      congr 1
      · show Value.string _ = strc _
        unfold strc
        rw [← take_textC _ s hs j]
        rfl
      · rw [e1, drop_text _ s hs (j + 1)]
end Go.Proofs.YtadenlhnfkccaaaDoor
