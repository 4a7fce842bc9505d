/- Names: the reference's pieces between points. No condition. -/
import Derived.Test.YtadenlhnfkccaaaDoorObNameG
import Derived.Test.YtadenlhnfkccaaaDoorObTch
import Derived.Outline
namespace Go.Proofs.YtadenlhnfkccaaaDoor
open Go.RowKit
set_option linter.unusedVariables false
theorem tWords : ElemT Tryd.prog 65 9 (.string ⟨#[]⟩) 1 16 := ⟨Tryd.underlying65, by kernel_rfl, rfl, by decide, by decide⟩
/-- A text's value. -/
def strc (p : List UInt8) : Value := .string ⟨p.toArray⟩
theorem strc_one (p : List UInt8) : ∀ u ∈ [strc p], u.oneCell' = true := by intro u hu; simp at hu; subst hu; rfl
theorem pieces_snd : ∀ l : List UInt8, ∃ init z, piecesL l = init ++ [z] := fun l => by
  obtain ⟨init, z, h⟩ := List.eq_nil_or_concat (piecesL l) |>.resolve_left (pieces_ne l)
  exact ⟨init, z, by simpa using h⟩
theorem pieces_size : ∀ l : List UInt8, (piecesL l).length ≤ l.length + 1 ∧ ∀ p ∈ piecesL l, p.length ≤ l.length
  | [] => ⟨by simp [piecesL], by simp [piecesL]⟩
  | b :: t => by
    obtain ⟨h1, h2⟩ := pieces_size t
    unfold piecesL
    by_cases hb : b = 46
    · rw [if_pos hb]
      refine ⟨by simp; exact h1, fun p hp => ?_⟩
      rcases List.mem_cons.1 hp with rfl | hp
      · simp
      · have := h2 p hp; simp; omega
    · rw [if_neg hb]
      cases hq : piecesL t with
      | nil => exact absurd hq (pieces_ne t)
      | cons q ps =>
        rw [hq] at h1 h2
        refine ⟨by show ((b :: q) :: ps).length ≤ _; simp at h1 ⊢; omega, fun p hp => ?_⟩
        have hp : p ∈ (b :: q) :: ps := hp
        rcases List.mem_cons.1 hp with rfl | hp
        · have := h2 q List.mem_cons_self; simp; omega
        · have := h2 p (List.mem_cons_of_mem _ hp); simp; omega
theorem push_point (init : List (List UInt8)) (z : List UInt8) : pushP (init ++ [z]) 46 = (init ++ [z]) ++ [[]] := by unfold pushP; rw [if_pos rfl]
theorem push_other (init : List (List UInt8)) (z : List UInt8) (b : UInt8) (h : b ≠ 46) : pushP (init ++ [z]) b = init ++ [z ++ [b]] := by
  unfold pushP
  rw [if_neg h, List.dropLast_concat, List.getLastD_concat]
theorem set_last (init : List (List UInt8)) (z q : List UInt8) (n : Nat) (hn : n = init.length) : ((init ++ [z]).map strc).set n (strc q) = (init ++ [q]).map strc := by
  subst hn
  rw [List.map_append, List.map_append, List.set_append]
  simp
theorem extract_one (l : List UInt8) (s : ByteArray) (hs : s = ⟨l.toArray⟩) (k : Nat) (h : k < l.length) : s.extract k (k + 1) = ⟨[l[k]].toArray⟩ := by
  subst hs
  apply ByteArray.ext
  simp [ByteArray.extract, ByteArray.copySlice]
  rw [List.drop_eq_getElem_cons h]
  rfl
theorem ba_snoc (p : List UInt8) (b : UInt8) : (⟨p.toArray⟩ : ByteArray) ++ ⟨[b].toArray⟩ = ⟨(p ++ [b]).toArray⟩ := by
  apply ByteArray.ext
  simp
/-- An own row of texts. -/
def RetWs (w : World) (ps : List (List UInt8)) (e : Ending) (w' : World) : Prop := ∃ v, e = .returned v ∧ Own w w' 9 1 v ps.length (ps.map strc)
end Go.Proofs.YtadenlhnfkccaaaDoor
