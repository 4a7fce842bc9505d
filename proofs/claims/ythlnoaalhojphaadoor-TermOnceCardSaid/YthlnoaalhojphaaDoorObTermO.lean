/- The reference's table of terms: any act. No condition. -/
import Derived.Test.YthlnoaalhojphaaDoorObTermN
namespace Go.Proofs.YthlnoaalhojphaaDoor
open Go.RowKit
set_option linter.unusedVariables false
def RetR (w0 w : World) (v : Value) (r : List Nd × Nat) (e : Ending) (w' : World) : Prop := ∃ v', e = .returned (.tuple #[v', .int .i64 (r.2 : Int)]) ∧ RTo w0 w' v' r.1 ∧ Turn1 w w' v v'
theorem in_of {n : Nat} {a : Int} (h : outside n a = false) : ∃ m : Nat, a = (m : Int) := by
  unfold outside at h
  simp at h
  exact ⟨a.toNat, by omega⟩
theorem atoms_at {T : List Nd} {v : Value} {w0 w : World} (h : RTo w0 w v T) : ∃ A c, v = .slice A T.length c := by
  obtain ⟨A, c, e, _⟩ := Own.rs h
  exact ⟨A, c, e⟩
/-- Put, any node but an atom. -/
def putR (T : List Nd) (k : Nat) (a b : Int) (s : ByteArray) : List Nd × Nat := if (3 ≤ k ∧ outside T.length a = true) ∨ (4 ≤ k ∧ outside T.length b = true) then (T, 0) else putD T ⟨k, a.toNat, b.toNat, s, 0⟩
theorem putT_eq {T : List Nd} {x : Nd} {ids : List Int} (h : ids.any (outside T.length) = false) : putT T x ids = putD T x := by
  unfold putT putD
  rw [if_neg (by rw [h]; decide)]
  cases findT T x <;> rfl
theorem doT_put (T : List Nd) (k : Int) (a b : Int) (s : ByteArray) (h1 : k ≠ 1) : doT T k a b s = if k = 2 then putR T 2 0 0 s else if k = 3 then putR T 3 a 0 s else if k = 4 then putR T 4 a b ByteArray.empty else putR T 5 a b ByteArray.empty := by
  have e2 : putT T ⟨2, 0, 0, s, 0⟩ [] = putR T 2 0 0 s := by rw [putT_eq rfl]; unfold putR; rw [if_neg (by omega)]; rfl
  have e3 : kdfT T a s = putR T 3 a 0 s := by
    unfold kdfT putR
    by_cases ho : outside T.length a = true
    · rw [if_pos ho, if_pos (.inl ⟨by omega, ho⟩)]
    · rw [if_neg ho, if_neg (fun q => q.elim (fun q => ho q.2) (fun q => by omega)), putT_eq (by simpa using ho)]
      rfl
  have e4 : ∀ j, 4 ≤ j → pairT T j a b = putR T j a b ByteArray.empty := fun j hj => by
    unfold pairT putR
    by_cases ho : outside T.length a = true
    · rw [if_pos (by rw [ho]; rfl), if_pos (.inl ⟨by omega, ho⟩)]
    · by_cases hb : outside T.length b = true
      · rw [if_pos (by rw [hb]; simp), if_pos (.inr ⟨by omega, hb⟩)]
      · rw [if_neg (by simp at ho hb; rw [ho, hb]; simp), if_neg (fun q => q.elim (fun q => ho q.2) (fun q => hb q.2)), putT_eq (by simp at ho hb; simp [ho, hb])]
  unfold doT
  rw [if_neg h1, e2, e3, e4 4 (by omega), e4 5 (by omega)]
theorem nz_snoc {T : List Nd} {x : Nd} (h : NZ T) (hx : x.k ≠ 1 → x.n = 0) : NZ (T ++ [x]) := fun y hy hk => by
  rcases List.mem_append.1 hy with q | q
  · exact h y q hk
  · rw [List.mem_singleton] at q; rw [q] at hk ⊢; exact hx hk
theorem putR_nz {T : List Nd} (h : NZ T) (k : Nat) (a b : Int) (s : ByteArray) : NZ (putR T k a b s).1 := by
  unfold putR putD
  split
  · exact h
  · split
    · exact h
    · exact nz_snoc h (fun _ => rfl)
theorem doT_nz {T : List Nd} (h : NZ T) (k a b : Int) (s : ByteArray) : NZ (doT T k a b s).1 := by
  by_cases e1 : k = 1
  · subst e1
    unfold doT
    rw [if_pos rfl]
    exact nz_snoc h (fun q => (q rfl).elim)
  · rw [doT_put T k a b s e1]
    repeat' (first | exact putR_nz h _ _ _ _ | split)
end Go.Proofs.YthlnoaalhojphaaDoor
