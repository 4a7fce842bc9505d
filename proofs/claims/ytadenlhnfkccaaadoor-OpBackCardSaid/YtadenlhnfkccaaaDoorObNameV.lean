/- Names, in plain Lean: texts of such runes are valid, and as many runes. No condition. -/
import Derived.Test.YtadenlhnfkccaaaDoorObNameP
import Derived.Lib.ValidU
namespace Go.Proofs.YtadenlhnfkccaaaDoor
open Go.RowKit
set_option linter.unusedVariables false
theorem decodeL_small {l : List UInt8} {k : Nat} (h : smallAt l = k) (hk : 0 < k) (hl : l ≠ []) : (Lib.decodeL l).2 = k ∧ smallR (Lib.decodeL l).1 = true := by
  have hpos : 0 < l.length := List.length_pos_iff.2 hl
  have hd := decode_small l 0 hpos
  rw [List.drop_zero] at hd
  show (Utf8.decode ⟨l.toArray⟩ 0).2 = k ∧ smallR (Utf8.decode ⟨l.toArray⟩ 0).1 = true
  by_cases hs : smallR (Utf8.decode ⟨l.toArray⟩ 0).1 = true
  · rw [if_pos hs] at hd
    exact ⟨by omega, hs⟩
  · rw [if_neg hs] at hd
    omega
theorem smallAt_pos {l : List UInt8} (h : runesN l ≠ none) (hl : l ≠ []) : 0 < smallAt l := by
  rcases Nat.eq_zero_or_pos (smallAt l) with h0 | h0
  · exact absurd (runesN_stop h0 hl) h
  · exact h0
theorem valid_small : ∀ (f : Nat) (l : List UInt8), l.length ≤ f → runesN l ≠ none → Lib.validGoD f l = true
  | 0, _, _, _ => rfl
  | f + 1, l, hf, h => by
    unfold Lib.validGoD
    by_cases hl : l = []
    · rw [if_pos hl]
    · rw [if_neg hl]
      have hp := smallAt_pos h hl
      obtain ⟨h1, h2⟩ := decodeL_small rfl hp hl
      obtain ⟨h3, h4, h5⟩ := runesN_step rfl hp
      rw [if_neg (fun e => by rw [e.1] at h2; revert h2; decide), h1]
      exact valid_small f (l.drop (smallAt l)) (by rw [List.length_drop]; omega) (fun e => h (by rw [h5, e]; rfl))
theorem valid_of {l : List UInt8} (h : runesN l ≠ none) : Lib.validD l = true := valid_small l.length l (Nat.le_refl _) h
end Go.Proofs.YtadenlhnfkccaaaDoor
