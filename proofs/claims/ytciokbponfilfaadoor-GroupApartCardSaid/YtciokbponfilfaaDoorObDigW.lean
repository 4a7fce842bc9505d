import Derived.Test.YtciokbponfilfaaDoorObNum
import Derived.Test.YtciokbponfilfaaDoorObDigL
import Derived.Lib.ConvBytes
import Derived.Laws.IdiomStrings
namespace Go.Proofs.YtciokbponfilfaaDoor
open Go.RowKit
set_option linter.unusedVariables false

/-! ### '[]byte(s)' and 's[i]' -/
theorem conv_bytes {P : Program} (s : ByteArray) (t : TypeId) (hs : P.underlying 9 = some .string) (hd : P.underlying t = some (.slice 5)) (he : P.underlying 5 = some (.int .u8)) (w : World) :
    ∃ c w1, (convert 9 t (.string s)).run P w = .ok (.slice (some ⟨w.heap.size, 0, none⟩) s.size c) w1 ∧ (∀ k, k < s.size → w1.cell? ⟨w.heap.size, k, none⟩ = some (.int .u8 (bAt s.data.toList k))) ∧ Below w.heap.size w w1 ∧ s.size ≤ c := by
  refine ⟨_, _, Lib.run_convert_string_bytes w 9 t 5 s hs hd he, fun k hk => ?_, ?_, ?_⟩
  · exact Lib.bytesWorld_cell w 5 s k hk
  · have h1 := run_bytes_of_string (P := P) w 9 t 5 s hs hd he
    have h2 := Lib.run_convert_string_bytes (P := P) w 9 t 5 s hs hd he
    rw [h1] at h2
    injection h2 with _ h3
    rw [← h3]
    exact ((Below.refl _ _).drew).alloc (Nat.le_refl _) _
  · exact grownCap_ge _ _ _ _

theorem str_at (s : ByteArray) (k : Nat) (h : k < s.size) : ((s[k]'h).toNat : Int) = bAt s.data.toList k := by
  unfold bAt
  rw [List.getD_eq_getElem?_getD, Array.getElem?_toList, Array.getElem?_eq_getElem (show k < s.data.size from h)]
  rfl

end Go.Proofs.YtciokbponfilfaaDoor
