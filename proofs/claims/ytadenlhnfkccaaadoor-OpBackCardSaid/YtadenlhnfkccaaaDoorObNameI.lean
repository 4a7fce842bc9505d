/- Names: the reference's Right, Split, Join, and rows of words. No condition. -/
import Derived.Test.YtadenlhnfkccaaaDoorObNameH
import Derived.Outline
namespace Go.Proofs.YtadenlhnfkccaaaDoor
open Go.RowKit
set_option linter.unusedVariables false
/-- A slice that reads as texts. -/
abbrev Ws (w : World) (A : Option Addr) (n c : Nat) (ps : List (List UInt8)) : Prop := Sl w A n c 1 (ps.map strc)
theorem Ws.len {w : World} {A : Option Addr} {n c : Nat} {ps : List (List UInt8)} (h : Ws w A n c ps) : ps.length = n := by have := Sl.len h; simpa using this
theorem Ws.addr {w : World} {A : Option Addr} {n c : Nat} {ps : List (List UInt8)} (h : Ws w A n c ps) (hn : 0 < n) : ∃ b o, A = some ⟨b, o, none⟩ ∧ ∀ j (hj : j < ps.length), w.cell? ⟨b, o + j, none⟩ = some (.string ⟨ps[j].toArray⟩) := by
  obtain ⟨b, o, e, hc⟩ := Sl.addr h hn
  exact ⟨b, o, e, fun j hj => hc j _ (by rw [List.getElem?_map, List.getElem?_eq_getElem hj]; rfl)⟩
theorem Own.onto {w0 w1 w : World} {e : TypeId} {size n : Nat} {v : Value} {xs : List Value} (h : Own w1 w e size v n xs) (hb : Below w0.heap.size w0 w1) : Own w0 w e size v n xs := by
  refine ⟨⟨h.1.1, ?_⟩, hb.trans (h.2.mono hb.size)⟩
  rcases h.1.2 with h' | ⟨g, cap, cur, hv, hg, r⟩
  · exact .inl h'
  · exact .inr ⟨g, cap, cur, hv, Nat.le_trans hb.size hg, r⟩
/-! ### parts of slices -/
theorem Sl.gr {w w' : World} {A : Option Addr} {n c s : Nat} {xs : List Value} (h : Sl w A n c s xs) (g : Gr w w') : Sl w' A n c s xs := h.mono g
/-- What Split tells. -/
def splitL (l : List UInt8) : List (List UInt8) := if rightL l = true then piecesL l else []
end Go.Proofs.YtadenlhnfkccaaaDoor
