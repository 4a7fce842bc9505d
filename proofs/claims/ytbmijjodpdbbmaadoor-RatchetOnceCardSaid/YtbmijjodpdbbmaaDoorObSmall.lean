import Derived.Test.YtbmijjodpdbbmaaDoorObBase
namespace Go.Proofs.YtbmijjodpdbbmaaDoor
/-- A slice's length. -/
def slN : Value → Nat
  | .slice _ n _ => n
  | _ => 0
theorem Sl.keepB {w w' : World} {A : Option Addr} {n c s : Nat} {xs : List Value} (h : Sl w A n c s xs) (hp : ∀ b o, A = some ⟨b, o, none⟩ → w'.heap[b]? = w.heap[b]?) : Sl w' A n c s xs := by
  obtain ⟨h1, h2, h3, h4⟩ := h
  refine ⟨h1, h2, h3, fun hn => ?_⟩
  obtain ⟨b, o, rfl, hc⟩ := h4 hn
  refine ⟨b, o, rfl, fun j u hu => ?_⟩
  rw [World.cell?_of_block (w := w) (hp b o rfl)]
  exact hc j u hu
end Go.Proofs.YtbmijjodpdbbmaaDoor
