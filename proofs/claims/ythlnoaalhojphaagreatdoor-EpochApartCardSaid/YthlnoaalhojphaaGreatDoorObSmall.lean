/- ObSmall, ObSetB: one text. No condition. -/
import Derived.Test.YthlnoaalhojphaaGreatDoorObBase
namespace Go.Proofs.YthlnoaalhojphaaGreatDoor
/-- A slice's length. -/
def slN : Value → Nat
  | .slice _ n _ => n
  | _ => 0
theorem Sl.keepB {w w' : World} {A : Option Addr} {n c s : Nat} {xs : List Value} (h : Sl w A n c s xs) (hp : ∀ b o, A = some ⟨b, o, none⟩ → w'.heap[b]? = w.heap[b]?) : Sl w' A n c s xs := by
  obtain ⟨h1, h2, h3, h4⟩ := h
  refine ⟨h1, h2, h3, fun hn => ?_⟩
  obtain ⟨b, o, rfl, hc⟩ := h4 hn
  refine ⟨b, o, rfl, fun j u hu => ?_⟩
  rw [World.cell?_of_block (w := w) (hp b o rfl)]
  exact hc j u hu
end Go.Proofs.YthlnoaalhojphaaGreatDoor
namespace Go.Proofs.YthlnoaalhojphaaGreatDoor
open Go.RowKit
set_option linter.unusedVariables false
theorem Below.setBoth {B : Nat} {a b : World} (h : Below B a b) {p : Nat} (i : Nat) (x : Value) : Below B (a.setCell ⟨p, i, none⟩ x) (b.setCell ⟨p, i, none⟩ x) := by
  obtain ⟨h1, h2, h3, h4, h5⟩ := h
  refine ⟨h1, h2, h3, by simpa [World.setCell] using h4, fun k hk => ?_⟩
  have := h5 k hk
  by_cases e : k = p
  · subst e
    simp [World.setCell, Array.getElem?_modify, this]
  · rw [Below.heap_setCell b _ _ k e, Below.heap_setCell a _ _ k e]; exact this
theorem Below.setTwice {B : Nat} {a : World} (p i : Nat) (x y : Value) : Below B (a.setCell ⟨p, i, none⟩ y) ((a.setCell ⟨p, i, none⟩ x).setCell ⟨p, i, none⟩ y) := by
  refine ⟨rfl, rfl, rfl, by simp [World.setCell], fun k hk => ?_⟩
  by_cases e : k = p
  · subst e
    simp only [World.setCell, Array.getElem?_modify]
    cases a.heap[k]? with
    | none => simp
    | some o => cases o <;> simp
  · rw [Below.heap_setCell _ _ _ k e, Below.heap_setCell _ _ _ k e, Below.heap_setCell _ _ _ k e]
theorem setCell_size (a : World) (p : Addr) (x : Value) : (a.setCell p x).heap.size = a.heap.size := by simp [World.setCell]
end Go.Proofs.YthlnoaalhojphaaGreatDoor
