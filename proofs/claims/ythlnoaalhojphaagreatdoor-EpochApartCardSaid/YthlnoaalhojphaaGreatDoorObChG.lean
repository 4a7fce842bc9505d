import Derived.Test.YthlnoaalhojphaaGreatDoorObChA
namespace Go.Proofs.YthlnoaalhojphaaGreatDoor
open Go.RowKit
set_option linter.unusedVariables false

/-! ### chains of the reference: Light, SameChain -/
def lightK (n : Nat) (L : List Wr) : Bool := decide (n ≤ 100) && (decide (L.length ≤ 20) && L.all fun x => decide (x.r.n ≤ 100))
theorem allK_take (L : List Wr) (k : Nat) (x : Wr) (h : L[k]? = some x) : ((L.take (k + 1)).all fun x => decide (x.r.n ≤ 100)) = (((L.take k).all fun x => decide (x.r.n ≤ 100)) && decide (x.r.n ≤ 100)) := by
  have hk : k < L.length := (List.getElem?_eq_some_iff.1 h).1
  rw [List.getElem?_eq_getElem hk] at h
  injection h with h
  rw [List.take_succ_eq_append_getElem hk, List.all_append, h]
  simp
theorem allK_bad (L : List Wr) (k : Nat) (x : Wr) (h : L[k]? = some x) (hx : 100 < x.r.n) : (L.all fun x => decide (x.r.n ≤ 100)) = false := by
  rw [Bool.eq_false_iff]
  intro ha
  have := List.all_eq_true.1 ha x (List.mem_of_getElem? h)
  simp at this
  omega
end Go.Proofs.YthlnoaalhojphaaGreatDoor
