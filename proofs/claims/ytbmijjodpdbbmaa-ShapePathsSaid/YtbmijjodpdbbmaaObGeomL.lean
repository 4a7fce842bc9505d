/- Geometries: plain functions. No condition. -/
import Derived.Test.YtbmijjodpdbbmaaObBase
namespace Go.Proofs.Ytbmijjodpdbbmaa
set_option linter.unusedVariables false
def okAD (a d : Int) : Bool := decide (2 ≤ a ∧ a ≤ 4 ∧ 1 ≤ d ∧ d ≤ 3)
def leastI (a d : Int) : Int := if okAD a d then d + 2 else 0
def rightB (a d l : Int) : Bool := okAD a d && decide (d + 2 ≤ l) && decide (l ≤ 64)
/-- How many nodes stand in the first d levels. -/
def ndN (a : Nat) : Nat → Nat
  | 0 => 0
  | d + 1 => ndN a d + a ^ d
def nodesI (a d l : Int) : Int := if rightB a d l then (ndN a.toNat d.toNat : Int) else 0
def leavesI (a d l : Int) : Int := if rightB a d l then ((a.toNat ^ d.toNat : Nat) : Int) else 0
theorem rightB_ok {a d l : Int} (h : rightB a d l = true) : ∃ x y : Nat, a = x ∧ d = y ∧ 2 ≤ x ∧ x ≤ 4 ∧ 1 ≤ y ∧ y ≤ 3 := by
  unfold rightB okAD at h
  simp at h
  exact ⟨a.toNat, d.toNat, by omega, by omega, by omega, by omega, by omega, by omega⟩
theorem pow_le64 {x k : Nat} (h : x ≤ 4) (hk : k ≤ 3) : x ^ k ≤ 64 := Nat.le_trans (Nat.pow_le_pow_left h k) (Nat.le_trans (Nat.pow_le_pow_right (by decide) hk) (by decide))
theorem ndN_le {x : Nat} (h : x ≤ 4) : ∀ k, k ≤ 3 → ndN x k ≤ 64 * k
  | 0, _ => Nat.le_refl _
  | k + 1, hk => by
    have := ndN_le h k (by omega)
    have := pow_le64 h (show k ≤ 3 by omega)
    unfold ndN; omega
end Go.Proofs.Ytbmijjodpdbbmaa
