/- The slots below a page; the tree is whole: plain functions, and what holds of each small geometry. No condition. -/
import Derived.Test.YtbmijjodpdbbmaaObShapeL
namespace Go.Proofs.Ytbmijjodpdbbmaa
set_option linter.unusedVariables false
/-- The first and the last leaf below: level by level. -/
def dn (x nd : Nat) : Nat → Nat → Nat → Option (Nat × Nat)
  | 0, f, l => if f < nd then none else some (f, l)
  | k + 1, f, l => if f < nd then (if l < nd then dn x nd k (x * f + 1) (x * l + x) else none) else some (f, l)
def dnL (x y p : Nat) : Nat × Nat := (dn x (ndN x y) 4 p p).getD (0, 0)
def underN (x y p : Nat) : List Int := (List.range ((dnL x y p).2 + 1 - (dnL x y p).1)).map fun i => (((dnL x y p).1 - ndN x y + i : Nat) : Int)
def whole (x y p : Nat) : Bool :=
  let q := dnL x y p
  decide (dn x (ndN x y) 4 p p = some q) && decide (ndN x y ≤ q.1) && decide (q.1 ≤ q.2) && decide (q.2 < pgN x y) &&
  (decide (p = 0) || (decide ((p - 1) / x < ndN x y) && decide ((upL x p).length = (upL x ((p - 1) / x)).length + 1))) &&
  (decide (ndN x y ≤ p) || (decide (x * p + x < pgN x y) && decide ((List.range x).flatMap (fun k => underN x y (x * p + 1 + k)) = underN x y p)))
theorem whole_run : ((List.range 5).all fun x => (List.range 4).all fun y => (List.range 85).all fun p => !(decide (2 ≤ x) && decide (1 ≤ y) && decide (p < pgN x y)) || whole x y p) = true := by decide +kernel
theorem whole_all {x y p : Nat} (h1 : 2 ≤ x) (h2 : x ≤ 4) (h3 : 1 ≤ y) (h4 : y ≤ 3) (h5 : p < pgN x y) : whole x y p = true := by
  have h6 := pgN_lt h1 h2 h3 h4
  have h := List.all_eq_true.1 (List.all_eq_true.1 (List.all_eq_true.1 whole_run x (List.mem_range.2 (by omega))) y (List.mem_range.2 (by omega))) p (List.mem_range.2 (by omega))
  simpa [h1, h3, h5] using h
theorem whole_says {x y p : Nat} (h : whole x y p = true) :
    dn x (ndN x y) 4 p p = some (dnL x y p) ∧ ndN x y ≤ (dnL x y p).1 ∧ (dnL x y p).1 ≤ (dnL x y p).2 ∧ (dnL x y p).2 < pgN x y ∧
    (0 < p → (p - 1) / x < ndN x y ∧ (upL x p).length = (upL x ((p - 1) / x)).length + 1) ∧
    (p < ndN x y → x * p + x < pgN x y ∧ (List.range x).flatMap (fun k => underN x y (x * p + 1 + k)) = underN x y p) := by
  unfold whole at h
  simp only [Bool.and_eq_true, decide_eq_true_iff, Bool.or_eq_true] at h
  obtain ⟨⟨⟨⟨⟨a1, a2⟩, a3⟩, a4⟩, a5⟩, a6⟩ := h
  exact ⟨a1, a2, a3, a4, fun hp => a5.resolve_left (by omega), fun hp => a6.resolve_left (by omega)⟩
section
variable (a d l : Int)
def underI (p : Int) : List Int := if thereB a d l p then underN a.toNat d.toNat p.toNat else []
end
theorem underI_yes {a d l p : Int} (h : thereB a d l p = true) : underI a d l p = underN a.toNat d.toNat p.toNat := by unfold underI; rw [if_pos h]
theorem underI_no {a d l p : Int} (h : thereB a d l p = false) : underI a d l p = [] := by unfold underI; rw [if_neg (by rw [h]; simp)]
def underTo (x y p k : Nat) : List Int := (List.range k).map fun i => (((dnL x y p).1 - ndN x y + i : Nat) : Int)
theorem underTo_succ (x y p k : Nat) : (underTo x y p (k + 1)).map i64c = (underTo x y p k).map i64c ++ [.int .i64 (((dnL x y p).1 - ndN x y + k : Nat) : Int)] := by
  simp [underTo, List.range_succ, i64c]
theorem underTo_len (x y p k : Nat) : (underTo x y p k).length = k := by simp [underTo]
theorem underTo_all (x y p : Nat) : underTo x y p ((dnL x y p).2 + 1 - (dnL x y p).1) = underN x y p := rfl
end Go.Proofs.Ytbmijjodpdbbmaa
