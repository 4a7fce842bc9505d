/- The tree of a geometry: where pages stand, by the program's sums and level by level: plain functions, and that they are the same. No condition. -/
import Derived.Test.YtbmijjodpdbbmaaObGeomL
namespace Go.Proofs.Ytbmijjodpdbbmaa
set_option linter.unusedVariables false
/-! ### the way up -/
def upF (x : Nat) : Nat → Nat → List Nat
  | 0, _ => []
  | f + 1, p => p :: if p = 0 then [] else upF x f ((p - 1) / x)
theorem upF_fuel (x : Nat) : ∀ f f' p, p < f → p < f' → upF x f p = upF x f' p
  | 0, _, p, h, _ => absurd h (by omega)
  | _, 0, p, _, h => absurd h (by omega)
  | f + 1, f' + 1, p, h, h' => by
    unfold upF
    by_cases hp : p = 0
    · simp [hp]
    · have : (p - 1) / x ≤ p - 1 := Nat.div_le_self _ _
      simp only [hp, if_false]
      rw [upF_fuel x f f' _ (by omega) (by omega)]
def upL (x p : Nat) : List Nat := upF x (p + 1) p
theorem upL_zero (x : Nat) : upL x 0 = [0] := rfl
theorem upL_pos (x p : Nat) (h : 0 < p) : upL x p = p :: upL x ((p - 1) / x) := by
  have hd : (p - 1) / x ≤ p - 1 := Nat.div_le_self _ _
  show upF x (p + 1) p = p :: upF x ((p - 1) / x + 1) ((p - 1) / x)
  rw [upF, if_neg (by omega), upF_fuel x p _ _ (by omega) (Nat.lt_succ_self _)]
theorem upL_le (x : Nat) : ∀ p, (upL x p).length ≤ p + 1 := by
  intro p
  have : ∀ f p, (upF x f p).length ≤ f := by
    intro f
    induction f with
    | zero => intro p; simp [upF]
    | succ f ih => intro p; unfold upF; split <;> simp; exact ih _
  exact this (p + 1) p
theorem upL_ge (x : Nat) (p : Nat) : 1 ≤ (upL x p).length := by simp [upL, upF]
/-! ### level by level -/
def plc (x : Nat) : Nat → Nat → Nat → Nat → Nat × Nat
  | 0, p, _, l => (l, p)
  | f + 1, p, w, l => if w ≤ p then plc x f (p - w) (w * x) (l + 1) else (l, p)
/-- Of a page: its level, and its place there. -/
def plcL (x p : Nat) : Nat × Nat := plc x (p + 1) p 1 0
def pgN (x y : Nat) : Nat := ndN x y + x ^ y
theorem pgN_le {x y : Nat} (hx : x ≤ 4) (hy : y ≤ 3) : pgN x y ≤ 256 := by
  unfold pgN
  have := pow_le64 hx hy
  have := ndN_le hx y hy
  omega

/-- All that the two ways say of a page, held against each other. -/
def agree (x y p : Nat) : Bool :=
  let q := plcL x p
  decide ((upL x p).length = q.1 + 1) && decide (q.1 ≤ y) && (decide (q.1 = y) == decide (ndN x y ≤ p)) && (decide (q.1 = 0) == decide (p = 0)) && decide (ndN x q.1 + q.2 = p) &&
  (decide (p = 0) || (decide (ndN x (q.1 - 1) + q.2 / x = (p - 1) / x) && decide (q.2 % x = (p - 1) % x))) && decide (ndN x (q.1 + 1) + q.2 * x = x * p + 1) && decide (q.2 < 256)
theorem agree_run : ((List.range 5).all fun x => (List.range 4).all fun y => (List.range 85).all fun p => !(decide (2 ≤ x) && decide (1 ≤ y) && decide (p < pgN x y)) || agree x y p) = true := by decide +kernel
theorem pgN_run : ((List.range 5).all fun x => (List.range 4).all fun y => !(decide (2 ≤ x) && decide (1 ≤ y)) || decide (pgN x y ≤ 85)) = true := by decide +kernel
theorem pgN_lt {x y : Nat} (h1 : 2 ≤ x) (h2 : x ≤ 4) (h3 : 1 ≤ y) (h4 : y ≤ 3) : pgN x y ≤ 85 := by
  have h := List.all_eq_true.1 (List.all_eq_true.1 pgN_run x (List.mem_range.2 (by omega))) y (List.mem_range.2 (by omega))
  simpa [h1, h3] using h
theorem agree_all {x y p : Nat} (h1 : 2 ≤ x) (h2 : x ≤ 4) (h3 : 1 ≤ y) (h4 : y ≤ 3) (h5 : p < pgN x y) : agree x y p = true := by
  have h6 := pgN_lt h1 h2 h3 h4
  have h := List.all_eq_true.1 (List.all_eq_true.1 (List.all_eq_true.1 agree_run x (List.mem_range.2 (by omega))) y (List.mem_range.2 (by omega))) p (List.mem_range.2 (by omega))
  simpa [h1, h3, h5] using h
theorem agree_says {x y p : Nat} (h : agree x y p = true) :
    (upL x p).length = (plcL x p).1 + 1 ∧ (plcL x p).1 ≤ y ∧ ((plcL x p).1 = y ↔ ndN x y ≤ p) ∧ ((plcL x p).1 = 0 ↔ p = 0) ∧ ndN x (plcL x p).1 + (plcL x p).2 = p ∧
    (0 < p → ndN x ((plcL x p).1 - 1) + (plcL x p).2 / x = (p - 1) / x ∧ (plcL x p).2 % x = (p - 1) % x) ∧ ndN x ((plcL x p).1 + 1) + (plcL x p).2 * x = x * p + 1 ∧ (plcL x p).2 < 256 := by
  unfold agree at h
  simp only [Bool.and_eq_true, decide_eq_true_iff, Bool.or_eq_true, beq_iff_eq, decide_eq_decide] at h
  obtain ⟨⟨⟨⟨⟨⟨⟨a1, a2⟩, a3⟩, a4⟩, a5⟩, a6⟩, a7⟩, a8⟩ := h
  exact ⟨a1, a2, a3, a4, a5, fun hp => a6.resolve_left (by omega), a7, a8⟩

/-! ### what is told of any page -/
section
variable (a d l : Int)
def thereB (p : Int) : Bool := decide (0 ≤ p ∧ p < nodesI a d l + leavesI a d l)
def childI (n k : Int) : Int := if 0 ≤ n ∧ n < nodesI a d l ∧ 0 ≤ k ∧ k < a then a * n + 1 + k else -1
def parentI (p : Int) : Int := if 1 ≤ p ∧ p < nodesI a d l + leavesI a d l then (p - 1) / a else -1
def whichI (p : Int) : Int := if 1 ≤ p ∧ p < nodesI a d l + leavesI a d l then (p - 1) % a else -1
def upI (p : Int) : List Int := if thereB a d l p then (upL a.toNat p.toNat).map fun (n : Nat) => (n : Int) else []
def levelI (p : Int) : Int := ((upI a d l p).length : Int) - 1
def leafI (s : Int) : Int := if 0 ≤ s ∧ s < leavesI a d l then nodesI a d l + s else -1
def slotI (p : Int) : Int := if 0 ≤ p ∧ nodesI a d l ≤ p ∧ p < nodesI a d l + leavesI a d l then p - nodesI a d l else -1
/-- What the level-by-level look says: the level, the place, whether there is such a page. -/
def placeI (p : Int) : Nat × Nat × Bool := if thereB a d l p then ((plcL a.toNat p.toNat).1, (plcL a.toNat p.toNat).2, true) else (0, 0, false)
end
end Go.Proofs.Ytbmijjodpdbbmaa
