/- Where rows of bytes are not alike; bytes torn: plain functions. No condition. -/
import Derived.Test.YtbmijjodpdbbmaaObNumL
namespace Go.Proofs.Ytbmijjodpdbbmaa
set_option linter.unusedVariables false

def unlike (A B : List (List UInt8)) (i : Nat) : Bool := !(A[i]? == B[i]?)
/-- Of the first k places those that are not alike. -/
def diffTo (A B : List (List UInt8)) (k : Nat) : List Int := ((List.range k).filter (unlike A B)).map fun (i : Nat) => (i : Int)
def diffL (A B : List (List UInt8)) : List Int := diffTo A B (max A.length B.length)
theorem diffTo_yes (A B : List (List UInt8)) (k : Nat) (h : unlike A B k = true) : (diffTo A B (k + 1)).map i64c = (diffTo A B k).map i64c ++ [.int .i64 (k : Int)] := by
  simp [diffTo, List.range_succ, List.filter_append, h, i64c]
theorem diffTo_no (A B : List (List UInt8)) (k : Nat) (h : unlike A B k = false) : diffTo A B (k + 1) = diffTo A B k := by
  simp [diffTo, List.range_succ, List.filter_append, h]
theorem diffTo_yes_len (A B : List (List UInt8)) (k : Nat) (h : unlike A B k = true) : (diffTo A B (k + 1)).length = (diffTo A B k).length + 1 := by
  simp [diffTo, List.range_succ, List.filter_append, h]
theorem diffTo_le (A B : List (List UInt8)) (k : Nat) : (diffTo A B k).length ≤ k := by
  unfold diffTo
  rw [List.length_map]
  exact Nat.le_trans (List.length_filter_le _ _) (by simp)
theorem unlike_far {A B : List (List UInt8)} {k : Nat} (h : k < max A.length B.length) (h' : ¬ (k < A.length ∧ k < B.length)) : unlike A B k = true := by
  unfold unlike
  by_cases ha : k < A.length
  · have hb : B.length ≤ k := by omega
    rw [List.getElem?_eq_getElem ha, List.getElem?_eq_none hb]; rfl
  · have hb : k < B.length := by omega
    rw [List.getElem?_eq_none (by omega), List.getElem?_eq_getElem hb]; rfl
theorem unlike_near {A B : List (List UInt8)} {k : Nat} {a b : List UInt8} (ha : A[k]? = some a) (hb : B[k]? = some b) : unlike A B k = !(a == b) := by
  unfold unlike
  rw [ha, hb]; rfl
theorem diffL_self (A : List (List UInt8)) : diffL A A = [] := by
  unfold diffL diffTo
  have : (List.range (max A.length A.length)).filter (unlike A A) = [] := List.filter_eq_nil_iff.2 (fun x _ => by simp [unlike])
  rw [this]; rfl

/-! ### what is left over -/
theorem tmod_fix (i n : Int) (h : 0 < n) : (if i.tmod n < 0 then i.tmod n + n else i.tmod n) = i % n := by
  rw [Int.tmod_eq_emod]
  have h0 := Int.emod_nonneg i (show n ≠ 0 by omega)
  have h1 := Int.emod_lt_of_pos i h
  split <;> (try omega)
  all_goals split <;> omega
theorem tmod_bounds (i n : Int) (h : 0 < n) : -n < i.tmod n ∧ i.tmod n < n := by
  rw [Int.tmod_eq_emod]
  have h0 := Int.emod_nonneg i (show n ≠ 0 by omega)
  have h1 := Int.emod_lt_of_pos i h
  split <;> omega
theorem tmod_twice (i n : Int) (h : 0 < n) : (i.tmod n + n) % n = i % n := by
  rw [Int.add_emod_right, Int.tmod_eq_emod]
  split
  · simp
  · have e : (n.natAbs : Int) = n := by omega
    rw [e, Int.sub_emod, Int.emod_self]
    simp
def tornL (old now : List UInt8) (at_ : Int) : List UInt8 := if old.length = now.length then now.take (at_ % (old.length + 1)).toNat ++ old.drop (at_ % (old.length + 1)).toNat else []
end Go.Proofs.Ytbmijjodpdbbmaa
