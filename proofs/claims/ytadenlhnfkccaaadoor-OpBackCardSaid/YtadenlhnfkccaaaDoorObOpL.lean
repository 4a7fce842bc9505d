/- Operations as lines, in plain Lean. No condition. -/
import Derived.Test.YtadenlhnfkccaaaDoorObCutL
import Derived.Test.YtadenlhnfkccaaaDoorObHexL
import Derived.Test.YtadenlhnfkccaaaDoorObDigL
namespace Go.Proofs.YtadenlhnfkccaaaDoor
open Go.RowKit
set_option linter.unusedVariables false
set_option linter.unusedSimpArgs false
/-- What an operation has. -/
structure OpD where
  k : Int
  g : List UInt8
  i : List UInt8
  e : Int
  s : Int
  n : Int
  v : Int
  x : List UInt8
def op0 : OpD := ⟨0, [], [], 0, 0, 0, 0, []⟩
def wAcc : List UInt8 := [97, 99, 99, 101, 112, 116, 101, 100]
def wOth : List UInt8 := [111, 116, 104, 101, 114]
def wNot : List UInt8 := [110, 111, 116, 104, 105, 110, 103]
def partT (l : List UInt8) : List UInt8 := if partL l = true then l else []
def countT (n : Int) : List UInt8 := if 1073741824 < n then [] else printL n
def sayT (n : Int) : List UInt8 := if n = 1 then wAcc else if n = 2 then wOth else if n = 3 then wNot else []
/-- What stands behind the word, by its sign. -/
def fieldL (o : OpD) (s : Nat) : List UInt8 :=
  if s = 103 then partT o.g else if s = 105 then partT o.i else if s = 101 then countT o.e else if s = 115 then countT o.s else if s = 110 then countT o.n
  else if s = 118 then sayT o.v else if s = 120 then (if o.x.length = 32 then hexP o.x else []) else []
def sayN (d : Int) (w : List UInt8) : Int := if w = wAcc then 1 else if w = wOth then 2 else if w = wNot then 3 else d
/-- An operation with a word read by its sign. -/
def readD (d : Int) (o : OpD) (s : Nat) (w : List UInt8) : OpD :=
  if s = 103 then { o with g := w } else if s = 105 then { o with i := w } else if s = 101 then { o with e := parseN w 1073741824 } else if s = 115 then { o with s := parseN w 1073741824 }
  else if s = 110 then { o with n := parseN w 1073741824 } else if s = 118 then { o with v := sayN d w } else if s = 120 then { o with x := (hexR w).1 } else o
def numS (s : Nat) : Bool := s == 101 || s == 115 || s == 110
/-- Is a word one of its sign? -/
def readB (o : OpD) (s : Nat) (w : List UInt8) : Bool := if numS s = true then parseF w 1073741824 == 0 else (!(w == []) && fieldL o s == w)
/-- The words, and the signs of what stands behind them. -/
def formW : Nat → List UInt8
  | 1 => [99, 114, 101, 97, 116, 101]
  | 2 => [110, 101, 120, 116]
  | 3 => [115, 116, 97, 103, 101]
  | 4 => [118, 101, 114, 100, 105, 99, 116]
  | 5 => [101, 120, 112, 111, 114, 116]
  | 6 => [99, 108, 111, 115, 101]
  | 7 => [107, 101, 121, 112, 117, 116]
  | 8 => [107, 101, 121, 116, 97, 107, 101]
  | 9 => [108, 111, 111, 107]
  | _ => []
def formS : Nat → List UInt8
  | 1 => [103, 115, 120]
  | 2 => [103, 101, 115, 110]
  | 3 => [103, 105, 120]
  | 4 => [103, 101, 105, 118]
  | 5 => [103, 101]
  | 6 => [103]
  | 7 => [105, 120]
  | 8 => [105]
  | 9 => [103]
  | _ => []
/-- The program's reading of words by signs. -/
def foldP (o : OpD) : List UInt8 → List (List UInt8) → Option OpD
  | [], _ => some o
  | s :: ss, w :: ws => if readB (readD 0 o s.toNat w) s.toNat w = true then foldP (readD 0 o s.toNat w) ss ws else none
  | _ :: _, [] => none
/-- The reference's. -/
def foldQ (o : OpD) (b : Bool) : List UInt8 → List (List UInt8) → OpD × Bool
  | [], _ => (o, b)
  | s :: ss, w :: ws => foldQ (readD o.v o s.toNat w) (b && readB (readD o.v o s.toNat w) s.toNat w) ss ws
  | _ :: _, [] => (o, b)
/-- The kind of a word; 10: it is none. -/
def kindL (w : List UInt8) : Nat := ((List.range 10).find? fun k => formW k == w && !(formW k == [])).getD 10
def tryL (k : Nat) (ws : List (List UInt8)) : Option OpD := if ws.length = 1 + (formS k).length then foldP { op0 with k := (k : Int) } (formS k) ws.tail else none
def opOf (l : List UInt8) : Option OpD := let k := kindL ((cutL 32 l).headD []); if k < 10 then tryL k (cutL 32 l) else none
def parseO (l : List UInt8) : OpD × Nat := match opOf l with
  | some o => (o, 0)
  | none => (op0, 3)
def sameO (a b : OpD) : Bool := a.k == b.k && a.g == b.g && a.i == b.i && a.e == b.e && a.s == b.s && a.n == b.n && a.v == b.v && a.x == b.x
/-- What stands for an operation before it is tried. -/
def lineL (o : OpD) : List UInt8 := if 1 ≤ o.k ∧ o.k < 10 then Lib.join (formW o.k.toNat :: (formS o.k.toNat).map fun s => fieldL o s.toNat) [32] else []
def printO (o : OpD) : List UInt8 × Nat := if (1 ≤ o.k ∧ o.k < 10) ∧ (parseO (lineL o)).2 = 0 ∧ sameO o (parseO (lineL o)).1 = true then (lineL o, 0) else ([], 2)
/-! ### both readings tell the same -/
theorem readD_v {o : OpD} {s : Nat} {w : List UInt8} {d : Int} (h : s ≠ 118) : (readD d o s w).v = o.v := by
  unfold readD
  split
  · rfl
  · split
    · rfl
    · split
      · rfl
      · split
        · rfl
        · split
          · rfl
          · split <;> rfl
theorem foldQ_false : ∀ (ss : List UInt8) (ws : List (List UInt8)) (o : OpD), (foldQ o false ss ws).2 = false
  | [], _, _ => rfl
  | s :: ss, w :: ws, o => by
    show (foldQ _ (false && _) ss ws).2 = false
    rw [Bool.false_and]
    exact foldQ_false ss ws _
  | _ :: _, [], _ => rfl
theorem foldQ_eq : ∀ (ss : List UInt8) (ws : List (List UInt8)) (o : OpD), o.v = 0 → (∀ s ∈ ss.dropLast, s ≠ 118) → ss.length = ws.length →
    match foldP o ss ws with
    | some o' => foldQ o true ss ws = (o', true)
    | none => (foldQ o true ss ws).2 = false
  | [], _, _, _, _, _ => rfl
  | s :: ss, w :: ws, o, hv, hs, hl => by
    have e1 : foldQ o true (s :: ss) (w :: ws) = foldQ (readD o.v o s.toNat w) (true && readB (readD o.v o s.toNat w) s.toNat w) ss ws := rfl
    have e2 : foldP o (s :: ss) (w :: ws) = if readB (readD 0 o s.toNat w) s.toNat w = true then foldP (readD 0 o s.toNat w) ss ws else none := rfl
    rw [e1, e2, hv, Bool.true_and]
    cases hb : readB (readD 0 o s.toNat w) s.toNat w with
    | false =>
      rw [if_neg (by decide)]
      exact foldQ_false _ _ _
    | true =>
      rw [if_pos rfl]
      match ss, ws, hs, hl with
      | [], _, _, _ => rfl
      | t :: ss, [], _, hl => simp at hl
      | t :: ss, x :: ws, hs, hl =>
        refine foldQ_eq (t :: ss) (x :: ws) _ ?_ ?_ (by simpa using hl)
        · rw [readD_v, hv]
          intro e
          exact hs s (by simp) (UInt8.toNat_inj.1 e)
        · exact fun y hy => hs y (by rw [List.dropLast_cons_cons]; exact List.mem_cons_of_mem _ hy)
  | _ :: _, [], _, _, _, hl => by simp at hl
end Go.Proofs.YtadenlhnfkccaaaDoor
