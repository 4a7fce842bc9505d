/- Slices of structs: each element some cells. No condition. -/
import Derived.Test.YthlnoaalhojphaaGreatDoorObBase
namespace Go.Proofs.YthlnoaalhojphaaGreatDoor
open Go.RowKit
set_option linter.unusedVariables false

/-- A string's value. -/
def strV (l : List UInt8) : Value := .string ⟨l.toArray⟩
/-- The slice's elements read as L, each in its cells 'f x'. -/
def Rs {α : Type} (f : α → List Value) (s : Nat) (w : World) (A : Option Addr) (n c : Nat) (L : List α) : Prop := L.length = n ∧ Sl w A n c s (L.flatMap f)
section
variable {α : Type} {f : α → List Value} {s : Nat} {w w' : World} {A : Option Addr} {n c : Nat} {L : List α}
theorem Rs.mono (h : Rs f s w A n c L) (hb : Below w.heap.size w w') : Rs f s w' A n c L := ⟨h.1, h.2.mono hb⟩
theorem Rs.cap (h : Rs f s w A n c L) : n ≤ c := h.2.cap
theorem Rs.max (h : Rs f s w A n c L) : c ≤ 9223372036854775807 := h.2.max
theorem Rs.row (h : Rs f s w A n c L) (hf : ∀ x, (f x).length = s) {k : Nat} (hk : k < n) :
    ∃ b o x, A = some ⟨b, o, none⟩ ∧ L[k]? = some x ∧ ∀ j u, (f x)[j]? = some u → w.cell? ⟨b, o + k * s + j, none⟩ = some u := by
  obtain ⟨hl, hs⟩ := h
  obtain ⟨b, o, e, hc⟩ := hs.addr (by omega)
  have hr : L[k]? = some (L[k]'(by omega)) := List.getElem?_eq_getElem (by omega)
  refine ⟨b, o, _, e, hr, fun j u hu => ?_⟩
  have hj : j < s := by have := (List.getElem?_eq_some_iff.1 hu).1; rw [hf] at this; exact this
  rw [Nat.add_assoc]
  exact hc _ _ ((flat_at hf L k j hj _ hr).trans hu)
theorem flat_take (L : List α) (k : Nat) (x : α) (h : L[k]? = some x) : (L.take (k + 1)).flatMap f = (L.take k).flatMap f ++ f x := by
  have hk : k < L.length := (List.getElem?_eq_some_iff.1 h).1
  rw [List.take_succ_eq_append_getElem hk]
  rw [List.getElem?_eq_getElem hk] at h
  injection h with h
  rw [h]; simp
theorem Own.rs {w0 : World} {e : TypeId} {v : Value} (h : Own w0 w e s v L.length (L.flatMap f)) : ∃ A c, v = .slice A L.length c ∧ Rs f s w A L.length c L := by
  obtain ⟨A, c, e, hs⟩ := h.slice
  exact ⟨A, c, e, rfl, hs⟩
end

/-- 'append(s, x)', x laid in a new block, whose number is told. -/
theorem wpList_pushAt {P : Program} {ops : Array Oper} {rest : List Oper} {o : Oper} {a : Act} {Q : Exit → Act → World → Prop} (hgd : o.guard = none) (s x : Operand) (t : TypeId)
    (ho : o.op = .call { callee := .builtin .append, args := #[s, x], argTypes := #[t, t] })
    {e : TypeId} {z : Value} {size bytes : Nat} (ht : ElemT P t e z size bytes) {w0 w : World} {v : Value} {n : Nat} {xs : List Value} (hs : a.eval s = v) (hown : Own w0 w e size v n xs)
    (g : Nat) (hg : g = w.heap.size) (cs : Array Value) (hx : a.eval x = .slice (some ⟨g, 0, none⟩) 1 1) (hl : cs.size = size) (h1 : ∀ u ∈ cs.toList, u.oneCell' = true)
    (hroom : (n + 1) * bytes ≤ 140737488355328)
    (h : ∀ v' w', Own w0 w' e size v' (n + 1) (xs ++ cs.toList) → wpList P ops Q rest (a.put o.dst v') w') : wpList P ops Q (o :: rest) a (w.alloc (.cells cs e)) := by
  subst hg
  exact wpList_push hgd s x t ho ht hs hown cs hx hl h1 hroom h

/-! ### commits, operations -/
structure Cm where
  g : List UInt8
  e : Int
  i : List UInt8
instance : Inhabited Cm := ⟨⟨[], 0, []⟩⟩
def Cm.cells (x : Cm) : List Value := [strV x.g, .int .i64 x.e, strV x.i]
theorem Cm.cells_len (x : Cm) : x.cells.length = 3 := rfl
def Cm.ok (x : Cm) : Prop := x.g.length ≤ 9223372036854775807 ∧ x.i.length ≤ 9223372036854775807 ∧ -9223372036854775808 ≤ x.e ∧ x.e ≤ 9223372036854775807
theorem Cm.one (x : Cm) : ∀ u ∈ x.cells, u.oneCell' = true := by intro u hu; simp [Cm.cells, strV] at hu; rcases hu with rfl | rfl | rfl <;> rfl
/-- A verdict: what is said of a commit. -/
structure Vd where
  c : Cm
  said : Int
def Vd.cells (x : Vd) : List Value := [.int .i64 4, strV x.c.g, strV x.c.i, .int .i64 x.c.e, .int .i64 0, .int .i64 0, .int .i64 x.said, .slice none 0 0]
theorem Vd.cells_len (x : Vd) : x.cells.length = 8 := rfl
theorem Vd.one (x : Vd) : ∀ u ∈ x.cells, u.oneCell' = true := by intro u hu; simp [Vd.cells, strV] at hu; rcases hu with rfl | rfl | rfl | rfl | rfl | rfl | rfl <;> rfl

def hit (g : List UInt8) (e : Int) (c : Cm) : Bool := c.g == g && c.e == e
def sayL (L : List Cm) (g : List UInt8) (e : Int) : List UInt8 × Bool := match L.find? (hit g e) with
  | some c => (c.i, true)
  | none => ([], false)
def saidOf (L : List Cm) (c : Cm) : Int := if (sayL L c.g c.e).2 then (if (sayL L c.g c.e).1 == c.i then 1 else 2) else 3
def judgeL (D L : List Cm) : List Vd := D.map fun c => ⟨c, saidOf L c⟩
theorem find_take {L : List Cm} {p : Cm → Bool} {k : Nat} {x : Cm} (h : L[k]? = some x) (hn : (L.take k).find? p = none) : (p x = true → L.find? p = some x) ∧ (p x = false → (L.take (k + 1)).find? p = none) := by
  have hk : k < L.length := (List.getElem?_eq_some_iff.1 h).1
  have he : L.take (k + 1) = L.take k ++ [x] := by
    rw [List.take_succ_eq_append_getElem hk]
    rw [List.getElem?_eq_getElem hk] at h
    injection h with h
    rw [h]
  refine ⟨fun hp => ?_, fun hp => ?_⟩
  · have : L = L.take (k + 1) ++ L.drop (k + 1) := (List.take_append_drop _ _).symm
    rw [this, he, List.find?_append, List.find?_append, hn]
    simp [hp]
  · rw [he, List.find?_append, hn]
    simp [hp]
theorem sayL_some {L : List Cm} {g : List UInt8} {e : Int} {x : Cm} (h : L.find? (hit g e) = some x) : sayL L g e = (x.i, true) := by unfold sayL; rw [h]
theorem sayL_none {L : List Cm} {g : List UInt8} {e : Int} (h : L.find? (hit g e) = none) : sayL L g e = ([], false) := by unfold sayL; rw [h]
def lightB (L : List Cm) : Bool := decide (L.length ≤ 30) && L.all fun c => decide (c.g.length ≤ 100) && decide (c.i.length ≤ 100)
theorem rowsAll_take {α : Type} (p : α → Bool) (L : List α) (k : Nat) (x : α) (h : L[k]? = some x) : ((L.take (k + 1)).all p) = ((L.take k).all p && p x) := by
  have hk : k < L.length := (List.getElem?_eq_some_iff.1 h).1
  rw [List.take_succ_eq_append_getElem hk]
  rw [List.getElem?_eq_getElem hk] at h
  injection h with h
  rw [h]; simp [List.all_append]
theorem all_bad {α : Type} (p : α → Bool) (L : List α) (k : Nat) (x : α) (h : L[k]? = some x) (hp : p x = false) : L.all p = false := by
  rw [List.all_eq_false]
  exact ⟨x, List.mem_of_getElem? h, by simp [hp]⟩
end Go.Proofs.YthlnoaalhojphaaGreatDoor
