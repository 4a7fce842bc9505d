/- ObTermJ, ObTermK, ObTermL: one text. No condition. -/
import Derived.Test.YthlnoaalhojphaaGreatDoorObTermF
import Derived.Test.YthlnoaalhojphaaGreatDoorObRowsS
/- The reference's table of terms: is an id. No condition. -/
namespace Go.Proofs.YthlnoaalhojphaaGreatDoor
open Go.RowKit Go.Maps
set_option linter.unusedVariables false

/-- A node of the reference's table. -/
def Nd.node (x : Nd) : List Value := [.int .i64 (x.k : Int), .int .i64 (x.a : Int), .int .i64 (x.b : Int), .string x.s, .int .i64 (x.n : Int)]
theorem Nd.node_len (x : Nd) : x.node.length = 5 := rfl
abbrev RTb (w : World) (A : Option Addr) (n c : Nat) (T : List Nd) : Prop := Rs Nd.node 5 w A n c T
theorem RTb.row {w : World} {A : Option Addr} {n c : Nat} {T : List Nd} (h : RTb w A n c T) {k : Nat} (hk : k < n) :
    ∃ b o x, A = some ⟨b, o, none⟩ ∧ T[k]? = some x ∧ w.cell? ⟨b, o + k * 5, none⟩ = some (.int .i64 (x.k : Int)) ∧ w.cell? ⟨b, o + k * 5 + 1, none⟩ = some (.int .i64 (x.a : Int)) ∧ w.cell? ⟨b, o + k * 5 + 2, none⟩ = some (.int .i64 (x.b : Int)) ∧
      w.cell? ⟨b, o + k * 5 + 3, none⟩ = some (.string x.s) ∧ w.cell? ⟨b, o + k * 5 + 4, none⟩ = some (.int .i64 (x.n : Int)) := by
  obtain ⟨b, o, x, e, hx, hc⟩ := Rs.row h Nd.node_len hk
  exact ⟨b, o, x, e, hx, hc 0 _ rfl, hc 1 _ rfl, hc 2 _ rfl, hc 3 _ rfl, hc 4 _ rfl⟩
end Go.Proofs.YthlnoaalhojphaaGreatDoor
/- The reference's table of terms: the parts. No condition. -/
namespace Go.Proofs.YthlnoaalhojphaaGreatDoor
open Go.RowKit Go.Maps
set_option linter.unusedVariables false

end Go.Proofs.YthlnoaalhojphaaGreatDoor
/- The reference's table of terms: a new atom. No condition. -/
namespace Go.Proofs.YthlnoaalhojphaaGreatDoor
open Go.RowKit Go.Maps
set_option linter.unusedVariables false

/-- The number of atoms among the first. -/
theorem atoms_next (T : List Nd) (k : Nat) (x : Nd) (hx : T[k]? = some x) : atomsOf (T.take (k + 1)) = if x.k = 1 then atomsOf (T.take k) + 1 else atomsOf (T.take k) := by
  have hk : k < T.length := (List.getElem?_eq_some_iff.1 hx).1
  rw [List.take_succ_eq_append_getElem hk]
  rw [List.getElem?_eq_getElem hk] at hx
  injection hx with hx
  rw [hx]
  unfold atomsOf
  rw [List.filter_append, List.length_append]
  by_cases h : x.k = 1 <;> simp [h]
/-- Only v's own row has turned; v' lies where v lay, or in new memory. -/
structure Turn1 (w w' : World) (v v' : Value) : Prop where
  size : w.heap.size ≤ w'.heap.size
  keep : ∀ b, b < w.heap.size → v.ownBlock ≠ some b → w'.heap[b]? = w.heap[b]?
  own : ∀ b, v'.ownBlock = some b → v.ownBlock = some b ∨ w.heap.size ≤ b
theorem Turn1.gr {w w' : World} (hg : Gr w w') (v : Value) : Turn1 w w' v v := ⟨hg.size, fun b hb _ => hg.block b hb, fun b h => .inl h⟩
theorem Turn1.of {w w' : World} {v v' : Value} (h : Kept w w' v v') : Turn1 w w' v v' := ⟨h.2.1, h.1, fun b hb => by
  rcases h.2.2 with q | q
  · rw [q] at hb; exact .inl hb
  · rw [q] at hb; injection hb with hb; exact .inr (by omega)⟩
theorem Turn1.trans {w w' w'' : World} {v v' v'' : Value} (h : Turn1 w w' v v') (k : Turn1 w' w'' v' v'') : Turn1 w w'' v v'' := by
  refine ⟨Nat.le_trans h.size k.size, fun b hb hn => ?_, fun b hb => ?_⟩
  · refine (k.keep b (Nat.lt_of_lt_of_le hb h.size) (fun e => ?_)).trans (h.keep b hb hn)
    rcases h.own b e with q | q
    · exact hn q
    · omega
  · rcases k.own b hb with q | q
    · exact h.own b q
    · exact .inr (Nat.le_trans h.size q)
theorem wpList_pushAtG {P : Program} {ops : Array Oper} {rest : List Oper} {o : Oper} {a : Act} {Q : Exit → Act → World → Prop} (hgd : o.guard = none) (s x : Operand) (t : TypeId)
    (ho : o.op = .call { callee := .builtin .append, args := #[s, x], argTypes := #[t, t] })
    {e : TypeId} {z : Value} {size bytes : Nat} (ht : ElemT P t e z size bytes) {w0 w : World} {v : Value} {n : Nat} {xs : List Value} (hs : a.eval s = v) (hown : Own w0 w e size v n xs)
    (g : Nat) (hg : g = w.heap.size) (cs : Array Value) (hx : a.eval x = .slice (some ⟨g, 0, none⟩) 1 1) (hl : cs.size = size) (h1 : ∀ u ∈ cs.toList, u.oneCell' = true)
    (hroom : (n + 1) * bytes ≤ 140737488355328)
    (h : ∀ v' w', Own w0 w' e size v' (n + 1) (xs ++ cs.toList) → Turn1 w w' v v' → wpList P ops Q rest (a.put o.dst v') w') : wpList P ops Q (o :: rest) a (w.alloc (.cells cs e)) := by
  subst hg
  exact wpList_pushG hgd s x t ho ht hs hown cs hx hl h1 hroom fun v' w' h2 h3 => h v' w' h2 ((Turn1.gr (Gr.alloc w _) v).trans (Turn1.of h3))
end Go.Proofs.YthlnoaalhojphaaGreatDoor
