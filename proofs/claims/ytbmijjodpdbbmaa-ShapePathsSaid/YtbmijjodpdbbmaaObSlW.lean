import Derived.Test.YtbmijjodpdbbmaaObRowsW

import Derived.Lib.AppendZerosOnto
import Derived.Lib.LazyBuf
import Derived.Lib.Walk
import Derived.Deep.DeepMust

namespace Go.Proofs.Ytbmijjodpdbbmaa
open Go.RowKit
set_option linter.unusedVariables false

/-- Own since a later world is own since the earlier one. -/
theorem Own.base {w0 w1 w : World} {e : TypeId} {size n : Nat} {v : Value} {xs : List Value} (h : Own w1 w e size v n xs) (hb : Below w0.heap.size w0 w1) : Own w0 w e size v n xs := by
  refine ⟨⟨h.1.1, ?_⟩, hb.trans (h.2.mono hb.size)⟩
  rcases h.1.2 with h' | ⟨g, cap, cur, hv, hg, r⟩
  · exact .inl h'
  · exact .inr ⟨g, cap, cur, hv, Nat.le_trans hb.size hg, r⟩
/-! ### parts of slices -/
theorem run_upto {P : Program} {t e : TypeId} {z : Value} {size bytes : Nat} (ht : ElemT P t e z size bytes) (A : Option Addr) (n c k : Nat) (hk : k ≤ c) (w : World) :
    (Instr.slice t (.slice A n c) none (some (.int .i64 (k : Int))) none).run P w = .ok (.slice A k c) w := by
  obtain ⟨i, hi, hz, hsz, hby⟩ := info_parts ht.info
  have hu : P.underlying t = some (.slice (P.elem t)) := by
    have := ht.und
    simp [Program.elem, this]
  rw [run_slice_h w t A n c hu .i64 k (by omega) (by omega)]
  have he : P.elem t = e := by simp [Program.elem, ht.und]
  simp [sizeOf, typeInfo, he, hi, Result.andThen, sliced]
  cases A <;> simp [Addr.add]
theorem run_from {P : Program} {t e : TypeId} {z : Value} {size bytes : Nat} (ht : ElemT P t e z size bytes) (A : Option Addr) (n c k : Nat) (hk : k ≤ n) (hc : n ≤ c) :
    ∃ A', (k < n → ∀ b o, A = some ⟨b, o, none⟩ → A' = some ⟨b, o + k * size, none⟩) ∧ ∀ w : World, (Instr.slice t (.slice A n c) (some (.int .i64 (k : Int))) none none).run P w = .ok (.slice A' (n - k) (c - k)) w := by
  obtain ⟨i, hi, hz, hsz, hby⟩ := info_parts ht.info
  have hu : P.underlying t = some (.slice (P.elem t)) := by
    have := ht.und
    simp [Program.elem, this]
  have he : P.elem t = e := by simp [Program.elem, ht.und]
  refine ⟨if c = k then A else A.map (·.add (k * size)), fun hlt b o hA => ?_, fun w => ?_⟩
  · rw [if_neg (by omega), hA]
    simp only [Option.map_some]
    rw [add_flat]
  · rw [run_slice_l w t A n c hu .i64 k (by omega) (by omega)]
    simp [sizeOf, typeInfo, he, hi, Result.andThen, sliced, hsz]

/-! ### Join, Clone, Concat: bytes behind bytes, in new memory -/
set_option maxHeartbeats 400000 in
theorem clone_any (A : Option Addr) (n c : Nat) (a : List UInt8) (w : World) (ha : Bs w A n c a) (hn : n ≤ 1048576) :
    Calls Try.prog 32 #[.slice A n c] w (RetBs w a) := by
  have hla := ha.len
  have HL := Lib.hid hla; clear hla
  have HN := Lib.hid hn; clear hn
  have HA := Lib.hid ha; clear ha
  cases A with
  | none =>
    have hnil := fun w => run_eql_slice_nil (P := Try.prog) w 44 5 none n c Try.underlying44
    go_enter Try.func32, Try.ntmps32
    go_wp2
    go_ret
    have : n = 0 := by
      rcases Nat.eq_zero_or_pos n with h | h
      · exact h
      · obtain ⟨_, _, h, _⟩ := HA.out.addr h; cases h
    have : a = [] := List.eq_nil_of_length_eq_zero (by rw [HL.out]; exact this)
    subst this
    exact ⟨_, rfl, Own.nil _ _ _⟩
  | some ad =>
    have hnil := fun w => run_eql_slice_nil (P := Try.prog) w 44 5 (some ad) n c Try.underlying44
    have hblk : ∀ w : World, Own w (w.alloc (.cells #[] 5)) 5 1 (.slice (some ⟨w.heap.size, 0, none⟩) 0 0) 0 [] := fun w =>
      (Blk.new w 5 #[]).own (Nat.le_refl _) ((Below.refl _ _).alloc (Nat.le_refl _) _) rfl (Nat.zero_le _)
    have HB := Lib.hid hblk; clear hblk
    go_enter Try.func32, Try.ntmps32
    go_wp2_with (at_builtin; refine wpList_cat rfl (.tmp 5) (.tmp 6) 44 rfl tBytes rfl (HB.out w) rfl (HA.out.mono ((Below.refl _ _).alloc (Nat.le_refl _) _)) (one_bytes _) (by have := HN.out; omega) ?_; intro v1 w1 o1)
    go_ret
    exact ⟨_, rfl, by rw [HL.out]; simpa using o1⟩

/-! ### slices of slices of bytes -/
theorem Bss.len {w : World} {A : Option Addr} {n c : Nat} {L : List BRow} (h : Bss w A n c L) : L.length = n := by have := Sl.len h.1; simpa using this
theorem Bss.mono {w w' : World} {A : Option Addr} {n c : Nat} {L : List BRow} (h : Bss w A n c L) (hb : Below w.heap.size w w') : Bss w' A n c L := ⟨h.1.mono hb, fun r hr => (h.2 r hr).mono hb⟩
/-- The k-th row: its value's cell, and its bytes. -/
theorem Bss.row {w : World} {A : Option Addr} {n c : Nat} {L : List BRow} (h : Bss w A n c L) {k : Nat} (hk : k < n) :
    ∃ b o r, A = some ⟨b, o, none⟩ ∧ L[k]? = some r ∧ w.cell? ⟨b, o + k, none⟩ = some (.slice r.a r.n r.c) ∧ Bs w r.a r.n r.c r.l := by
  obtain ⟨b, o, e, hc⟩ := Sl.addr h.1 (by omega)
  have hl := h.len
  have hr : L[k]? = some (L[k]'(by omega)) := List.getElem?_eq_getElem (by omega)
  exact ⟨b, o, _, e, hr, hc k _ (by rw [List.getElem?_map, hr]; rfl), h.2 _ (List.getElem_mem _)⟩
def rowsOf (L : List BRow) : List UInt8 := L.flatMap BRow.l
theorem rowsOf_take (L : List BRow) (k : Nat) (r : BRow) (h : L[k]? = some r) : rowsOf (L.take (k + 1)) = rowsOf (L.take k) ++ r.l := by
  have hk : k < L.length := (List.getElem?_eq_some_iff.1 h).1
  rw [List.take_succ_eq_append_getElem hk]
  rw [List.getElem?_eq_getElem hk] at h
  injection h with h
  rw [h]
  simp [rowsOf]
theorem rowsOf_le (L : List BRow) (k : Nat) : (rowsOf (L.take k)).length ≤ (rowsOf L).length := by
  have : rowsOf L = rowsOf (L.take k) ++ rowsOf (L.drop k) := by
    unfold rowsOf; rw [← List.flatMap_append, List.take_append_drop]
  rw [this]; simp

end Go.Proofs.Ytbmijjodpdbbmaa
