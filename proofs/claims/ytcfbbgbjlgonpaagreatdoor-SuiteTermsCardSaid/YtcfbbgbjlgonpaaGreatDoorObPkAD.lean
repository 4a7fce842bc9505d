/- Own texts of this claim, one behind the other. No condition. -/
import Derived.Test.YtcfbbgbjlgonpaaGreatDoorObPkAC
import Derived.Lib.AppendZerosOnto
import Derived.Lib.LazyBuf
import Derived.Lib.Walk
import Derived.Deep.DeepMust

namespace Go.Proofs.YtcfbbgbjlgonpaaGreatDoor
open Go.RowKit
set_option linter.unusedVariables false

/-- Own since a later world is own since the earlier one. -/
theorem Own.base {w0 w1 w : World} {e : TypeId} {size n : Nat} {v : Value} {xs : List Value} (h : Own w1 w e size v n xs) (hb : Below w0.heap.size w0 w1) : Own w0 w e size v n xs := by
  refine ⟨⟨h.1.1, ?_⟩, hb.trans (h.2.mono hb.size)⟩
  rcases h.1.2 with h' | ⟨g, cap, cur, hv, hg, r⟩
  · exact .inl h'
  · exact .inr ⟨g, cap, cur, hv, Nat.le_trans hb.size hg, r⟩
/-! ### parts of slices -/
/-! ### Join, Clone, Concat: bytes behind bytes, in new memory -/
set_option maxHeartbeats 400000 in
theorem join_any (A B : Option Addr) (n m c d : Nat) (a b : List UInt8) (w : World) (ha : Bs w A n c a) (hb : Bs w B m d b) (hn : n + m ≤ 1048576) :
    Calls Tryz.prog 40 #[.slice A n c, .slice B m d] w (RetBs w (a ++ b)) := by
  have hla := ha.len
  have hlb := hb.len
  have HL : Hid ((a ++ b).length = n + m) := by show _ = _; simp [hla, hlb]
  clear hla hlb
  have HN := Lib.hid hn; clear hn
  have HA := Lib.hid ha; have HB := Lib.hid hb; clear ha hb
  go_enter Tryz.func40, Tryz.ntmps40
  go_wp2_with (first
    | (at_builtin; refine wpList_cat rfl (.tmp 6) (.tmp 7) 28 rfl tBytes rfl (Own.nil w _ _) rfl HA.out (one_bytes _) (by have := HN.out; omega) ?_; intro v1 w1 o1)
    | (at_builtin; refine wpList_cat rfl (.tmp 9) (.tmp 10) 28 rfl tBytes rfl o1 rfl (HB.out.mono o1.below) (one_bytes _) (by have := HN.out; omega) ?_; intro v2 w2 o2))
  go_ret
  exact ⟨_, rfl, by rw [HL.out, List.map_append]; simpa using o2⟩

/-! ### slices of slices of bytes -/
theorem Bss.len {w : World} {A : Option Addr} {n c : Nat} {L : List BRow} (h : Bss w A n c L) : L.length = n := by have := Sl.len h.1; simpa using this
theorem Bss.mono {w w' : World} {A : Option Addr} {n c : Nat} {L : List BRow} (h : Bss w A n c L) (hb : Below w.heap.size w w') : Bss w' A n c L := ⟨h.1.mono hb, fun r hr => (h.2 r hr).mono hb⟩
/-- The k-th row: its value's cell, and its bytes. -/
theorem Bss.row {w : World} {A : Option Addr} {n c : Nat} {L : List BRow} (h : Bss w A n c L) {k : Nat} (hk : k < n) :
    ∃ b o r, A = some ⟨b, o, none⟩ ∧ L[k]? = some r ∧ w.cell? ⟨b, o + k, none⟩ = some (.slice r.a r.n r.c) ∧ Bs w r.a r.n r.c r.l := by
  obtain ⟨b, o, e, hc⟩ := Sl.addr h.1 (by omega)
  have hl := h.len
  have hr : L[k]? = some (L[k]'(by omega)) := List.getElem?_eq_getElem (by omega)
  exact ⟨b, o, _, e, hr, hc k _ (by rw [List.getElem?_map, hr]; rfl), h.2 _ (List.getElem_mem _)⟩
end Go.Proofs.YtcfbbgbjlgonpaaGreatDoor
