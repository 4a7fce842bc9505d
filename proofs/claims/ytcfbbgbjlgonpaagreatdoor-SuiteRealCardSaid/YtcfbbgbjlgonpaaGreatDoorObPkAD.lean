/- Own texts of this claim, one behind the other. No condition. -/
import Derived.Test.YtcfbbgbjlgonpaaGreatDoorObPkAC
import Derived.Lib.AppendZerosOnto
import Derived.Lib.LazyBuf
import Derived.Lib.Walk
import Derived.Deep.DeepMust
import Derived.Deep.RegionWith

namespace Go.Proofs.YtcfbbgbjlgonpaaGreatDoor
open Go.RowKit
set_option linter.unusedVariables false

/-- Own since a later world is own since the earlier one. -/
theorem Own.base {w0 w1 w : World} {e : TypeId} {size n : Nat} {v : Value} {xs : List Value} (h : Own w1 w e size v n xs) (hb : Below w0.heap.size w0 w1) : Own w0 w e size v n xs := by
  refine ⟨⟨h.1.1, ?_⟩, hb.trans (h.2.mono hb.size)⟩
  rcases h.1.2 with h' | ⟨g, cap, cur, hv, hg, r⟩
  · exact .inl h'
  · exact .inr ⟨g, cap, cur, hv, Nat.le_trans hb.size hg, r⟩
/-! ### parts of slices -/
theorem run_upto {P : Program} {t e : TypeId} {z : Value} {size bytes : Nat} (ht : ElemT P t e z size bytes) (A : Option Addr) (n c k : Nat) (hk : k ≤ c) (w : World) :
    (Instr.slice t (.slice A n c) none (some (.int .i64 (k : Int))) none).run P w = .ok (.slice A k c) w := by
  obtain ⟨i, hi, hz, hsz, hby⟩ := info_parts ht.info
  have hu : P.underlying t = some (.slice (P.elem t)) := by
    have := ht.und
    simp [Program.elem, this]
  rw [run_slice_h w t A n c hu .i64 k (by omega) (by omega)]
  have he : P.elem t = e := by simp [Program.elem, ht.und]
  simp [sizeOf, typeInfo, he, hi, Result.andThen, sliced]
  cases A <;> simp [Addr.add]
theorem run_from {P : Program} {t e : TypeId} {z : Value} {size bytes : Nat} (ht : ElemT P t e z size bytes) (A : Option Addr) (n c k : Nat) (hk : k ≤ n) (hc : n ≤ c) :
    ∃ A', (k < n → ∀ b o, A = some ⟨b, o, none⟩ → A' = some ⟨b, o + k * size, none⟩) ∧ ∀ w : World, (Instr.slice t (.slice A n c) (some (.int .i64 (k : Int))) none none).run P w = .ok (.slice A' (n - k) (c - k)) w := by
  obtain ⟨i, hi, hz, hsz, hby⟩ := info_parts ht.info
  have hu : P.underlying t = some (.slice (P.elem t)) := by
    have := ht.und
    simp [Program.elem, this]
  have he : P.elem t = e := by simp [Program.elem, ht.und]
  refine ⟨if c = k then A else A.map (·.add (k * size)), fun hlt b o hA => ?_, fun w => ?_⟩
  · rw [if_neg (by omega), hA]
    simp only [Option.map_some]
    rw [add_flat]
  · rw [run_slice_l w t A n c hu .i64 k (by omega) (by omega)]
    simp [sizeOf, typeInfo, he, hi, Result.andThen, sliced, hsz]

/-! ### Join, Clone, Concat: bytes behind bytes, in new memory -/
set_option maxHeartbeats 400000 in
theorem join_any (A B : Option Addr) (n m c d : Nat) (a b : List UInt8) (w : World) (ha : Bs w A n c a) (hb : Bs w B m d b) (hn : n + m ≤ 1048576) :
    Calls Tryz.prog 40 #[.slice A n c, .slice B m d] w (RetBs w (a ++ b)) := by
  have hla := ha.len
  have hlb := hb.len
  have HL : Hid ((a ++ b).length = n + m) := by show _ = _; simp [hla, hlb]
  clear hla hlb
  have HN := Lib.hid hn; clear hn
  have HA := Lib.hid ha; have HB := Lib.hid hb; clear ha hb
  go_enter Tryz.func40, Tryz.ntmps40
  go_wp2_with (first
    | (at_builtin; refine wpList_cat rfl (.tmp 6) (.tmp 7) 28 rfl tBytes rfl (Own.nil w _ _) rfl HA.out (one_bytes _) (by have := HN.out; omega) ?_; intro v1 w1 o1)
    | (at_builtin; refine wpList_cat rfl (.tmp 9) (.tmp 10) 28 rfl tBytes rfl o1 rfl (HB.out.mono o1.below) (one_bytes _) (by have := HN.out; omega) ?_; intro v2 w2 o2))
  go_ret
  exact ⟨_, rfl, by rw [HL.out, List.map_append]; simpa using o2⟩

set_option maxHeartbeats 400000 in
theorem clone_any (A : Option Addr) (n c : Nat) (a : List UInt8) (w : World) (ha : Bs w A n c a) (hn : n ≤ 1048576) :
    Calls Tryz.prog 77 #[.slice A n c] w (RetBs w a) := by
  have hla := ha.len
  have HL := Lib.hid hla; clear hla
  have HN := Lib.hid hn; clear hn
  have HA := Lib.hid ha; clear ha
  cases A with
  | none =>
    have hnil := fun w => run_eql_slice_nil (P := Tryz.prog) w 28 5 none n c Tryz.underlying28
    go_enter Tryz.func77, Tryz.ntmps77
    go_wp2
    go_ret
    have : n = 0 := by
      rcases Nat.eq_zero_or_pos n with h | h
      · exact h
      · obtain ⟨_, _, h, _⟩ := HA.out.addr h; cases h
    have : a = [] := List.eq_nil_of_length_eq_zero (by rw [HL.out]; exact this)
    subst this
    exact ⟨_, rfl, Own.nil _ _ _⟩
  | some ad =>
    have hnil := fun w => run_eql_slice_nil (P := Tryz.prog) w 28 5 (some ad) n c Tryz.underlying28
    have hblk : ∀ w : World, Own w (w.alloc (.cells #[] 5)) 5 1 (.slice (some ⟨w.heap.size, 0, none⟩) 0 0) 0 [] := fun w =>
      (Blk.new w 5 #[]).own (Nat.le_refl _) ((Below.refl _ _).alloc (Nat.le_refl _) _) rfl (Nat.zero_le _)
    have HB := Lib.hid hblk; clear hblk
    go_enter Tryz.func77, Tryz.ntmps77
    go_wp2_with (at_builtin; refine wpList_cat rfl (.tmp 5) (.tmp 6) 28 rfl tBytes rfl (HB.out w) rfl (HA.out.mono ((Below.refl _ _).alloc (Nat.le_refl _) _)) (one_bytes _) (by have := HN.out; omega) ?_; intro v1 w1 o1)
    go_ret
    exact ⟨_, rfl, by rw [HL.out]; simpa using o1⟩

/-- Grow of nil: nothing is in it. -/
theorem grow_nil (n : Nat) (w : World) (hn : n ≤ 60000) :
    Calls Tryz.prog 115 #[.slice none 0 0, .int .i64 n] w (RetBs w []) := by
  rcases Nat.eq_zero_or_pos n with h0 | h0
  · subst h0
    go_enter Tryz.func115, Tryz.ntmps115
    go_wp2
    go_ret
    exact ⟨_, rfl, Own.nil _ _ _⟩
  · obtain ⟨i0, hi0, hz0, hz1, hz2⟩ := info_parts tBytes.info
    have h1 : decide ((n : Int) < 0) = false := by simp
    have h2 : decide (0 < (n : Int)) = true := by simp; omega
    have hrz := fun ty => Lib.run_append_grow_zeros (P := Tryz.prog) w 28 3 ty 5 i0 (.int .u8 0) .i64 .i64 Tryz.underlying28 Tryz.underlying3 hi0 hz0 none 0 0 []
      (run_firstCells_none w.drew i0.size 0 0 0) n h0 (by omega) (by omega) (by omega) (by rw [hz2]; omega) (by rw [hz2]; exact growslice_fits (by omega) (by omega))
    obtain ⟨G, w1, hrun, hG, hG', cs, hblk, hcs, hbel⟩ : ∃ (G : Nat) (w1 : World), (∀ ty, (Builtin.append_ #[28, 3] ty #[Value.slice none 0 0, .int .i64 (n : Int)]).run Tryz.prog w = .ok (.slice (some ⟨w.heap.size, 0, none⟩) n G) w1) ∧ n ≤ G ∧ G ≤ 9223372036854775807 ∧
        ∃ cs : List Value, Blk w1 w.heap.size 5 cs ∧ cs.length = G ∧ Below w.heap.size w w1 := by
      have hge := grownCap_ge w n 0 5
      have hle := grownCap_le_maxLen w n 0 5 (by unfold maxLen; omega)
      unfold maxLen at hle
      simp only [Nat.zero_add, Array.empty_append] at hrz
      refine ⟨grownCap w n 0 5, _, hrz, hge, hle, (Builtin.zeroCells (Value.int .u8 0).cells n ++ Builtin.zeroCells (Value.int .u8 0).cells (grownCap w n 0 5 - n)).toList, heap_alloc_new w.drew _, ?_, (Below.refl _ _).drew.alloc (Nat.le_refl _) _⟩
      rw [Array.length_toList, Array.size_append, size_zeroCells, size_zeroCells]
      simp only [Value.cells, List.size_toArray, List.length_singleton]
      omega
    clear hrz hi0 hz0 hz1 hz2
    have fin : RetBs w [] (.returned (.slice (some ⟨w.heap.size, 0, none⟩) 0 G)) w1 := ⟨_, rfl, ⟨rfl, .inr ⟨_, G, _, rfl, Nat.le_refl _, hblk, Nat.zero_le _, by unfold maxLen; omega, by simp [hcs], by simp⟩⟩, hbel⟩
    have HF := Lib.hid fin; clear fin hblk hcs hbel
    go_enter Tryz.func115, Tryz.ntmps115
    go_wp2_with (at_builtin; refine Lib.wpList_append_run _ rfl _ _ _ _ rfl _ _ rfl rfl _ _ (hrun _) ?_)
    go_ret
    exact HF.out

/-! ### slices of slices of bytes -/
theorem Bss.len {w : World} {A : Option Addr} {n c : Nat} {L : List BRow} (h : Bss w A n c L) : L.length = n := by have := Sl.len h.1; simpa using this
theorem Bss.mono {w w' : World} {A : Option Addr} {n c : Nat} {L : List BRow} (h : Bss w A n c L) (hb : Below w.heap.size w w') : Bss w' A n c L := ⟨h.1.mono hb, fun r hr => (h.2 r hr).mono hb⟩
/-- The k-th row: its value's cell, and its bytes. -/
theorem Bss.row {w : World} {A : Option Addr} {n c : Nat} {L : List BRow} (h : Bss w A n c L) {k : Nat} (hk : k < n) :
    ∃ b o r, A = some ⟨b, o, none⟩ ∧ L[k]? = some r ∧ w.cell? ⟨b, o + k, none⟩ = some (.slice r.a r.n r.c) ∧ Bs w r.a r.n r.c r.l := by
  obtain ⟨b, o, e, hc⟩ := Sl.addr h.1 (by omega)
  have hl := h.len
  have hr : L[k]? = some (L[k]'(by omega)) := List.getElem?_eq_getElem (by omega)
  exact ⟨b, o, _, e, hr, hc k _ (by rw [List.getElem?_map, hr]; rfl), h.2 _ (List.getElem_mem _)⟩
def rowsOf (L : List BRow) : List UInt8 := L.flatMap BRow.l
theorem rowsOf_take (L : List BRow) (k : Nat) (r : BRow) (h : L[k]? = some r) : rowsOf (L.take (k + 1)) = rowsOf (L.take k) ++ r.l := by
  have hk : k < L.length := (List.getElem?_eq_some_iff.1 h).1
  rw [List.take_succ_eq_append_getElem hk]
  rw [List.getElem?_eq_getElem hk] at h
  injection h with h
  rw [h]
  simp [rowsOf]
theorem rowsOf_le (L : List BRow) (k : Nat) : (rowsOf (L.take k)).length ≤ (rowsOf L).length := by
  have : rowsOf L = rowsOf (L.take k) ++ rowsOf (L.drop k) := by
    unfold rowsOf; rw [← List.flatMap_append, List.take_append_drop]
  rw [this]; simp

set_option maxHeartbeats 400000 in
theorem concat_any (A : Option Addr) (n c : Nat) (L : List BRow) (w : World) (h : Bss w A n c L) (hn : (rowsOf L).length ≤ 60000) :
    Calls Tryz.prog 80 #[.slice A n c] w (RetBs w (rowsOf L)) := by
  have hl := h.len
  have hmax := h.1.max
  have hcap := h.1.cap
  have HL := Lib.hid hl; clear hl
  have HH := Lib.hid h; clear h
  go_enter Tryz.func80, Tryz.ntmps80
  go_wp2
  go_loop [3, 11] (fun s i => ∃ k : Nat, k ≤ n ∧ i = .int .i64 k ∧ s = .int .i64 (rowsOf (L.take k)).length) (fun _ i => n - (intOf i).toNat)
  case atStart => exact ⟨0, Nat.zero_le _, rfl, rfl⟩
  case round =>
    obtain ⟨k, hk, rfl, rfl⟩ := hrel
    have hle := rowsOf_le L k
    by_cases hlt : k < n
    · obtain ⟨b, o, r, rfl, hr, hc, hrow⟩ := HH.out.row hlt
      have HR := Lib.hid hr; clear hr
      have hrl := hrow.len
      have HRL := Lib.hid hrl; clear hrl
      have hle2 := rowsOf_le L (k + 1)
      rw [rowsOf_take L k r HR.out, List.length_append, HRL.out] at hle2
      clear hrow
      go_wp2
      go_round
      case rel => exact ⟨k + 1, by omega, by go_num, by rw [rowsOf_take L k r HR.out, List.length_append, HRL.out]; go_num⟩
      case measure => simp [intOf]; omega
    · obtain rfl : k = n := by omega
      have htk : L.take k = L := List.take_of_length_le (by rw [HL.out]; omega)
      rw [htk] at hle ⊢
      clear htk
      go_wp2_with fail
      refine (grow_nil _ _ hn).mono ?_
      rintro e w1 ⟨v1, rfl, o1⟩
      have b1 := o1.below
      go_wp2_with fail
      go_loopw [6, 27] (fun v i wr => ∃ j : Nat, j ≤ k ∧ i = .int .i64 j ∧ Own w wr 5 1 v (rowsOf (L.take j)).length ((rowsOf (L.take j)).map u8c)) (fun _ i _ => k - (intOf i).toNat)
      case atStart => exact ⟨0, Nat.zero_le _, rfl, o1⟩
      case round =>
        obtain ⟨j, hj, rfl, hown⟩ := hrel
        by_cases hlt2 : j < k
        · obtain ⟨b, o, r, rfl, hr, hc, hrow⟩ := (HH.out.mono hown.below).row hlt2
          have HR := Lib.hid hr; clear hr
          have hle2 := rowsOf_le L (j + 1)
          have hrl := hrow.len
          rw [rowsOf_take L j r HR.out, List.length_append, hrl] at hle2
          have HRL := Lib.hid hrl; clear hrl
          have HRW := Lib.hid hrow; clear hrow
          go_wp2_with (at_builtin; refine wpList_cat rfl (.tmp 31) (.tmp 32) 28 rfl tBytes rfl hown rfl HRW.out (one_bytes _) (by omega) ?_; intro v2 w2 o2)
          go_roundw
          case rel => exact ⟨j + 1, by omega, by go_num, by rw [rowsOf_take L j r HR.out, List.length_append, HRL.out, List.map_append]; exact o2⟩
          case measure => simp [intOf]; omega
        · obtain rfl : j = k := by omega
          have htk : L.take j = L := List.take_of_length_le (by rw [HL.out]; omega)
          rw [htk] at hown
          clear htk
          go_wp2
          go_ret
          exact ⟨_, rfl, hown⟩
end Go.Proofs.YtcfbbgbjlgonpaaGreatDoor

namespace Go.Proofs.YtcfbbgbjlgonpaaGreatDoor
open Go.RowKit
set_option linter.unusedVariables false

/-! ### stores elsewhere -/
theorem Sl.far {w : World} {A : Option Addr} {n c s : Nat} {xs : List Value} (h : Sl w A n c s xs) {p : Addr} (hp : ∀ b o, A = some ⟨b, o, none⟩ → b ≠ p.block) (u : Value) : Sl (w.setCell p u) A n c s xs := by
  obtain ⟨h1, h2, h3, h4⟩ := h
  refine ⟨h1, h2, h3, fun hn => ?_⟩
  obtain ⟨b, o, rfl, hc⟩ := h4 hn
  refine ⟨b, o, rfl, fun j u' hu => ?_⟩
  rw [World.cell?_of_block (w := w) (Below.heap_setCell w p u b (hp b o rfl))]
  exact hc j u' hu
theorem Own.block {w0 w : World} {e : TypeId} {size n : Nat} {A : Option Addr} {m c : Nat} {xs : List Value} (h : Own w0 w e size (.slice A m c) n xs) : ∀ b o, A = some ⟨b, o, none⟩ → w0.heap.size ≤ b := by
  intro b o hA
  rcases h.1.2 with ⟨h', _⟩ | ⟨g, cap, cur, hv, hg, _⟩
  · injection h' with h1 h2 h3; subst h1; cases hA
  · injection hv with h1 h2 h3; subst h1; injection hA with h; injection h with h h'; subst h; exact hg

/-- A block of slices' values: rows of bytes in other blocks. -/
def Img (w : World) (g : Nat) (t : TypeId) (R : List BRow) : Prop := Blk w g t (R.map BRow.v) ∧ ∀ r ∈ R, Bs w r.a r.n r.c r.l ∧ ∀ b o, r.a = some ⟨b, o, none⟩ → b ≠ g
theorem Img.mono {w w' : World} {g : Nat} {t : TypeId} {R : List BRow} (h : Img w g t R) (hb : Below w.heap.size w w') : Img w' g t R :=
  ⟨h.1.mono hb, fun r hr => ⟨(h.2 r hr).1.mono hb, (h.2 r hr).2⟩⟩
theorem Img.set {w : World} {g : Nat} {t : TypeId} {R : List BRow} (h : Img w g t R) (i : Nat) (r : BRow) (hr : Bs w r.a r.n r.c r.l) (hg : ∀ b o, r.a = some ⟨b, o, none⟩ → b ≠ g) : Img (w.setCell ⟨g, i, none⟩ r.v) g t (R.set i r) := by
  refine ⟨by rw [List.map_set]; exact h.1.set i r.v, fun x hx => ?_⟩
  rcases List.mem_or_eq_of_mem_set hx with hx | rfl
  · exact ⟨(h.2 x hx).1.far (p := ⟨g, i, none⟩) (h.2 x hx).2 _, (h.2 x hx).2⟩
  · exact ⟨hr.far (p := ⟨g, i, none⟩) hg _, hg⟩
theorem Img.bss {w : World} {g : Nat} {t : TypeId} {R : List BRow} (h : Img w g t R) (hm : R.length ≤ maxLen) : Bss w (some ⟨g, 0, none⟩) R.length R.length R :=
  ⟨⟨by simp, Nat.le_refl _, hm, fun _ => ⟨g, 0, rfl, fun j u hu => by rw [Nat.zero_add, h.1.cell]; exact hu⟩⟩, fun r hr => (h.2 r hr).1⟩

/-! ### writes -/
structure Wr where
  p : Int
  r : BRow
instance : Inhabited Wr := ⟨⟨0, default⟩⟩
def Wr.cells (x : Wr) : List Value := [.int .i64 x.p, x.r.v]
theorem Wr.cells_len (x : Wr) : x.cells.length = 2 := rfl
def Wrs (w : World) (A : Option Addr) (n c : Nat) (L : List Wr) : Prop := L.length = n ∧ Sl w A n c 2 (L.flatMap Wr.cells) ∧ ∀ x ∈ L, Bs w x.r.a x.r.n x.r.c x.r.l ∧ -9223372036854775808 ≤ x.p ∧ x.p ≤ 9223372036854775807
theorem Wrs.mono {w w' : World} {A : Option Addr} {n c : Nat} {L : List Wr} (h : Wrs w A n c L) (hb : Below w.heap.size w w') : Wrs w' A n c L := ⟨h.1, h.2.1.mono hb, fun x hx => ⟨(h.2.2 x hx).1.mono hb, (h.2.2 x hx).2⟩⟩
theorem Wrs.row {w : World} {A : Option Addr} {n c : Nat} {L : List Wr} (h : Wrs w A n c L) {k : Nat} (hk : k < n) :
    ∃ b o x, A = some ⟨b, o, none⟩ ∧ L[k]? = some x ∧ w.cell? ⟨b, o + k * 2, none⟩ = some (.int .i64 x.p) ∧ w.cell? ⟨b, o + k * 2 + 1, none⟩ = some (.slice x.r.a x.r.n x.r.c) ∧ Bs w x.r.a x.r.n x.r.c x.r.l ∧ -9223372036854775808 ≤ x.p ∧ x.p ≤ 9223372036854775807 := by
  obtain ⟨hl, hs, hx⟩ := h
  obtain ⟨b, o, e, hc⟩ := hs.addr (by omega)
  have hr : L[k]? = some (L[k]'(by omega)) := List.getElem?_eq_getElem (by omega)
  have h0 := flat_at (s := 2) Wr.cells_len L k 0 (by decide) _ hr
  have h1 := flat_at (s := 2) Wr.cells_len L k 1 (by decide) _ hr
  exact ⟨b, o, _, e, hr, hc _ _ (h0.trans rfl), by rw [Nat.add_assoc]; exact hc _ _ (h1.trans rfl), hx _ (List.getElem_mem _)⟩

def zeros512 : List UInt8 := List.replicate 512 0
def imgPut (size : Nat) (I : List (List UInt8)) (x : Wr) : List (List UInt8) := if 0 ≤ x.p ∧ x.p < size then I.set x.p.toNat x.r.l else I
def imgTo (size : Nat) (L : List Wr) : List (List UInt8) := L.foldl (imgPut size) (List.replicate size zeros512)
theorem imgTo_take (size : Nat) (L : List Wr) (k : Nat) (x : Wr) (h : L[k]? = some x) : imgTo size (L.take (k + 1)) = imgPut size (imgTo size (L.take k)) x := by
  have hk : k < L.length := (List.getElem?_eq_some_iff.1 h).1
  rw [List.take_succ_eq_append_getElem hk]
  rw [List.getElem?_eq_getElem hk] at h
  injection h with h
  rw [h]
  simp [imgTo]
theorem imgPut_len (size : Nat) (I : List (List UInt8)) (x : Wr) : (imgPut size I x).length = I.length := by unfold imgPut; split <;> simp
theorem imgTo_len (size : Nat) (L : List Wr) : (imgTo size L).length = size := by
  unfold imgTo
  have : ∀ I : List (List UInt8), (L.foldl (imgPut size) I).length = I.length := by
    induction L with
    | nil => intro I; rfl
    | cons x L ih => intro I; rw [List.foldl_cons, ih, imgPut_len]
  rw [this]; simp

def imgStart (size k : Nat) : List (List UInt8) := List.replicate k zeros512 ++ List.replicate (size - k) []
theorem imgStart_set (size k : Nat) (h : k < size) : (imgStart size k).set k zeros512 = imgStart size (k + 1) := by
  unfold imgStart
  have e : size - k = (size - (k + 1)) + 1 := by omega
  rw [List.set_append_right _ _ (by simp), e, List.replicate_succ, List.length_replicate, Nat.sub_self, List.set_cons_zero, List.replicate_succ', List.append_assoc]
  rfl
theorem zeros512_len : zeros512.length = 512 := List.length_replicate
theorem zeros512_cells : zeros512.map u8c = reps 512 (.int .u8 0) := by unfold zeros512 reps; rw [List.map_replicate]; rfl
theorem Img.new {wr : World} {g : Nat} {t : TypeId} {R : List BRow} (h : Img wr g t R) (k : Nat) :
    Img ((wr.alloc (.cells (reps 512 (.int .u8 0)).toArray 5)).setCell ⟨g, k, none⟩ (.slice (some ⟨wr.heap.size, 0, none⟩) 512 512)) g t (R.set k ⟨some ⟨wr.heap.size, 0, none⟩, 512, 512, zeros512⟩) := by
  have hg := h.1.lt
  refine (h.mono ((Below.refl _ _).alloc (Nat.le_refl _) _)).set k ⟨some ⟨wr.heap.size, 0, none⟩, 512, 512, zeros512⟩ ⟨?_, Nat.le_refl _, by simp only [maxLen]; omega, fun _ => ⟨_, _, rfl, fun j u hu => ?_⟩⟩ ?_
  · rw [List.length_map, zeros512_len]; rfl
  · rw [Nat.zero_add, (Blk.new wr 5 (reps 512 (.int .u8 0)).toArray).cell]
    rw [zeros512_cells] at hu
    exact hu
  · intro b o h'
    injection h' with h'
    injection h' with h'
    omega
theorem tRows : ElemT Tryz.prog 31 28 (.slice none 0 0) 1 24 := ⟨Tryz.underlying31, by kernel_rfl, rfl, by decide, by decide⟩
def RetRows (w : World) (R : List (List UInt8)) (e : Ending) (w' : World) : Prop := ∃ A n c L, e = .returned (.slice A n c) ∧ Bss w' A n c L ∧ L.map BRow.l = R ∧ Below w.heap.size w w'

end Go.Proofs.YtcfbbgbjlgonpaaGreatDoor
