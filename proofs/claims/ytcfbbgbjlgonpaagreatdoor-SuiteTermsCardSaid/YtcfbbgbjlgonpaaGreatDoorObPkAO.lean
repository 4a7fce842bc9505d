/- Own texts of this claim, one behind the other. No condition. -/
import Derived.Test.YtcfbbgbjlgonpaaGreatDoorObPkAB
import Derived.Test.YtcfbbgbjlgonpaaGreatDoorObPkAC
import Derived.Test.YtcfbbgbjlgonpaaGreatDoorObPkAD
import Derived.Test.YtcfbbgbjlgonpaaGreatDoorObPkAE
import Derived.Test.YtcfbbgbjlgonpaaGreatDoorObPkAF
import Derived.Test.YtcfbbgbjlgonpaaGreatDoorObPkAH
import Derived.Test.YtcfbbgbjlgonpaaGreatDoorObPkAL
import Derived.Test.YtcfbbgbjlgonpaaGreatDoorObPkAN
import Derived.Outline
import Derived.WalkMore
import Derived.ScopeJumps
import Derived.Great.BuildSlice
import Derived.Deep.Cut
import Derived.Deep.MidRow
import Derived.Laws.CopyRow
import Derived.Laws.BitsAllLaws
import Derived.Test.YtcfbbgbjlgonpaaGreatDoorProg
import Derived.WalkLawsBesides
import Derived.Deep.QuietTactic
import Derived.BigQuiet
import Derived.Laws.Rows
import Derived.Laws.Tables
import Derived.Deep.RegionHeld3
import Derived.IntWalk
import Derived.Laws.CopyOwn
import Derived.Lib.LaidTab
import Derived.Deep.RegionLaw
import Derived.RangeFuncNested
import Derived.RangeFuncBound
import Derived.RangeFuncCalls
import Derived.RangeFuncLeaves
import Derived.Shelf.Abstract
import Derived.Shelf.RegionOpen
import Derived.WalkKit
import Derived.OwnWalkIn
import Derived.TacticsInMore
import Derived.LoopNIn
import Derived.LoopIn

/- The program's table of terms: Size, Label. No condition. -/
namespace Go.Proofs.YtcfbbgbjlgonpaaGreatDoor
open Go.RowKit
set_option linter.unusedVariables false
theorem assert_one {P : Program} {X : TypeId} {fs : Array Field} (hu : P.underlying X = some (.struct fs)) (xT : TypeId) (v : Value) (w : World) : (Instr.typeAssert (.iface X v) xT X false).run P w = .ok v w := by
  simp [Instr.typeAssert, run_underlying hu]
def labelT (T : List Nd) (id : Int) : ByteArray := if outside T.length id then ⟨#[]⟩ else match T[id.toNat - 1]? with
  | some x => if x.k = 2 ∨ x.k = 3 then x.s else ⟨#[]⟩
  | none => ⟨#[]⟩
set_option maxRecDepth 100000 in
set_option maxHeartbeats 1000000 in
theorem label_any (g : Nat) (T : List Nd) (id : Int) (w : World) (h : TRd w g T) (hk : Kinds T) (hid : -9223372036854775808 ≤ id ∧ id ≤ 9223372036854775807) :
    Calls Tryz.prog 85 #[.pointer (some ⟨g, 0, none⟩), .int .i64 id] w fun e w' => e = .returned (.string (labelT T id)) ∧ Gr w w' := by
  have HKC := Lib.hid (kind_any g T id w h hk hid)
  unfold labelT
  unfold kindOf at HKC
  cases ho : outside T.length id with
  | true =>
    rw [ho] at HKC
    clear ho h hk
    simp only [if_true] at HKC
    go_enter Tryz.func85, Tryz.ntmps85
    go_wp2_with fail
    refine HKC.out.mono ?_
    rintro e w1 ⟨rfl, g1⟩
    have G1 := Lib.hid g1; clear g1
    go_wp2_with fail
    go_ret
    exact ⟨rfl, G1.out⟩
  | false =>
    rw [ho] at HKC
    have hin : 1 ≤ id ∧ id ≤ T.length := by unfold outside at ho; simp at ho; omega
    obtain ⟨i, hi⟩ : ∃ i : Nat, id = (i : Int) + 1 := ⟨(id - 1).toNat, by omega⟩
    subst hi
    have hit : i < T.length := by omega
    obtain ⟨x, hx⟩ : ∃ x, T[i]? = some x := ⟨T[i], List.getElem?_eq_getElem hit⟩
    have e2 : ((i : Int) + 1).toNat - 1 = i := by omega
    rw [e2, hx] at HKC ⊢
    obtain ⟨A, c, hc, hs⟩ := h
    obtain ⟨b, o, rfl, hcc⟩ := Sl.addr hs (by omega)
    have hcell : w.cell? ⟨b, o + i, none⟩ = some x.cell := hcc i _ (by rw [List.getElem?_map, hx]; rfl)
    have hkx := hk x (List.mem_of_getElem? hx)
    have HF : Hid (∀ wq, Gr w wq → wq.cell? ⟨g, 0, none⟩ = some (.slice (some ⟨b, o, none⟩) T.length c) ∧ wq.cell? ⟨b, o + i, none⟩ = some x.cell) := fun wq hq => ⟨(Below.cell hq (World.block_lt_of_cell? w _ hc)).trans hc, (Below.cell hq (World.block_lt_of_cell? w _ hcell)).trans hcell⟩
    have hmx := hs.max
    have hcp := hs.cap
    clear hs hcc hc hcell hx e2 ho hk
    unfold Nd.cell at HF
    obtain ⟨xk, xa, xb, xs, xn⟩ := x
    simp only [Bool.false_eq_true, if_false] at HF hkx HKC ⊢
    have a2 := fun v w => assert_one (P := Tryz.prog) Tryz.underlying75 20 v w
    have a3 := fun v w => assert_one (P := Tryz.prog) Tryz.underlying78 20 v w
    have q2 : ∀ w, (Instr.field 75 (.agg #[.string xs]) 0).run Tryz.prog w = .ok (.string xs) w := fun w => by kernel_rfl
    have q3 : ∀ w, (Instr.field 78 (.agg #[.int .i64 (xa : Int), .string xs]) 1).run Tryz.prog w = .ok (.string xs) w := fun w => by kernel_rfl
    have hkk : xk = 1 ∨ xk = 2 ∨ xk = 3 ∨ xk = 4 ∨ xk = 5 := by omega
    rcases hkk with rfl | rfl | rfl | rfl | rfl
    all_goals
      simp only [reduceIte, Nat.reduceEqDiff, or_false, or_self] at HF ⊢
      clear hkx hin hid
      go_enter Tryz.func85, Tryz.ntmps85
      go_wp2_with fail
      refine HKC.out.mono ?_
      rintro e w1 ⟨rfl, g1⟩
      obtain ⟨f0, f1⟩ := HF.out w1 g1
      have G1 := Lib.hid g1; clear g1
      go_wp2_with fail
      go_ret
      exact ⟨rfl, G1.out⟩
end Go.Proofs.YtcfbbgbjlgonpaaGreatDoor

/- Sealed terms, in plain Lean. No condition. -/
namespace Go.Proofs.YtcfbbgbjlgonpaaGreatDoor
open Go.RowKit
set_option linter.unusedVariables false
set_option linter.unusedSimpArgs false
/-- A term's bytes. -/
def heldT (T : List Nd) (id : Nat) : List UInt8 := if kindOf T id = 2 then (labelT T id).data.toList else handleL id
def sealT (T : List Nd) (key text : List UInt8) : List Nd × Nat := pairT (ofT (ofT T key).1 text).1 5 ((ofT T key).2 : Int) ((ofT (ofT T key).1 text).2 : Int)
def sealB (T : List Nd) (key text : List UInt8) : List UInt8 := padL (handleL (sealT T key text).2) (text.length + 48)
/-- What is opened of bytes with a key. -/
def openT (T : List Nd) (key b : List UInt8) : Option (List UInt8) :=
  if b.length < 48 ∨ 60048 < b.length then none
  else if kindOf T (termB T (b.take 32)) ≠ 5 ∨ b ≠ padL (handleL (termB T (b.take 32))) b.length then none
  else match partsOf T (termB T (b.take 32)) with
    | [p, q] => if heldT T p = key ∧ (heldT T q).length + 48 = b.length then some (heldT T q) else none
    | _ => none
/-- More terms behind a table's. -/
def Onto (T T' : List Nd) : Prop := ∃ U, T' = T ++ U
theorem Onto.refl (T : List Nd) : Onto T T := ⟨[], (List.append_nil T).symm⟩
theorem Onto.trans {a b c : List Nd} (h : Onto a b) (k : Onto b c) : Onto a c := by
  obtain ⟨u, rfl⟩ := h; obtain ⟨v, rfl⟩ := k; exact ⟨u ++ v, by rw [List.append_assoc]⟩
theorem Onto.len {a b : List Nd} (h : Onto a b) : a.length ≤ b.length := by obtain ⟨u, rfl⟩ := h; rw [List.length_append]; omega
theorem Onto.at {a b : List Nd} (h : Onto a b) {i : Nat} (hi : i < a.length) : b[i]? = a[i]? := by obtain ⟨u, rfl⟩ := h; exact List.getElem?_append_left hi
theorem put_onto (T : List Nd) (x : Nd) (ids : List Int) : Onto T (putT T x ids).1 := by
  unfold putT
  split
  · exact Onto.refl T
  · split
    · exact Onto.refl T
    · exact ⟨[x], rfl⟩
theorem of_onto (T : List Nd) (b : List UInt8) : Onto T (ofT T b).1 := by
  unfold ofT
  split
  · exact Onto.refl T
  · exact put_onto T _ _
theorem pair_onto (T : List Nd) (k : Nat) (a b : Int) : Onto T (pairT T k a b).1 := by
  unfold pairT
  split
  · exact Onto.refl T
  · exact put_onto T _ _
/-- A term that is there. -/
def At (T : List Nd) (id : Nat) (x : Nd) : Prop := 1 ≤ id ∧ id ≤ T.length ∧ T[id - 1]? = some x
theorem At.onto {T T' : List Nd} {id : Nat} {x : Nd} (h : At T id x) (k : Onto T T') : At T' id x := ⟨h.1, Nat.le_trans h.2.1 k.len, by have := h.1; have := h.2.1; rw [k.at (by omega)]; exact h.2.2⟩
theorem At.out {T : List Nd} {id : Nat} {x : Nd} (h : At T id x) : outside T.length (id : Int) = false := by
  have := h.1; have := h.2.1
  unfold outside
  simp only [Bool.or_eq_false_iff, decide_eq_false_iff_not]
  omega
theorem At.kind {T : List Nd} {id : Nat} {x : Nd} (h : At T id x) : kindOf T (id : Int) = x.k := by
  unfold kindOf
  rw [h.out, if_neg (by decide), show (id : Int).toNat - 1 = id - 1 by rw [Int.toNat_natCast], h.2.2]
theorem At.parts {T : List Nd} {id : Nat} {x : Nd} (h : At T id x) : partsOf T (id : Int) = x.parts := by
  unfold partsOf
  rw [h.out, if_neg (by decide), show (id : Int).toNat - 1 = id - 1 by rw [Int.toNat_natCast], h.2.2]
theorem At.label {T : List Nd} {id : Nat} {x : Nd} (h : At T id x) (hk : x.k = 2) : labelT T (id : Int) = x.s := by
  unfold labelT
  rw [h.out, if_neg (by decide), show (id : Int).toNat - 1 = id - 1 by rw [Int.toNat_natCast], h.2.2]
  simp [hk]
theorem At.held {T : List Nd} {id : Nat} {x : Nd} (h : At T id x) : heldT T id = if x.k = 2 then x.s.data.toList else handleL id := by
  unfold heldT
  rw [h.kind]
  split
  · next hk => rw [h.label hk]
  · rfl
theorem At.held_onto {T T' : List Nd} {id : Nat} {x : Nd} (h : At T id x) (k : Onto T T') : heldT T' id = heldT T id := by rw [h.held, (h.onto k).held]
/-- What is put is there, if its parts are. -/
theorem put_at {T : List Nd} {x : Nd} {ids : List Int} (h : ids.any (outside T.length) = false) (hx : x.k ≠ 1) : ∃ y, At (putT T x ids).1 (putT T x ids).2 y ∧ y.same x = true := by
  unfold putT
  rw [h, if_neg (by decide)]
  cases hf : findT T x with
  | none => exact ⟨x, ⟨by show 1 ≤ T.length + 1; omega, by show T.length + 1 ≤ (T ++ [x]).length; rw [List.length_append]; exact Nat.le_refl _, by show (T ++ [x])[T.length + 1 - 1]? = some x; rw [Nat.add_sub_cancel, List.getElem?_append_right (Nat.le_refl _)]; simp⟩, by simp [Nd.same]⟩
  | some j =>
    unfold findT at hf
    rw [List.findIdx?_eq_some_iff_getElem] at hf
    obtain ⟨hj, h1, _⟩ := hf
    refine ⟨T[j], ⟨by show 1 ≤ j + 1; omega, by show j + 1 ≤ T.length; omega, by show T[j + 1 - 1]? = _; rw [Nat.add_sub_cancel]; exact List.getElem?_eq_getElem hj⟩, ?_⟩
    simpa using (Bool.and_eq_true _ _ ▸ h1 : _ ∧ _).2
theorem same_nd {x y : Nd} (h : x.same y = true) : x.k = y.k ∧ x.a = y.a ∧ x.b = y.b ∧ x.s = y.s := by unfold Nd.same at h; exact of_decide_eq_true h
/-- The term of bytes has these bytes. -/
theorem termB_at {T : List Nd} {b : List UInt8} (h : 0 < termB T b) : ∃ x, At T (termB T b) x ∧ x.k ≠ 2 ∧ x.k ≠ 0 ∧ b = handleL (termB T b) := by
  unfold termB at h ⊢
  split at h
  · next h1 =>
    rw [if_pos h1]
    split at h
    · next h2 =>
      rw [if_pos h2]
      have hl : getL ((b.drop 8).take 8) - 1 < T.length := by omega
      have ha : At T (getL ((b.drop 8).take 8)) (T[getL ((b.drop 8).take 8) - 1]) := ⟨h2.1, h2.2.1, List.getElem?_eq_getElem hl⟩
      have hb := h2.2.2.1
      unfold bearsT at hb
      rw [ha.kind] at hb
      simp only [Bool.and_eq_true, decide_eq_true_eq] at hb
      exact ⟨_, ha, hb.2, hb.1, h2.2.2.2⟩
    · omega
  · omega
theorem of_held (T : List Nd) (b : List UInt8) : ∃ x, At (ofT T b).1 (ofT T b).2 x ∧ heldT (ofT T b).1 (ofT T b).2 = b := by
  unfold ofT
  split
  · next h =>
    obtain ⟨x, ha, h2, _, hb⟩ := termB_at h
    refine ⟨x, ha, ?_⟩
    show heldT T (termB T b) = b
    rw [ha.held, if_neg h2]
    exact hb.symm
  · obtain ⟨y, ha, hs⟩ := put_at (T := T) (x := ⟨2, 0, 0, ⟨b.toArray⟩, 0⟩) (ids := []) rfl (show (2 : Nat) ≠ 1 by decide)
    have hq := same_nd hs
    refine ⟨y, ha, ?_⟩
    rw [ha.held, if_pos hq.1, hq.2.2.2]
/-- A handle tells its id. -/
theorem handle_take (id : Nat) : (handleL id).take 8 = magicL ∧ (((handleL id).drop 8).take 8) = be id 8 := by
  rw [handleL_eq]
  constructor
  · rw [List.append_assoc]; exact List.take_left' rfl
  · rw [List.append_assoc, show 8 = magicL.length from rfl, List.drop_left, show magicL.length = 8 from rfl]
    exact List.take_left' (be_len8 id)
theorem handle_get {id : Nat} (h : id < 18446744073709551616) : getL (((handleL id).drop 8).take 8) = id := by
  rw [(handle_take id).2]
  exact getL_be 8 id (by have : (256 : Nat) ^ 8 = 18446744073709551616 := by decide
                         omega)
theorem term_handle {T : List Nd} {id : Nat} {x : Nd} (h : At T id x) (hn : T.length ≤ 1000) (h2 : x.k ≠ 2) (h0 : x.k ≠ 0) : termB T (handleL id) = id := by
  have := h.2.1
  have hb : bearsT T (id : Int) = true := by
    unfold bearsT
    rw [h.kind]
    simp [h2, h0]
  unfold termB
  rw [if_pos ⟨handleL_len id, (handle_take id).1⟩, handle_get (by omega), if_pos ⟨h.1, h.2.1, hb, rfl⟩]
theorem put_len (T : List Nd) (x : Nd) (ids : List Int) : (putT T x ids).1.length ≤ T.length + 1 := by
  unfold putT
  split
  · exact Nat.le_succ _
  · split
    · exact Nat.le_succ _
    · show (T ++ [x]).length ≤ _
      rw [List.length_append]
      exact Nat.le_refl _
theorem of_len (T : List Nd) (b : List UInt8) : (ofT T b).1.length ≤ T.length + 1 := by
  unfold ofT
  split
  · exact Nat.le_succ _
  · exact put_len T _ _
theorem pair_len (T : List Nd) (k : Nat) (a b : Int) : (pairT T k a b).1.length ≤ T.length + 1 := by
  unfold pairT
  split
  · exact Nat.le_succ _
  · exact put_len T _ _
theorem seal_len (T : List Nd) (key text : List UInt8) : (sealT T key text).1.length ≤ T.length + 3 := by
  have h1 := of_len T key
  have h2 := of_len (ofT T key).1 text
  have h3 := pair_len (ofT (ofT T key).1 text).1 5 ((ofT T key).2 : Int) ((ofT (ofT T key).1 text).2 : Int)
  unfold sealT
  omega
theorem pad_take (l : List UInt8) (n : Nat) (h : l.length ≤ n) : (padL l n).take l.length = l := by
  unfold padL
  rw [List.take_of_length_le h]
  exact List.take_left' rfl
end Go.Proofs.YtcfbbgbjlgonpaaGreatDoor

/- The field of 256 numbers: Twice, Mul, Power of 2, Box, Column. No condition. -/
namespace Go.Proofs.YtcfbbgbjlgonpaaGreatDoor
open Go.RowKit
set_option linter.unusedVariables false
set_option linter.unusedSimpArgs false
/-- A byte's number. -/
def ub (x : UInt8) : Int := (x.toNat : Int)
/-! ### Mul -/
/-! ### Box -/
end Go.Proofs.YtcfbbgbjlgonpaaGreatDoor



/- The field of 256 numbers: Column; arrays of bytes in memory. No condition. -/
namespace Go.Proofs.YtcfbbgbjlgonpaaGreatDoor
open Go.RowKit
set_option linter.unusedVariables false
set_option linter.unusedSimpArgs false
/-- A byte of a row. -/
def gB (l : List UInt8) (i : Nat) : UInt8 := l.getD i 0
/-- An array of bytes at block g. -/
abbrev By (w : World) (g : Nat) (t : TypeId) (l : List UInt8) : Prop := Blk w g t (l.map u8c)
theorem By.at {w : World} {g : Nat} {t : TypeId} {l : List UInt8} (h : By w g t l) {i : Nat} (hi : i < l.length) : w.cell? ⟨g, i, none⟩ = some (.int .u8 (ub (gB l i))) := by
  unfold gB
  rw [Blk.cell h, List.getElem?_map, List.getElem?_eq_getElem hi, List.getD_eq_getElem?_getD, List.getElem?_eq_getElem hi]
  rfl
theorem By.put {w : World} {g : Nat} {t : TypeId} {l : List UInt8} (h : By w g t l) (i : Nat) (x : UInt8) : By (w.setCell ⟨g, i, none⟩ (.int .u8 (ub x))) g t (l.set i x) := by
  have := Blk.set h i (.int .u8 (ub x))
  unfold By
  rw [List.map_set]
  exact this
theorem By.new (w : World) (t : TypeId) (l : List UInt8) : By (w.alloc (.cells (l.map u8c).toArray t)) w.heap.size t l := by
  have := Blk.new w t (l.map u8c).toArray
  unfold By
  rwa [List.toList_toArray] at this
theorem By.row {w : World} {g : Nat} {t : TypeId} {l m : List UInt8} (h : By w g t l) : By (w.setRow g (m.map u8c).toArray) g t m := by
  exact setRow_heap w g _ _ _ _ h
theorem byRow_below {B : Nat} {w0 w : World} {g : Nat} (h : Below B w0 w) (hg : B ≤ g) (cs : Array Value) : Below B w0 (w.setRow g cs) :=
  ⟨h.os, h.tape, h.output, by simpa [World.setRow] using h.size, fun k hk => by
    have hne : g ≠ k := by omega
    rw [← h.block k hk]
    simp [World.setRow, Array.getElem?_modify, hne]⟩
end Go.Proofs.YtcfbbgbjlgonpaaGreatDoor

/- The reference of layer 17, of terms: handles, the term of bytes, a term's bytes. No condition. -/
namespace Go.Proofs.YtcfbbgbjlgonpaaGreatDoor
open Go.RowKit
set_option linter.unusedVariables false
set_option linter.unusedSimpArgs false
theorem mag_sl (w : World) : Bs (w.alloc (.cells #[.int .u8 255, .int .u8 254, .int .u8 116, .int .u8 101, .int .u8 114, .int .u8 109, .int .u8 254, .int .u8 255] 5)) (some ⟨w.heap.size, 0, none⟩) 8 8 magicL := by
  refine ⟨rfl, Nat.le_refl _, by decide, fun _ => ⟨_, _, rfl, fun j u hu => ?_⟩⟩
  rw [Nat.zero_add, (Blk.new w _ _).cell]
  exact hu
theorem refHandle_any (id : Nat) (w : World) (h : id < 9223372036854775808) :
    Calls Tryz.prog 16 #[.int .i64 (id : Int)] w (RetBs w (handleL id)) := by
  obtain ⟨W, hW⟩ : ∃ W, W = w.alloc (.cells #[.int .u8 255, .int .u8 254, .int .u8 116, .int .u8 101, .int .u8 114, .int .u8 109, .int .u8 254, .int .u8 255] 5) := ⟨_, rfl⟩
  have HM := mag_sl w
  have HG : Gr w W := by rw [hW]; exact Gr.alloc _ _
  rw [← hW] at HM
  have HM' := Lib.hid HM; have HG' := Lib.hid HG; have HW := Lib.hid hW
  have HP := Lib.hid (fun W => refPut_yes id 8 W (by omega) (by decide) (by decide))
  have hb8 := be_len8 id
  have hwr : IntKind.u64.wrap (id : Int) = id := IntWalk.u64_in _ (by omega)
  clear HM HG hW
  go_enter Tryz.func16, Tryz.ntmps16
  go_upto_region 2 with fail
  rw [← HW.out]
  go_wp2_with fail
  refine (HP.out W).mono ?_
  rintro e w1 ⟨v1, rfl, o1⟩
  rw [hb8] at o1
  obtain ⟨A1, c1, rfl, s1⟩ := o1.slice
  have G1 := Lib.hid (Gr.trans HG'.out o1.below)
  have HJ := Lib.hid (join_any _ A1 8 8 8 c1 magicL (be id 8) w1 (HM'.out.mono o1.below) s1 (by decide))
  clear o1 s1
  go_wp2_with fail
  refine HJ.out.mono ?_
  rintro e w2 ⟨v2, rfl, o2⟩
  have e2 : (magicL ++ be id 8).length = 16 := by rw [List.length_append, hb8]; rfl
  rw [e2] at o2
  obtain ⟨A2, c2, rfl, s2⟩ := o2.slice
  have G2 := Lib.hid (Gr.trans G1.out o2.below)
  have HPA := Lib.hid (refPad_yes A2 16 c2 (magicL ++ be id 8) 32 w2 s2 (by decide) (by decide))
  clear o2 s2 e2
  go_wp2_with fail
  refine HPA.out.mono ?_
  rintro e w3 ⟨v3, rfl, o3⟩
  have O3 := Lib.hid (o3.base G2.out)
  clear o3
  go_wp2_with fail
  go_ret
  exact ⟨v3, rfl, O3.out⟩
/-! ### the document's suite of terms -/
def ts (A : Option Addr) (n c : Nat) (B : Option Addr) (m e : Nat) : List Value := [.bool false, .slice none 0 0, .int .i64 0, .slice A n c, .slice B m e]
def tv (A : Option Addr) (n c : Nat) (B : Option Addr) (m e : Nat) : Value := .agg (ts A n c B m e).toArray
theorem term_ref {T : List Nd} (hK : Kinds T) (b : List UInt8) (h32 : b.length = 32) : termB T b = if 1 ≤ getL ((b.drop 8).take 8) ∧ getL ((b.drop 8).take 8) ≤ T.length ∧ kindOf T (getL ((b.drop 8).take 8) : Int) ≠ 2 ∧ b = handleL (getL ((b.drop 8).take 8)) then getL ((b.drop 8).take 8) else 0 := by
  unfold termB
  generalize hq : getL ((b.drop 8).take 8) = q
  by_cases hm : b.take 8 = magicL
  · rw [if_pos ⟨h32, hm⟩]
    by_cases hin : 1 ≤ q ∧ q ≤ T.length
    · have hk0 : kindOf T (q : Int) ≠ 0 := by
        unfold kindOf
        have ho : outside T.length (q : Int) = false := by unfold outside; simp; omega
        rw [ho, Int.toNat_natCast]
        have hlt : q - 1 < T.length := by omega
        rw [List.getElem?_eq_getElem hlt]
        have := hK _ (List.getElem_mem hlt)
        show T[q - 1].k ≠ 0
        omega
      have hb : (bearsT T (q : Int) = true) ↔ kindOf T (q : Int) ≠ 2 := by
        unfold bearsT
        rw [Bool.and_eq_true, decide_eq_true_eq, decide_eq_true_eq]
        exact ⟨fun h => h.2, fun h => ⟨hk0, h⟩⟩
      by_cases hc : kindOf T (q : Int) ≠ 2 ∧ b = handleL q
      · rw [if_pos ⟨hin.1, hin.2, hb.2 hc.1, hc.2⟩, if_pos ⟨hin.1, hin.2, hc.1, hc.2⟩]
      · rw [if_neg (fun x => hc ⟨hb.1 x.2.2.1, x.2.2.2⟩), if_neg (fun x => hc ⟨x.2.2.1, x.2.2.2⟩)]
    · rw [if_neg (fun x => hin ⟨x.1, x.2.1⟩), if_neg (fun x => hin ⟨x.1, x.2.1⟩)]
  · rw [if_neg (fun x => hm x.2), if_neg (fun x => hm (by rw [x.2.2.2]; exact (handle_take q).1))]
end Go.Proofs.YtcfbbgbjlgonpaaGreatDoor







/- AES: column, Mix. No condition. -/
namespace Go.Proofs.YtcfbbgbjlgonpaaGreatDoor
open Go.RowKit
set_option linter.unusedVariables false
set_option linter.unusedSimpArgs false
theorem By.range {w : World} {g : Nat} {t : TypeId} {l : List UInt8} (h : By w g t l) (o n : Nat) : w.rangeAt g o (((l.drop o).take n).map u8c) := fun j v hv => by
  rw [Blk.cell h]
  rw [List.getElem?_map, List.getElem?_take] at hv
  rw [List.getElem?_map]
  split at hv
  · rwa [List.getElem?_drop] at hv
  · simp at hv
/-! ### Mix -/
theorem By.src {w : World} {g : Nat} {t : TypeId} {l : List UInt8} (h : By w g t l) : ∀ j v, (l.map u8c)[j]? = some v → w.cell? ((⟨g, 0, none⟩ : Addr).add j) = some v := fun j v hv => by
  rw [Addr.add_mid, Nat.zero_add, Blk.cell h]
  exact hv
end Go.Proofs.YtcfbbgbjlgonpaaGreatDoor





/- The reference of layer 11: Sub, Shift, Add. No condition. -/
namespace Go.Proofs.YtcfbbgbjlgonpaaGreatDoor
open Go.RowKit
set_option linter.unusedVariables false
set_option linter.unusedSimpArgs false
/-- Three blocks of bytes of the call's own, one behind the other. -/
structure S3 (w : World) (t : TypeId) (h : Nat) (A B C : List UInt8) (W : World) : Prop where
  gr : Gr w W
  a : By W h t A
  b : By W (h + 1) t B
  c : By W (h + 2) t C
theorem S3.mono {w W W' : World} {t : TypeId} {h : Nat} {A B C : List UInt8} (x : S3 w t h A B C W) (g : Gr W W') : S3 w t h A B C W' := ⟨x.gr.trans g, g.blk x.a, g.blk x.b, g.blk x.c⟩
/-! ### Add -/
/-! ### Shift -/
end Go.Proofs.YtcfbbgbjlgonpaaGreatDoor

/- The reference of layer 11: Mix. No condition. -/
namespace Go.Proofs.YtcfbbgbjlgonpaaGreatDoor
open Go.RowKit
set_option linter.unusedVariables false
set_option linter.unusedSimpArgs false
theorem S3.far {w W : World} {t : TypeId} {h b : Nat} {A B C : List UInt8} (x : S3 w t h A B C W) (hw : w.heap.size ≤ h) (hb : h + 2 < b) (vs : Array Value) : S3 w t h A B C (W.setRow b vs) :=
  ⟨byRow_below x.gr (by omega) _, (setRow_other W b h _ (by omega)).trans x.a, (setRow_other W b (h + 1) _ (by omega)).trans x.b, (setRow_other W b (h + 2) _ (by omega)).trans x.c⟩
end Go.Proofs.YtcfbbgbjlgonpaaGreatDoor

/- AES: the keys of all rounds. No condition. -/
namespace Go.Proofs.YtcfbbgbjlgonpaaGreatDoor
open Go.RowKit
set_option linter.unusedVariables false
set_option linter.unusedSimpArgs false
/-! ### parts of an array are stored -/
theorem By.there {w : World} {g : Nat} {t : TypeId} {l : List UInt8} (h : By w g t l) (o n : Nat) (hn : o + n ≤ l.length) : w.there g o n := fun j hj => ⟨by rw [h.at (by omega)]; rfl, Blk.free h _⟩
theorem Bs.range {w : World} {b o n c : Nat} {l : List UInt8} (h : Bs w (some ⟨b, o, none⟩) n c l) (d k : Nat) (hk : d + k ≤ n) : w.rangeAt b (o + d) (((l.drop d).take k).map u8c) := fun j v hv => by
  obtain ⟨b', o', e, hc⟩ := Sl.addr h (by
    rw [List.getElem?_map] at hv
    rcases Nat.eq_zero_or_pos n with h0 | h0
    · exfalso
      have hl := h.len
      have : l = [] := List.eq_nil_of_length_eq_zero (by rw [hl, h0])
      rw [this] at hv
      simp at hv
    · exact h0)
  injection e with e
  injection e with e1 e2
  subst e1 e2
  rw [List.getElem?_map, List.getElem?_take] at hv
  split at hv
  · rw [List.getElem?_drop] at hv
    rw [Nat.add_assoc]
    exact hc (d + j) v (by rw [List.getElem?_map]; exact hv)
  · simp at hv
/-! ### the schedule in plain words -/
/-! ### the walk -/
end Go.Proofs.YtcfbbgbjlgonpaaGreatDoor







/- Counters: begun. No condition. -/
namespace Go.Proofs.YtcfbbgbjlgonpaaGreatDoor
open Go.RowKit
set_option linter.unusedVariables false
set_option linter.unusedSimpArgs false
theorem plainRow {P : Program} {o : Oper} {a : Act} {w : World} (ty : TypeId) (x : Operand) (ho : o.op = .load ty x) (b of : Nat) (hx : a.eval x = .pointer (some ⟨b, of, none⟩)) (cs : List Value) (d : TypeDesc) (hc : w.rangeAt b of cs)
    (hu : P.underlying ty = some d) (hd : d.isRow = true) (hi : (P.info? ty).map (·.size) = some cs.length) : plainAt P o a w (.agg cs.toArray) := by
  unfold plainAt execOp
  simp only [ho, hx, Instr.loadAt, Instr.sureAddr, Sem.run_bind, Sem.run_pure, Result.andThen_ok, run_loadVar_mid w b of ty cs d hc hu hd hi]
  simp
theorem By.whole {w : World} {g : Nat} {t : TypeId} {l : List UInt8} (h : By w g t l) : w.rangeAt g 0 (l.map u8c) := fun j v hv => by
  rw [Nat.zero_add, Blk.cell h]; exact hv
end Go.Proofs.YtcfbbgbjlgonpaaGreatDoor



/- Counters: the next block of a stream. No condition. -/
namespace Go.Proofs.YtcfbbgbjlgonpaaGreatDoor
open Go.RowKit
set_option linter.unusedVariables false
set_option linter.unusedSimpArgs false
theorem Tch.rowC {S : Nat → Prop} {w : World} (g : Nat) (cs : Array Value) (hS : S g) : Tch S w (w.setRow g cs) :=
  ⟨byRow_below (Below.refl 0 w) (Nat.zero_le _) cs, fun b _ hn => setRow_other w g b cs (fun e => hn (e ▸ hS))⟩
end Go.Proofs.YtcfbbgbjlgonpaaGreatDoor

/- Counters: a stream. No condition. -/
namespace Go.Proofs.YtcfbbgbjlgonpaaGreatDoor
open Go.RowKit
set_option linter.unusedVariables false
set_option linter.unusedSimpArgs false
theorem By.kept {w w' : World} {g : Nat} {t : TypeId} {l : List UInt8} {v v' : Value} (h : By w g t l) (hk : Kept w w' v v') (hn : v.ownBlock ≠ some g) : By w' g t l := (hk.1 g (Blk.lt h) hn).trans h
theorem By.bs {w : World} {g n : Nat} {t : TypeId} {l : List UInt8} (h : By w g t l) (hl : l.length = n) (hn : n ≤ 9223372036854775807) : Bs w (some ⟨g, 0, none⟩) n n l :=
  ⟨by rw [List.length_map, hl]; omega, Nat.le_refl _, hn, fun _ => ⟨g, 0, rfl, fun j u hu => by rw [Nat.zero_add, Blk.cell h]; exact hu⟩⟩
end Go.Proofs.YtcfbbgbjlgonpaaGreatDoor







/- ObShaL, ObShaW, ObShaX, ObShaM, ObShaB: one text. No condition. -/
/- Words of 32 bits, as the walk spells them. No condition. -/
namespace Go.Proofs.YtcfbbgbjlgonpaaGreatDoor
set_option linter.unusedVariables false
/-- A word's cell. -/
def un (x : UInt32) : Int := (x.toNat : Int)
/-! ### a block's words -/
end Go.Proofs.YtcfbbgbjlgonpaaGreatDoor
namespace Go.Proofs.YtcfbbgbjlgonpaaGreatDoor
open Go.RowKit
set_option linter.unusedVariables false

/-! ### turned words -/
/-! ### of the words -/
end Go.Proofs.YtcfbbgbjlgonpaaGreatDoor
namespace Go.Proofs.YtcfbbgbjlgonpaaGreatDoor
open Go.RowKit
set_option linter.unusedVariables false

end Go.Proofs.YtcfbbgbjlgonpaaGreatDoor
/- The rounds of a block: plain. No condition. -/
namespace Go.Proofs.YtcfbbgbjlgonpaaGreatDoor
set_option linter.unusedVariables false
/-! ### what stood there is added, one word after the other -/
end Go.Proofs.YtcfbbgbjlgonpaaGreatDoor
namespace Go.Proofs.YtcfbbgbjlgonpaaGreatDoor
open Go.RowKit
set_option linter.unusedVariables false

end Go.Proofs.YtcfbbgbjlgonpaaGreatDoor


