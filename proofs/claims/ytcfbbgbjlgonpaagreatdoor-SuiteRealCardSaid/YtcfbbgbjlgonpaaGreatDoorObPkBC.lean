/- Own texts of this claim, one behind the other. No condition. -/
import Derived.Test.YtcfbbgbjlgonpaaGreatDoorObPkAY
import Derived.Test.YtcfbbgbjlgonpaaGreatDoorObPkBB
import Derived.Outline

/- The program's table of terms: Size, Label. No condition. -/
namespace Go.Proofs.YtcfbbgbjlgonpaaGreatDoor
open Go.RowKit
set_option linter.unusedVariables false
/-- The sizes, to be read. -/
def SRd (w : World) (g : Nat) (T : List Nd) : Prop := ∃ A c, w.cell? ⟨g, 1, none⟩ = some (.slice A T.length c) ∧ Sl w A T.length c 1 ((sizesL T).map i64n)
theorem SRd.mono {w w' : World} {g : Nat} {T : List Nd} (h : SRd w g T) (hb : Gr w w') : SRd w' g T := by
  obtain ⟨A, c, h, hs⟩ := h
  exact ⟨A, c, (Below.cell hb (World.block_lt_of_cell? w _ h)).trans h, hs.mono hb⟩
theorem TbF.srd {w0 w : World} {g : Nat} {T : List Nd} {vl vs : Value} {bm : Nat} (h : TbF w0 w g T vl vs bm) : SRd w g T := by
  obtain ⟨A, c, e, hs⟩ := h.x.s.slice
  rw [List.length_map] at e hs
  have hb := h.x.blk.cell 1
  exact ⟨A, c, by rw [hb, e]; rfl, hs⟩
def sizeT (T : List Nd) (id : Int) : Nat := if outside T.length id then 0 else (sizesL T).getD (id.toNat - 1) 0
theorem assert_one {P : Program} {X : TypeId} {fs : Array Field} (hu : P.underlying X = some (.struct fs)) (xT : TypeId) (v : Value) (w : World) : (Instr.typeAssert (.iface X v) xT X false).run P w = .ok v w := by
  simp [Instr.typeAssert, run_underlying hu]
def labelT (T : List Nd) (id : Int) : ByteArray := if outside T.length id then ⟨#[]⟩ else match T[id.toNat - 1]? with
  | some x => if x.k = 2 ∨ x.k = 3 then x.s else ⟨#[]⟩
  | none => ⟨#[]⟩
set_option maxRecDepth 100000 in
set_option maxHeartbeats 1000000 in
theorem label_any (g : Nat) (T : List Nd) (id : Int) (w : World) (h : TRd w g T) (hk : Kinds T) (hid : -9223372036854775808 ≤ id ∧ id ≤ 9223372036854775807) :
    Calls Tryz.prog 85 #[.pointer (some ⟨g, 0, none⟩), .int .i64 id] w fun e w' => e = .returned (.string (labelT T id)) ∧ Gr w w' := by
  have HKC := Lib.hid (kind_any g T id w h hk hid)
  unfold labelT
  unfold kindOf at HKC
  cases ho : outside T.length id with
  | true =>
    rw [ho] at HKC
    clear ho h hk
    simp only [if_true] at HKC
    go_enter Tryz.func85, Tryz.ntmps85
    go_wp2_with fail
    refine HKC.out.mono ?_
    rintro e w1 ⟨rfl, g1⟩
    have G1 := Lib.hid g1; clear g1
    go_wp2_with fail
    go_ret
    exact ⟨rfl, G1.out⟩
  | false =>
    rw [ho] at HKC
    have hin : 1 ≤ id ∧ id ≤ T.length := by unfold outside at ho; simp at ho; omega
    obtain ⟨i, hi⟩ : ∃ i : Nat, id = (i : Int) + 1 := ⟨(id - 1).toNat, by omega⟩
    subst hi
    have hit : i < T.length := by omega
    obtain ⟨x, hx⟩ : ∃ x, T[i]? = some x := ⟨T[i], List.getElem?_eq_getElem hit⟩
    have e2 : ((i : Int) + 1).toNat - 1 = i := by omega
    rw [e2, hx] at HKC ⊢
    obtain ⟨A, c, hc, hs⟩ := h
    obtain ⟨b, o, rfl, hcc⟩ := Sl.addr hs (by omega)
    have hcell : w.cell? ⟨b, o + i, none⟩ = some x.cell := hcc i _ (by rw [List.getElem?_map, hx]; rfl)
    have hkx := hk x (List.mem_of_getElem? hx)
    have HF : Hid (∀ wq, Gr w wq → wq.cell? ⟨g, 0, none⟩ = some (.slice (some ⟨b, o, none⟩) T.length c) ∧ wq.cell? ⟨b, o + i, none⟩ = some x.cell) := fun wq hq => ⟨(Below.cell hq (World.block_lt_of_cell? w _ hc)).trans hc, (Below.cell hq (World.block_lt_of_cell? w _ hcell)).trans hcell⟩
    have hmx := hs.max
    have hcp := hs.cap
    clear hs hcc hc hcell hx e2 ho hk
    unfold Nd.cell at HF
    obtain ⟨xk, xa, xb, xs, xn⟩ := x
    simp only [Bool.false_eq_true, if_false] at HF hkx HKC ⊢
    have a2 := fun v w => assert_one (P := Tryz.prog) Tryz.underlying75 20 v w
    have a3 := fun v w => assert_one (P := Tryz.prog) Tryz.underlying78 20 v w
    have q2 : ∀ w, (Instr.field 75 (.agg #[.string xs]) 0).run Tryz.prog w = .ok (.string xs) w := fun w => by kernel_rfl
    have q3 : ∀ w, (Instr.field 78 (.agg #[.int .i64 (xa : Int), .string xs]) 1).run Tryz.prog w = .ok (.string xs) w := fun w => by kernel_rfl
    have hkk : xk = 1 ∨ xk = 2 ∨ xk = 3 ∨ xk = 4 ∨ xk = 5 := by omega
    rcases hkk with rfl | rfl | rfl | rfl | rfl
    all_goals
      simp only [reduceIte, Nat.reduceEqDiff, or_false, or_self] at HF ⊢
      clear hkx hin hid
      go_enter Tryz.func85, Tryz.ntmps85
      go_wp2_with fail
      refine HKC.out.mono ?_
      rintro e w1 ⟨rfl, g1⟩
      obtain ⟨f0, f1⟩ := HF.out w1 g1
      have G1 := Lib.hid g1; clear g1
      go_wp2_with fail
      go_ret
      exact ⟨rfl, G1.out⟩
end Go.Proofs.YtcfbbgbjlgonpaaGreatDoor

/- Sealed terms, in plain Lean. No condition. -/
namespace Go.Proofs.YtcfbbgbjlgonpaaGreatDoor
open Go.RowKit
set_option linter.unusedVariables false
set_option linter.unusedSimpArgs false
/-- A term's bytes. -/
def heldT (T : List Nd) (id : Nat) : List UInt8 := if kindOf T id = 2 then (labelT T id).data.toList else handleL id
def sealT (T : List Nd) (key text : List UInt8) : List Nd × Nat := pairT (ofT (ofT T key).1 text).1 5 ((ofT T key).2 : Int) ((ofT (ofT T key).1 text).2 : Int)
def sealB (T : List Nd) (key text : List UInt8) : List UInt8 := padL (handleL (sealT T key text).2) (text.length + 48)
/-- What is opened of bytes with a key. -/
def openT (T : List Nd) (key b : List UInt8) : Option (List UInt8) :=
  if b.length < 48 ∨ 60048 < b.length then none
  else if kindOf T (termB T (b.take 32)) ≠ 5 ∨ b ≠ padL (handleL (termB T (b.take 32))) b.length then none
  else match partsOf T (termB T (b.take 32)) with
    | [p, q] => if heldT T p = key ∧ (heldT T q).length + 48 = b.length then some (heldT T q) else none
    | _ => none
/-- More terms behind a table's. -/
def Onto (T T' : List Nd) : Prop := ∃ U, T' = T ++ U
theorem Onto.refl (T : List Nd) : Onto T T := ⟨[], (List.append_nil T).symm⟩
theorem Onto.trans {a b c : List Nd} (h : Onto a b) (k : Onto b c) : Onto a c := by
  obtain ⟨u, rfl⟩ := h; obtain ⟨v, rfl⟩ := k; exact ⟨u ++ v, by rw [List.append_assoc]⟩
theorem Onto.len {a b : List Nd} (h : Onto a b) : a.length ≤ b.length := by obtain ⟨u, rfl⟩ := h; rw [List.length_append]; omega
theorem Onto.at {a b : List Nd} (h : Onto a b) {i : Nat} (hi : i < a.length) : b[i]? = a[i]? := by obtain ⟨u, rfl⟩ := h; exact List.getElem?_append_left hi
theorem put_onto (T : List Nd) (x : Nd) (ids : List Int) : Onto T (putT T x ids).1 := by
  unfold putT
  split
  · exact Onto.refl T
  · split
    · exact Onto.refl T
    · exact ⟨[x], rfl⟩
theorem of_onto (T : List Nd) (b : List UInt8) : Onto T (ofT T b).1 := by
  unfold ofT
  split
  · exact Onto.refl T
  · exact put_onto T _ _
theorem pair_onto (T : List Nd) (k : Nat) (a b : Int) : Onto T (pairT T k a b).1 := by
  unfold pairT
  split
  · exact Onto.refl T
  · exact put_onto T _ _
theorem kdf_onto (T : List Nd) (a : Int) (s : ByteArray) : Onto T (kdfT T a s).1 := by
  unfold kdfT
  split
  · exact Onto.refl T
  · exact put_onto T _ _
theorem seal_onto (T : List Nd) (key text : List UInt8) : Onto T (sealT T key text).1 := (of_onto T key).trans ((of_onto _ text).trans (pair_onto _ _ _ _))
theorem atom_onto (T : List Nd) : Onto T (atomT T).1 := ⟨_, rfl⟩
/-- A term that is there. -/
def At (T : List Nd) (id : Nat) (x : Nd) : Prop := 1 ≤ id ∧ id ≤ T.length ∧ T[id - 1]? = some x
theorem At.onto {T T' : List Nd} {id : Nat} {x : Nd} (h : At T id x) (k : Onto T T') : At T' id x := ⟨h.1, Nat.le_trans h.2.1 k.len, by have := h.1; have := h.2.1; rw [k.at (by omega)]; exact h.2.2⟩
theorem At.out {T : List Nd} {id : Nat} {x : Nd} (h : At T id x) : outside T.length (id : Int) = false := by
  have := h.1; have := h.2.1
  unfold outside
  simp only [Bool.or_eq_false_iff, decide_eq_false_iff_not]
  omega
theorem At.kind {T : List Nd} {id : Nat} {x : Nd} (h : At T id x) : kindOf T (id : Int) = x.k := by
  unfold kindOf
  rw [h.out, if_neg (by decide), show (id : Int).toNat - 1 = id - 1 by rw [Int.toNat_natCast], h.2.2]
theorem At.parts {T : List Nd} {id : Nat} {x : Nd} (h : At T id x) : partsOf T (id : Int) = x.parts := by
  unfold partsOf
  rw [h.out, if_neg (by decide), show (id : Int).toNat - 1 = id - 1 by rw [Int.toNat_natCast], h.2.2]
theorem At.label {T : List Nd} {id : Nat} {x : Nd} (h : At T id x) (hk : x.k = 2) : labelT T (id : Int) = x.s := by
  unfold labelT
  rw [h.out, if_neg (by decide), show (id : Int).toNat - 1 = id - 1 by rw [Int.toNat_natCast], h.2.2]
  simp [hk]
theorem At.held {T : List Nd} {id : Nat} {x : Nd} (h : At T id x) : heldT T id = if x.k = 2 then x.s.data.toList else handleL id := by
  unfold heldT
  rw [h.kind]
  split
  · next hk => rw [h.label hk]
  · rfl
theorem At.held_onto {T T' : List Nd} {id : Nat} {x : Nd} (h : At T id x) (k : Onto T T') : heldT T' id = heldT T id := by rw [h.held, (h.onto k).held]
/-- What is put is there, if its parts are. -/
theorem put_at {T : List Nd} {x : Nd} {ids : List Int} (h : ids.any (outside T.length) = false) (hx : x.k ≠ 1) : ∃ y, At (putT T x ids).1 (putT T x ids).2 y ∧ y.same x = true := by
  unfold putT
  rw [h, if_neg (by decide)]
  cases hf : findT T x with
  | none => exact ⟨x, ⟨by show 1 ≤ T.length + 1; omega, by show T.length + 1 ≤ (T ++ [x]).length; rw [List.length_append]; exact Nat.le_refl _, by show (T ++ [x])[T.length + 1 - 1]? = some x; rw [Nat.add_sub_cancel, List.getElem?_append_right (Nat.le_refl _)]; simp⟩, by simp [Nd.same]⟩
  | some j =>
    unfold findT at hf
    rw [List.findIdx?_eq_some_iff_getElem] at hf
    obtain ⟨hj, h1, _⟩ := hf
    refine ⟨T[j], ⟨by show 1 ≤ j + 1; omega, by show j + 1 ≤ T.length; omega, by show T[j + 1 - 1]? = _; rw [Nat.add_sub_cancel]; exact List.getElem?_eq_getElem hj⟩, ?_⟩
    simpa using (Bool.and_eq_true _ _ ▸ h1 : _ ∧ _).2
theorem same_nd {x y : Nd} (h : x.same y = true) : x.k = y.k ∧ x.a = y.a ∧ x.b = y.b ∧ x.s = y.s := by unfold Nd.same at h; exact of_decide_eq_true h
/-- The term of bytes has these bytes. -/
theorem termB_at {T : List Nd} {b : List UInt8} (h : 0 < termB T b) : ∃ x, At T (termB T b) x ∧ x.k ≠ 2 ∧ x.k ≠ 0 ∧ b = handleL (termB T b) := by
  unfold termB at h ⊢
  split at h
  · next h1 =>
    rw [if_pos h1]
    split at h
    · next h2 =>
      rw [if_pos h2]
      have hl : getL ((b.drop 8).take 8) - 1 < T.length := by omega
      have ha : At T (getL ((b.drop 8).take 8)) (T[getL ((b.drop 8).take 8) - 1]) := ⟨h2.1, h2.2.1, List.getElem?_eq_getElem hl⟩
      have hb := h2.2.2.1
      unfold bearsT at hb
      rw [ha.kind] at hb
      simp only [Bool.and_eq_true, decide_eq_true_eq] at hb
      exact ⟨_, ha, hb.2, hb.1, h2.2.2.2⟩
    · omega
  · omega
theorem of_held (T : List Nd) (b : List UInt8) : ∃ x, At (ofT T b).1 (ofT T b).2 x ∧ heldT (ofT T b).1 (ofT T b).2 = b := by
  unfold ofT
  split
  · next h =>
    obtain ⟨x, ha, h2, _, hb⟩ := termB_at h
    refine ⟨x, ha, ?_⟩
    show heldT T (termB T b) = b
    rw [ha.held, if_neg h2]
    exact hb.symm
  · obtain ⟨y, ha, hs⟩ := put_at (T := T) (x := ⟨2, 0, 0, ⟨b.toArray⟩, 0⟩) (ids := []) rfl (show (2 : Nat) ≠ 1 by decide)
    have hq := same_nd hs
    refine ⟨y, ha, ?_⟩
    rw [ha.held, if_pos hq.1, hq.2.2.2]
/-- A handle tells its id. -/
theorem handle_take (id : Nat) : (handleL id).take 8 = magicL ∧ (((handleL id).drop 8).take 8) = be id 8 := by
  rw [handleL_eq]
  constructor
  · rw [List.append_assoc]; exact List.take_left' rfl
  · rw [List.append_assoc, show 8 = magicL.length from rfl, List.drop_left, show magicL.length = 8 from rfl]
    exact List.take_left' (be_len8 id)
theorem handle_get {id : Nat} (h : id < 18446744073709551616) : getL (((handleL id).drop 8).take 8) = id := by
  rw [(handle_take id).2]
  exact getL_be 8 id (by have : (256 : Nat) ^ 8 = 18446744073709551616 := by decide
                         omega)
theorem handle_inj {i j : Nat} (hi : i < 18446744073709551616) (hj : j < 18446744073709551616) (h : handleL i = handleL j) : i = j := by rw [← handle_get hi, h, handle_get hj]
theorem term_handle {T : List Nd} {id : Nat} {x : Nd} (h : At T id x) (hn : T.length ≤ 1000) (h2 : x.k ≠ 2) (h0 : x.k ≠ 0) : termB T (handleL id) = id := by
  have := h.2.1
  have hb : bearsT T (id : Int) = true := by
    unfold bearsT
    rw [h.kind]
    simp [h2, h0]
  unfold termB
  rw [if_pos ⟨handleL_len id, (handle_take id).1⟩, handle_get (by omega), if_pos ⟨h.1, h.2.1, hb, rfl⟩]
theorem put_len (T : List Nd) (x : Nd) (ids : List Int) : (putT T x ids).1.length ≤ T.length + 1 := by
  unfold putT
  split
  · exact Nat.le_succ _
  · split
    · exact Nat.le_succ _
    · show (T ++ [x]).length ≤ _
      rw [List.length_append]
      exact Nat.le_refl _
theorem of_len (T : List Nd) (b : List UInt8) : (ofT T b).1.length ≤ T.length + 1 := by
  unfold ofT
  split
  · exact Nat.le_succ _
  · exact put_len T _ _
theorem pair_len (T : List Nd) (k : Nat) (a b : Int) : (pairT T k a b).1.length ≤ T.length + 1 := by
  unfold pairT
  split
  · exact Nat.le_succ _
  · exact put_len T _ _
theorem seal_len (T : List Nd) (key text : List UInt8) : (sealT T key text).1.length ≤ T.length + 3 := by
  have h1 := of_len T key
  have h2 := of_len (ofT T key).1 text
  have h3 := pair_len (ofT (ofT T key).1 text).1 5 ((ofT T key).2 : Int) ((ofT (ofT T key).1 text).2 : Int)
  unfold sealT
  omega
theorem pad_take (l : List UInt8) (n : Nat) (h : l.length ≤ n) : (padL l n).take l.length = l := by
  unfold padL
  rw [List.take_of_length_le h]
  exact List.take_left' rfl
/-- What was sealed is opened with its key alone. -/
theorem open_seal {T : List Nd} (hn : T.length ≤ 900) (key text other : List UInt8) (ht : text.length ≤ 60000) :
    openT (sealT T key text).1 other (sealB T key text) = if heldT (sealT T key text).1 ((ofT T key).2) = other then some text else none := by
  obtain ⟨xa, ha, hha⟩ := of_held T key
  obtain ⟨xb, hb, hhb⟩ := of_held (ofT T key).1 text
  have hol := (of_onto T key).len
  have oA : Onto (ofT T key).1 (sealT T key text).1 := (of_onto _ text).trans (pair_onto _ _ _ _)
  have oB : Onto (ofT (ofT T key).1 text).1 (sealT T key text).1 := pair_onto _ _ _ _
  have hA2 := ha.onto (of_onto _ text)
  have hany : [((ofT T key).2 : Int), ((ofT (ofT T key).1 text).2 : Int)].any (outside (ofT (ofT T key).1 text).1.length) = false := by
    simp only [List.any_cons, List.any_nil, Bool.or_false, hA2.out, hb.out, Bool.or_self]
  obtain ⟨y, hy, hs⟩ := put_at (T := (ofT (ofT T key).1 text).1) (x := ⟨5, (ofT T key).2, (ofT (ofT T key).1 text).2, ByteArray.empty, 0⟩) hany (show (5 : Nat) ≠ 1 by decide)
  have hE : sealT T key text = putT (ofT (ofT T key).1 text).1 ⟨5, (ofT T key).2, (ofT (ofT T key).1 text).2, ByteArray.empty, 0⟩ [((ofT T key).2 : Int), ((ofT (ofT T key).1 text).2 : Int)] := by
    unfold sealT pairT
    rw [hA2.out, hb.out]
    simp only [Bool.or_self, Bool.false_eq_true, if_false, Int.toNat_natCast]
  rw [← hE] at hy
  have hq := same_nd hs
  simp only at hq
  have hlen : (sealT T key text).1.length ≤ 1000 := by
    have := seal_len T key text
    omega
  have hbl : (sealB T key text).length = text.length + 48 := padL_length _ _
  have htk : (sealB T key text).take 32 = handleL (sealT T key text).2 := by
    have := pad_take (handleL (sealT T key text).2) (text.length + 48) (by rw [handleL_len]; omega)
    rwa [handleL_len] at this
  have hterm := term_handle hy hlen (by rw [hq.1]; decide) (by rw [hq.1]; decide)
  have h1 : heldT (sealT T key text).1 (ofT T key).2 = key := by rw [ha.held_onto oA, hha]
  have h2 : heldT (sealT T key text).1 (ofT (ofT T key).1 text).2 = text := by rw [hb.held_onto oB, hhb]
  unfold openT
  rw [htk, hterm, hy.kind, hy.parts, hq.1, hbl, if_neg (by omega)]
  have hpar : y.parts = [(ofT T key).2, (ofT (ofT T key).1 text).2] := by
    unfold Nd.parts
    rw [hq.1, hq.2.1, hq.2.2.1]
    rfl
  rw [if_neg (by
    rintro (q | q)
    · exact q rfl
    · exact q rfl), hpar]
  simp only [h1, h2, and_true]
theorem open_own {T : List Nd} (hn : T.length ≤ 900) (key text other : List UInt8) (ht : text.length ≤ 60000) :
    openT (sealT T key text).1 other (sealB T key text) = if key = other then some text else none := by
  rw [open_seal hn key text other ht]
  obtain ⟨xa, ha, hha⟩ := of_held T key
  have oA : Onto (ofT T key).1 (sealT T key text).1 := (of_onto _ text).trans (pair_onto _ _ _ _)
  rw [ha.held_onto oA, hha]
end Go.Proofs.YtcfbbgbjlgonpaaGreatDoor

/- The suite of terms: what its map of sums keeps. No condition. -/
namespace Go.Proofs.YtcfbbgbjlgonpaaGreatDoor
open Go.RowKit
set_option linter.unusedVariables false
set_option linter.unusedSimpArgs false
/-- The map of sums stays. -/
def KM (bs bm : Nat) (w w' : World) : Prop := bs ≠ bm → ∀ es clock, w.heap[bs]? = some (.map es clock) → w'.heap[bs]? = some (.map es clock)
theorem KM.gr {bs bm : Nat} {w w' : World} (h : Gr w w') : KM bs bm w w' := fun _ es clock e => (h.block bs (Array.getElem?_eq_some_iff.1 e).1).trans e
theorem KM.trans {bs bm : Nat} {a b c : World} (h : KM bs bm a b) (k : KM bs bm b c) : KM bs bm a c := fun hn es clock e => k hn es clock (h hn es clock e)
theorem KM.tbl {bs bm g : Nat} {w0 w w' : World} {T : List Nd} {vl vs vl' vs' : Value} (h : TbF w0 w g T vl vs bm) (c : TChM w w' g bm vl vs vl' vs') : KM bs bm w w' := fun hn es clock e => by
  refine (c.keep bs (Array.getElem?_eq_some_iff.1 e).1 (fun q => ?_) hn (fun q => ?_) (fun q => ?_)).trans e
  · subst q
    have hk := h.x.blk
    unfold Blk at hk
    rw [hk] at e
    cases e
  · exact h.x.l.not_map e q
  · exact h.x.s.not_map e q
section
variable {w0 w : World} {p g bm bs : Nat} {T : List Nd}
set_option maxRecDepth 100000 in
set_option maxHeartbeats 2000000 in
theorem SymS.of2 (h : SymS w0 w p g bm bs T) (hn : T.length ≤ 1000) (A : Option Addr) (n c : Nat) (b : List UInt8) (hb : Bs w A n c b) :
    Calls Tryz.prog 46 #[.pointer (some ⟨p, 0, none⟩), .slice A n c] w (fun e w' => RetId w0 w p g bm bs (ofT T b) e w' ∧ KM bs bm w w') := by
  have HT := Lib.hid (h.term hn A n c b hb)
  have hl : b.length = n := by have := hb.len; simpa using this
  have hcp := hb.cap; have hmx := hb.max
  have hbl : b.length ≤ maxLen := by simp only [maxLen]; omega
  have HIN := Lib.hid (ofT_in h.i hn b hbl)
  have HS := Lib.hid h; have HB := Lib.hid hb
  unfold ofT
  by_cases h0 : 0 < termB T b
  · rw [if_pos h0]
    have t0 : decide (0 < (termB T b : Int)) = true := decide_eq_true (by omega)
    clear h hb HIN
    generalize termB T b = q at *
    go_enter Tryz.func46, Tryz.ntmps46
    go_wp2_with fail
    refine HT.out.mono ?_
    rintro e w1 ⟨rfl, g1⟩
    have G1 := Lib.hid g1; clear g1
    go_wp2_with fail
    go_ret
    exact ⟨⟨rfl, HS.out.gr G1.out, FS.gr G1.out⟩, KM.gr G1.out⟩
  · have hin := HIN.out
    unfold ofT at hin
    rw [if_neg h0] at hin ⊢
    replace HIN := Lib.hid hin
    have e0 : termB T b = 0 := by omega
    rw [e0] at HT
    clear h hb hin h0 e0
    go_enter Tryz.func46, Tryz.ntmps46
    go_wp2_with fail
    refine HT.out.mono ?_
    rintro e w1 ⟨rfl, g1⟩
    have S1 := Lib.hid (HS.out.gr g1)
    have F1 := Lib.hid (FS.gr g1)
    have K1 := Lib.hid (KM.gr (bs := bs) (bm := bm) g1)
    have c0 : w1.cell? ⟨p, 0, none⟩ = some (.pointer (some ⟨g, 0, none⟩)) := (S1.out.blk.cell 0).trans rfl
    have hcv := run_bytes_string Tryz.underlying28 Tryz.underlying5 Tryz.underlying9 (HB.out.mono (g1.trans (Gr.drew _)))
    clear g1
    go_upto_region 4 with fail
    refine wp_region_pre (by kernel_rfl) (fun w' => w' = w1.drew) (fun i => i == 4 || i == 6) (fun i => Nat.ble 7 i) [0, 1, 2, 3, 5, 4, 6] 2 (by kernel_rfl) (by kernel_rfl) (by kernel_rfl) rfl ?_
    refine wpPre_e rfl rfl ?_
    apply Exists.intro
    refine ⟨fun wq hq => ?_, ?_⟩
    · clear hq
      unfold plainAt
      go_simp
      first | exact rfl | exact ⟨rfl, rfl⟩
    go_simp
    refine wpPre_e rfl rfl ?_
    apply Exists.intro
    refine ⟨fun wq hq => ?_, ?_⟩
    · clear hq
      unfold plainAt
      go_simp
      first | exact rfl | exact ⟨rfl, rfl⟩
    go_simp
    refine wpPre_e rfl rfl ?_
    apply Exists.intro
    refine ⟨fun wq hq => ?_, ?_⟩
    · clear hq
      unfold plainAt
      go_simp
      first | exact rfl | exact ⟨rfl, rfl⟩
    go_simp
    refine wpPre_e rfl rfl ?_
    apply Exists.intro
    refine ⟨fun wq hq => ?_, ?_⟩
    · clear hq
      unfold plainAt
      go_simp
      first | exact rfl | exact ⟨rfl, rfl⟩
    go_simp
    refine wpPre_e rfl rfl ?_
    apply Exists.intro
    refine ⟨fun wq hq => ?_, ?_⟩
    · clear hq
      unfold plainAt
      go_simp
      first | exact rfl | exact ⟨rfl, rfl⟩
    go_simp
    refine wpPre_e rfl rfl ?_
    apply Exists.intro
    refine ⟨fun wq hq => ?_, ?_⟩
    · replace hq := hq rfl
      subst hq
      unfold plainAt
      go_simp
      first | exact rfl | exact ⟨rfl, rfl⟩
    go_simp
    refine wpPre_e rfl rfl ?_
    apply Exists.intro
    refine ⟨fun wq hq => ?_, ?_⟩
    · replace hq := hq rfl
      subst hq
      unfold plainAt
      go_simp
      first | exact rfl | exact ⟨rfl, rfl⟩
    go_simp
    refine wpPre_nil ?_
    clear c0 hcv
    obtain ⟨vl, vs, ht⟩ := (S1.out.gr (Gr.drew _)).t
    have HTX := Lib.hid (text_any w0 g T vl vs bm ⟨b.toArray⟩ w1.drew ht (HS.out.i.ok hn) hbl)
    have HTB := Lib.hid ht
    clear ht
    refine wpRest_one (i := 7) (by kernel_rfl) rfl rfl ?_
    intro K hK
    go_simp
    go_at_call 82
    refine HTX.out.mono ?_
    rintro e w2 ⟨vl', vs', rfl, t2, c2⟩
    have SF := Lib.hid ((S1.out.gr (Gr.drew _)).turn HTB.out t2 c2 HIN.out.1)
    have K2 := Lib.hid (KM.tbl (bs := bs) HTB.out c2)
    refine hK _ _ (fun q => by cases q) ?_
    clear hK t2 c2
    go_simp
    refine wpRest_one (i := 8) (by kernel_rfl) rfl rfl ?_
    intro K hK
    go_simp
    refine hK _ _ (fun h => by cases h) ?_
    clear hK
    go_simp
    refine wpRest_nil (by kernel_rfl) ?_
    go_wp2_with fail
    go_ret
    exact ⟨⟨rfl, SF.out.1, F1.out.trans ((FS.gr (Gr.drew _)).trans SF.out.2)⟩, K1.out.trans ((KM.gr (Gr.drew _)).trans K2.out)⟩
set_option maxRecDepth 100000 in
set_option maxHeartbeats 1000000 in
theorem SymS.draw2 (h : SymS w0 w p g bm bs T) (hn : T.length ≤ 990) :
    Calls Tryz.prog 22 #[.pointer (some ⟨p, 0, none⟩)] w (fun e w' => RetHd w0 w p g bm bs (atomT T) e w' ∧ KM bs bm w w') := by
  have HN := Lib.hid h.isNone; have HR := Lib.hid h.isReal
  have c0 := h.c0
  obtain ⟨vl, vs, ht⟩ := h.t
  have HA := Lib.hid (atom_any w0 g T vl vs bm w ht (by omega))
  have HT := Lib.hid ht; have HS := Lib.hid h
  have hl : (atomT T).2 = T.length + 1 := rfl
  clear h ht
  go_enter Tryz.func22, Tryz.ntmps22
  go_wp2_with fail
  refine HN.out.mono ?_
  rintro e w1 ⟨rfl, h1⟩
  subst h1
  go_wp2_with fail
  refine HR.out.mono ?_
  rintro e w1 ⟨rfl, h1⟩
  subst h1
  go_wp2_with fail
  refine HA.out.mono ?_
  rintro e w2 ⟨vl', vs', rfl, t2, c2⟩
  have SF := Lib.hid (HS.out.turn HT.out t2 c2 (atomT_in HS.out.i (by omega)))
  have K2 := Lib.hid (KM.tbl (bs := bs) HT.out c2)
  clear t2 c2
  go_wp2_with fail
  refine (handle_any (atomT T).2 w2 (by omega)).mono ?_
  rintro e w3 ⟨v3, rfl, o3⟩
  rw [handleL_len] at o3
  have O3 := Lib.hid (o3.base SF.out.1.below)
  have S3 := Lib.hid (SF.out.1.gr o3.below)
  have F3 := Lib.hid (SF.out.2.trans (FS.gr o3.below))
  have K3 := Lib.hid (K2.out.trans (KM.gr o3.below))
  clear o3
  go_wp2_with fail
  go_ret
  exact ⟨⟨v3, rfl, O3.out, S3.out, F3.out⟩, K3.out⟩
end
set_option maxHeartbeats 1000000 in
theorem symbolic2_any (w : World) : Calls Tryz.prog 8 #[] w fun e w' => ∃ p g bm bs, e = .returned (.pointer (some ⟨p, 0, none⟩)) ∧ SymS w w' p g bm bs [] ∧ w.heap.size ≤ p ∧ bs ≠ bm ∧ w'.heap[bs]? = some (.map #[] 0) ∧ w.heap.size ≤ bs := by
  have hmm := @run_makeMap Tryz.prog
  go_enter Tryz.func8, Tryz.ntmps8
  go_wp2_with fail
  refine (termNew_any w).mono ?_
  rintro e w1 ⟨g, bm, rfl, hf0, hg0⟩
  have HF := Lib.hid hf0; have HG := Lib.hid hg0
  clear hf0 hg0
  go_wp2_with fail
  go_ret
  have h1 := Gr.alloc w1 (.map #[] 0)
  have h2 := Gr.alloc (w1.alloc (.map #[] 0)) (.cells #[.pointer (some ⟨g, 0, none⟩), .map (some w1.heap.size), .pointer none] 60)
  refine ⟨w1.heap.size + 1, g, bm, w1.heap.size, rfl, ⟨heap_alloc2_new w1 _ _, ⟨_, _, HF.out.gr (h1.trans h2)⟩, TIn.nil⟩, by have := HG.out.size; omega, by have := HF.out.m.lt; omega, (h2.block w1.heap.size (by simp)).trans (heap_alloc_new w1 _), HG.out.size⟩
end Go.Proofs.YtcfbbgbjlgonpaaGreatDoor
