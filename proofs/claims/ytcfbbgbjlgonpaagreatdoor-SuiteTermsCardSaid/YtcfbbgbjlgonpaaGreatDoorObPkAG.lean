/- Own texts of this claim, one behind the other. No condition. -/
import Derived.Test.YtcfbbgbjlgonpaaGreatDoorObPkAF
import Derived.Deep.Cut

/- The program's table of terms in memory: how many, kinds, parts. No condition. -/
namespace Go.Proofs.YtcfbbgbjlgonpaaGreatDoor
open Go.RowKit Go.Maps
set_option linter.unusedVariables false

def i64n (n : Nat) : Value := .int .i64 (n : Int)
/-- How a term stands in the table. -/
def Nd.cell (x : Nd) : Value :=
  if x.k = 1 then .iface 72 (.agg #[.int .i64 (x.n : Int)])
  else if x.k = 2 then .iface 75 (.agg #[.string x.s])
  else if x.k = 3 then .iface 78 (.agg #[.int .i64 (x.a : Int), .string x.s])
  else if x.k = 4 then .iface 81 (.agg #[.int .i64 (x.a : Int), .int .i64 (x.b : Int)])
  else .iface 117 (.agg #[.int .i64 (x.a : Int), .int .i64 (x.b : Int)])
def Kinds (T : List Nd) : Prop := ∀ x ∈ T, 1 ≤ x.k ∧ x.k ≤ 5
/-- A table's terms, to be read. -/
def TRd (w : World) (g : Nat) (T : List Nd) : Prop := ∃ A c, w.cell? ⟨g, 0, none⟩ = some (.slice A T.length c) ∧ Sl w A T.length c 1 (T.map Nd.cell)
theorem TRd.mono {w w' : World} {g : Nat} {T : List Nd} (h : TRd w g T) (hb : Gr w w') : TRd w' g T := by
  obtain ⟨A, c, h, hs⟩ := h
  exact ⟨A, c, (Below.cell hb (World.block_lt_of_cell? w _ h)).trans h, hs.mono hb⟩
theorem TRd.len {w : World} {g : Nat} {T : List Nd} (h : TRd w g T) : TLen w g T.length := by
  obtain ⟨A, c, h, _⟩ := h
  exact ⟨A, c, h⟩
def kindOf (T : List Nd) (id : Int) : Nat := if outside T.length id then 0 else match T[id.toNat - 1]? with
  | some x => x.k
  | none => 0
def partsOf (T : List Nd) (id : Int) : List Nat := if outside T.length id then [] else match T[id.toNat - 1]? with
  | some x => x.parts
  | none => []
theorem is_one (w : World) (x : Int) : Is (w.alloc (.cells #[.int .i64 x] 3)) (some ⟨w.heap.size, 0, none⟩) 1 1 [x] := (is_new w [x]).resolve_right (by simp [maxLen])
theorem len_any (g : Nat) (T : List Nd) (w : World) (h : TRd w g T) : Calls Tryz.prog 11 #[.pointer (some ⟨g, 0, none⟩)] w fun e w' => e = .returned (.int .i64 (T.length : Int)) ∧ w = w' := by
  obtain ⟨A, c, h, _⟩ := h
  go_enter Tryz.func11, Tryz.ntmps11
  go_wp2_with fail
  go_ret
  exact ⟨rfl, rfl⟩
set_option maxHeartbeats 1000000 in
theorem kind_any (g : Nat) (T : List Nd) (id : Int) (w : World) (h : TRd w g T) (hk : Kinds T) (hid : -9223372036854775808 ≤ id ∧ id ≤ 9223372036854775807) :
    Calls Tryz.prog 13 #[.pointer (some ⟨g, 0, none⟩), .int .i64 id] w fun e w' => e = .returned (.int .i64 (kindOf T id : Int)) ∧ Gr w w' := by
  have HT := Lib.hid (there_any g T.length (some ⟨w.heap.size, 0, none⟩) 1 1 [id] _ ((h.mono (Gr.alloc w (.cells #[.int .i64 id] 3))).len) (is_one w id))
  have HG := Lib.hid (Gr.alloc w (.cells #[.int .i64 id] 3))
  have e1 : [id].any (outside T.length) = outside T.length id := by simp
  rw [e1] at HT
  clear e1
  unfold kindOf
  cases ho : outside T.length id with
  | true =>
    rw [ho] at HT
    clear ho
    go_enter Tryz.func13, Tryz.ntmps13
    go_wp2_with fail
    refine HT.out.mono ?_
    rintro e w1 ⟨rfl, g1⟩
    have G1 := Lib.hid (HG.out.trans g1); clear g1
    go_wp2_with fail
    go_ret
    exact ⟨rfl, G1.out⟩
  | false =>
    rw [ho] at HT
    have hin : 1 ≤ id ∧ id ≤ T.length := by unfold outside at ho; simp at ho; omega
    obtain ⟨i, hi⟩ : ∃ i : Nat, id = (i : Int) + 1 := ⟨(id - 1).toNat, by omega⟩
    subst hi
    have hit : i < T.length := by omega
    obtain ⟨x, hx⟩ : ∃ x, T[i]? = some x := ⟨T[i], List.getElem?_eq_getElem hit⟩
    have e2 : ((i : Int) + 1).toNat - 1 = i := by omega
    rw [e2, hx]
    obtain ⟨A, c, hc, hs⟩ := h
    obtain ⟨b, o, rfl, hcc⟩ := Sl.addr hs (by omega)
    have hcell : w.cell? ⟨b, o + i, none⟩ = some x.cell := hcc i _ (by rw [List.getElem?_map, hx]; rfl)
    have hkx := hk x (List.mem_of_getElem? hx)
    have HF : Hid (∀ wq, Gr w wq → wq.cell? ⟨g, 0, none⟩ = some (.slice (some ⟨b, o, none⟩) T.length c) ∧ wq.cell? ⟨b, o + i, none⟩ = some x.cell) := fun wq hq => ⟨(Below.cell hq (World.block_lt_of_cell? w _ hc)).trans hc, (Below.cell hq (World.block_lt_of_cell? w _ hcell)).trans hcell⟩
    have hmx := hs.max
    have hcp := hs.cap
    clear hs hcc hc hcell hx e2 ho hk
    unfold Nd.cell at HF
    obtain ⟨xk, xa, xb, xs, xn⟩ := x
    simp only at HF hkx ⊢
    have hkk : xk = 1 ∨ xk = 2 ∨ xk = 3 ∨ xk = 4 ∨ xk = 5 := by omega
    rcases hkk with rfl | rfl | rfl | rfl | rfl
    all_goals
      simp only [reduceIte, Nat.reduceEqDiff] at HF
      clear hkx hin hid
      have ahatom := fun xT v w => assert_hit (P := Tryz.prog) Tryz.underlying72 xT v w
      have amatom := fun xT D hD v w => assert_miss (P := Tryz.prog) Tryz.underlying72 zAtom xT D hD v w
      have ahtext := fun xT v w => assert_hit (P := Tryz.prog) Tryz.underlying75 xT v w
      have amtext := fun xT D hD v w => assert_miss (P := Tryz.prog) Tryz.underlying75 zText xT D hD v w
      have ahkdf := fun xT v w => assert_hit (P := Tryz.prog) Tryz.underlying78 xT v w
      have amkdf := fun xT D hD v w => assert_miss (P := Tryz.prog) Tryz.underlying78 zKdf xT D hD v w
      have ahmix := fun xT v w => assert_hit (P := Tryz.prog) Tryz.underlying81 xT v w
      have ammix := fun xT D hD v w => assert_miss (P := Tryz.prog) Tryz.underlying81 zMix xT D hD v w
      have ahenc := fun xT v w => assert_hit (P := Tryz.prog) Tryz.underlying117 xT v w
      have amenc := fun xT D hD v w => assert_miss (P := Tryz.prog) Tryz.underlying117 zEnc xT D hD v w
      go_enter Tryz.func13, Tryz.ntmps13
      go_wp2_with fail
      refine HT.out.mono ?_
      rintro e w1 ⟨rfl, g1⟩
      obtain ⟨f0, f1⟩ := HF.out w1 (HG.out.trans g1)
      have G1 := Lib.hid (HG.out.trans g1); clear g1
      go_wp2_with fail
      go_ret
      refine ⟨rfl, ?_⟩
      repeat (first | exact G1.out | refine Gr.trans ?_ (Gr.alloc _ _))
/-- Numbers in new memory. -/
def Fresh (w : World) (A : Option Addr) : Prop := ∀ b o, A = some ⟨b, o, none⟩ → w.heap.size ≤ b
theorem Fresh.nil (w : World) : Fresh w none := fun b o e => by cases e
theorem Fresh.mk1 {w w1 : World} (h : Gr w w1) (k : Nat) : Fresh w (some ⟨w1.heap.size + k, 0, none⟩) := fun b o e => by
  injection e with e
  injection e with e1 _
  have := h.size
  omega
/-- Just these numbers' own block. -/
def OwnI (w : World) (A : Option Addr) (l : List Int) : Prop := l = [] ∨ ∃ q, A = some ⟨q, 0, none⟩ ∧ Blk w q 3 (l.map i64c)
theorem OwnI.one (W : World) (o : Obj) (x : Int) : OwnI ((W.alloc o).alloc (.cells #[.int .i64 x] 3)) (some ⟨W.heap.size + 1, 0, none⟩) [x] := by
  have h := Blk.new (W.alloc o) 3 #[.int .i64 x]
  rw [show (W.alloc o).heap.size = W.heap.size + 1 by simp] at h
  exact .inr ⟨_, rfl, h⟩
theorem OwnI.two (W : World) (o : Obj) (x y : Int) : OwnI ((W.alloc o).alloc (.cells #[.int .i64 x, .int .i64 y] 3)) (some ⟨W.heap.size + 1, 0, none⟩) [x, y] := by
  have h := Blk.new (W.alloc o) 3 #[.int .i64 x, .int .i64 y]
  rw [show (W.alloc o).heap.size = W.heap.size + 1 by simp] at h
  exact .inr ⟨_, rfl, h⟩
def RetInts (w : World) (l : List Int) (e : Ending) (w' : World) : Prop := ∃ A c, e = .returned (.slice A l.length c) ∧ Is w' A l.length c l ∧ Gr w w' ∧ Fresh w A ∧ OwnI w' A l
theorem is_two (w : World) (x y : Int) : Is (w.alloc (.cells #[.int .i64 x, .int .i64 y] 3)) (some ⟨w.heap.size, 0, none⟩) 2 2 [x, y] := (is_new w [x, y]).resolve_right (by simp [maxLen])
set_option maxHeartbeats 1000000 in
theorem parts_any (g : Nat) (T : List Nd) (id : Int) (w : World) (h : TRd w g T) (hk : Kinds T) (hid : -9223372036854775808 ≤ id ∧ id ≤ 9223372036854775807) :
    Calls Tryz.prog 51 #[.pointer (some ⟨g, 0, none⟩), .int .i64 id] w fun e w' => RetInts w ((partsOf T id).map Int.ofNat) e w' := by
  have HT := Lib.hid (there_any g T.length (some ⟨w.heap.size, 0, none⟩) 1 1 [id] _ ((h.mono (Gr.alloc w (.cells #[.int .i64 id] 3))).len) (is_one w id))
  have HG := Lib.hid (Gr.alloc w (.cells #[.int .i64 id] 3))
  have e1 : [id].any (outside T.length) = outside T.length id := by simp
  rw [e1] at HT
  clear e1
  unfold partsOf
  cases ho : outside T.length id with
  | true =>
    rw [ho] at HT
    clear ho
    go_enter Tryz.func51, Tryz.ntmps51
    go_wp2_with fail
    refine HT.out.mono ?_
    rintro e w1 ⟨rfl, g1⟩
    have G1 := Lib.hid (HG.out.trans g1); clear g1
    go_wp2_with fail
    go_ret
    exact ⟨none, 0, rfl, Sl.nil _ _, G1.out, Fresh.nil _, .inl rfl⟩
  | false =>
    rw [ho] at HT
    have hin : 1 ≤ id ∧ id ≤ T.length := by unfold outside at ho; simp at ho; omega
    obtain ⟨i, hi⟩ : ∃ i : Nat, id = (i : Int) + 1 := ⟨(id - 1).toNat, by omega⟩
    subst hi
    have hit : i < T.length := by omega
    obtain ⟨x, hx⟩ : ∃ x, T[i]? = some x := ⟨T[i], List.getElem?_eq_getElem hit⟩
    have e2 : ((i : Int) + 1).toNat - 1 = i := by omega
    rw [e2, hx]
    obtain ⟨A, c, hc, hs⟩ := h
    obtain ⟨b, o, rfl, hcc⟩ := Sl.addr hs (by omega)
    have hcell : w.cell? ⟨b, o + i, none⟩ = some x.cell := hcc i _ (by rw [List.getElem?_map, hx]; rfl)
    have hkx := hk x (List.mem_of_getElem? hx)
    have HF : Hid (∀ wq, Gr w wq → wq.cell? ⟨g, 0, none⟩ = some (.slice (some ⟨b, o, none⟩) T.length c) ∧ wq.cell? ⟨b, o + i, none⟩ = some x.cell) := fun wq hq => ⟨(Below.cell hq (World.block_lt_of_cell? w _ hc)).trans hc, (Below.cell hq (World.block_lt_of_cell? w _ hcell)).trans hcell⟩
    have hmx := hs.max
    have hcp := hs.cap
    clear hs hcc hc hcell hx e2 ho hk
    unfold Nd.cell at HF
    obtain ⟨xk, xa, xb, xs, xn⟩ := x
    simp only at HF hkx ⊢
    have N1 : Hid (∀ (W : World) (o : Obj) (x : Int), Is ((W.alloc o).alloc (.cells #[.int .i64 x] 3)) (some ⟨W.heap.size + 1, 0, none⟩) 1 1 [x]) := fun W o x => by have h := is_one (W.alloc o) x; rw [show (W.alloc o).heap.size = W.heap.size + 1 by simp] at h; exact h
    have N2 : Hid (∀ (W : World) (o : Obj) (x y : Int), Is ((W.alloc o).alloc (.cells #[.int .i64 x, .int .i64 y] 3)) (some ⟨W.heap.size + 1, 0, none⟩) 2 2 [x, y]) := fun W o x y => by have h := is_two (W.alloc o) x y; rw [show (W.alloc o).heap.size = W.heap.size + 1 by simp] at h; exact h
    have hkk : xk = 1 ∨ xk = 2 ∨ xk = 3 ∨ xk = 4 ∨ xk = 5 := by omega
    rcases hkk with rfl | rfl | rfl | rfl | rfl
    all_goals
      simp only [reduceIte, Nat.reduceEqDiff] at HF
      clear hkx hin hid
      have ahatom := fun xT v w => assert_hit (P := Tryz.prog) Tryz.underlying72 xT v w
      have amatom := fun xT D hD v w => assert_miss (P := Tryz.prog) Tryz.underlying72 zAtom xT D hD v w
      have ahtext := fun xT v w => assert_hit (P := Tryz.prog) Tryz.underlying75 xT v w
      have amtext := fun xT D hD v w => assert_miss (P := Tryz.prog) Tryz.underlying75 zText xT D hD v w
      have ahkdf := fun xT v w => assert_hit (P := Tryz.prog) Tryz.underlying78 xT v w
      have amkdf := fun xT D hD v w => assert_miss (P := Tryz.prog) Tryz.underlying78 zKdf xT D hD v w
      have ahmix := fun xT v w => assert_hit (P := Tryz.prog) Tryz.underlying81 xT v w
      have ammix := fun xT D hD v w => assert_miss (P := Tryz.prog) Tryz.underlying81 zMix xT D hD v w
      have ahenc := fun xT v w => assert_hit (P := Tryz.prog) Tryz.underlying117 xT v w
      have amenc := fun xT D hD v w => assert_miss (P := Tryz.prog) Tryz.underlying117 zEnc xT D hD v w
      go_enter Tryz.func51, Tryz.ntmps51
      go_wp2_with fail
      refine HT.out.mono ?_
      rintro e w1 ⟨rfl, g1⟩
      obtain ⟨f0, f1⟩ := HF.out w1 (HG.out.trans g1)
      have G1 := Lib.hid (HG.out.trans g1); clear g1
      go_wp2_with fail
      go_ret
      first
        | exact ⟨none, 0, rfl, Sl.nil _ _, G1.out, Fresh.nil _, .inl rfl⟩
        | exact ⟨_, _, rfl, N1.out _ _ _, (G1.out.trans (Gr.alloc _ _)).trans (Gr.alloc _ _), Fresh.mk1 G1.out 1, OwnI.one _ _ _⟩
        | exact ⟨_, _, rfl, N2.out _ _ _ _, (G1.out.trans (Gr.alloc _ _)).trans (Gr.alloc _ _), Fresh.mk1 G1.out 1, OwnI.two _ _ _ _⟩
end Go.Proofs.YtcfbbgbjlgonpaaGreatDoor
