/- The program's table of terms: Size, Label. No condition. -/
import Derived.Test.YthlnoaalhojphaaDoorObTermP
import Derived.Outline
namespace Go.Proofs.YthlnoaalhojphaaDoor
open Go.RowKit
set_option linter.unusedVariables false
/-- The sizes, to be read. -/
def SRd (w : World) (g : Nat) (T : List Nd) : Prop := ∃ A c, w.cell? ⟨g, 1, none⟩ = some (.slice A T.length c) ∧ Sl w A T.length c 1 ((sizesL T).map i64n)
theorem SRd.mono {w w' : World} {g : Nat} {T : List Nd} (h : SRd w g T) (hb : Gr w w') : SRd w' g T := by
  obtain ⟨A, c, h, hs⟩ := h
  exact ⟨A, c, (Below.cell hb (World.block_lt_of_cell? w _ h)).trans h, hs.mono hb⟩
theorem TbF.srd {w0 w : World} {g : Nat} {T : List Nd} {vl vs : Value} {bm : Nat} (h : TbF w0 w g T vl vs bm) : SRd w g T := by
  obtain ⟨A, c, e, hs⟩ := h.x.s.slice
  rw [List.length_map] at e hs
  have hb := h.x.blk.cell 1
  exact ⟨A, c, by rw [hb, e]; rfl, hs⟩
def sizeT (T : List Nd) (id : Int) : Nat := if outside T.length id then 0 else (sizesL T).getD (id.toNat - 1) 0
set_option maxHeartbeats 1000000 in
theorem termSize_any (g : Nat) (T : List Nd) (id : Int) (w : World) (h : TRd w g T) (hs : SRd w g T) (hid : -9223372036854775808 ≤ id ∧ id ≤ 9223372036854775807) :
    Calls Tryd.prog 23 #[.pointer (some ⟨g, 0, none⟩), .int .i64 id] w fun e w' => e = .returned (.int .i64 (sizeT T id : Int)) ∧ Gr w w' := by
  have HT := Lib.hid (there_any g T.length (some ⟨w.heap.size, 0, none⟩) 1 1 [id] _ ((h.mono (Gr.alloc w (.cells #[.int .i64 id] 3))).len) (is_one w id))
  have HG := Lib.hid (Gr.alloc w (.cells #[.int .i64 id] 3))
  have e1 : [id].any (outside T.length) = outside T.length id := by simp
  rw [e1] at HT
  clear e1
  unfold sizeT
  cases ho : outside T.length id with
  | true =>
    rw [ho] at HT
    clear ho
    go_enter Tryd.func23, Tryd.ntmps23
    go_wp2_with fail
    refine HT.out.mono ?_
    rintro e w1 ⟨rfl, g1⟩
    have G1 := Lib.hid (HG.out.trans g1); clear g1
    go_wp2_with fail
    go_ret
    exact ⟨rfl, G1.out⟩
  | false =>
    rw [ho] at HT
    have hin : 1 ≤ id ∧ id ≤ T.length := by unfold outside at ho; simp at ho; omega
    obtain ⟨i, hi⟩ : ∃ i : Nat, id = (i : Int) + 1 := ⟨(id - 1).toNat, by omega⟩
    subst hi
    have hit : i < T.length := by omega
    have e2 : ((i : Int) + 1).toNat - 1 = i := by omega
    rw [e2]
    obtain ⟨A, c, hc, hsl⟩ := hs
    obtain ⟨b, o, rfl, hcc⟩ := Sl.addr hsl (by omega)
    have hcell : w.cell? ⟨b, o + i, none⟩ = some (.int .i64 (((sizesL T).getD i 0 : Nat) : Int)) := hcc i _ (i64n_at (by rw [sizesL_len]; exact hit))
    have HF : Hid (∀ wq, Gr w wq → wq.cell? ⟨g, 1, none⟩ = some (.slice (some ⟨b, o, none⟩) T.length c) ∧ wq.cell? ⟨b, o + i, none⟩ = some (.int .i64 (((sizesL T).getD i 0 : Nat) : Int))) := fun wq hq => ⟨(Below.cell hq (World.block_lt_of_cell? w _ hc)).trans hc, (Below.cell hq (World.block_lt_of_cell? w _ hcell)).trans hcell⟩
    have hmx := hsl.max
    have hcp := hsl.cap
    clear hsl hcc hc hcell e2 ho h hin
    generalize (sizesL T).getD i 0 = q at *
    go_enter Tryd.func23, Tryd.ntmps23
    go_wp2_with fail
    refine HT.out.mono ?_
    rintro e w1 ⟨rfl, g1⟩
    obtain ⟨f0, f1⟩ := HF.out w1 (HG.out.trans g1)
    have G1 := Lib.hid (HG.out.trans g1); clear g1
    go_wp2_with fail
    go_ret
    exact ⟨rfl, G1.out⟩
theorem assert_one {P : Program} {X : TypeId} {fs : Array Field} (hu : P.underlying X = some (.struct fs)) (xT : TypeId) (v : Value) (w : World) : (Instr.typeAssert (.iface X v) xT X false).run P w = .ok v w := by
  simp [Instr.typeAssert, run_underlying hu]
def labelT (T : List Nd) (id : Int) : ByteArray := if outside T.length id then ⟨#[]⟩ else match T[id.toNat - 1]? with
  | some x => if x.k = 2 ∨ x.k = 3 then x.s else ⟨#[]⟩
  | none => ⟨#[]⟩
set_option maxRecDepth 100000 in
set_option maxHeartbeats 1000000 in
theorem label_any (g : Nat) (T : List Nd) (id : Int) (w : World) (h : TRd w g T) (hk : Kinds T) (hid : -9223372036854775808 ≤ id ∧ id ≤ 9223372036854775807) :
    Calls Tryd.prog 17 #[.pointer (some ⟨g, 0, none⟩), .int .i64 id] w fun e w' => e = .returned (.string (labelT T id)) ∧ Gr w w' := by
  have HKC := Lib.hid (kind_any g T id w h hk hid)
  unfold labelT
  unfold kindOf at HKC
  cases ho : outside T.length id with
  | true =>
    rw [ho] at HKC
    clear ho h hk
    simp only [if_true] at HKC
    go_enter Tryd.func17, Tryd.ntmps17
    go_wp2_with fail
    refine HKC.out.mono ?_
    rintro e w1 ⟨rfl, g1⟩
    have G1 := Lib.hid g1; clear g1
    go_wp2_with fail
    go_ret
    exact ⟨rfl, G1.out⟩
  | false =>
    rw [ho] at HKC
    have hin : 1 ≤ id ∧ id ≤ T.length := by unfold outside at ho; simp at ho; omega
    obtain ⟨i, hi⟩ : ∃ i : Nat, id = (i : Int) + 1 := ⟨(id - 1).toNat, by omega⟩
    subst hi
    have hit : i < T.length := by omega
    obtain ⟨x, hx⟩ : ∃ x, T[i]? = some x := ⟨T[i], List.getElem?_eq_getElem hit⟩
    have e2 : ((i : Int) + 1).toNat - 1 = i := by omega
    rw [e2, hx] at HKC ⊢
    obtain ⟨A, c, hc, hs⟩ := h
    obtain ⟨b, o, rfl, hcc⟩ := Sl.addr hs (by omega)
    have hcell : w.cell? ⟨b, o + i, none⟩ = some x.cell := hcc i _ (by rw [List.getElem?_map, hx]; rfl)
    have hkx := hk x (List.mem_of_getElem? hx)
    have HF : Hid (∀ wq, Gr w wq → wq.cell? ⟨g, 0, none⟩ = some (.slice (some ⟨b, o, none⟩) T.length c) ∧ wq.cell? ⟨b, o + i, none⟩ = some x.cell) := fun wq hq => ⟨(Below.cell hq (World.block_lt_of_cell? w _ hc)).trans hc, (Below.cell hq (World.block_lt_of_cell? w _ hcell)).trans hcell⟩
    have hmx := hs.max
    have hcp := hs.cap
    clear hs hcc hc hcell hx e2 ho hk
    unfold Nd.cell at HF
    obtain ⟨xk, xa, xb, xs, xn⟩ := x
    simp only [Bool.false_eq_true, if_false] at HF hkx HKC ⊢
    have a2 := fun v w => assert_one (P := Tryd.prog) Tryd.underlying98 20 v w
    have a3 := fun v w => assert_one (P := Tryd.prog) Tryd.underlying89 20 v w
    have q2 : ∀ w, (Instr.field 98 (.agg #[.string xs]) 0).run Tryd.prog w = .ok (.string xs) w := fun w => by kernel_rfl
    have q3 : ∀ w, (Instr.field 89 (.agg #[.int .i64 (xa : Int), .string xs]) 1).run Tryd.prog w = .ok (.string xs) w := fun w => by kernel_rfl
    have hkk : xk = 1 ∨ xk = 2 ∨ xk = 3 ∨ xk = 4 ∨ xk = 5 := by omega
    rcases hkk with rfl | rfl | rfl | rfl | rfl
    all_goals
      simp only [reduceIte, Nat.reduceEqDiff, or_false, or_self] at HF ⊢
      clear hkx hin hid
      go_enter Tryd.func17, Tryd.ntmps17
      go_wp2_with fail
      refine HKC.out.mono ?_
      rintro e w1 ⟨rfl, g1⟩
      obtain ⟨f0, f1⟩ := HF.out w1 g1
      have G1 := Lib.hid g1; clear g1
      go_wp2_with fail
      go_ret
      exact ⟨rfl, G1.out⟩
end Go.Proofs.YthlnoaalhojphaaDoor
