/- ObOqS, ObOqT: one text. No condition. -/
import Derived.Test.YtadenlhnfkccaaaDoorObOqL
import Derived.Test.YtadenlhnfkccaaaDoorObInts
import Derived.Test.YtadenlhnfkccaaaDoorObOpD
import Derived.Outline
import Derived.Test.YtadenlhnfkccaaaDoorObOqAB
/- Answers as lines: the same answer. No condition. -/
namespace Go.Proofs.YtadenlhnfkccaaaDoor
open Go.RowKit
set_option linter.unusedVariables false
set_option linter.unusedSimpArgs false
set_option maxRecDepth 100000 in
set_option maxHeartbeats 2000000 in
theorem sameA_self (a : AnD) (A1 A2 B1 B2 : Option Addr) (m1 c1 m2 c2 p1 q1 p2 q2 : Nat) (w : World) (h1 : Bs w A1 m1 c1 a.b) (h2 : Bs w A2 m2 c2 a.b) (i1 : Is w B1 p1 q1 a.n) (i2 : Is w B2 p2 q2 a.n) :
    Calls Tryd.prog 16 #[.agg (anC a A1 m1 c1 B1 p1 q1), .agg (anC a A2 m2 c2 B2 p2 q2)] w fun e w' => e = .returned (.bool true) ∧ Gr w w' := by
  have HSM : Hid (∀ wr, Gr w wr → Calls Tryd.prog 36 #[.slice A1 m1 c1, .slice A2 m2 c2] wr fun e w' => e = .returned (.bool true) ∧ Gr wr w') := fun wr g => by
    have := refSame_any A1 A2 m1 m2 c1 c2 a.b a.b wr (h1.mono g) (h2.mono g)
    rw [beq_self_eq_true] at this
    exact this.mono fun e w' h => ⟨h.1, by obtain ⟨k, rfl⟩ := h.2; exact belowN (Gr.refl _) k⟩
  have HIN : Hid (∀ wr, Gr w wr → Calls Tryd.prog 47 #[.slice B1 p1 q1, .slice B2 p2 q2] wr fun e w' => e = .returned (.bool true) ∧ Gr wr w') := fun wr g => by
    have := ints_any B1 B2 p1 p2 q1 q2 a.n a.n wr (i1.mono g) (i2.mono g)
    rw [beq_self_eq_true] at this
    exact this.mono fun e w' h => ⟨h.1, by obtain ⟨k, rfl⟩ := h.2; exact belowN (Gr.refl _) k⟩
  obtain ⟨t, ht⟩ : ∃ t : ByteArray, strc a.t = .string t := ⟨_, rfl⟩
  obtain ⟨f, hf⟩ : ∃ f, f = a.f := ⟨_, rfl⟩
  unfold anC
  rw [ht, ← hf]
  clear ht hf h1 h2 i1 i2
  have G0 : Hid (Gr w ((w.alloc (.cells #[.int .i64 f, .slice A1 m1 c1, .slice B1 p1 q1, .string t] 37)).alloc (.cells #[.int .i64 f, .slice A2 m2 c2, .slice B2 p2 q2, .string t] 37))) := (Gr.alloc _ _).trans (Gr.alloc _ _)
  have BX : Hid (Blk ((w.alloc (.cells #[.int .i64 f, .slice A1 m1 c1, .slice B1 p1 q1, .string t] 37)).alloc (.cells #[.int .i64 f, .slice A2 m2 c2, .slice B2 p2 q2, .string t] 37)) w.heap.size 37 [.int .i64 f, .slice A1 m1 c1, .slice B1 p1 q1, .string t]) := (Blk.new w 37 #[.int .i64 f, .slice A1 m1 c1, .slice B1 p1 q1, .string t]).alloc _
  have BY : Hid (Blk ((w.alloc (.cells #[.int .i64 f, .slice A1 m1 c1, .slice B1 p1 q1, .string t] 37)).alloc (.cells #[.int .i64 f, .slice A2 m2 c2, .slice B2 p2 q2, .string t] 37)) (w.heap.size + 1) 37 [.int .i64 f, .slice A2 m2 c2, .slice B2 p2 q2, .string t]) := by
    have := Blk.new (w.alloc (.cells #[.int .i64 f, .slice A1 m1 c1, .slice B1 p1 q1, .string t] 37)) 37 #[.int .i64 f, .slice A2 m2 c2, .slice B2 p2 q2, .string t]
    rw [World.size_alloc] at this
    exact this
  have t1 : (f == f) = true := beq_self_eq_true f
  have t2 : (t.toList == t.toList) = true := beq_self_eq_true t.toList
  go_enter Tryd.func16, Tryd.ntmps16
  go_wp2_with fail
  refine (HSM.out _ G0.out).mono ?_
  rintro e w2 ⟨rfl, g2⟩
  have x2 : w2.cell? ⟨w.heap.size, 2, none⟩ = some (.slice B1 p1 q1) := (BX.out.mono g2).cell 2
  have x3 : w2.cell? ⟨w.heap.size, 3, none⟩ = some (.string t) := (BX.out.mono g2).cell 3
  have y2 : w2.cell? ⟨w.heap.size + 1, 2, none⟩ = some (.slice B2 p2 q2) := (BY.out.mono g2).cell 2
  have y3 : w2.cell? ⟨w.heap.size + 1, 3, none⟩ = some (.string t) := (BY.out.mono g2).cell 3
  have BX2 := Lib.hid (BX.out.mono g2)
  have BY2 := Lib.hid (BY.out.mono g2)
  have G2 := Lib.hid (G0.out.trans g2); clear g2
  go_wp2_with fail
  refine (HIN.out _ G2.out).mono ?_
  rintro e w3 ⟨rfl, g3⟩
  clear x2 x3 y2 y3
  have x3 : w3.cell? ⟨w.heap.size, 3, none⟩ = some (.string t) := (BX2.out.mono g3).cell 3
  have y3 : w3.cell? ⟨w.heap.size + 1, 3, none⟩ = some (.string t) := (BY2.out.mono g3).cell 3
  have G3 := Lib.hid (G2.out.trans g3); clear g3
  go_wp2_with fail
  go_ret
  exact ⟨rfl, G3.out⟩
end Go.Proofs.YtadenlhnfkccaaaDoor
/- Operations as lines: what is read keeps to its bounds. No condition. -/
namespace Go.Proofs.YtadenlhnfkccaaaDoor
open Go.RowKit
set_option linter.unusedVariables false
set_option linter.unusedSimpArgs false
def OpSm (o : OpD) : Prop := OpOk o ∧ o.g.length ≤ 1000 ∧ o.i.length ≤ 1000
theorem readD_sm {d : Int} {o : OpD} {s : Nat} {l : List UInt8} (ho : OpSm o) (hd : -9223372036854775808 ≤ d ∧ d ≤ 9223372036854775807) (hl : l.length ≤ 1000) (hs : Sign s) : OpSm (readD d o s l) := by
  refine ⟨readD_ok ho.1 hd (by omega) hs, ?_, ?_⟩
  · rcases hs with rfl | rfl | rfl | rfl | rfl | rfl | rfl
    · exact hl
    all_goals exact ho.2.1
  · rcases hs with rfl | rfl | rfl | rfl | rfl | rfl | rfl
    · exact ho.2.2
    · exact hl
    all_goals exact ho.2.2
theorem foldP_sm : ∀ (ss : List UInt8) (ws : List (List UInt8)) (o o' : OpD), (∀ s ∈ ss, Sign s.toNat) → (∀ x ∈ ws, x.length ≤ 1000) → OpSm o → foldP o ss ws = some o' → OpSm o'
  | [], ws, o, o', _, _, h, e => by
    have e : some o = some o' := e
    injection e with e
    exact e ▸ h
  | s :: ss, x :: ws, o, o', hs, hw, h, e => by
    have e : (if readB (readD 0 o s.toNat x) s.toNat x = true then foldP (readD 0 o s.toNat x) ss ws else none) = some o' := e
    split at e
    · exact foldP_sm ss ws _ o' (fun y hy => hs y (List.mem_cons_of_mem _ hy)) (fun y hy => hw y (List.mem_cons_of_mem _ hy)) (readD_sm h (by decide) (hw x List.mem_cons_self) (hs s List.mem_cons_self)) e
    · cases e
  | _ :: _, [], o, o', _, _, _, e => by cases e
theorem op0_sm (k : Nat) (hk : k < 10) : OpSm { op0 with k := (k : Int) } :=
  ⟨⟨⟨by show _ ≤ (k : Int); omega, by show (k : Int) ≤ _; omega⟩, (by decide : -9223372036854775808 ≤ (0 : Int) ∧ (0 : Int) ≤ 9223372036854775807), (by decide : -9223372036854775808 ≤ (0 : Int) ∧ (0 : Int) ≤ 9223372036854775807), (by decide : -9223372036854775808 ≤ (0 : Int) ∧ (0 : Int) ≤ 9223372036854775807), (by decide : -9223372036854775808 ≤ (0 : Int) ∧ (0 : Int) ≤ 9223372036854775807), Nat.zero_le _, Nat.zero_le _, Nat.zero_le _⟩, Nat.zero_le _, Nat.zero_le _⟩
theorem parseO_sm {l : List UInt8} (hl : l.length ≤ 1000) : OpSm (parseO l).1 := by
  unfold parseO
  cases h : opOf l with
  | none => exact op0_sm 0 (by decide)
  | some o =>
    unfold opOf at h
    simp only [] at h
    split at h
    · rename_i hk
      unfold tryL at h
      split at h
      · have hz := cut_size 32 l
        exact foldP_sm _ _ _ o (signs_all _) (fun x hx => Nat.le_trans (hz.2 x (List.mem_of_mem_tail hx)) hl) (op0_sm _ hk) h
      · cases h
    · cases h
theorem printO_len {o : OpD} (hg : o.g.length ≤ 1000) (hi : o.i.length ≤ 1000) : (printO o).1.length ≤ 5000 := by
  rw [printO_eq]
  split
  · have := lineTo_len o hg hi _ (Nat.le_refl (formS (formOf o)).length)
    have h4 := formS_len (formOf o)
    have h5 : (formS (formOf o)).length * 1001 ≤ 4 * 1001 := Nat.mul_le_mul_right _ h4
    show (lineTo _ _ _).length ≤ _
    omega
  · exact Nat.zero_le _
end Go.Proofs.YtadenlhnfkccaaaDoor
