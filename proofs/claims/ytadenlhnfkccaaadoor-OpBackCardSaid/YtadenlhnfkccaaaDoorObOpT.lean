/- Operations as lines: which form a word is of. No condition. -/
import Derived.Test.YtadenlhnfkccaaaDoorObOpS
import Derived.Test.YtadenlhnfkccaaaDoorObNameI
import Derived.Outline
namespace Go.Proofs.YtadenlhnfkccaaaDoor
open Go.RowKit
set_option linter.unusedVariables false
set_option linter.unusedSimpArgs false
theorem isForm_any (x y z : ByteArray) (V b o n c : Nat) (w : World) (hv : w.cell? ⟨V, 0, none⟩ = some (.slice (some ⟨b, o, none⟩) n c)) (hz : w.cell? ⟨b, o, none⟩ = some (.string z)) (hn : 0 < n) :
    Calls Tryd.prog 32 #[.agg #[.string x, .string y], .pointer (some ⟨V, 0, none⟩)] w fun e w' => e = .returned (.bool (x.toList == z.toList && !(x.toList == []))) ∧ Gr w w' := by
  have g0 : Gr w (w.alloc (.cells #[.string x, .string y] 62)) := Gr.alloc w _
  obtain ⟨wl, hwl⟩ : ∃ wl, wl = w.alloc (.cells #[.string x, .string y] 62) := ⟨_, rfl⟩
  have c0 : wl.cell? ⟨w.heap.size, 0, none⟩ = some (.string x) := by rw [hwl, (Blk.new w _ _).cell]; rfl
  rw [← hwl] at g0
  have c1 := (g0.cell (p := ⟨V, 0, none⟩) (World.block_lt_of_cell? w _ hv)).trans hv
  have c2 := (g0.cell (p := ⟨b, o, none⟩) (World.block_lt_of_cell? w _ hz)).trans hz
  have hn0 : (0 : Int) < (n : Int) := by omega
  have G0 := Lib.hid g0
  have HWL := Lib.hid hwl
  clear g0 hwl hv hz
  go_enter Tryd.func32, Tryd.ntmps32
  cases t1 : (x.toList == z.toList) with
  | true =>
    go_wp2_with fail
    rw [← HWL.out]
    go_quiet (fail)
    go_wp2
    go_ret
    exact ⟨by simp, G0.out.trans (belowN (Gr.refl _) _)⟩
  | false =>
    go_wp2_with fail
    rw [← HWL.out]
    go_quiet (fail)
    go_wp2
    go_ret
    exact ⟨by simp, G0.out.trans (belowN (Gr.refl _) _)⟩
def isForm (w : List UInt8) (k : Nat) : Bool := formW k == w && !(formW k == [])
theorem kind_hit {w : List UInt8} {k : Nat} (hk : k < 10) (h : isForm w k = true) (hj : ∀ j, j < k → isForm w j = false) : kindL w = k := by
  unfold kindL
  have : (List.range 10).find? (isForm w) = some k := by
    rw [List.find?_range_eq_some]
    exact ⟨h, by simpa using hk, fun j hjk => by rw [hj j hjk]; rfl⟩
  show ((List.range 10).find? (isForm w)).getD 10 = k
  rw [this]
  rfl
theorem kind_miss {w : List UInt8} (hj : ∀ j, j < 10 → isForm w j = false) : kindL w = 10 := by
  show ((List.range 10).find? (isForm w)).getD 10 = 10
  have : (List.range 10).find? (isForm w) = none := by
    rw [List.find?_eq_none]
    intro x hx
    rw [hj x (by simpa using hx)]
    decide
  rw [this]
  rfl
set_option maxRecDepth 100000 in
theorem formIx_any (F V b o n c : Nat) (z : List UInt8) (w : World) (hF : Blk w F 63 formCells.toList) (hv : w.cell? ⟨V, 0, none⟩ = some (.slice (some ⟨b, o, none⟩) n c)) (hz : w.cell? ⟨b, o, none⟩ = some (strc z)) (hn : 0 < n) :
    Calls Tryd.prog 31 #[.slice (some ⟨F, 0, none⟩) 10 10, .func (.func 32) #[] #[.pointer (some ⟨V, 0, none⟩)]] w fun e w' => e = .returned (.int .i64 (if kindL z < 10 then (kindL z : Int) else -1)) ∧ Gr w w' := by
  have HC : Hid (∀ (x y : ByteArray) wr, Gr w wr → Calls Tryd.prog 32 #[.agg #[.string x, .string y], .pointer (some ⟨V, 0, none⟩)] wr fun e w' => e = .returned (.bool (x.toList == z && !(x.toList == []))) ∧ Gr wr w') := fun x y wr g => by
    have h := isForm_any x y ⟨z.toArray⟩ V b o n c wr ((g.cell (p := ⟨V, 0, none⟩) (World.block_lt_of_cell? w _ hv)).trans hv) ((g.cell (p := ⟨b, o, none⟩) (World.block_lt_of_cell? w _ hz)).trans hz) hn
    rw [show (⟨z.toArray⟩ : ByteArray).toList = z by rw [ByteArray.toList_eq]] at h
    exact h
  have HF := Lib.hid hF
  clear hF hv hz
  obtain ⟨r, hr⟩ : ∃ r : Int, r = if kindL z < 10 then (kindL z : Int) else -1 := ⟨_, rfl⟩
  rw [← hr]
  have HR := Lib.hid hr; clear hr
  go_enter Tryd.func31, Tryd.ntmps31
  go_wp2
  go_loopw [8] (fun i wr => ∃ k : Nat, k ≤ 10 ∧ i = .int .i64 k ∧ Gr w wr ∧ ∀ j, j < k → isForm z j = false) (fun i _ => 10 - (intOf i).toNat)
  case atStart => exact ⟨0, by omega, rfl, Gr.refl _, fun j h => by omega⟩
  case round =>
    obtain ⟨k, hk, rfl, g, hj⟩ := hrel
    have HJ := Lib.hid hj; have G := Lib.hid g; clear hj g
    by_cases hlt : k < 10
    · have t1 : decide ((k : Int) < 10) = true := decide_eq_true (by omega)
      have hi : (k : Int) < 10 := by omega
      obtain ⟨x, hx⟩ : ∃ x : ByteArray, x = ⟨(formW k).toArray⟩ := ⟨_, rfl⟩
      obtain ⟨y, hy⟩ : ∃ y : ByteArray, y = ⟨(formS k).toArray⟩ := ⟨_, rfl⟩
      have hxl : x.toList = formW k := by rw [hx, ByteArray.toList_eq]
      have c0 : wr.cell? ⟨F, k * 2, none⟩ = some (.string x) := by
        rw [(HF.out.mono G.out).cell, Nat.mul_comm, formCells_w k hlt, hx]; rfl
      have c1 : wr.cell? ⟨F, k * 2 + 1, none⟩ = some (.string y) := by
        rw [(HF.out.mono G.out).cell, Nat.mul_comm, formCells_s k hlt, hy]; rfl
      have HCC := Lib.hid (HC.out x y wr G.out)
      rw [hxl] at HCC
      clear hx hy hxl
      cases hb : isForm z k with
      | true =>
        have hb2 : (formW k == z && !(formW k == [])) = true := hb
        rw [hb2] at HCC
        have HX : Hid (r = (k : Int)) := by
          show _ = _
          have := kind_hit hlt hb HJ.out
          rw [HR.out, this, if_pos hlt]
        clear hb hb2
        go_wp2_with fail
        refine HCC.out.mono ?_
        rintro e w2 ⟨rfl, g2⟩
        have G2 := Lib.hid g2; clear g2
        go_wp2_with fail
        go_ret
        exact ⟨by rw [HX.out]; rfl, G.out.trans G2.out⟩
      | false =>
        have hb2 : (formW k == z && !(formW k == [])) = false := hb
        rw [hb2] at HCC
        have HN : Hid (∀ j, j < k + 1 → isForm z j = false) := fun j h => by
          rcases Nat.lt_succ_iff_lt_or_eq.1 h with h | rfl
          · exact HJ.out j h
          · exact hb
        clear hb hb2
        go_wp2_with fail
        refine HCC.out.mono ?_
        rintro e w2 ⟨rfl, g2⟩
        have G2 := Lib.hid g2; clear g2
        go_wp2_with fail
        refine ⟨⟨k + 1, by omega, by first | trivial | go_num, G.out.trans G2.out, HN.out⟩, ?_⟩
        show 10 - ((k : Int) + 1).toNat < 10 - (k : Int).toNat
        omega
    · obtain rfl : k = 10 := by omega
      have HX : Hid (r = -1) := by
        show _ = _
        rw [HR.out, kind_miss HJ.out]; rfl
      go_wp2
      go_ret
      exact ⟨by rw [HX.out]; rfl, G.out⟩
end Go.Proofs.YtadenlhnfkccaaaDoor
