import Derived.Test.YtbmijjodpdbbmaaDoorObDrawW
import Derived.StillTailTactics
namespace Go.Proofs.YtbmijjodpdbbmaaDoor
open Go.RowKit Go.Lib
set_option linter.unusedVariables false

/-- A source at block p: its seed (not in that block), how many were drawn. -/
def Src (w : World) (p : Nat) (A : Option Addr) (n c : Nat) (seed : List UInt8) (d : Nat) : Prop :=
  Blk w p 99 [.slice A n c, .int .i64 d] ∧ Bs w A n c seed ∧ (∀ b o, A = some ⟨b, o, none⟩ → b ≠ p)
theorem Src.mono {w w' : World} {p : Nat} {A : Option Addr} {n c : Nat} {seed : List UInt8} {d : Nat} (h : Src w p A n c seed d) (hb : Below w.heap.size w w') : Src w' p A n c seed d :=
  ⟨(hb.block _ h.1.lt).trans h.1, h.2.1.mono hb, h.2.2⟩
theorem Src.draw {w : World} {p : Nat} {A : Option Addr} {n c : Nat} {seed : List UInt8} {d : Nat} (h : Src w p A n c seed d) : Src (w.setCell ⟨p, 1, none⟩ (.int .i64 ((d : Int) + 1))) p A n c seed (d + 1) :=
  ⟨h.1.set 1 _, h.2.1.keepB (fun b o e => Below.heap_setCell w _ _ b (h.2.2 b o e)), h.2.2⟩

set_option maxRecDepth 100000 in
theorem draw_any (p : Nat) (A : Option Addr) (n c : Nat) (seed : List UInt8) (d : Nat) (w : World) (h : Src w p A n c seed d) (hn : n ≤ 50000) (hd : d < 100) (hK : ShaK w) (hp : p ≠ 4) :
    Calls Tryd.prog 38 #[.pointer (some ⟨p, 0, none⟩)] w (RetRd (w.setCell ⟨p, 1, none⟩ (.int .i64 ((d : Int) + 1))) (drawL seed d)) := by
  have c0 : w.cell? ⟨p, 0, none⟩ = some (.slice A n c) := by rw [h.1.cell]; rfl
  have c1 : w.cell? ⟨p, 1, none⟩ = some (.int .i64 d) := by rw [h.1.cell]; rfl
  have f1 := h.1.free 1
  obtain ⟨W, hW⟩ : ∃ W, W = w.setCell ⟨p, 1, none⟩ (.int .i64 ((d : Int) + 1)) := ⟨_, rfl⟩
  have hS : Src W p A n c seed (d + 1) := by rw [hW]; exact h.draw
  have hKW : ShaK W := by
    have e : W.heap[4]? = w.heap[4]? := by rw [hW]; exact Below.heap_setCell w _ _ 4 (fun e => hp e.symm)
    unfold ShaK Lib.TabIs World.var? at *
    rw [show Tryd.prog.globalNamed "oubliette/sha.k" = some 4 by kernel_rfl] at hK ⊢
    simp only [Option.bind_some] at hK ⊢
    rw [e]; exact hK
  have d0 : W.cell? ⟨p, 0, none⟩ = some (.slice A n c) := by rw [hS.1.cell]; rfl
  have d1 : W.cell? ⟨p, 1, none⟩ = some (.int .i64 ((d : Int) + 1)) := by rw [hS.1.cell]; rfl
  have HS := Lib.hid hS; have HK := Lib.hid hKW; clear hS hKW h hK
  rw [← hW]
  have HW := Lib.hid hW; clear hW
  go_enter Tryd.func38, Tryd.ntmps38
  go_wp2_with fail
  rw [← HW.out]
  clear c0 c1 f1
  go_still_tail 9, (by kernel_rfl)
  change wpList _ _ _ _ _ W.drew
  go_wp2_with (go_at_call 41; refine (at_small A n c seed d _ (by exact HS.out.2.1.mono (Below.refl _ _).drew) hn hd (by exact HK.out.mono (Below.refl _ _).drew)).mono ?_; rintro e w2 ⟨A2, c2, rfl, s2, b2⟩; have B2 : Hid (Below W.heap.size W w2) := ((Below.refl W.heap.size W).drew).trans b2; have S2 := Lib.hid s2; clear s2 b2)
  go_ret
  exact ⟨A2, c2, rfl, S2.out, B2.out⟩
end Go.Proofs.YtbmijjodpdbbmaaDoor
