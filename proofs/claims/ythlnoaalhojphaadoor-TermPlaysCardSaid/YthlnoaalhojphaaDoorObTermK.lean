/- The reference's table of terms: the parts. No condition. -/
import Derived.Test.YthlnoaalhojphaaDoorObTermJ
namespace Go.Proofs.YthlnoaalhojphaaDoor
open Go.RowKit Go.Maps
set_option linter.unusedVariables false

set_option maxHeartbeats 1000000 in
theorem refParts_any (A : Option Addr) (n c : Nat) (T : List Nd) (id : Int) (w : World) (h : RTb w A n c T) (hK : Kinds T) :
    Calls Tryd.prog 45 #[.slice A n c, .int .i64 id] w fun e w' => RetInts w ((partsOf T id).map Int.ofNat) e w' := by
  have hl : T.length = n := h.1
  have hm := Nat.le_trans h.cap h.max
  have HR := Lib.hid (refThere_any A n c id w)
  unfold partsOf
  rw [hl]
  cases ho : outside n id with
  | true =>
    rw [ho] at HR
    clear h hl hm
    go_enter Tryd.func45, Tryd.ntmps45
    go_wp2_with fail
    refine HR.out.mono ?_
    rintro e w1 ⟨rfl, rfl⟩
    go_wp2_with fail
    go_ret
    exact ⟨none, 0, rfl, Sl.nil _ _, Gr.refl _, Fresh.nil _, .inl rfl⟩
  | false =>
    rw [ho] at HR
    have hin : 1 ≤ id ∧ id ≤ n := by unfold outside at ho; simp at ho; omega
    obtain ⟨k, rfl⟩ : ∃ k : Nat, id = (k : Int) + 1 := ⟨(id - 1).toNat, by omega⟩
    have hk : k < n := by omega
    obtain ⟨b, o, x, rfl, hx, c0, c1, c2, c3, c4⟩ := h.row hk
    have ek : ((k : Int) + 1).toNat - 1 = k := by omega
    have hkx := hK x (List.mem_of_getElem? hx)
    rw [ek, hx]
    have hw : IntKind.i64.wrap ((k : Int) + 1 - 1) = k := by rw [IntWalk.i64_in _ (by omega)]; omega
    have hw2 : wrap64 (k : Int) = k := IntWalk.wrap64_in _ ⟨by omega, by omega⟩
    have N1 : Hid (∀ (W : World) (o : Obj) (x : Int), Is ((W.alloc o).alloc (.cells #[.int .i64 x] 3)) (some ⟨W.heap.size + 1, 0, none⟩) 1 1 [x]) := fun W o x => by have h := is_one (W.alloc o) x; rw [show (W.alloc o).heap.size = W.heap.size + 1 by simp] at h; exact h
    have N2 : Hid (∀ (W : World) (o : Obj) (x y : Int), Is ((W.alloc o).alloc (.cells #[.int .i64 x, .int .i64 y] 3)) (some ⟨W.heap.size + 1, 0, none⟩) 2 2 [x, y]) := fun W o x y => by have h := is_two (W.alloc o) x y; rw [show (W.alloc o).heap.size = W.heap.size + 1 by simp] at h; exact h
    clear h hl hin ek ho hK hx
    obtain ⟨xk, xa, xb, xs, xn⟩ := x
    simp only at c0 c1 c2 c3 c4 hkx
    have hkk : xk = 1 ∨ xk = 2 ∨ xk = 3 ∨ xk = 4 ∨ xk = 5 := by omega
    rcases hkk with rfl | rfl | rfl | rfl | rfl
    all_goals
      go_enter Tryd.func45, Tryd.ntmps45
      go_wp2_with fail
      refine HR.out.mono ?_
      rintro e w1 ⟨rfl, rfl⟩
      go_wp2_with fail
      go_ret
    · exact ⟨none, 0, rfl, Sl.nil _ _, Gr.refl _, Fresh.nil _, .inl rfl⟩
    · exact ⟨none, 0, rfl, Sl.nil _ _, Gr.refl _, Fresh.nil _, .inl rfl⟩
    · exact ⟨_, _, rfl, N1.out _ _ _, (Gr.alloc _ _).trans (Gr.alloc _ _), Fresh.mk1 (Gr.refl _) 1, OwnI.one _ _ _⟩
    · exact ⟨_, _, rfl, N2.out _ _ _ _, (Gr.alloc _ _).trans (Gr.alloc _ _), Fresh.mk1 (Gr.refl _) 1, OwnI.two _ _ _ _⟩
    · exact ⟨_, _, rfl, N2.out _ _ _ _, (Gr.alloc _ _).trans (Gr.alloc _ _), Fresh.mk1 (Gr.refl _) 1, OwnI.two _ _ _ _⟩
end Go.Proofs.YthlnoaalhojphaaDoor
