/- Nil states; three states beside one another. No condition. -/
import Derived.Test.YthlnoaalhojphaaObKnowQ
import Derived.Outline
namespace Go.Proofs.Ythlnoaalhojphaa
open Go.RowKit
set_option linter.unusedVariables false
theorem newNil_any (w : World) : Calls Try.prog 9 #[.pointer none] w fun e w' => e = .returned (.pointer none) ∧ w = w' := by
  go_enter Try.func9, Try.ntmps9
  go_wp2_with fail
  go_ret
  exact ⟨rfl, rfl⟩
theorem learnNil_any (v : Value) (w : World) : Calls Try.prog 10 #[.pointer none, v] w fun e w' => e = .returned (.tuple #[]) ∧ w = w' := by
  go_enter Try.func10, Try.ntmps10
  go_wp2_with fail
  exact bodyPost_ret (results_none rfl _ _ _) rfl ⟨rfl, rfl⟩
theorem derivesNil_any (v : Value) (w : World) : Calls Try.prog 13 #[.pointer none, v] w fun e w' => e = .returned (.bool false) ∧ w = w' := by
  go_enter Try.func13, Try.ntmps13
  go_wp2_with fail
  go_ret
  exact ⟨rfl, rfl⟩
theorem openedNil_any (w : World) : Calls Try.prog 15 #[.pointer none] w fun e w' => e = .returned (.slice none 0 0) ∧ w = w' := by
  go_enter Try.func15, Try.ntmps15
  go_wp2_with fail
  go_ret
  exact ⟨rfl, rfl⟩
theorem cloneNil_any (w : World) : Calls Try.prog 12 #[.pointer none] w fun e w' => e = .returned (.pointer none) ∧ w = w' := by
  go_enter Try.func12, Try.ntmps12
  go_wp2_with fail
  go_ret
  exact ⟨rfl, rfl⟩
theorem whyNil_any (v : Value) (w : World) : Calls Try.prog 17 #[.pointer none, v] w fun e w' => e = .returned (.slice none 0 0) ∧ w = w' := by
  go_enter Try.func17, Try.ntmps17
  go_wp2_with fail
  refine (derivesNil_any v w).mono ?_
  rintro e w1 ⟨rfl, rfl⟩
  go_wp2_with fail
  go_ret
  exact ⟨rfl, rfl⟩
/-- A state: where it lies. -/
structure KSt where
  gk : Nat
  bk : Nat
/-- What a state has learned. -/
def Kn1 (w0 w : World) (g : Nat) (T : List Nd) (s : KSt) (N : Nat) (l : List Int) : Prop := ∃ vk vp vi, KnF w0 w s.gk g s.bk N T l vk vp vi
def Off (s s' : KSt) : Prop := s'.gk ≠ s.gk ∧ s'.bk ≠ s.bk
theorem Off.symm {s s' : KSt} (h : Off s s') : Off s' s := ⟨h.1.symm, h.2.symm⟩
theorem Kn1.gr {w0 w w' : World} {g : Nat} {T : List Nd} {s : KSt} {N : Nat} {l : List Int} (h : Kn1 w0 w g T s N l) (hg : Gr w w') : Kn1 w0 w' g T s N l := by
  obtain ⟨vk, vp, vi, h⟩ := h
  exact ⟨vk, vp, vi, h.gr hg⟩
theorem Kn1.bel {w0 w : World} {g : Nat} {T : List Nd} {s : KSt} {N : Nat} {l : List Int} (h : Kn1 w0 w g T s N l) : Below w0.heap.size w0 w := by
  obtain ⟨vk, vp, vi, h⟩ := h
  exact h.bel
theorem Kn1.lt {w0 w : World} {g : Nat} {T : List Nd} {s : KSt} {N : Nat} {l : List Int} (h : Kn1 w0 w g T s N l) : s.gk < w.heap.size ∧ s.bk < w.heap.size := by
  obtain ⟨vk, vp, vi, h⟩ := h
  exact ⟨h.blk.lt, h.m.lt⟩
theorem Kn1.other {w0 w w' : World} {g : Nat} {T : List Nd} {s s' : KSt} {N N' : Nat} {l l' : List Int} (h : Kn1 w0 w g T s N l) (h' : Kn1 w0 w g T s' N' l') (t : Tch (KS s.gk s.bk) w w') (ho : Off s s') : Kn1 w0 w' g T s' N' l' := by
  obtain ⟨vk, vp, vi, h⟩ := h
  obtain ⟨vk', vp', vi', h'⟩ := h'
  exact ⟨vk', vp', vi', h.other h' t ho.1 ho.2⟩
theorem Kn1.new (w0 : World) (g : Nat) (T : List Nd) (w : World) (hb : Below w0.heap.size w0 w) :
    Calls Try.prog 9 #[.pointer (some ⟨g, 0, none⟩)] w fun e w' => ∃ s : KSt, e = .returned (.pointer (some ⟨s.gk, 0, none⟩)) ∧ Kn1 w0 w' g T s 0 [] ∧ Gr w w' ∧ w.heap.size ≤ s.gk ∧ w.heap.size ≤ s.bk := by
  refine (knowNew_any w0 g T w hb).mono ?_
  rintro e w' ⟨gk, bk, rfl, k, hg, h1, h2⟩
  exact ⟨⟨gk, bk⟩, rfl, ⟨_, _, _, k⟩, hg, h1, h2⟩
theorem Kn1.learn {w0 : World} {g : Nat} {T : List Nd} {s : KSt} {N : Nat} {l : List Int} {A : Option Addr} {n c : Nat} {ids : List Int} {w : World} (h : Kn1 w0 w g T s N l) (ht : TRd w0 g T) (hk : Kinds T) (hi : Is w A n c ids) (hf : ∀ x ∈ ids, In64 x) (hN : N + n ≤ 1000000) :
    Calls Try.prog 10 #[.pointer (some ⟨s.gk, 0, none⟩), .slice A n c] w fun e w' => e = .returned (.tuple #[]) ∧ Kn1 w0 w' g T s (N + n) (l ++ okIds T ids) ∧ Tch (KS s.gk s.bk) w w' := by
  obtain ⟨vk, vp, vi, h⟩ := h
  refine (learn_any w0 s.gk g s.bk N T l vk vp vi A n c ids w h ht hk hi hf hN).mono ?_
  rintro e w' ⟨rfl, k, t⟩
  exact ⟨rfl, ⟨_, _, _, k⟩, t⟩
theorem Kn1.derives {w0 : World} {g : Nat} {T : List Nd} {s : KSt} {N : Nat} {l : List Int} {d : List Bool} {w : World} (h : Kn1 w0 w g T s N l) (ht : KnT w0 g T l) (hd : Tells T (InL l) d) (k : Nat) (hk : k ≤ 100000) :
    Calls Try.prog 13 #[.pointer (some ⟨s.gk, 0, none⟩), .int .i64 (k : Int)] w fun e w' => e = .returned (.bool (dAt d k)) ∧ Kn1 w0 w' g T s N l ∧ Tch (KS s.gk s.bk) w w' := by
  obtain ⟨vk, vp, vi, h⟩ := h
  refine (derives_at w0 s.gk g s.bk N T l vk vp vi d k w h ht hd hk).mono ?_
  rintro e w' ⟨rfl, a, b, c, k, t⟩
  exact ⟨rfl, ⟨_, _, _, k⟩, t⟩
/-- A row of ints stays. -/
theorem Kn1.row {w0 w w' : World} {g : Nat} {T : List Nd} {s : KSt} {N : Nat} {l : List Int} (h : Kn1 w0 w g T s N l) {A : Option Addr} {m c : Nat} {xs : List Int} (hr : Is w A m c xs) (t : Tch (KS s.gk s.bk) w w') : Is w' A m c xs := by
  obtain ⟨vk, vp, vi, h⟩ := h
  exact hr.tch (by decide) t (fun h0 b o e => h.row_off hr h0 b o e)
end Go.Proofs.Ythlnoaalhojphaa
