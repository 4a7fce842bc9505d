/- Own texts of this claim, one behind the other. No condition. -/
import Derived.Test.YtcfbbgbjlgonpaaGreatDoorObPkAE
import Derived.Test.YtcfbbgbjlgonpaaGreatDoorObPkAG
import Derived.Test.YtcfbbgbjlgonpaaGreatDoorObPkAI
import Derived.Test.YtcfbbgbjlgonpaaGreatDoorObPkAJ
import Derived.StillTailTactics

/- ObDrawW, ObDrawS, ObDrawC: one text. No condition. -/
namespace Go.Proofs.YtcfbbgbjlgonpaaGreatDoor
open Go.RowKit Go.Lib
set_option linter.unusedVariables false

/-! ### numbers below 100 as digits: no table -/
theorem printS_any (i : Nat) (hi : i < 100) (w : World) :
    Calls Tryz.prog 118 #[.int .i64 i] w fun e w' => e = .returned (.string ⟨(Lib.decDigits i).toArray⟩) ∧ w' = w := by
  have t1 : decide ((i : Int) < 0) = false := decide_eq_false (by omega)
  go_enter Tryz.func118, Tryz.ntmps118
  go_wp2_with (go_at_call 149; refine (Tryz.strconv_Itoa_small i hi _).mono ?_; rintro e w' ⟨rfl, rfl⟩)
  go_ret
  exact ⟨rfl, rfl⟩
theorem dec_len2 (i : Nat) (hi : i < 100) : (Lib.decDigits i).length ≤ 2 := by
  by_cases h : i < 10
  · rw [dec_small i h]; simp
  · rw [dec_big i h, dec_small (i / 10) (by omega), dec_small (i % 10) (by omega)]; simp
def drawS (i : Nat) : List UInt8 := [100, 114, 97, 119, 32] ++ Lib.decDigits i
def drawL (seed : List UInt8) (i : Nat) : List UInt8 := deriveL seed (drawS i)
theorem drawL_len (seed : List UInt8) (i : Nat) : (drawL seed i).length = 32 := deriveL_len _ _
theorem drawS_str (i : Nat) : (({ data := #[100, 114, 97, 119, 32] } : ByteArray) ++ { data := (Lib.decDigits i).toArray }) = ⟨(drawS i).toArray⟩ := by
  apply ByteArray.ext
  simp [drawS, ByteArray.data_append]
theorem at_small (A : Option Addr) (n c : Nat) (seed : List UInt8) (i : Nat) (w : World) (h : Bs w A n c seed) (hn : n ≤ 50000) (hi : i < 100) (hK : ShaK w) :
    Calls Tryz.prog 87 #[.slice A n c, .int .i64 i] w (RetRd w (drawL seed i)) := by
  have HH := Lib.hid h; have HK := Lib.hid hK; clear h hK
  have HS := Lib.hid (drawS_str i)
  have hdl := dec_len2 i hi
  have hl : (drawS i).length ≤ 7 := by unfold drawS; rw [List.length_append]; have := dec_len2 i hi; simp; omega
  go_enter Tryz.func87, Tryz.ntmps87
  go_wp2_with (first
    | (go_at_call 118; refine (printS_any i hi _).mono ?_; rintro e w' ⟨rfl, rfl⟩)
    | (go_at_call 57; rw [HS.out]; refine (derive_any A n c seed (drawS i) _ HH.out hn (by omega) HK.out).mono ?_; rintro e w2 ⟨A2, c2, rfl, s2, b2⟩; have S2 := Lib.hid s2; have B2 := Lib.hid b2; clear s2 b2))
  go_ret
  exact ⟨A2, c2, rfl, S2.out, B2.out⟩
end Go.Proofs.YtcfbbgbjlgonpaaGreatDoor
namespace Go.Proofs.YtcfbbgbjlgonpaaGreatDoor
open Go.RowKit Go.Lib
set_option linter.unusedVariables false

/-- A source at block p: its seed (not in that block), how many were drawn. -/
def Src (w : World) (p : Nat) (A : Option Addr) (n c : Nat) (seed : List UInt8) (d : Nat) : Prop :=
  Blk w p 108 [.slice A n c, .int .i64 d] ∧ Bs w A n c seed ∧ (∀ b o, A = some ⟨b, o, none⟩ → b ≠ p)
theorem Src.mono {w w' : World} {p : Nat} {A : Option Addr} {n c : Nat} {seed : List UInt8} {d : Nat} (h : Src w p A n c seed d) (hb : Below w.heap.size w w') : Src w' p A n c seed d :=
  ⟨(hb.block _ h.1.lt).trans h.1, h.2.1.mono hb, h.2.2⟩
theorem Src.draw {w : World} {p : Nat} {A : Option Addr} {n c : Nat} {seed : List UInt8} {d : Nat} (h : Src w p A n c seed d) : Src (w.setCell ⟨p, 1, none⟩ (.int .i64 ((d : Int) + 1))) p A n c seed (d + 1) :=
  ⟨h.1.set 1 _, h.2.1.keepB (fun b o e => Below.heap_setCell w _ _ b (h.2.2 b o e)), h.2.2⟩

set_option maxRecDepth 100000 in
theorem draw_any (p : Nat) (A : Option Addr) (n c : Nat) (seed : List UInt8) (d : Nat) (w : World) (h : Src w p A n c seed d) (hn : n ≤ 50000) (hd : d < 100) (hK : ShaK w) (hp : p ≠ 1) :
    Calls Tryz.prog 55 #[.pointer (some ⟨p, 0, none⟩)] w (RetRd (w.setCell ⟨p, 1, none⟩ (.int .i64 ((d : Int) + 1))) (drawL seed d)) := by
  have c0 : w.cell? ⟨p, 0, none⟩ = some (.slice A n c) := by rw [h.1.cell]; rfl
  have c1 : w.cell? ⟨p, 1, none⟩ = some (.int .i64 d) := by rw [h.1.cell]; rfl
  have f1 := h.1.free 1
  obtain ⟨W, hW⟩ : ∃ W, W = w.setCell ⟨p, 1, none⟩ (.int .i64 ((d : Int) + 1)) := ⟨_, rfl⟩
  have hS : Src W p A n c seed (d + 1) := by rw [hW]; exact h.draw
  have hKW : ShaK W := by
    have e : W.heap[1]? = w.heap[1]? := by rw [hW]; exact Below.heap_setCell w _ _ 1 (fun e => hp e.symm)
    unfold ShaK Lib.TabIs World.var? at *
    rw [show Tryz.prog.globalNamed "oubliette/sha.k" = some 1 by kernel_rfl] at hK ⊢
    simp only [Option.bind_some] at hK ⊢
    rw [e]; exact hK
  have d0 : W.cell? ⟨p, 0, none⟩ = some (.slice A n c) := by rw [hS.1.cell]; rfl
  have d1 : W.cell? ⟨p, 1, none⟩ = some (.int .i64 ((d : Int) + 1)) := by rw [hS.1.cell]; rfl
  have HS := Lib.hid hS; have HK := Lib.hid hKW; clear hS hKW h hK
  rw [← hW]
  have HW := Lib.hid hW; clear hW
  go_enter Tryz.func55, Tryz.ntmps55
  go_wp2_with fail
  rw [← HW.out]
  clear c0 c1 f1
  go_still_tail 9, (by kernel_rfl)
  change wpList _ _ _ _ _ W.drew
  go_wp2_with (go_at_call 87; refine (at_small A n c seed d _ (by exact HS.out.2.1.mono (Below.refl _ _).drew) hn hd (by exact HK.out.mono (Below.refl _ _).drew)).mono ?_; rintro e w2 ⟨A2, c2, rfl, s2, b2⟩; have B2 : Hid (Below W.heap.size W w2) := ((Below.refl W.heap.size W).drew).trans b2; have S2 := Lib.hid s2; clear s2 b2)
  go_ret
  exact ⟨A2, c2, rfl, S2.out, B2.out⟩
end Go.Proofs.YtcfbbgbjlgonpaaGreatDoor
namespace Go.Proofs.YtcfbbgbjlgonpaaGreatDoor
open Go.RowKit Go.Lib
set_option linter.unusedVariables false

def RetSrc (w : World) (seed : List UInt8) (d : Nat) (e : Ending) (w' : World) : Prop :=
  ∃ p A c, e = .returned (.pointer (some ⟨p, 0, none⟩)) ∧ Src w' p A seed.length c seed d ∧ Below w.heap.size w w' ∧ w.heap.size ≤ p ∧ p ≠ 1 ∧ (∀ b o, A = some ⟨b, o, none⟩ → w.heap.size ≤ b)
theorem src_new {w w1 : World} {seed : List UInt8} {A : Option Addr} {k : Nat} (d : Int) (D : Nat) (hd : d = D) (hz : 1 < w.heap.size) (h : Own w w1 5 1 (.slice A seed.length k) seed.length (seed.map u8c)) :
    RetSrc w seed D (.returned (.pointer (some ⟨w1.heap.size, 0, none⟩))) (w1.alloc (.cells #[.slice A seed.length k, .int .i64 d] 108)) := by
  subst hd
  obtain ⟨A', k', e, sl⟩ := h.slice
  cases e
  have hb := (Below.refl w1.heap.size w1).alloc (Nat.le_refl _) (.cells #[.slice A seed.length k, .int .i64 (D : Int)] 108)
  have hs := h.below.size
  refine ⟨w1.heap.size, A, k, rfl, ⟨Blk.new w1 _ _, sl.mono hb, ?_⟩, below_both h.below hb, hs, by omega, ?_⟩
  · intro b o e; subst e; have := (h.1.lt b rfl).2; omega
  · intro b o e; subst e; exact (h.1.lt b rfl).1
theorem new_any (A : Option Addr) (n c : Nat) (seed : List UInt8) (w : World) (h : Bs w A n c seed) (hn : n ≤ 1000) (hz : 1 < w.heap.size) :
    Calls Tryz.prog 42 #[.slice A n c] w (RetSrc w seed 0) := by
  have HH := Lib.hid h; clear h
  go_enter Tryz.func42, Tryz.ntmps42
  go_wp2_with (go_at_call 77; refine (clone_any A n c seed _ HH.out (by omega)).mono ?_; rintro e w1 ⟨v1, rfl, own1⟩; obtain ⟨A1, k1, rfl, sl1⟩ := own1.slice; have O1 := Lib.hid own1; clear own1 sl1)
  go_ret
  exact src_new 0 0 rfl hz O1.out
end Go.Proofs.YtcfbbgbjlgonpaaGreatDoor

namespace Go.Proofs.YtcfbbgbjlgonpaaGreatDoor
open Go.RowKit
set_option linter.unusedVariables false

/-! ### a real suite -/
/-- A suite with a source lies at block g. -/
def RealS (w : World) (g : Nat) : Prop := ∃ q, w.cell? ⟨g, 2, none⟩ = some (.pointer (some q))
theorem RealS.mono {w w' : World} {g : Nat} (h : RealS w g) (hb : Below w.heap.size w w') : RealS w' g := by
  obtain ⟨q, h⟩ := h
  exact ⟨q, (hb.cell (World.block_lt_of_cell? w _ h)).trans h⟩
theorem realNil_any (w : World) (hz : 1 < w.heap.size) :
    Calls Tryz.prog 17 #[.slice none 0 0] w fun e w' => ∃ g, e = .returned (.pointer (some ⟨g, 0, none⟩)) ∧ RealS w' g ∧ Below w.heap.size w w' ∧ w.heap.size ≤ g := by
  go_enter Tryz.func17, Tryz.ntmps17
  go_wp2_with fail
  refine (new_any none 0 0 [] w (Sl.nil _ _) (by omega) hz).mono ?_
  rintro e w1 ⟨p, A1, c1, rfl, s1, b1, g1, n1, q1⟩
  have B1 := Lib.hid b1; clear s1 b1 g1 n1 q1
  go_wp2_with fail
  go_ret
  refine ⟨w1.heap.size, rfl, ⟨⟨p, 0, none⟩, ?_⟩, B1.out.alloc B1.out.size _, B1.out.size⟩
  rw [(Blk.new w1 _ _).cell]
  rfl
theorem none_any (g : Nat) (w : World) (h : RealS w g) : Calls Tryz.prog 32 #[.pointer (some ⟨g, 0, none⟩)] w fun e w' => e = .returned (.bool false) ∧ w = w' := by
  obtain ⟨q, h⟩ := h
  go_enter Tryz.func32, Tryz.ntmps32
  go_wp2_with fail
  go_ret
  exact ⟨rfl, rfl⟩
theorem real_any (g : Nat) (w : World) (h : RealS w g) : Calls Tryz.prog 43 #[.pointer (some ⟨g, 0, none⟩)] w fun e w' => e = .returned (.bool true) ∧ w = w' := by
  obtain ⟨q, h⟩ := h
  go_enter Tryz.func43, Tryz.ntmps43
  go_wp2_with fail
  go_ret
  exact ⟨rfl, rfl⟩
theorem sDeriveO_any (g : Nat) (A : Option Addr) (n c : Nat) (k s : List UInt8) (w : World) (hr : RealS w g) (hk : Bs w A n c k) (hn : n ≤ 50000) (hs : s.length ≤ 5000) (hK : ShaK w) :
    Calls Tryz.prog 23 #[.pointer (some ⟨g, 0, none⟩), .slice A n c, .string ⟨s.toArray⟩] w (RetRo w (deriveL k s)) := by
  have HR := Lib.hid hr; have HB := Lib.hid hk; have HK := Lib.hid hK; clear hr hk hK
  go_enter Tryz.func23, Tryz.ntmps23
  go_wp2_with (first
    | (go_at_call 32; refine (none_any g _ HR.out).mono ?_; rintro e w1 ⟨rfl, rfl⟩)
    | (go_at_call 43; refine (real_any g _ HR.out).mono ?_; rintro e w1 ⟨rfl, rfl⟩)
    | (go_at_call 57; refine (deriveO_any A n c k s _ HB.out hn hs HK.out).mono ?_; rintro e w2 ⟨A2, c2, k2, rfl, s2, b2⟩; have S2 := Lib.hid s2; have B2 := Lib.hid b2; clear s2 b2))
  go_ret
  exact ⟨A2, c2, k2, rfl, S2.out, B2.out⟩
theorem sDerive_any (g : Nat) (A : Option Addr) (n c : Nat) (k s : List UInt8) (w : World) (hr : RealS w g) (hk : Bs w A n c k) (hn : n ≤ 50000) (hs : s.length ≤ 5000) (hK : ShaK w) :
    Calls Tryz.prog 23 #[.pointer (some ⟨g, 0, none⟩), .slice A n c, .string ⟨s.toArray⟩] w (RetRd w (deriveL k s)) := (sDeriveO_any g A n c k s w hr hk hn hs hK).mono (by
  rintro e w' ⟨A', c', k', rfl, h1, h2⟩
  exact ⟨A', c', rfl, h1, h2.below⟩)
/-! ### Start, Drop -/
def FreshA (w : World) (A : Option Addr) : Prop := ∀ b o, A = some ⟨b, o, none⟩ → w.heap.size ≤ b
theorem chOne (g : Int) (A B : Option Addr) (n c m d : Nat) : (#[.int .i64 g, .slice A n c, .slice B m d] : Array Value).all (·.oneCell') = true := by simp [Value.oneCell']
end Go.Proofs.YtcfbbgbjlgonpaaGreatDoor
