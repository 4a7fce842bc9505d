import Derived.Test.YtbmijjodpdbbmaaDoorObDrawC
namespace Go.Proofs.YtbmijjodpdbbmaaDoor
open Go.RowKit Go.Lib
set_option linter.unusedVariables false

/-- A row of bytes never lies in a source's block. -/
theorem bs_far {w : World} {A : Option Addr} {n c : Nat} {l : List UInt8} {p : Nat} {t : TypeId} {B : Option Addr} {m k : Nat} {d : Int} (h : Bs w A n c l) (hn : 0 < n) (hb : Blk w p t [.slice B m k, .int .i64 d]) :
    ∀ b o, A = some ⟨b, o, none⟩ → b ≠ p := by
  intro b o e hbp
  subst e; subst hbp
  obtain ⟨b', o', e, hc⟩ := h.addr hn
  cases e
  have h0 := hc 0 hn
  rw [hb.cell] at h0
  rcases o with _ | _ | o
  · simp at h0
  · simp at h0
  · simp at h0
/-- Only the source at p has turned. -/
def Only (p : Nat) (w w' : World) : Prop := ∃ x, Below w.heap.size (w.setCell ⟨p, 1, none⟩ x) w'
theorem Only.size {p : Nat} {w w' : World} (h : Only p w w') : w.heap.size ≤ w'.heap.size := by
  obtain ⟨x, h⟩ := h
  have := h.size
  simpa [World.setCell] using this
theorem Only.block {p : Nat} {w w' : World} (h : Only p w w') {b : Nat} (hb : b ≠ p) (hlt : b < w.heap.size) : w'.heap[b]? = w.heap[b]? := by
  obtain ⟨x, h⟩ := h
  exact (h.block b hlt).trans (Below.heap_setCell w _ _ b hb)
theorem Only.below {p : Nat} {w w' : World} (h : Only p w w') {B : Nat} {w0 : World} (hb : Below B w0 w) (hp : B ≤ p) (hB : B ≤ w.heap.size) : Below B w0 w' := by
  obtain ⟨x, h⟩ := h
  exact (hb.setCell (p := ⟨p, 1, none⟩) hp x).trans (h.mono hB)
theorem Only.bs {p : Nat} {w w' : World} (h : Only p w w') {A : Option Addr} {n c : Nat} {l : List UInt8} (hl : Bs w A n c l) (hp : 0 < n → ∀ b o, A = some ⟨b, o, none⟩ → b ≠ p) : Bs w' A n c l := by
  obtain ⟨x, h⟩ := h
  rcases Nat.eq_zero_or_pos n with h0 | h0
  · exact ⟨hl.1, hl.2.1, hl.2.2.1, fun h => absurd h (by omega)⟩
  have hp := hp h0
  refine Sl.mono (w := w.setCell ⟨p, 1, none⟩ x) (Sl.keepB hl fun b o e => Below.heap_setCell w _ _ b (hp b o e)) ?_
  simpa [World.setCell] using h
theorem Only.src {p q : Nat} {w w' : World} (h : Only p w w') {A : Option Addr} {n c d : Nat} {l : List UInt8} (hs : Src w q A n c l d) (hq : q ≠ p) (hp : 0 < n → ∀ b o, A = some ⟨b, o, none⟩ → b ≠ p) : Src w' q A n c l d :=
  ⟨(h.block hq hs.1.lt).trans hs.1, h.bs hs.2.1 hp, hs.2.2⟩
theorem ShaK.only {p : Nat} {w w' : World} (h : ShaK w) (ho : Only p w w') (hp : p ≠ 4) : ShaK w' := by
  have e := ho.block (b := 4) (fun e => hp e.symm) h.lt
  unfold ShaK Lib.TabIs World.var? at *
  rw [show Tryd.prog.globalNamed "oubliette/sha.k" = some 4 by kernel_rfl] at h ⊢
  simp only [Option.bind_some] at h ⊢
  rw [e]; exact h
/-- A draw: its row, the source then, and what has turned. -/
theorem draw_step (p : Nat) (A : Option Addr) (n c : Nat) (seed : List UInt8) (d : Nat) (w : World) (h : Src w p A n c seed d) (hn : n ≤ 50000) (hd : d < 100) (hK : ShaK w) (hp : p ≠ 4) :
    Calls Tryd.prog 38 #[.pointer (some ⟨p, 0, none⟩)] w fun e w' => ∃ A' c', e = .returned (.slice A' 32 c') ∧ Bs w' A' 32 c' (drawL seed d) ∧ Src w' p A n c seed (d + 1) ∧ Only p w w' := by
  refine (draw_any p A n c seed d w h hn hd hK hp).mono ?_
  rintro e w' ⟨A', c', rfl, s, b⟩
  rw [drawL_len] at s ⊢
  exact ⟨A', c', rfl, s, h.draw.mono b, _, by simpa [World.setCell] using b⟩

set_option maxRecDepth 100000 in
set_option maxHeartbeats 1000000 in
theorem alive14 (w : World) (hK : ShaK w) : Calls Tryd.prog 33 #[] w fun e w' => e = .returned (.bool true) ∧ Below w.heap.size w w' := by
  have hz := hK.lt
  have HK := Lib.hid hK; clear hK
  have ONE : Hid (∀ W : World, Bs (W.alloc (.cells #[.int .u8 1] 5)) (some ⟨W.heap.size, 0, none⟩) 1 1 [1]) := by
    intro W
    refine ⟨by simp, Nat.le_refl _, by simp [maxLen], fun _ => ⟨_, _, rfl, ?_⟩⟩
    intro j u hu
    rw [Nat.zero_add, (Blk.new W _ _).cell]
    exact hu
  have AL : Hid (∀ (W : World) o, Below W.heap.size W (W.alloc o)) := fun W o => (Below.refl _ _).alloc (Nat.le_refl _) _
  go_enter Tryd.func33, Tryd.ntmps33
  go_wp2_with fail
  refine (new_any _ 1 1 [1] _ (ONE.out w) (by omega) (by simp; omega)).mono ?_
  rintro e w1 ⟨pa, Aa, ca, rfl, sa, ba, ga, na, qa⟩
  have SA := Lib.hid sa; have QA := Lib.hid qa
  have BA : Hid (Below w.heap.size w w1) := below_both (AL.out w _) ba
  have GA : Hid (w.heap.size ≤ pa) := by have : _ ≤ _ := ga; simp at this; show _ ≤ _; omega
  have ZA : Hid (4 < w1.heap.size) := by have := BA.out.size; show _ < _; omega
  clear sa ba ga qa
  go_wp2_with fail
  refine (new_any _ 1 1 [1] _ (ONE.out w1) (by omega) (by have := ZA.out; simp; omega)).mono ?_
  rintro e w2 ⟨pb, Ab, cb, rfl, sb, bb, gb, nb, qb⟩
  have SB := Lib.hid sb
  have BB : Hid (Below w1.heap.size w1 w2) := below_both (AL.out w1 _) bb
  have GB : Hid (w1.heap.size ≤ pb) := by have : _ ≤ _ := gb; simp at this; show _ ≤ _; omega
  have QB : Hid (∀ b o, Ab = some ⟨b, o, none⟩ → w1.heap.size ≤ b) := by intro b o e; have := qb b o e; simp at this; omega
  have SA2 : Hid (Src w2 pa Aa 1 ca [1] 0) := SA.out.mono BB.out
  have PL : Hid (pa < w1.heap.size) := SA.out.1.lt
  have HK2 : Hid (ShaK w2) := (HK.out.mono BA.out).mono BB.out
  have B2 : Hid (Below w.heap.size w w2) := below_both BA.out BB.out
  clear sb bb gb qb
  go_wp2_with fail
  refine (draw_step pa Aa 1 ca [1] 0 _ SA2.out (by omega) (by omega) HK2.out na).mono ?_
  rintro e w3 ⟨A3, c3, rfl, s3, r3, o3⟩
  have S3 := Lib.hid s3; have R3 := Lib.hid r3; have O3 := Lib.hid o3
  clear s3 r3 o3
  have SB3 : Hid (Src w3 pb Ab 1 cb [1] 0) := O3.out.src SB.out (by have := PL.out; have := GB.out; omega) (fun _ b o e => by have := QB.out b o e; have := PL.out; omega)
  have HK3 : Hid (ShaK w3) := HK2.out.only O3.out na
  have B3 : Hid (Below w.heap.size w w3) := O3.out.below B2.out GA.out B2.out.size
  go_wp2_with fail
  refine (draw_step pb Ab 1 cb [1] 0 _ SB3.out (by omega) (by omega) HK3.out nb).mono ?_
  rintro e w4 ⟨A4, c4, rfl, s4, r4, o4⟩
  have S4 := Lib.hid s4; have O4 := Lib.hid o4
  have S34 : Hid (Bs w4 A3 32 c3 (drawL [1] 0)) := O4.out.bs S3.out (fun _ => bs_far S3.out (by omega) SB3.out.1)
  have R4 : Hid (Src w4 pa Aa 1 ca [1] 1) := O4.out.src R3.out (by have := PL.out; have := GB.out; omega) (fun _ b o e => by
    subst e
    have h1 := SA.out.2.1
    have hb : b < w1.heap.size := by
      obtain ⟨b', o', e', hc⟩ := h1.addr (by simp)
      cases e'
      exact World.block_lt_of_cell? w1 _ (hc 0 (by simp))
    have := GB.out
    omega)
  have B4 : Hid (Below w.heap.size w w4) := O4.out.below B3.out (by have := GB.out; have := BA.out.size; omega) B3.out.size
  clear s4 r4 o4
  go_wp2_with fail
  refine (refSame_any A3 A4 32 32 c3 c4 _ _ _ S34.out S4.out).mono ?_
  rintro e w5 ⟨rfl, q, rfl⟩
  rw [beq_self_eq_true]
  go_wp2_with (go_at_call 40; refine (drawn_any pa Aa 1 ca [1] 1 _ (R4.out.mono (belowN (Below.refl _ _) q))).mono ?_; rintro e w6 ⟨rfl, rfl⟩)
  go_ret
  exact ⟨rfl, belowN B4.out q⟩
end Go.Proofs.YtbmijjodpdbbmaaDoor
