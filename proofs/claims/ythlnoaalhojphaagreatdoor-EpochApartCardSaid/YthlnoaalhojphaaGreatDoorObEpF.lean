/- Epochs: what must come at any rate. No condition. -/
import Derived.Test.YthlnoaalhojphaaGreatDoorObEpB
import Derived.Test.YthlnoaalhojphaaGreatDoorObGrow
import Derived.Deep.DeepMust
import Derived.Deep.DeepCutAuto
import Derived.Deep.RegionLaw
import Derived.WalkLawsBesides
import Derived.Outline
namespace Go.Proofs.YthlnoaalhojphaaGreatDoor
open Go.RowKit
set_option linter.unusedVariables false
theorem zeros34 (W : World) : Bs (W.alloc (.cells (reps 32 (.int .u8 0)).toArray 5)) (some ⟨W.heap.size, 0, none⟩) 32 32 (List.replicate 32 0) := by
  refine ⟨by simp, Nat.le_refl _, by simp [maxLen], fun _ => ⟨_, _, rfl, fun j u hu => ?_⟩⟩
  rw [Nat.zero_add, (Blk.new W _ _).cell, ← hu]
  simp [reps, u8c]
theorem set3_far {w : World} {g b o : Nat} {t : TypeId} {A B C : Option Addr} {n c m d k e : Nat} {u1 u2 u3 : Value} (h : Blk w g t [.slice A n c, .slice B m d, .slice C k e]) (hc : w.cell? ⟨b, o, none⟩ = some (.int .i64 0)) :
    (((w.setCell ⟨g, 0, none⟩ u1).setCell ⟨g, 1, none⟩ u2).setCell ⟨g, 2, none⟩ u3).cell? ⟨b, o, none⟩ = some (.int .i64 0) := by
  have hne : b ≠ g := by
    rintro rfl
    rw [h.cell o] at hc
    match o, hc with
    | 0, hc => injection hc with hc; cases hc
    | 1, hc => injection hc with hc; cases hc
    | 2, hc => injection hc with hc; cases hc
    | _ + 3, hc => cases hc
  rw [World.cell?_of_block (w := w) (a := ⟨b, o, none⟩) ((Below.heap_setCell _ ⟨g, 2, none⟩ _ b hne).trans ((Below.heap_setCell _ ⟨g, 1, none⟩ _ b hne).trans (Below.heap_setCell _ ⟨g, 0, none⟩ _ b hne)))]
  exact hc
theorem RealB.gr {w w' : World} {g : Nat} (h : RealB w g) (hg : Gr w w') : RealB w' g := by
  obtain ⟨x, y, q, h⟩ := h
  exact ⟨x, y, q, hg.blk h⟩
theorem realOne_any (p : Nat) (A : Option Addr) (c : Nat) (k : List UInt8) (w : World) (hR : RealB w p) (hK : ShaK w) (hk : Bs w A 32 c k) :
    Calls Tryz.prog 7 #[.pointer (some ⟨p, 0, none⟩), .slice A 32 c, .int .i64 1] w fun e w' => ∃ (Ae : Option Addr) (ce : Nat) (Ai : Option Addr) (ci b o cc : Nat), e = .returned (.tuple #[.agg #[.slice Ae 32 ce, .slice Ai 32 ci, .slice (some ⟨b, o, none⟩) 1 cc], .int .i64 0]) ∧ Gr w w' ∧ w'.cell? ⟨b, o, none⟩ = some (.int .i64 0) ∧ 1 ≤ cc := by
  refine (epFirst_any (w0 := w) (realSui w p hK) () 0 1 (.slice A 32 c) k (Nat.le_refl _) (by decide) ⟨hR, Below.refl _ _⟩ (Kp.arg hk) hk.len).mono ?_
  rintro e w' ⟨ve, vi, vc, M, rfl, ke, ki, ch, ml, st, fs⟩
  obtain ⟨Ae, ce, rfl⟩ := ke.sl (Sui.dvLen _ _ _ _)
  obtain ⟨Ai, ci, rfl⟩ := ki.sl (Sui.dvLen _ _ _ _)
  have hl : M.length = 1 := by
    have h := congrArg List.length ml
    rw [List.length_map] at h
    exact h
  have hg : Gr w w' := st.2
  obtain ⟨A', c', rfl, hs⟩ := (ch.cut hg.size).slice
  rw [hl] at hs
  obtain ⟨b, o, rfl, hc⟩ := hs.addr (by decide)
  refine ⟨Ae, ce, Ai, ci, b, o, c', by rw [hl], hg, ?_, hs.cap⟩
  refine hc 0 _ ?_
  match M, hl with
  | [x], _ => rfl
def Mid34 (w : World) (v1 v2 : Value) (wx : World) : Prop := ∃ (g : Nat) (A1 A2 : Option Addr) (c1 c2 b o cc : Nat), v1 = .pointer (some ⟨g, 0, none⟩) ∧ v2 = .int .i64 0 ∧ Blk wx g 30 [.slice A1 32 c1, .slice A2 32 c2, .slice (some ⟨b, o, none⟩) 1 cc] ∧ wx.cell? ⟨b, o, none⟩ = some (.int .i64 0) ∧ 1 ≤ cc ∧ Gr w wx
set_option maxRecDepth 100000 in
set_option maxHeartbeats 4000000 in
theorem alive34 (w : World) (hK : ShaK w) : Calls Tryz.prog 5 #[] w fun e w' => e = .returned (.bool true) ∧ Gr w w' := by
  have hz := hK.lt
  have HK := Lib.hid hK; clear hK
  have hmk : ∀ W : World, (Instr.makeSlice 22 (.int .i64 32) (.int .i64 32)).run Tryz.prog W = .ok (.slice (some ⟨W.heap.size, 0, none⟩) 32 32) (W.alloc (.cells (reps 32 (.int .u8 0)).toArray 5)) := fun W => run_mk tBytes rfl 32 (by omega) W
  have RN : Hid (∀ W : World, Gr w W → Calls Tryz.prog 6 #[.slice none 0 0] W fun e w' => ∃ g, e = .returned (.pointer (some ⟨g, 0, none⟩)) ∧ RealB w' g ∧ Below W.heap.size W w' ∧ W.heap.size ≤ g) := fun W hW => realB_any W (by have := hW.size; omega)
  have HL3 := Lib.hid (fun W => label_any 3 (by decide) W)
  have e3 : senderS 3 = [115, 101, 110, 100, 101, 114, 32, 51] := by unfold senderS; rw [dec_small 3 (by decide)]; rfl
  rw [e3] at HL3
  clear e3
  have ZB := Lib.hid zeros34
  have ZB2 : Hid (∀ (W : World) (o : Obj), Bs ((W.alloc o).alloc (.cells (reps 32 (.int .u8 0)).toArray 5)) (some ⟨W.heap.size + 1, 0, none⟩) 32 32 (List.replicate 32 0)) := fun W o => by
    have h := zeros34 (W.alloc o)
    rw [show (W.alloc o).heap.size = W.heap.size + 1 by simp] at h
    exact h
  have N1 : Hid (∀ W : World, Blk (W.alloc (.cells #[.slice none 0 0, .slice none 0 0, .slice none 0 0] 30)) W.heap.size 30 [.slice none 0 0, .slice none 0 0, .slice none 0 0]) := fun W => Blk.new W _ _
  have N2 : Hid (∀ (W : World) o, Blk ((W.alloc o).alloc (.cells #[.slice none 0 0, .slice none 0 0, .slice none 0 0] 30)) (W.heap.size + 1) 30 [.slice none 0 0, .slice none 0 0, .slice none 0 0]) := fun W o => heap_alloc2_new W _ _
  have N3 : Hid (∀ (W : World) o, Blk ((W.alloc (.cells #[.slice none 0 0, .slice none 0 0, .slice none 0 0] 30)).alloc o) W.heap.size 30 [.slice none 0 0, .slice none 0 0, .slice none 0 0]) := fun W o => (Blk.new W 30 #[.slice none 0 0, .slice none 0 0, .slice none 0 0]).alloc _
  go_enter Tryz.func5, Tryz.ntmps5
  go_upto_region 1 with fail
  go_cut [1, 2] (fun v1 v2 wx => Mid34 w v1 v2 wx)
  case first =>
    go_region_law (first
      | (go_simp; go_at_call 6; refine (RN.out _ (by first | exact Gr.drew _ | exact (Gr.alloc _ _).trans (Gr.drew _) | exact ((Gr.alloc _ _).trans (Gr.alloc _ _)).trans (Gr.drew _))).mono ?_; rintro e w2 ⟨gs, rfl, r2, b2, g2⟩; have R2 := Lib.hid r2; have B2 : Hid (Gr _ w2) := b2; have BW2 : Hid (Gr w w2) := (by first | exact (Gr.drew _).trans B2.out | exact ((Gr.alloc _ _).trans (Gr.drew _)).trans B2.out | exact (((Gr.alloc _ _).trans (Gr.alloc _ _)).trans (Gr.drew _)).trans B2.out); clear r2 b2 g2)
      | (go_simp; go_at_call 7; refine (realOne_any gs _ 32 (List.replicate 32 0) _ (by first | exact R2.out | exact R2.out.gr (Gr.alloc _ _) | exact (R2.out.gr (Gr.alloc _ _)).gr (Gr.alloc _ _)) (by first | exact HK.out.mono BW2.out | exact HK.out.mono (BW2.out.trans (Gr.alloc _ _)) | exact HK.out.mono (BW2.out.trans ((Gr.alloc _ _).trans (Gr.alloc _ _)))) (by first | exact ZB.out _ | exact ZB2.out _ _ | exact (ZB.out _).mono (Gr.alloc _ _) | exact ((ZB.out _).mono (Gr.drew _)).mono B2.out | exact (((ZB.out _).mono (Gr.drew _)).mono B2.out).mono (Gr.alloc _ _) | exact (((ZB.out _).mono (Gr.alloc _ _)).mono (Gr.drew _)).mono B2.out | exact ((ZB2.out _ _).mono (Gr.drew _)).mono B2.out)).mono ?_; rintro e w3 ⟨Ae, ce, Ai, ci, b, o, cc, rfl, g3, c3, l3⟩; have G3 : Hid (Gr _ w3) := g3; have BW3 : Hid (Gr w w3) := (by first | exact BW2.out.trans g3 | exact (BW2.out.trans (Gr.alloc _ _)).trans g3 | exact (BW2.out.trans ((Gr.alloc _ _).trans (Gr.alloc _ _))).trans g3); have C3 := Lib.hid c3; have L3 := Lib.hid l3;
          (first
            | have BK := Lib.hid (g3.blk (N1.out w2))
            | have BK := Lib.hid (g3.blk (N2.out w2 _))
            | have BK := Lib.hid (g3.blk (N3.out w2 _))
            | have BK := Lib.hid (g3.blk (B2.out.blk ((Gr.drew _).blk (N1.out w))))
            | have BK := Lib.hid (g3.blk (B2.out.blk ((Gr.drew _).blk (N2.out w _))))
            | have BK := Lib.hid (g3.blk (B2.out.blk ((Gr.drew _).blk (N3.out w _))))
            | have BK := Lib.hid (g3.blk ((Gr.alloc _ _).blk (B2.out.blk ((Gr.drew _).blk (N1.out w)))))
            | have BK : Hid True := trivial);
          (first
            | (have z0 := BK.out.cell 0; have z1 := BK.out.cell 1; have z2 := BK.out.cell 2; have y0 := BK.out.free 0; have y1 := BK.out.free 1; have y2 := BK.out.free 2)
            | skip); clear g3 c3 l3))
    all_goals
      go_wp2_with fail
      go_meet
      case rel =>
        have hz2 := BW2.out.size
        have hz3 := BW3.out.size
        first
          | exact ⟨w3.heap.size, Ae, Ai, ce, ci, b, o, cc, rfl, rfl, Blk.new w3 _ _, ((Gr.alloc w3 _).cell (World.block_lt_of_cell? w3 _ C3.out)).trans C3.out, L3.out, BW3.out.trans (Gr.alloc _ _)⟩
          | exact ⟨_, Ae, Ai, ce, ci, b, o, cc, rfl, rfl, ((BK.out.set 0 _).set 1 _).set 2 _, set3_far BK.out C3.out, L3.out, ((BW3.out.setCell (p := ⟨_, 0, none⟩) (by simp only; omega) _).setCell (p := ⟨_, 1, none⟩) (by simp only; omega) _).setCell (p := ⟨_, 2, none⟩) (by simp only; omega) _⟩
  case rest =>
    obtain ⟨g, A1, A2, c1, c2, b, o, cc, rfl, rfl, bk, ce, lc, bw⟩ := hcut
    have BW := Lib.hid bw
    have e2 : wc.cell? ⟨g, 2, none⟩ = some (.slice (some ⟨b, o, none⟩) 1 cc) := (bk.cell 2).trans rfl
    clear bk bw hmk
    go_wp2_with fail
    refine (HL3.out _).mono ?_
    rintro e w5 ⟨rfl, h5⟩
    obtain rfl : wc = w5 := h5
    go_wp2_with fail
    go_ret
    exact ⟨rfl, BW.out⟩
end Go.Proofs.YthlnoaalhojphaaGreatDoor
