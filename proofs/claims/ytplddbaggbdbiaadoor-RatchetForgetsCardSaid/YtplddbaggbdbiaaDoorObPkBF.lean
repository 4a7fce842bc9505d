/- Own texts of this claim, one behind the other. No condition. -/
import Derived.Test.YtplddbaggbdbiaaDoorObPkBE
import Derived.Deep.DeepMust

namespace Go.Proofs.YtplddbaggbdbiaaDoor
open Go.RowKit
set_option linter.unusedVariables false

/-- The place of a gen among (gen, key). -/
def idxP (g : Int) (K : List (Int × List UInt8)) : Int := match K.findIdx? (fun x => x.1 == g) with
  | some k => k
  | none => -1
theorem idxK_kk (g : Int) (M : List Wr) : idxK g M = idxP g (M.map Wr.kk) := by
  unfold idxK idxP
  rw [List.findIdx?_map]
  rfl
theorem zeros_bs (W : World) : Bs (W.alloc (.cells (reps 32 (.int .u8 0)).toArray 5)) (some ⟨W.heap.size, 0, none⟩) 32 32 (List.replicate 32 0) := by
  refine ⟨by simp, Nat.le_refl _, by simp [maxLen], fun _ => ⟨_, _, rfl, fun j u hu => ?_⟩⟩
  rw [Nat.zero_add, (Blk.new W _ _).cell, ← hu]
  simp [reps, u8c]
theorem step_store_ch {ops : Array Oper} {o : Oper} {a : Act} {w : World} {K : Act → World → Prop} {Q : Exit → Act → World → Prop} {E : Prop} (hgd : o.guard = none) (x y : Operand) (ho : o.op = .store 41 x y)
    (g : Nat) (i : Int) (A B : Option Addr) (n c m d : Nat) (hx : a.eval x = .pointer (some ⟨g, 0, none⟩)) (hy : a.eval y = .agg #[.int .i64 i, .slice A n c, .slice B m d]) {old0 old1 old2 : Value} (hg : Blk w g 41 [old0, old1, old2])
    (h : ∀ W, Blk W g 41 [.int .i64 i, .slice A n c, .slice B m d] → (∀ b, b ≠ g → W.heap[b]? = w.heap[b]?) → (∀ (X : World) N, Below N X w → N ≤ g → Below N X W) → K (a.put o.dst undef) W) :
    if Region.wanted o (yielded ops a.tmps) = true then Oper.wp Tryd.prog o a w K Q else E := by
  have hw : Region.wanted o (yielded ops a.tmps) = true := by simp [Region.wanted, hgd]
  rw [if_pos hw]
  exact wp_store_row 41 x y ho g _ hx hy 41 #[old0, old1, old2] hg chSize rfl (chOne _ _ _ _ _ _ _) (h _ (setRow_heap w g _ _ _ _ hg) (fun b hb => setRow_other w g b _ hb) (fun X N hb hN => below_row hb hN _))
theorem zeros_bs2 (W : World) (o : Obj) : Bs ((W.alloc o).alloc (.cells (reps 32 (.int .u8 0)).toArray 5)) (some ⟨W.heap.size + 1, 0, none⟩) 32 32 (List.replicate 32 0) := by
  have h := zeros_bs (W.alloc o)
  rw [show (W.alloc o).heap.size = W.heap.size + 1 by simp] at h
  exact h
theorem alive_K (Z : List UInt8) : ((([] : List Wr).map Wr.kk ++ skipsL 0 Z 2).drop (0 + 2 - (4 : Int).toNat)) = [(0, deriveL (chainL Z 0) keyS), (1, deriveL (chainL Z 1) keyS)] := by
  show skipsL 0 Z 2 = _
  rw [skipsL_snoc, skipsL_snoc]
  rfl
theorem alive_has (M : List Wr) (x y : List UInt8) (h : M.map Wr.kk = [(0, x), (1, y)]) : hasK 3 M 0 = true ∧ hasK 3 M 2 = false ∧ M.length = 2 := by
  refine ⟨?_, ?_, by simpa using congrArg List.length h⟩
  · unfold hasK; rw [idxK_kk, h]; simp [idxP, List.findIdx?_cons]
  · unfold hasK; rw [idxK_kk, h]; simp [idxP, List.findIdx?_cons]
def AliveMid (w : World) (Z : List UInt8) (v2 v3 : Value) (W : World) : Prop :=
  ∃ p A n c B d M, v2 = .pointer (some ⟨p, 0, none⟩) ∧ v3 = .int .i64 0 ∧ Blk W p 41 [.int .i64 3, .slice A n c, .slice B M.length d] ∧ Wrs W B M.length d M ∧ M.map Wr.kk = ((([] : List Wr).map Wr.kk ++ skipsL 0 Z 2).drop (0 + 2 - (4 : Int).toNat)) ∧ Below w.heap.size w W
set_option maxRecDepth 100000 in
set_option maxHeartbeats 4000000 in
theorem alive33 (w : World) (hK : ShaK w) : Calls Tryd.prog 10 #[] w fun e w' => e = .returned (.bool true) ∧ Below w.heap.size w w' := by
  have hz := hK.lt
  have HK := Lib.hid hK; clear hK
  have hmk : ∀ W : World, (Instr.makeSlice 31 (.int .i64 32) (.int .i64 32)).run Tryd.prog W = .ok (.slice (some ⟨W.heap.size, 0, none⟩) 32 32) (W.alloc (.cells (reps 32 (.int .u8 0)).toArray 5)) := fun W => run_mk tBytes rfl 32 (by omega) W
  have ZB := Lib.hid zeros_bs; have ZB2 := Lib.hid zeros_bs2
  have AL : Hid (∀ (W : World) o, Below W.heap.size W (W.alloc o)) := fun W o => (Below.refl _ _).alloc (Nat.le_refl _) _
  have BD : Hid (Below w.heap.size w w.drew) := (Below.refl _ _).drew
  have RN : Hid (∀ W : World, 3 < W.heap.size → Calls Tryd.prog 29 #[.slice none 0 0] W fun e w' => ∃ g, e = .returned (.pointer (some ⟨g, 0, none⟩)) ∧ RealS w' g ∧ Below W.heap.size W w' ∧ W.heap.size ≤ g) := realNil_any
  generalize hzz : List.replicate 32 (0 : UInt8) = Z at *
  have hZl : Z.length = 32 := by rw [← hzz]; simp
  have HZL := Lib.hid hZl; clear hzz hZl
  have N1 : Hid (∀ W : World, Blk (W.alloc (.cells #[.int .i64 0, .slice none 0 0, .slice none 0 0] 41)) W.heap.size 41 [.int .i64 0, .slice none 0 0, .slice none 0 0]) := fun W => Blk.new W _ _
  have N2 : Hid (∀ (W : World) o, Blk ((W.alloc o).alloc (.cells #[.int .i64 0, .slice none 0 0, .slice none 0 0] 41)) (W.heap.size + 1) 41 [.int .i64 0, .slice none 0 0, .slice none 0 0]) := fun W o => heap_alloc2_new W _ _
  have N3 : Hid (∀ (W : World) o, Blk ((W.alloc (.cells #[.int .i64 0, .slice none 0 0, .slice none 0 0] 41)).alloc o) W.heap.size 41 [.int .i64 0, .slice none 0 0, .slice none 0 0]) := fun W o => (Blk.new W 41 #[.int .i64 0, .slice none 0 0, .slice none 0 0]).alloc _
  go_enter Tryd.func10, Tryd.ntmps10
  go_upto_region 1 with fail
  go_cut [2, 3] (fun v2 v3 wx => AliveMid w Z v2 v3 wx)
  case first =>
    go_region_law (first
      | (go_simp; go_at_call 29; refine (RN.out _ (by first | exact hz | (simp; omega))).mono ?_; rintro e w2 ⟨gs, rfl, r2, b2, g2⟩; have R2 := Lib.hid r2; have B2 := Lib.hid b2; have BW2 : Hid (Below w.heap.size w w2) := (by first | exact below_both BD.out B2.out | exact below_both (AL.out w _).drew B2.out | exact below_both (below_both (AL.out w _) (AL.out _ _)).drew B2.out); clear r2 b2 g2)
      | (go_simp; go_at_call 12; refine (start_any _ 32 32 Z _ (by first | exact ZB.out _ | exact ZB2.out _ _ | exact ((ZB2.out w _).mono (Below.refl _ _).drew).mono B2.out | exact (ZB.out _).mono (AL.out _ _) | exact ((ZB.out w).mono (Below.refl _ _).drew).mono B2.out | exact (((ZB.out w).mono (AL.out _ _)).mono (Below.refl _ _).drew).mono B2.out | exact (((ZB.out w).mono (Below.refl _ _).drew).mono B2.out).mono (AL.out _ _)) (by omega)).mono ?_; rintro e w3 ⟨A3, c3, v3, M3, rfl, s3, o3, f3, k3, fa3, b3⟩; obtain ⟨B3, d3, rfl, wr3⟩ := o3.wrs; have B3' := Lib.hid b3; have R3 : Hid (RealS w3 gs) := (by first | exact R2.out.mono b3 | exact (R2.out.mono (AL.out _ _)).mono b3 | exact ((R2.out.mono (AL.out _ _)).mono (AL.out _ _)).mono b3); have BW3 : Hid (Below w.heap.size w w3) := (by first | exact below_both BW2.out b3 | exact below_both (below_both BW2.out (AL.out _ _)) b3 | exact below_both (below_both (below_both BW2.out (AL.out _ _)) (AL.out _ _)) b3); have S3 := Lib.hid s3; have W3 := Lib.hid wr3; have hM3 : M3 = [] := List.map_eq_nil_iff.1 k3; subst hM3; rw [HZL.out] at S3; rw [HZL.out]; clear s3 wr3 o3 f3 k3 b3 fa3)
      | (go_simp; go_at_call 14; refine (atStep_any gs 0 A3 B3 32 c3 0 d3 Z [] 2 4 2 _ (by first | exact R3.out | exact R3.out.mono (AL.out _ _)) (by first | exact S3.out | exact S3.out.mono (AL.out _ _)) (by omega) (by first | exact W3.out | exact W3.out.mono (AL.out _ _)) (by omega) (fun x hx => by cases hx) (by omega) (by omega) (by omega) (by omega) (by omega) (by omega) (by first | exact HK.out.mono BW3.out | exact (HK.out.mono BW3.out).mono (AL.out _ _))).mono ?_; rintro e w4 ⟨A4, c4, A5, c5, v5, M5, rfl, s4, s5, o5, f5, k5, fa5, b5⟩; obtain ⟨B5, d5, rfl, wr5⟩ := o5.wrs; have B4' := Lib.hid b5; have W5 := Lib.hid wr5; have K5 := Lib.hid k5; have BW4 : Hid (Below w.heap.size w w4) := (by first | exact below_both BW3.out b5 | exact below_both (below_both BW3.out (AL.out _ _)) b5); (first | (have bkp := N1.out w3; have bka := bkp.mono b5; have HNE : Hid (∀ b o, B5 = some ⟨b, o, none⟩ → b ≠ w3.heap.size) := (fun b o e => Nat.ne_of_gt (Nat.lt_of_lt_of_le bkp.lt (o5.1.1.lt b (by rw [e]; rfl)).1)); have HPW : Hid (w.heap.size ≤ w3.heap.size) := (by have := BW2.out.size; have := BW3.out.size; show _ ≤ _; omega); have BKA := Lib.hid bka; have z0 : w4.cell? _ = some (.int .i64 0) := (bka.cell 0).trans rfl; have z1 : w4.cell? _ = some (.slice none 0 0) := (bka.cell 1).trans rfl; have z2 : w4.cell? _ = some (.slice none 0 0) := (bka.cell 2).trans rfl; have y0 := bka.free 0; have y1 := bka.free 1; have y2 := bka.free 2; clear bka bkp) | (have bkp := (N1.out w2).mono B3'.out; have bka := bkp.mono b5; have HNE : Hid (∀ b o, B5 = some ⟨b, o, none⟩ → b ≠ w2.heap.size) := (fun b o e => Nat.ne_of_gt (Nat.lt_of_lt_of_le bkp.lt (o5.1.1.lt b (by rw [e]; rfl)).1)); have HPW : Hid (w.heap.size ≤ w2.heap.size) := (by have := BW2.out.size; have := BW3.out.size; show _ ≤ _; omega); have BKA := Lib.hid bka; have z0 : w4.cell? _ = some (.int .i64 0) := (bka.cell 0).trans rfl; have z1 : w4.cell? _ = some (.slice none 0 0) := (bka.cell 1).trans rfl; have z2 : w4.cell? _ = some (.slice none 0 0) := (bka.cell 2).trans rfl; have y0 := bka.free 0; have y1 := bka.free 1; have y2 := bka.free 2; clear bka bkp) | (have bkp := (N2.out w2 _).mono B3'.out; have bka := bkp.mono b5; have HNE : Hid (∀ b o, B5 = some ⟨b, o, none⟩ → b ≠ w2.heap.size + 1) := (fun b o e => Nat.ne_of_gt (Nat.lt_of_lt_of_le bkp.lt (o5.1.1.lt b (by rw [e]; rfl)).1)); have HPW : Hid (w.heap.size ≤ w2.heap.size + 1) := (by have := BW2.out.size; have := BW3.out.size; show _ ≤ _; omega); have BKA := Lib.hid bka; have z0 : w4.cell? _ = some (.int .i64 0) := (bka.cell 0).trans rfl; have z1 : w4.cell? _ = some (.slice none 0 0) := (bka.cell 1).trans rfl; have z2 : w4.cell? _ = some (.slice none 0 0) := (bka.cell 2).trans rfl; have y0 := bka.free 0; have y1 := bka.free 1; have y2 := bka.free 2; clear bka bkp) | (have bkp := (N3.out w2 _).mono B3'.out; have bka := bkp.mono b5; have HNE : Hid (∀ b o, B5 = some ⟨b, o, none⟩ → b ≠ w2.heap.size) := (fun b o e => Nat.ne_of_gt (Nat.lt_of_lt_of_le bkp.lt (o5.1.1.lt b (by rw [e]; rfl)).1)); have HPW : Hid (w.heap.size ≤ w2.heap.size) := (by have := BW2.out.size; have := BW3.out.size; show _ ≤ _; omega); have BKA := Lib.hid bka; have z0 : w4.cell? _ = some (.int .i64 0) := (bka.cell 0).trans rfl; have z1 : w4.cell? _ = some (.slice none 0 0) := (bka.cell 1).trans rfl; have z2 : w4.cell? _ = some (.slice none 0 0) := (bka.cell 2).trans rfl; have y0 := bka.free 0; have y1 := bka.free 1; have y2 := bka.free 2; clear bka bkp) | (have bkp := (((N1.out w).mono (Below.refl _ _).drew).mono B2.out).mono B3'.out; have bka := bkp.mono b5; have HNE : Hid (∀ b o, B5 = some ⟨b, o, none⟩ → b ≠ w.heap.size) := (fun b o e => Nat.ne_of_gt (Nat.lt_of_lt_of_le bkp.lt (o5.1.1.lt b (by rw [e]; rfl)).1)); have HPW : Hid (w.heap.size ≤ w.heap.size) := (by have := BW2.out.size; have := BW3.out.size; show _ ≤ _; omega); have BKA := Lib.hid bka; have z0 : w4.cell? _ = some (.int .i64 0) := (bka.cell 0).trans rfl; have z1 : w4.cell? _ = some (.slice none 0 0) := (bka.cell 1).trans rfl; have z2 : w4.cell? _ = some (.slice none 0 0) := (bka.cell 2).trans rfl; have y0 := bka.free 0; have y1 := bka.free 1; have y2 := bka.free 2; clear bka bkp) | (have bkp := (((N2.out w _).mono (Below.refl _ _).drew).mono B2.out).mono B3'.out; have bka := bkp.mono b5; have HNE : Hid (∀ b o, B5 = some ⟨b, o, none⟩ → b ≠ w.heap.size + 1) := (fun b o e => Nat.ne_of_gt (Nat.lt_of_lt_of_le bkp.lt (o5.1.1.lt b (by rw [e]; rfl)).1)); have HPW : Hid (w.heap.size ≤ w.heap.size + 1) := (by have := BW2.out.size; have := BW3.out.size; show _ ≤ _; omega); have BKA := Lib.hid bka; have z0 : w4.cell? _ = some (.int .i64 0) := (bka.cell 0).trans rfl; have z1 : w4.cell? _ = some (.slice none 0 0) := (bka.cell 1).trans rfl; have z2 : w4.cell? _ = some (.slice none 0 0) := (bka.cell 2).trans rfl; have y0 := bka.free 0; have y1 := bka.free 1; have y2 := bka.free 2; clear bka bkp) | (have bkp := (((N3.out w _).mono (Below.refl _ _).drew).mono B2.out).mono B3'.out; have bka := bkp.mono b5; have HNE : Hid (∀ b o, B5 = some ⟨b, o, none⟩ → b ≠ w.heap.size) := (fun b o e => Nat.ne_of_gt (Nat.lt_of_lt_of_le bkp.lt (o5.1.1.lt b (by rw [e]; rfl)).1)); have HPW : Hid (w.heap.size ≤ w.heap.size) := (by have := BW2.out.size; have := BW3.out.size; show _ ≤ _; omega); have BKA := Lib.hid bka; have z0 : w4.cell? _ = some (.int .i64 0) := (bka.cell 0).trans rfl; have z1 : w4.cell? _ = some (.slice none 0 0) := (bka.cell 1).trans rfl; have z2 : w4.cell? _ = some (.slice none 0 0) := (bka.cell 2).trans rfl; have y0 := bka.free 0; have y1 := bka.free 1; have y2 := bka.free 2; clear bka bkp) | (have bkp := ((((N1.out w).mono (Below.refl _ _).drew).mono B2.out).alloc _).mono B3'.out; have bka := bkp.mono b5; have HNE : Hid (∀ b o, B5 = some ⟨b, o, none⟩ → b ≠ w.heap.size) := (fun b o e => Nat.ne_of_gt (Nat.lt_of_lt_of_le bkp.lt (o5.1.1.lt b (by rw [e]; rfl)).1)); have HPW : Hid (w.heap.size ≤ w.heap.size) := (by have := BW2.out.size; have := BW3.out.size; show _ ≤ _; omega); have BKA := Lib.hid bka; have z0 : w4.cell? _ = some (.int .i64 0) := (bka.cell 0).trans rfl; have z1 : w4.cell? _ = some (.slice none 0 0) := (bka.cell 1).trans rfl; have z2 : w4.cell? _ = some (.slice none 0 0) := (bka.cell 2).trans rfl; have y0 := bka.free 0; have y1 := bka.free 1; have y2 := bka.free 2; clear bka bkp) | skip); clear s4 s5 wr5 o5 f5 k5 b5 fa5))
    all_goals
      go_wp2_with fail
      go_meet
      case rel =>
        first
          | exact ⟨w4.heap.size, A5, _, c5, B5, d5, M5, rfl, rfl, Blk.new w4 _ _, W5.out.mono (AL.out _ _), K5.out, below_both BW4.out (AL.out _ _)⟩
          | exact ⟨_, A5, _, c5, B5, d5, M5, rfl, rfl, ((BKA.out.set 0 _).set 1 _).set 2 _, W5.out.keepC BKA.out (fun b hb => (Below.heap_setCell _ ⟨_, 2, none⟩ _ b hb).trans ((Below.heap_setCell _ ⟨_, 1, none⟩ _ b hb).trans (Below.heap_setCell _ ⟨_, 0, none⟩ _ b hb))) HNE.out, K5.out, ((BW4.out.setCell (p := ⟨_, 0, none⟩) HPW.out _).setCell (p := ⟨_, 1, none⟩) HPW.out _).setCell (p := ⟨_, 2, none⟩) HPW.out _⟩
  case rest =>
    obtain ⟨p, A, n, c, B, d, M, rfl, rfl, BK, WR, KK, BW⟩ := hcut
    rw [alive_K] at KK
    obtain ⟨h0, h2, hl⟩ := alive_has M _ _ KK
    have c0 : wc.cell? ⟨p, 0, none⟩ = some (.int .i64 3) := (BK.cell 0).trans rfl
    have c1 : wc.cell? ⟨p, 1, none⟩ = some (.slice A n c) := (BK.cell 1).trans rfl
    have c2 : wc.cell? ⟨p, 2, none⟩ = some (.slice B 2 d) := (BK.cell 2).trans (by rw [hl]; rfl)
    rw [hl] at WR
    have H0 := Lib.hid (has_any 3 A B n c 2 d M 0 wc WR)
    rw [h0] at H0
    have H2 : Hid (∀ W, Below wc.heap.size wc W → Calls Tryd.prog 30 #[.agg #[.int .i64 3, .slice A n c, .slice B 2 d], .int .i64 2] W fun e w' => e = .returned (.bool false) ∧ Below W.heap.size W w') := fun W hW => by have := has_any 3 A B n c 2 d M 2 W (WR.mono hW); rw [h2] at this; exact this
    have BKH := Lib.hid BK; have BWH := Lib.hid BW
    clear BK WR KK BW h0 h2 hl hmk
    go_wp2_with fail
    refine H0.out.mono ?_
    rintro e w5 ⟨rfl, b5⟩
    have B5 := Lib.hid b5
    have e0 : w5.cell? ⟨p, 0, none⟩ = some (.int .i64 3) := (b5.cell (World.block_lt_of_cell? wc _ c0)).trans c0
    have e1 : w5.cell? ⟨p, 1, none⟩ = some (.slice A n c) := (b5.cell (World.block_lt_of_cell? wc _ c1)).trans c1
    have e2 : w5.cell? ⟨p, 2, none⟩ = some (.slice B 2 d) := (b5.cell (World.block_lt_of_cell? wc _ c2)).trans c2
    clear b5 c0 c1 c2
    go_wp2_with fail
    refine (H2.out w5 B5.out).mono ?_
    rintro e w6 ⟨rfl, b6⟩
    have B6 := Lib.hid b6; clear b6 e0 e1 e2
    go_wp2_with fail
    go_ret
    exact ⟨rfl, below_both (below_both BWH.out B5.out) B6.out⟩
end Go.Proofs.YtplddbaggbdbiaaDoor
