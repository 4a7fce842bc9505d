/- Own texts of this claim, one behind the other. No condition. -/
import Derived.Test.YtplddbaggbdbiaaDoorObPkBJ

/- Chains: Step, with whatever suite. No condition. -/
namespace Go.Proofs.YtplddbaggbdbiaaDoor
open Go.RowKit
set_option linter.unusedVariables false
set_option linter.unusedSimpArgs false
/-- What the caller keeps: blocks ahead of B, of other cells than a table's. -/
def FN (B : Nat) (w w' : World) : Prop := ∀ g t cs, g < B → t ≠ 110 → t ≠ 20 → t ≠ 3 → Blk w g t cs → Blk w' g t cs
theorem FN.fs {B : Nat} {w w' : World} (h : FS w w') : FN B w w' := fun g t cs _ h1 h2 h3 hb => h g t cs h1 h2 h3 hb
theorem FN.below {B : Nat} {w w' : World} (h : Below B w w') : FN B w w' := fun g t cs hg _ _ _ hb => (h.block g hg).trans hb
theorem FN.gr {B : Nat} {w w' : World} (h : Gr w w') : FN B w w' := FN.fs (FS.gr h)
theorem FN.off {B p : Nat} {w w' : World} (hp : B ≤ p) (h : ∀ b, b < w.heap.size → b ≠ p → w'.heap[b]? = w.heap[b]?) : FN B w w' := fun g t cs hg _ _ _ hb => (h g hb.lt (by omega)).trans hb
theorem FN.trans {B : Nat} {a b c : World} (h : FN B a b) (k : FN B b c) : FN B a c := fun g t cs hg h1 h2 h3 hb => k g t cs hg h1 h2 h3 (h g t cs hg h1 h2 h3 hb)
theorem FN.toFs {w w' : World} (h : FN w.heap.size w w') : FS w w' := fun g t cs h1 h2 h3 hb => h g t cs hb.lt h1 h2 h3 hb
theorem FN.less {B B' : Nat} {w w' : World} (h : FN B w w') (hb : B' ≤ B) : FN B' w w' := fun g t cs hg h1 h2 h3 hk => h g t cs (by omega) h1 h2 h3 hk
theorem chain_kind {t : TypeId} (h : t = 41) : t ≠ 110 ∧ t ≠ 20 ∧ t ≠ 3 := by subst h; exact ⟨by decide, by decide, by decide⟩
theorem FS.ch {w w' : World} (h : FS w w') {g : Nat} {cs : List Value} (hb : Blk w g 41 cs) : Blk w' g 41 cs := h g _ cs (by decide) (by decide) (by decide) hb
section
variable {w0 : World} {p : Nat}
def keyD (S : Sui w0 p) (s : S.σ) (cur : List UInt8) : List UInt8 := (S.dv s cur keyS).2
def nextD (S : Sui w0 p) (s : S.σ) (cur : List UInt8) : S.σ × List UInt8 := S.dv (S.dv s cur keyS).1 cur nextS
/-- What a step ends in. -/
def RetSt (S : Sui w0 p) (w : World) (s : S.σ) (g : Int) (cur : List UInt8) (K : List (Int × List UInt8)) (mm : Nat) (e : Ending) (w' : World) : Prop :=
  ∃ A1 c1 A2 c2 A3 c3 M, e = .returned (.tuple #[.slice A1 32 c1, .agg #[.int .i64 (g + 1), .slice A2 32 c2, .slice A3 M.length c3]]) ∧ RowO w0 w' ⟨A1, 32, c1, keyD S s cur⟩ ∧ RowO w0 w' ⟨A2, 32, c2, (nextD S s cur).2⟩ ∧ OwnT w0 w' (.slice A3 M.length c3) M ∧ (∀ b, (Value.slice A3 M.length c3).ownBlock = some b → w.heap.size + 1 < b) ∧ M.map Wr.kk = K ∧ S.St w' (nextD S s cur).1 mm ∧ FS w w'
/-- Behind Step's second statement. -/
def StepM (S : Sui w0 p) (w : World) (s : S.σ) (g : Int) (cur : List UInt8) (K : List (Int × List UInt8)) (mm : Nat) (A1 : Option Addr) (c1 : Nat) (W : World) : Prop :=
  ∃ A2 c2 A3 c3 M, Blk W w.heap.size 41 [.int .i64 (g + 1), .slice A2 32 c2, .slice A3 M.length c3] ∧ Blk W (w.heap.size + 1) 41 [.int .i64 0, .slice none 0 0, .slice none 0 0] ∧ RowO w0 W ⟨A1, 32, c1, keyD S s cur⟩ ∧ RowO w0 W ⟨A2, 32, c2, (nextD S s cur).2⟩ ∧ OwnT w0 W (.slice A3 M.length c3) M ∧ (∀ b, (Value.slice A3 M.length c3).ownBlock = some b → w.heap.size + 1 < b) ∧ M.map Wr.kk = K ∧ S.St W (nextD S s cur).1 mm ∧ FN w.heap.size w W
set_option maxRecDepth 100000 in
set_option maxHeartbeats 4000000 in
theorem stepT_any (S : Sui w0 p) (s : S.σ) (mm : Nat) (p0 : Int) (A B : Option Addr) (n c d : Nat) (cur : List UInt8) (L : List Wr) (w : World) (hS : S.St w s (mm + 2)) (hcur : RowO w0 w ⟨A, n, c, cur⟩) (hn : n ≤ 100) (hL : OwnT w0 w (.slice B L.length d) L) (hm : L.length ≤ 1000) (hrow : ∀ x ∈ L, x.r.n ≤ 20000) (hp1 : -9223372036854775808 ≤ p0) (hp2 : p0 ≤ 2000000000000) :
    Calls Tryd.prog 41 #[.pointer (some ⟨p, 0, none⟩), .agg #[.int .i64 p0, .slice A n c, .slice B L.length d]] w (RetSt S w s p0 cur (L.map Wr.kk) mm) := by
  obtain ⟨W, hW⟩ : ∃ W, W = (w.alloc (.cells #[.int .i64 p0, .slice A n c, .slice B L.length d] 41)).alloc (.cells #[.int .i64 0, .slice none 0 0, .slice none 0 0] 41) := ⟨_, rfl⟩
  have hGW : Gr w W := by rw [hW]; exact (Gr.alloc _ _).trans (Gr.alloc _ _)
  have hb0 : Blk W w.heap.size 41 [.int .i64 p0, .slice A n c, .slice B L.length d] := by rw [hW]; exact (Blk.new w 41 #[.int .i64 p0, .slice A n c, .slice B L.length d]).alloc _
  have hb1 : Blk W (w.heap.size + 1) 41 [.int .i64 0, .slice none 0 0, .slice none 0 0] := by
    rw [hW]
    exact heap_alloc2_new w _ _
  have HLE : Hid (w0.heap.size ≤ w.heap.size) := (S.below hS).size
  have hSW := S.gr hS hGW
  have hcW := hcur.mono hGW
  have HD1 := Lib.hid (S.derive W s (mm + 1) A n c cur keyS hSW hcW.bs hn (by decide))
  have x1 : W.cell? ⟨w.heap.size, 1, none⟩ = some (.slice A n c) := (hb0.cell 1).trans rfl
  have HB0 := Lib.hid hb0; have HB1 := Lib.hid hb1; have HW := Lib.hid hW; have HCW := Lib.hid hcW; have HGW := Lib.hid hGW
  have HLW := Lib.hid (hL.mono hGW); have HRW := Lib.hid hrow
  clear hcur hL hb0 hb1 hW hrow hS hSW hcW hGW
  go_enter Tryd.func41, Tryd.ntmps41
  go_wp2_with fail
  rw [← HW.out]
  refine HD1.out.mono ?_
  rintro e w1 ⟨v1, rfl, o1, s1, f1⟩
  obtain ⟨A1, c1, rfl, _⟩ := o1.slice
  have K1 : Hid (RowO w0 w1 ⟨A1, 32, c1, keyD S s cur⟩) := o1
  have S1 := Lib.hid s1; have F1 := Lib.hid f1
  have BK1 := Lib.hid (f1.ch HB0.out); have BR1 := Lib.hid (f1.ch HB1.out)
  have HC1 := Lib.hid (HCW.out.fs f1 (S.below s1)); have HL1 := Lib.hid (HLW.out.fs f1 (S.below s1))
  have FN1 : Hid (FN w.heap.size w w1) := (FN.gr HGW.out).trans (FN.fs f1)
  clear o1 s1 f1 x1
  go_upto_region 2 with fail
  go_cut [17] (fun _ wx => StepM S w s p0 cur (L.map Wr.kk) mm A1 c1 wx)
  case first =>
    have x0 : w1.cell? ⟨w.heap.size, 0, none⟩ = some (.int .i64 p0) := (BK1.out.cell 0).trans rfl
    have x1 : w1.cell? ⟨w.heap.size, 1, none⟩ = some (.slice A n c) := (BK1.out.cell 1).trans rfl
    have x2 : w1.cell? ⟨w.heap.size, 2, none⟩ = some (.slice B L.length d) := (BK1.out.cell 2).trans rfl
    have hw1 : IntKind.i64.wrap (p0 + 1) = p0 + 1 := IntWalk.i64_in _ (by omega)
    have HDV := Lib.hid (S.derive w1.drew (S.dv s cur keyS).1 mm A n c cur nextS (S.gr S1.out (Gr.drew _)) (HC1.out.mono (Gr.drew _)).bs hn (by decide))
    go_region_law (first
      | (go_simp; go_at_call 20; refine HDV.out.mono ?_; rintro e w2 ⟨v2, rfl, o2, s2, f2⟩; obtain ⟨A2, c2, rfl, _⟩ := o2.slice; have K2 : Hid (RowO w0 w2 ⟨A2, 32, c2, (nextD S s cur).2⟩) := o2; have S2 : Hid (S.St w2 (nextD S s cur).1 mm) := s2; have F2 : Hid (FS w1 w2) := (FS.gr (Gr.drew w1)).trans f2; have BK2 := Lib.hid (F2.out.ch BK1.out); have BR2 := Lib.hid (F2.out.ch BR1.out); have K12 := Lib.hid (K1.out.fs F2.out (S.below s2)); have HL2 := Lib.hid (HL1.out.fs F2.out (S.below s2)); have v0 : w2.cell? ⟨w.heap.size, 0, none⟩ = some (.int .i64 p0) := (BK2.out.cell 0).trans rfl; have v2 : w2.cell? ⟨w.heap.size, 2, none⟩ = some (.slice B L.length d) := (BK2.out.cell 2).trans rfl; clear o2 s2 f2)
      | (go_simp; go_at_call 69; obtain ⟨Bx, dx, ex, wrx⟩ := HL2.out.wrs; cases ex; refine (copiedT_any B L.length d L w2 wrx (by omega) HRW.out).mono ?_; rintro e w3 ⟨v3, M3, rfl, own3, hk3⟩; obtain ⟨A3, c3, rfl, wr3⟩ := own3.wrs; have G3 : Hid (Gr w2 w3) := own3.1.below; have BK3 := Lib.hid (G3.out.blk BK2.out); have BR3 := Lib.hid (G3.out.blk BR2.out); have O3 : Hid (OwnT w0 w3 (.slice A3 M3.length c3) M3) := own3.base (S.below S2.out); have F3 : Hid (∀ b, (Value.slice A3 M3.length c3).ownBlock = some b → w.heap.size + 1 < b) := (fun b e => Nat.lt_of_lt_of_le BR2.out.lt (own3.1.1.lt b e).1); have K3 := Lib.hid hk3; have z0 : w3.cell? ⟨w.heap.size, 0, none⟩ = some (.int .i64 p0) := (BK3.out.cell 0).trans rfl; have z1 : w3.cell? ⟨w.heap.size, 1, none⟩ = some (.slice A n c) := (BK3.out.cell 1).trans rfl; have z2 : w3.cell? ⟨w.heap.size, 2, none⟩ = some (.slice B L.length d) := (BK3.out.cell 2).trans rfl; have y0 := BK3.out.free 0; have y1 := BK3.out.free 1; have y2 := BK3.out.free 2; clear own3 hk3 wr3 wrx))
    all_goals
      obtain ⟨W4, hW4⟩ : ∃ W4, W4 = ((w3.setCell ⟨w.heap.size, 0, none⟩ (.int .i64 (p0 + 1))).setCell ⟨w.heap.size, 1, none⟩ (.slice A2 32 c2)).setCell ⟨w.heap.size, 2, none⟩ (.slice A3 M3.length c3) := ⟨_, rfl⟩
      have BK4 : Hid (Blk W4 w.heap.size 41 [.int .i64 (p0 + 1), .slice A2 32 c2, .slice A3 M3.length c3]) := by rw [hW4]; exact ((BK3.out.set 0 _).set 1 _).set 2 _
      have BR4 : Hid (Blk W4 (w.heap.size + 1) 41 [.int .i64 0, .slice none 0 0, .slice none 0 0]) := by
        rw [hW4]
        exact ((BR3.out.far (p := ⟨w.heap.size, 0, none⟩) (by simp) _).far (p := ⟨w.heap.size, 1, none⟩) (by simp) _).far (p := ⟨w.heap.size, 2, none⟩) (by simp) _
      have OTH : Hid (∀ b, b < w3.heap.size → b ≠ w.heap.size → W4.heap[b]? = w3.heap[b]?) := by
        intro b _ hb
        rw [hW4, Below.heap_setCell _ _ _ b hb, Below.heap_setCell _ _ _ b hb, Below.heap_setCell _ _ _ b hb]
      have hb03 : Below w0.heap.size w0 w3 := below_both (S.below S2.out) G3.out
      have hle0 := HLE.out
      have B4 : Hid (Below w0.heap.size w0 W4) := by
        rw [hW4]
        exact ((hb03.setCell (p := ⟨w.heap.size, 0, none⟩) hle0 _).setCell (p := ⟨w.heap.size, 1, none⟩) hle0 _).setCell (p := ⟨w.heap.size, 2, none⟩) hle0 _
      have SZ4 : w3.heap.size ≤ W4.heap.size := by rw [hW4]; simp [setCell_size]
      rw [← hW4]
      clear hW4 z0 z1 z2 y0 y1 y2 x0 x1 x2 v0 v2 hw1
      have SM : Hid (StepM S w s p0 cur (L.map Wr.kk) mm A1 c1 W4) := by
        refine ⟨A2, c2, A3, c3, M3, BK4.out, BR4.out, own_of_blk (blk_off BK3.out OTH.out (by decide)) (K12.out.mono G3.out) B4.out, own_of_blk (blk_off BK3.out OTH.out (by decide)) (K2.out.mono G3.out) B4.out, O3.out.off BK3.out OTH.out B4.out, F3.out, K3.out, S.oc (S.gr S2.out G3.out) (OC.one (.inl rfl) BK3.out SZ4 OTH.out) B4.out, ?_⟩
        exact FN1.out.trans ((FN.fs F2.out).trans ((FN.gr G3.out).trans (FN.off (Nat.le_refl _) OTH.out)))
      clear hb03 hle0 SZ4
      go_wp2_with fail
      go_meet
      exact SM.out
  case rest =>
    obtain ⟨A2, c2, A3, c3, M, BK, BR, s1, s2, ho, hf, hk, hst, hfn⟩ := hcut
    have k0 : wc.cell? ⟨w.heap.size, 0, none⟩ = some (.int .i64 (p0 + 1)) := (BK.cell 0).trans rfl
    have k1 : wc.cell? ⟨w.heap.size, 1, none⟩ = some (.slice A2 32 c2) := (BK.cell 1).trans rfl
    have k2 : wc.cell? ⟨w.heap.size, 2, none⟩ = some (.slice A3 M.length c3) := (BK.cell 2).trans rfl
    have r0 : wc.cell? ⟨w.heap.size + 1, 0, none⟩ = some (.int .i64 0) := (BR.cell 0).trans rfl
    have r1 : wc.cell? ⟨w.heap.size + 1, 1, none⟩ = some (.slice none 0 0) := (BR.cell 1).trans rfl
    have r2 : wc.cell? ⟨w.heap.size + 1, 2, none⟩ = some (.slice none 0 0) := (BR.cell 2).trans rfl
    have f0 := BR.free 0
    have f1 := BR.free 1
    have f2 := BR.free 2
    have BK' := Lib.hid BK; have BR' := Lib.hid BR; have S1' := Lib.hid s1; have S2' := Lib.hid s2; have HO := Lib.hid ho; have HF := Lib.hid hf; have HKK := Lib.hid hk; have HST := Lib.hid hst; have HFN := Lib.hid hfn
    have hle0 := HLE.out
    clear BK BR s1 s2 ho hf hk hst hfn
    go_wp2_with fail
    go_region
    obtain ⟨W5, hW5⟩ : ∃ W5, W5 = (((wc.setCell ⟨w.heap.size + 1, 0, none⟩ (.int .i64 (p0 + 1))).setCell ⟨w.heap.size + 1, 1, none⟩ (.slice A2 32 c2)).setCell ⟨w.heap.size + 1, 2, none⟩ (.slice A3 M.length c3)).drew := ⟨_, rfl⟩
    have BN : Blk W5 (w.heap.size + 1) 41 [.int .i64 (p0 + 1), .slice A2 32 c2, .slice A3 M.length c3] := by rw [hW5]; exact ((BR'.out.set 0 _).set 1 _).set 2 _
    have OTH : ∀ b, b < wc.heap.size → b ≠ w.heap.size + 1 → W5.heap[b]? = wc.heap[b]? := by
      intro b _ hb
      rw [hW5]
      exact (Below.heap_setCell _ ⟨w.heap.size + 1, 2, none⟩ _ b hb).trans ((Below.heap_setCell _ ⟨w.heap.size + 1, 1, none⟩ _ b hb).trans (Below.heap_setCell _ ⟨w.heap.size + 1, 0, none⟩ _ b hb))
    have HB5 : Below w0.heap.size w0 W5 := by
      rw [hW5]
      exact ((((S.below HST.out).setCell (p := ⟨w.heap.size + 1, 0, none⟩) (by show w0.heap.size ≤ w.heap.size + 1; omega) _).setCell (p := ⟨w.heap.size + 1, 1, none⟩) (by show w0.heap.size ≤ w.heap.size + 1; omega) _).setCell (p := ⟨w.heap.size + 1, 2, none⟩) (by show w0.heap.size ≤ w.heap.size + 1; omega) _).drew
    have q0 : W5.cell? ⟨w.heap.size + 1, 0, none⟩ = some (.int .i64 (p0 + 1)) := (BN.cell 0).trans rfl
    have q1 : W5.cell? ⟨w.heap.size + 1, 1, none⟩ = some (.slice A2 32 c2) := (BN.cell 1).trans rfl
    have q2 : W5.cell? ⟨w.heap.size + 1, 2, none⟩ = some (.slice A3 M.length c3) := (BN.cell 2).trans rfl
    have SZ5 : wc.heap.size ≤ W5.heap.size := by rw [hW5]; simp [setCell_size, World.drew]
    have FIN : Hid (RetSt S w s p0 cur (L.map Wr.kk) mm (.returned (.tuple #[.slice A1 32 c1, .agg #[.int .i64 (p0 + 1), .slice A2 32 c2, .slice A3 M.length c3]])) W5) :=
      ⟨A1, c1, A2, c2, A3, c3, M, rfl, own_of_blk (blk_off BR'.out OTH (by decide)) S1'.out HB5, own_of_blk (blk_off BR'.out OTH (by decide)) S2'.out HB5, HO.out.off BR'.out OTH HB5, HF.out, HKK.out, S.oc HST.out (OC.one (.inl rfl) BR'.out SZ5 OTH) HB5, FN.toFs (HFN.out.trans (FN.off (Nat.le_succ _) OTH))⟩
    rw [← hW5]
    clear hW5 k0 k1 k2 r0 r1 r2 f0 f1 f2
    clear BN OTH HB5 SZ5 hle0
    go_wp2_with fail
    exact bodyPost_ret (v := .tuple #[.slice A1 32 c1, .agg #[.int .i64 (p0 + 1), .slice A2 32 c2, .slice A3 M.length c3]]) (by simp [results, Tryd.results41, go_sem, q0, q1, q2]) rfl FIN.out
end
end Go.Proofs.YtplddbaggbdbiaaDoor
