/- Own texts of this claim, one behind the other. No condition. -/
import Derived.Test.YtplddbaggbdbiaaDoorObPkBK

/- Chains: At of whatever suite, that steps. No condition. -/
namespace Go.Proofs.YtplddbaggbdbiaaDoor
open Go.RowKit
set_option linter.unusedVariables false
set_option linter.unusedSimpArgs false
theorem RowO.kept {w0 w w' : World} {r : BRow} {v v' : Value} {n n' : Nat} {xs xs' : List Value} (hr : RowO w0 w r) (h : Own w0 w 54 2 v n xs) (ho : Own w0 w' 54 2 v' n' xs') (hk : Kept w w' v v') : RowO w0 w' r :=
  Own.tch hr (Tch.kept hk ho h.2) (fun b hb => (h.1.lt b hb).1) (fun b hb e => own_other hr h (by decide) hb e)
theorem FN.kept {B : Nat} {w w' : World} {v v' : Value} (hk : Kept w w' v v') (hv : ∀ b, v.ownBlock = some b → B ≤ b) : FN B w w' := fun g t cs hg _ _ _ hb => (hk.1 g hb.lt (fun e => by have := hv g e; omega)).trans hb
theorem rowsT_le {w0 w w' : World} {M L : List Wr} {N : Nat} (h : M.map Wr.kk = L.map Wr.kk) (hM : ∀ x ∈ M, RowO w0 w x.r) (hL : ∀ x ∈ L, RowO w0 w' x.r) (hr : ∀ x ∈ L, x.r.n ≤ N) : ∀ x ∈ M, x.r.n ≤ N := by
  intro x hx
  have h1 : x.kk ∈ L.map Wr.kk := by rw [← h]; exact List.mem_map_of_mem hx
  obtain ⟨y, hy, e⟩ := List.mem_map.1 h1
  have e2 : y.r.l = x.r.l := (Prod.mk.inj e).2
  have l1 := (hM x hx).len
  have l2 := (hL y hy).len
  have := hr y hy
  rw [e2] at l2
  omega
section
variable {w0 : World} {p : Nat}
/-- Behind i steps: the suite's state, the link, what was skipped. -/
def runT (S : Sui w0 p) (p0 : Int) (s : S.σ) (cur : List UInt8) : Nat → S.σ × List UInt8 × List (Int × List UInt8)
  | 0 => (s, cur, [])
  | i + 1 => ((nextD S (runT S p0 s cur i).1 (runT S p0 s cur i).2.1).1, (nextD S (runT S p0 s cur i).1 (runT S p0 s cur i).2.1).2, (runT S p0 s cur i).2.2 ++ [(p0 + i, keyD S (runT S p0 s cur i).1 (runT S p0 s cur i).2.1)])
theorem runT_len (S : Sui w0 p) (p0 : Int) (s : S.σ) (cur : List UInt8) : ∀ i, (runT S p0 s cur i).2.2.length = i
  | 0 => rfl
  | i + 1 => by show (_ ++ [_]).length = _; rw [List.length_append, runT_len S p0 s cur i]; rfl
theorem keyD_len (S : Sui w0 p) (s : S.σ) (cur : List UInt8) : (keyD S s cur).length = 32 := S.dvLen _ _ _
/-- A key, a chain, no fault. -/
def RetAtT (S : Sui w0 p) (w : World) (s : S.σ) (g : Int) (cur key : List UInt8) (K : List (Int × List UInt8)) (mm : Nat) (e : Ending) (w' : World) : Prop :=
  ∃ A1 n1 c1 A2 n2 c2 A3 c3 M, e = .returned (.tuple #[.slice A1 n1 c1, .agg #[.int .i64 g, .slice A2 n2 c2, .slice A3 M.length c3], .int .i64 0]) ∧ RowO w0 w' ⟨A1, n1, c1, key⟩ ∧ RowO w0 w' ⟨A2, n2, c2, cur⟩ ∧ OwnT w0 w' (.slice A3 M.length c3) M ∧ M.map Wr.kk = K ∧ S.St w' s mm ∧ FS w w' ∧ w.heap.size ≤ w'.heap.size
/-- Ahead of a round: the chain at block g5, behind i steps. -/
def AtMidT (S : Sui w0 p) (w : World) (g5 : Nat) (p0 : Int) (s : S.σ) (cur : List UInt8) (K : List (Int × List UInt8)) (k mm i : Nat) (W : World) : Prop :=
  ∃ A n c B d M, n ≤ 100 ∧ Blk W g5 41 [.int .i64 (p0 + i), .slice A n c, .slice B M.length d] ∧ Blk W (g5 + 1) 41 [.int .i64 0, .slice none 0 0, .slice none 0 0] ∧ RowO w0 W ⟨A, n, c, (runT S p0 s cur i).2.1⟩ ∧ OwnT w0 W (.slice B M.length d) M ∧ M.map Wr.kk = K ++ (runT S p0 s cur i).2.2 ∧ (∀ x ∈ M, x.r.n ≤ 100) ∧ S.St W (runT S p0 s cur i).1 (mm + 2 * (k + 1 - i)) ∧ FN g5 w W
set_option maxRecDepth 100000 in
set_option maxHeartbeats 4000000 in
theorem atStepT_any (S : Sui w0 p) (s : S.σ) (mm : Nat) (p0 : Int) (A B : Option Addr) (n c d : Nat) (cur : List UInt8) (L : List Wr) (gen win : Int) (k : Nat) (w : World) (hS : S.St w s (mm + 2 * (k + 1))) (hcur : RowO w0 w ⟨A, n, c, cur⟩) (hn : n ≤ 100) (hL : OwnT w0 w (.slice B L.length d) L) (hm : L.length ≤ 100) (hrow : ∀ x ∈ L, x.r.n ≤ 100) (hp1 : 0 ≤ p0) (hgk : gen = p0 + k) (hg : gen < 1073741824) (hw1 : 1 ≤ win) (hw2 : win ≤ 8) (hk : (k : Int) ≤ win) :
    Calls Tryd.prog 14 #[.pointer (some ⟨p, 0, none⟩), .agg #[.int .i64 p0, .slice A n c, .slice B L.length d], .int .i64 gen, .int .i64 win] w (RetAtT S w (runT S p0 s cur (k + 1)).1 (gen + 1) (runT S p0 s cur (k + 1)).2.1 (keyD S (runT S p0 s cur k).1 (runT S p0 s cur k).2.1) ((L.map Wr.kk ++ (runT S p0 s cur k).2.2).drop (L.length + k - win.toNat)) mm) := by
  obtain ⟨W, hW⟩ : ∃ W, W = (w.alloc (.cells #[.int .i64 p0, .slice A n c, .slice B L.length d] 41)).alloc (.cells #[.int .i64 0, .slice none 0 0, .slice none 0 0] 41) := ⟨_, rfl⟩
  have hGW : Gr w W := by rw [hW]; exact (Gr.alloc _ _).trans (Gr.alloc _ _)
  have hb0 : Blk W w.heap.size 41 [.int .i64 p0, .slice A n c, .slice B L.length d] := by rw [hW]; exact (Blk.new w 41 #[.int .i64 p0, .slice A n c, .slice B L.length d]).alloc _
  have hb1 : Blk W (w.heap.size + 1) 41 [.int .i64 0, .slice none 0 0, .slice none 0 0] := by
    rw [hW]
    exact heap_alloc2_new w _ _
  obtain ⟨Bx, dx, ex, hwr⟩ := (hL.mono hGW).wrs
  cases ex
  have HP := Lib.hid (place_any p0 A B n c L.length d L gen W hwr)
  have HB0 := Lib.hid hb0; have HB1 := Lib.hid hb1; have HGW := Lib.hid hGW; have HW := Lib.hid hW
  have HS := Lib.hid hS; have HC := Lib.hid hcur; have HL := Lib.hid hL; have HRW := Lib.hid hrow; have HG := Lib.hid hgk
  have HLE : Hid (w0.heap.size ≤ w.heap.size) := (S.below hS).size
  have t1 : ¬ gen < p0 := by omega
  have t2 : gen - p0 ≤ win := by omega
  clear hcur hL hb0 hb1 hGW hW hrow hS hgk hwr
  generalize idxK gen L = r at *
  go_enter Tryd.func14, Tryd.ntmps14
  go_wp2_with fail
  go_step3
  go_wp2_with fail
  rw [← HW.out]
  refine HP.out.mono ?_
  rintro e w1 ⟨rfl, b1⟩
  have G1 : Hid (Gr w w1) := HGW.out.trans b1
  have BK1 := Lib.hid (HB0.out.mono b1); have BR1 := Lib.hid (HB1.out.mono b1)
  have k0 : w1.cell? ⟨w.heap.size, 0, none⟩ = some (.int .i64 p0) := (BK1.out.cell 0).trans rfl
  clear b1
  go_wp2_with fail
  go_step3
  go_wp2_with fail
  clear k0
  have MID0 : Hid (AtMidT S w w.heap.size p0 s cur (L.map Wr.kk) k mm 0 w1) := ⟨A, n, c, B, d, L, hn, by simp; exact BK1.out, BR1.out, HC.out.mono G1.out, HL.out.mono G1.out, by simp [runT], HRW.out, S.gr HS.out G1.out, FN.gr G1.out⟩
  go_loopw [13] (fun _ wr => ∃ i : Nat, i ≤ k ∧ AtMidT S w w.heap.size p0 s cur (L.map Wr.kk) k mm i wr) (fun _ wr => (gen - genAt w.heap.size wr).toNat)
  case atStart => exact ⟨0, Nat.zero_le _, MID0.out⟩
  case round =>
    obtain ⟨i, hi, A1, n1, c1, B1, d1, M, hn1, bk, br, s1, m1, hmk, hrw, hst, hfn⟩ := hrel
    have hml : M.length = L.length + i := by
      have := congrArg List.length hmk
      rw [List.length_map, List.length_append, List.length_map, runT_len] at this
      exact this
    have hge : genAt w.heap.size wr = p0 + i := by unfold genAt; rw [show wr.cell? ⟨w.heap.size, 0, none⟩ = some (.int .i64 (p0 + i)) from (bk.cell 0).trans rfl]
    have k0 : wr.cell? ⟨w.heap.size, 0, none⟩ = some (.int .i64 (p0 + i)) := (bk.cell 0).trans rfl
    have k1 : wr.cell? ⟨w.heap.size, 1, none⟩ = some (.slice A1 n1 c1) := (bk.cell 1).trans rfl
    have k2 : wr.cell? ⟨w.heap.size, 2, none⟩ = some (.slice B1 M.length d1) := (bk.cell 2).trans rfl
    have hgg := HG.out
    have e2m : mm + 2 * (k + 1 - i) = (mm + 2 * (k + 1 - (i + 1))) + 2 := by omega
    rw [e2m] at hst
    have HST := Lib.hid (stepT_any S (runT S p0 s cur i).1 (mm + 2 * (k + 1 - (i + 1))) (p0 + i) A1 B1 n1 c1 d1 (runT S p0 s cur i).2.1 M wr hst s1 hn1 m1 (by omega) (fun x hx => by have := hrw x hx; omega) (by omega) (by omega))
    have BK := Lib.hid bk; have BR := Lib.hid br; have HMK := Lib.hid hmk; have HGE := Lib.hid hge; have HML := Lib.hid hml; have HRW1 := Lib.hid hrw; have HFN := Lib.hid hfn
    have LT5 : Hid (w.heap.size + 1 < wr.heap.size) := br.lt
    have HRL : Hid (∀ x ∈ M, RowO w0 wr x.r) := fun x hx => (m1.2 x hx).1
    clear bk br s1 m1 hmk hrw hge hml hgg hst hfn e2m
    go_wp2_with fail
    refine HST.out.mono ?_
    rintro e w2 ⟨A2, c2, A3, c3, B3, d3, M3, rfl, s2, s3, o3, f3, mk3, st2, fs2⟩
    have S2 := Lib.hid s2; have S3 := Lib.hid s3; have O3 := Lib.hid o3; have F3 := Lib.hid f3; have MK3 := Lib.hid mk3; have ST2 := Lib.hid st2; have FS2 := Lib.hid fs2
    clear s2 s3 o3 f3 mk3 st2 fs2 k0 k1 k2
    obtain ⟨W3, hW3⟩ : ∃ W3, W3 = w2.alloc (.cells #[.int .i64 (p0 + i + 1), .slice A3 32 c3, .slice B3 M3.length d3] 41) := ⟨_, rfl⟩
    have AL : Hid (Gr w2 W3) := by rw [hW3]; exact Gr.alloc _ _
    have BT : Hid (Blk W3 w2.heap.size 41 [.int .i64 (p0 + i + 1), .slice A3 32 c3, .slice B3 M3.length d3]) := by rw [hW3]; exact Blk.new w2 _ _
    have BK2 : Hid (Blk w2 w.heap.size 41 [.int .i64 (p0 + i), .slice A1 n1 c1, .slice B1 M.length d1]) := FS2.out.ch BK.out
    have BK3 : Hid (Blk W3 w.heap.size 41 [.int .i64 (p0 + i), .slice A1 n1 c1, .slice B1 M.length d1]) := AL.out.blk BK2.out
    have BR2 : Hid (Blk w2 (w.heap.size + 1) 41 [.int .i64 0, .slice none 0 0, .slice none 0 0]) := FS2.out.ch BR.out
    have BR3 : Hid (Blk W3 (w.heap.size + 1) 41 [.int .i64 0, .slice none 0 0, .slice none 0 0]) := AL.out.blk BR2.out
    have ST3 := Lib.hid (S.gr ST2.out AL.out)
    have FN3 : Hid (FN w.heap.size w W3) := HFN.out.trans ((FN.fs FS2.out).trans (FN.gr AL.out))
    have O33 := Lib.hid (O3.out.mono AL.out)
    have S23 := Lib.hid (S2.out.mono AL.out); have S33 := Lib.hid (S3.out.mono AL.out)
    have HW3 := Lib.hid hW3; clear hW3
    have e0 : W3.cell? ⟨w.heap.size, 0, none⟩ = some (.int .i64 (p0 + i)) := (BK3.out.cell 0).trans rfl
    have e1 : W3.cell? ⟨w2.heap.size, 0, none⟩ = some (.int .i64 (p0 + i + 1)) := (BT.out.cell 0).trans rfl
    have e2 : W3.cell? ⟨w2.heap.size, 1, none⟩ = some (.slice A3 32 c3) := (BT.out.cell 1).trans rfl
    have e3 : W3.cell? ⟨w2.heap.size, 2, none⟩ = some (.slice B3 M3.length d3) := (BT.out.cell 2).trans rfl
    have NE1 : Hid (w.heap.size + 1 < w2.heap.size) := BR2.out.lt
    have HML3 : Hid (M3.length = L.length + i) := by
      have := congrArg List.length MK3.out
      rw [List.length_map, List.length_map, HML.out] at this
      exact this
    have HR3 : Hid (∀ x ∈ M3, x.r.n ≤ 100) := rowsT_le MK3.out (fun x hx => (O3.out.2 x hx).1) HRL.out HRW1.out
    go_upto_region 14 with fail
    rw [← HW3.out]
    by_cases hlt : i < k
    · have tne : (p0 + (i : Int) == gen) = false := by rw [beq_eq_false_iff_ne]; have := HG.out; omega
      have OW3 : Hid (Own w0 W3 54 2 (.slice B3 M3.length d3) M3.length (M3.flatMap Wr.cells)) := O33.out.1
      have hml3 : M3.length ≤ 200 := by have := HML3.out; omega
      go_wp2_with (first
        | (at_builtin; refine wpList_pushG rfl (.tmp 97) (.tmp 102) 39 rfl tSk rfl OW3.out #[.int .i64 (p0 + i), .slice A2 32 c2] rfl rfl (Wr.ones ⟨p0 + i, ⟨A2, 32, c2, []⟩⟩) (by omega) ?_; intro v4 w4 own4 kept4; obtain ⟨A4, c4, rfl, sl4⟩ := own4.slice; have O4 := Lib.hid own4; have KP : Hid (Kept (W3.alloc (.cells #[.int .i64 (p0 + i), .slice A2 32 c2] 54)) w4 (.slice B3 M3.length d3) (.slice A4 (M3.length + 1) c4)) := kept4; have NBK : Hid (∀ q cs, Blk (W3.alloc (.cells #[.int .i64 (p0 + i), .slice A2 32 c2] 54)) q 41 cs → Blk w4 q 41 cs) := (fun q cs hq => (kept4.1 _ hq.lt ((OW3.out.mono (Gr.alloc _ _)).not_blk hq (by decide))).trans hq); have BT4 : Hid (Blk w4 w2.heap.size 41 [.int .i64 (p0 + i + 1), .slice A3 32 c3, .slice B3 M3.length d3]) := NBK.out _ _ (BT.out.alloc _); have BK4 : Hid (Blk w4 w.heap.size 41 [.int .i64 (p0 + i), .slice A1 n1 c1, .slice B1 M.length d1]) := NBK.out _ _ (BK3.out.alloc _); have BR4 : Hid (Blk w4 (w.heap.size + 1) 41 [.int .i64 0, .slice none 0 0, .slice none 0 0]) := NBK.out _ _ (BR3.out.alloc _); have z0 : w4.cell? ⟨w2.heap.size, 0, none⟩ = some (.int .i64 (p0 + i + 1)) := (BT4.out.cell 0).trans rfl; have z1 : w4.cell? ⟨w2.heap.size, 1, none⟩ = some (.slice A3 32 c3) := (BT4.out.cell 1).trans rfl; have z2 : w4.cell? ⟨w2.heap.size, 2, none⟩ = some (.slice B3 M3.length d3) := (BT4.out.cell 2).trans rfl; have y2 := BT4.out.free 2; have BK5 : Hid (Blk (w4.setCell ⟨w2.heap.size, 2, none⟩ (.slice A4 (M3.length + 1) c4)) w.heap.size 41 [.int .i64 (p0 + i), .slice A1 n1 c1, .slice B1 M.length d1]) := BK4.out.far (p := ⟨w2.heap.size, 2, none⟩) (by have := NE1.out; show w.heap.size ≠ w2.heap.size; omega) _; clear own4 kept4 sl4 e0 e1 e2 e3)
        | (refine wpList_store_ch rfl (.tmp 5) (.tmp 105) rfl w.heap.size (p0 + i + 1) A3 A4 32 c3 (M3.length + 1) c4 rfl rfl BK5.out ?_))
      obtain ⟨W5, hW5⟩ : ∃ W5, W5 = w4.setCell ⟨w2.heap.size, 2, none⟩ (.slice A4 (M3.length + 1) c4) := ⟨_, rfl⟩
      have OT5 : ∀ b, b < w4.heap.size → b ≠ w2.heap.size → W5.heap[b]? = w4.heap[b]? := fun b _ hb => by rw [hW5]; exact Below.heap_setCell _ _ _ b hb
      have hBK5 : Blk W5 w.heap.size 41 [.int .i64 (p0 + i), .slice A1 n1 c1, .slice B1 M.length d1] := by rw [hW5]; exact BK5.out
      have sz5 : w4.heap.size ≤ W5.heap.size := by rw [hW5]; simp [setCell_size]
      have hb5 : Below w0.heap.size w0 W5 := by rw [hW5]; exact O4.out.below.setCell (p := ⟨w2.heap.size, 2, none⟩) (by have := NE1.out; have := HLE.out; show w0.heap.size ≤ w2.heap.size; omega) _
      rw [← hW5]
      obtain ⟨W6, hW6⟩ : ∃ W6, W6 = W5.setRow w.heap.size #[.int .i64 (p0 + i + 1), .slice A3 32 c3, .slice A4 (M3.length + 1) c4] := ⟨_, rfl⟩
      have OT6 : ∀ b, b < W5.heap.size → b ≠ w.heap.size → W6.heap[b]? = W5.heap[b]? := fun b _ hb => by rw [hW6]; exact setRow_other W5 w.heap.size b _ hb
      have hBK6 : Blk W6 w.heap.size 41 [.int .i64 (p0 + i + 1), .slice A3 32 c3, .slice A4 (M3.length + 1) c4] := by rw [hW6]; exact setRow_heap W5 w.heap.size _ _ _ _ hBK5
      have hBR5 : Blk W5 (w.heap.size + 1) 41 [.int .i64 0, .slice none 0 0, .slice none 0 0] := (OT5 _ BR4.out.lt (by have := NE1.out; omega)).trans BR4.out
      have hBR6 : Blk W6 (w.heap.size + 1) 41 [.int .i64 0, .slice none 0 0, .slice none 0 0] := (OT6 _ hBR5.lt (by omega)).trans hBR5
      have hb6 : Below w0.heap.size w0 W6 := by
        rw [hW6]
        exact below_row hb5 HLE.out _
      have sz6 : W5.heap.size ≤ W6.heap.size := by rw [hW6]; simp [World.setRow]
      rw [← hW6]
      clear hW5 hW6
      have hAL : Gr W3 (W3.alloc (.cells #[.int .i64 (p0 + i), .slice A2 32 c2] 54)) := Gr.alloc _ _
      have keep : ∀ (r : BRow), RowO w0 W3 r → RowO w0 W6 r := fun r hr =>
        own_of_blk (blk_off hBK5 OT6 (by decide)) (own_of_blk (blk_off BT4.out OT5 (by decide)) (RowO.kept (hr.mono hAL) (OW3.out.mono hAL) O4.out KP.out) hb5) hb6
      have hO4 : OwnT w0 w4 (.slice A4 (M3.length + 1) c4) (M3 ++ [⟨p0 + i, ⟨A2, 32, c2, keyD S (runT S p0 s cur i).1 (runT S p0 s cur i).2.1⟩⟩]) :=
        OwnT.push (x := ⟨p0 + i, ⟨A2, 32, c2, keyD S (runT S p0 s cur i).1 (runT S p0 s cur i).2.1⟩⟩) (O33.out.mono hAL) (S23.out.mono hAL) ⟨by show _ ≤ p0 + (i : Int); omega, by show p0 + (i : Int) ≤ _; have := HG.out; omega⟩ O4.out KP.out
      have hO6 : OwnT w0 W6 (.slice A4 (M3.length + 1) c4) (M3 ++ [⟨p0 + i, ⟨A2, 32, c2, keyD S (runT S p0 s cur i).1 (runT S p0 s cur i).2.1⟩⟩]) := (hO4.off BT4.out OT5 hb5).off hBK5 OT6 hb6
      have hKK : (M3 ++ [(⟨p0 + i, ⟨A2, 32, c2, keyD S (runT S p0 s cur i).1 (runT S p0 s cur i).2.1⟩⟩ : Wr)]).map Wr.kk = L.map Wr.kk ++ (runT S p0 s cur (i + 1)).2.2 := by
        rw [List.map_append, MK3.out, HMK.out, List.append_assoc]; rfl
      have hRows : ∀ x ∈ M3 ++ [(⟨p0 + i, ⟨A2, 32, c2, keyD S (runT S p0 s cur i).1 (runT S p0 s cur i).2.1⟩⟩ : Wr)], x.r.n ≤ 100 := by
        intro x hx
        rcases List.mem_append.1 hx with hx | hx
        · exact HR3.out x hx
        · obtain rfl : x = ⟨p0 + i, ⟨A2, 32, c2, keyD S (runT S p0 s cur i).1 (runT S p0 s cur i).2.1⟩⟩ := by simpa using hx
          show 32 ≤ 100
          omega
      have hST6 : S.St W6 (runT S p0 s cur (i + 1)).1 (mm + 2 * (k + 1 - (i + 1))) :=
        S.oc (S.oc (S.oc (S.gr ST3.out hAL) (OC.push (.inr rfl) (OW3.out.mono hAL).1 KP.out) O4.out.below) (OC.one (.inl rfl) BT4.out sz5 OT5) hb5) (OC.one (.inl rfl) hBK5 sz6 OT6) hb6
      have hFN6 : FN w.heap.size w W6 :=
        FN3.out.trans ((FN.gr hAL).trans ((FN.kept KP.out (fun b e => by have := F3.out b e; have := LT5.out; omega)).trans ((FN.off (by have := NE1.out; omega) OT5).trans (FN.off (Nat.le_refl _) OT6))))
      have e1 : p0 + ((i + 1 : Nat) : Int) = p0 + i + 1 := by omega
      have MIDN : AtMidT S w w.heap.size p0 s cur (L.map Wr.kk) k mm (i + 1) W6 :=
        ⟨A3, 32, c3, A4, c4, _, by omega, by rw [e1, List.length_append]; exact hBK6, hBR6, keep _ S33.out, by rw [List.length_append]; exact hO6, hKK, hRows, hST6, hFN6⟩
      have hge6 : genAt w.heap.size W6 = p0 + i + 1 := by unfold genAt; rw [show W6.cell? ⟨w.heap.size, 0, none⟩ = some (.int .i64 (p0 + i + 1)) from (hBK6.cell 0).trans rfl]
      refine ⟨⟨i + 1, by omega, MIDN⟩, ?_⟩
      have := HGE.out
      have := HG.out
      rw [hge6, HGE.out]
      omega
    · obtain rfl : i = k := by omega
      have teq : (p0 + (i : Int) == gen) = true := by rw [beq_iff_eq]; have := HG.out; omega
      obtain ⟨Bx, dx, ex, hwr⟩ := O33.out.wrs
      cases ex
      have HDR := Lib.hid (dropT_any (p0 + i + 1) A3 B3 32 c3 M3.length d3 (runT S p0 s cur (i + 1)).2.1 M3 win W3 S33.out.bs (by omega) hwr (by have := HML3.out; omega) (fun x hx => by have := HR3.out x hx; omega) (by omega) (by omega))
      clear hwr
      go_wp2_with (first
        | (go_at_call 39; refine HDR.out.mono ?_; rintro e w4 ⟨A5, c5, v5, M5, rfl, s5, o5, k5⟩; obtain ⟨B5, d5, rfl, _⟩ := o5.wrs; have G4 : Hid (Gr W3 w4) := o5.1.below; have S5 : Hid (RowO w0 w4 _) := s5.base (S.below ST3.out); have O5 : Hid (OwnT w0 w4 _ M5) := o5.base (S.below ST3.out); have K5 := Lib.hid k5; have BR4 : Hid (Blk w4 _ _ _) := G4.out.blk BR3.out; clear s5 o5 k5 e0 e1 e2 e3)
        | (refine wpList_store_ch rfl (.tmp 9) (.tmp 95) rfl (w.heap.size + 1) (p0 + i + 1) A5 B5 (runT S p0 s cur (i + 1)).2.1.length c5 M5.length d5 rfl rfl BR4.out ?_))
      try rw [Exit.noGoto_ret]
      obtain ⟨W5, hW5⟩ : ∃ W5, W5 = w4.setRow (w.heap.size + 1) #[.int .i64 (p0 + i + 1), .slice A5 (runT S p0 s cur (i + 1)).2.1.length c5, .slice B5 M5.length d5] := ⟨_, rfl⟩
      have OT5 : ∀ b, b < w4.heap.size → b ≠ w.heap.size + 1 → W5.heap[b]? = w4.heap[b]? := fun b _ hb => by rw [hW5]; exact setRow_other w4 (w.heap.size + 1) b _ hb
      have hBK : Blk W5 (w.heap.size + 1) 41 [.int .i64 (p0 + i + 1), .slice A5 (runT S p0 s cur (i + 1)).2.1.length c5, .slice B5 M5.length d5] := by rw [hW5]; exact setRow_heap w4 (w.heap.size + 1) _ _ _ _ BR4.out
      have hST4 := S.gr ST3.out G4.out
      have hB5 : Below w0.heap.size w0 W5 := by
        rw [hW5]
        exact below_row (S.below hST4) (by have := HLE.out; omega) _
      have sz5 : w4.heap.size ≤ W5.heap.size := by rw [hW5]; simp [World.setRow]
      rw [← hW5]
      clear hW5
      have q0 : W5.cell? ⟨w.heap.size + 1, 0, none⟩ = some (.int .i64 (p0 + i + 1)) := (hBK.cell 0).trans rfl
      have q1 : W5.cell? ⟨w.heap.size + 1, 1, none⟩ = some (.slice A5 (runT S p0 s cur (i + 1)).2.1.length c5) := (hBK.cell 1).trans rfl
      have q2 : W5.cell? ⟨w.heap.size + 1, 2, none⟩ = some (.slice B5 M5.length d5) := (hBK.cell 2).trans rfl
      have hKK : M5.map Wr.kk = (L.map Wr.kk ++ (runT S p0 s cur i).2.2).drop (L.length + i - win.toNat) := by
        rw [K5.out, HML3.out, List.map_drop, MK3.out, HMK.out]
      have e3' : S.St W5 (runT S p0 s cur (i + 1)).1 mm := S.less (S.oc hST4 (OC.one (.inl rfl) BR4.out sz5 OT5) hB5) (by omega)
      have FIN : RetAtT S w (runT S p0 s cur (i + 1)).1 (gen + 1) (runT S p0 s cur (i + 1)).2.1 (keyD S (runT S p0 s cur i).1 (runT S p0 s cur i).2.1) ((L.map Wr.kk ++ (runT S p0 s cur i).2.2).drop (L.length + i - win.toNat)) mm (.returned (.tuple #[.slice A2 32 c2, .agg #[.int .i64 (p0 + i + 1), .slice A5 (runT S p0 s cur (i + 1)).2.1.length c5, .slice B5 M5.length d5], .int .i64 0])) W5 :=
        ⟨A2, 32, c2, A5, _, c5, B5, d5, M5, by rw [HG.out], own_of_blk (blk_off BR4.out OT5 (by decide)) (S23.out.mono G4.out) hB5, own_of_blk (blk_off BR4.out OT5 (by decide)) S5.out hB5, O5.out.off BR4.out OT5 hB5, hKK, e3', FN.toFs (FN3.out.trans ((FN.gr G4.out).trans (FN.off (Nat.le_succ _) OT5))), Nat.le_of_lt (Nat.lt_of_le_of_lt (Nat.le_succ _) hBK.lt)⟩
      exact bodyPost_ret (v := .tuple #[.slice A2 32 c2, .agg #[.int .i64 (p0 + i + 1), .slice A5 (runT S p0 s cur (i + 1)).2.1.length c5, .slice B5 M5.length d5], .int .i64 0]) (by simp [results, Tryd.results14, go_sem, q0, q1, q2]) rfl FIN
end
end Go.Proofs.YtplddbaggbdbiaaDoor
