/- Own texts of this claim, one behind the other. No condition. -/
import Derived.Test.YtplddbaggbdbiaaDoorObPkBL

/- Chains: At of a key that was kept; rows of bytes of their own. No condition. -/
namespace Go.Proofs.YtplddbaggbdbiaaDoor
open Go.RowKit
set_option linter.unusedVariables false
set_option linter.unusedSimpArgs false
/-- The rows of the call's own, in a block. -/
theorem OwnT.block {w0 w : World} {v : Value} {M : List Wr} (h : OwnT w0 w v M) (hm : 0 < M.length) : ∃ g c cs, v = .slice (some ⟨g, 0, none⟩) M.length c ∧ w0.heap.size ≤ g ∧ Blk w g 54 cs ∧ M.length ≤ c ∧ c ≤ maxLen ∧ cs.length = c * 2 ∧ cs.take (M.length * 2) = M.flatMap Wr.cells := by
  obtain ⟨⟨⟨hl, ho⟩, _⟩, _⟩ := h
  rcases ho with ⟨_, h0⟩ | ⟨g, cap, cur, hv, hg, hh, r1, r2, r3, r4⟩
  · omega
  · exact ⟨g, cap, cur.toList, hv, hg, hh, r1, r2, by simpa using r3, r4⟩
def RetAtK (w : World) (g : Int) (cur key : List UInt8) (K : List (Int × List UInt8)) (e : Ending) (w' : World) : Prop :=
  ∃ A1 n1 c1 A2 n2 c2 A3 c3 M, e = .returned (.tuple #[.slice A1 n1 c1, .agg #[.int .i64 g, .slice A2 n2 c2, .slice A3 M.length c3], .int .i64 0]) ∧ RowO w w' ⟨A1, n1, c1, key⟩ ∧ RowO w w' ⟨A2, n2, c2, cur⟩ ∧ OwnT w w' (.slice A3 M.length c3) M ∧ M.map Wr.kk = K
set_option maxRecDepth 100000 in
set_option maxHeartbeats 2000000 in
theorem atKeptT_any (S : Value) (p0 : Int) (A B : Option Addr) (n c m d : Nat) (cur : List UInt8) (L : List Wr) (gen win : Int) (k : Nat) (x : Wr) (w : World) (hcur : Bs w A n c cur) (hn : n ≤ 50000) (hL : Wrs w B m d L) (hm : m ≤ 100) (hrow : ∀ x ∈ L, x.r.n ≤ 20000) (hp1 : 0 ≤ p0) (hg0 : 0 ≤ gen) (hg : gen < 1073741824) (hw1 : 1 ≤ win) (hw2 : win ≤ 8) (t1 : gen < p0) (hx : L[k]? = some x) (hk : idxK gen L = (k : Int)) :
    Calls Tryd.prog 14 #[S, .agg #[.int .i64 p0, .slice A n c, .slice B m d], .int .i64 gen, .int .i64 win] w (RetAtK w p0 cur x.r.l ((L.map Wr.kk).eraseIdx k)) := by
  have hkm : k < m := by have := (List.getElem?_eq_some_iff.1 hx).1; rw [hL.1] at this; exact this
  obtain ⟨W, hW⟩ : ∃ W, W = (w.alloc (.cells #[.int .i64 p0, .slice A n c, .slice B m d] 41)).alloc (.cells #[.int .i64 0, .slice none 0 0, .slice none 0 0] 41) := ⟨_, rfl⟩
  have hBW : Below w.heap.size w W := by rw [hW]; exact ((Below.refl _ _).alloc (Nat.le_refl _) _).alloc (by simp) _
  have hb0 : Blk W w.heap.size 41 [.int .i64 p0, .slice A n c, .slice B m d] := by rw [hW]; exact (Blk.new w 41 #[.int .i64 p0, .slice A n c, .slice B m d]).alloc _
  have hb1 : Blk W (w.heap.size + 1) 41 [.int .i64 0, .slice none 0 0, .slice none 0 0] := by
    rw [hW]
    exact heap_alloc2_new w _ _
  have HP := Lib.hid (place_any p0 A B n c m d L gen W (hL.mono hBW))
  have hll : L.length = m := hL.1
  have HB0 := Lib.hid hb0; have HB1 := Lib.hid hb1; have HBW := Lib.hid hBW; have HW := Lib.hid hW
  have HL := Lib.hid hL; have HLL := Lib.hid hll
  clear hL hb0 hb1 hBW hW hll
  rw [hk] at HP
  have HDR : Hid (∀ W, Below w.heap.size w W → Calls Tryd.prog 39 #[.agg #[.int .i64 p0, .slice A n c, .slice B m d], .int .i64 (m : Int)] W (RetD W p0 cur (L.map Wr.kk))) := fun W hW => by
    have := dropT_any p0 A B n c m d cur L m W (hcur.mono hW) hn (HL.out.mono hW) (by omega) hrow (by omega) (by omega)
    rw [show m - (m : Int).toNat = 0 by omega] at this
    exact this
  have HX := Lib.hid hx; have HRW := Lib.hid hrow; have HCU := Lib.hid hcur
  clear hk hx hrow hcur
  have f1 : (0 : Int) ≤ k := by omega
  go_enter Tryd.func14, Tryd.ntmps14
  go_wp2_with fail
  go_step3
  go_wp2_with fail
  rw [← HW.out]
  refine HP.out.mono ?_
  rintro e w1 ⟨rfl, b1⟩
  have BK1 := Lib.hid (HB0.out.mono b1); have BR1 := Lib.hid (HB1.out.mono b1); have BW1 := Lib.hid (below_both HBW.out b1)
  have k0 : w1.cell? ⟨w.heap.size, 0, none⟩ = some (.int .i64 p0) := (BK1.out.cell 0).trans rfl
  clear b1
  have k1 : w1.cell? ⟨w.heap.size, 1, none⟩ = some (.slice A n c) := (BK1.out.cell 1).trans rfl
  have k2 : w1.cell? ⟨w.heap.size, 2, none⟩ = some (.slice B m d) := (BK1.out.cell 2).trans rfl
  have LT1 : Hid (w.heap.size + 1 < w1.heap.size) := BR1.out.lt
  go_wp2_with (first
    | (go_at_call 39; refine (HDR.out w1 BW1.out).mono ?_; rintro e w2 ⟨A2, c2, v2, M2, rfl, s2, o2, k2'⟩; have hml : M2.length = m := (by have := congrArg List.length k2'; rw [List.length_map, List.length_map, HLL.out] at this; exact this); obtain ⟨g2, d2, cs2, rfl, hg2, hbk2, hc1, hc2, hc3, hc4⟩ := o2.block (by rw [hml]; exact Nat.lt_of_le_of_lt (Nat.zero_le k) hkm); have B2' : Hid (Below w1.heap.size w1 w2) := o2.1.below; rw [hml] at o2 hc1 hc4; rw [hml]; obtain ⟨y, hy⟩ : ∃ y, M2[k]? = some y := ⟨M2[k]'(by rw [hml]; exact hkm), List.getElem?_eq_getElem _⟩; have hyk : y.kk = x.kk := kk_at k2' hy HX.out; have hyc : cs2[k * 2 + 1]? = some (.slice y.r.a y.r.n y.r.c) := row_at hc4 hkm hy; have HY := Lib.hid hy; have HYK := Lib.hid hyk; have HYC := Lib.hid hyc; clear hy hyk hyc; have S2 : Hid (RowO w w2 ⟨A2, cur.length, c2, cur⟩) := s2.base BW1.out; have O2 : Hid (OwnT w w2 _ M2) := o2.base BW1.out; have K2 := Lib.hid k2'; have BK2 := Lib.hid (BK1.out.mono B2'.out); have BR2 := Lib.hid (BR1.out.mono B2'.out); have HG2 := Lib.hid hg2; have HBK2 := Lib.hid hbk2; have HC1 := Lib.hid hc1; have HC2 := Lib.hid hc2; have HC3 := Lib.hid hc3; have HC4 := Lib.hid hc4; have HML := Lib.hid hml; clear s2 o2 k2' hg2 hbk2 hc1 hc2 hc3 hc4 hml k0 k1 k2)
    | (refine wpList_store_ch rfl (.tmp 5) (.tmp 58) rfl w.heap.size p0 A2 (some ⟨g2, 0, none⟩) cur.length c2 m d2 rfl rfl BK2.out ?_; obtain ⟨W3, hW3⟩ : ∃ W3, W3 = w2.setRow w.heap.size #[.int .i64 p0, .slice A2 cur.length c2, .slice (some ⟨g2, 0, none⟩) m d2] := ⟨_, rfl⟩; have BK3 : Hid (Blk W3 w.heap.size 41 [.int .i64 p0, .slice A2 cur.length c2, .slice (some ⟨g2, 0, none⟩) m d2]) := (by rw [hW3]; exact setRow_heap w2 w.heap.size _ _ _ _ BK2.out); have OT3 : Hid (∀ b, b ≠ w.heap.size → W3.heap[b]? = w2.heap[b]?) := (fun b hb => by rw [hW3]; exact setRow_other w2 w.heap.size b _ hb); have BW3 : Hid (Below w.heap.size w W3) := (by rw [hW3]; exact below_row (below_both BW1.out B2'.out) (Nat.le_refl _) _); rw [← hW3]; clear hW3; have HG3 : Hid (Blk W3 g2 54 cs2) := (OT3.out g2 (by have := HG2.out; have := LT1.out; omega)).trans HBK2.out; have kr : W3.cell? ⟨g2, k * 2 + 1, none⟩ = some (.slice y.r.a y.r.n y.r.c) := (HG3.out.cell _).trans HYC.out; have HDE := Lib.hid (deleteK_any g2 m d2 k M2 cs2 W3 HG3.out HC3.out HML.out HC1.out HC2.out HC4.out hkm (by omega)); have k0 : W3.cell? ⟨w.heap.size, 0, none⟩ = some (.int .i64 p0) := (BK3.out.cell 0).trans rfl; have k1 : W3.cell? ⟨w.heap.size, 1, none⟩ = some (.slice A2 cur.length c2) := (BK3.out.cell 1).trans rfl; have k2 : W3.cell? ⟨w.heap.size, 2, none⟩ = some (.slice (some ⟨g2, 0, none⟩) m d2) := (BK3.out.cell 2).trans rfl)
    | (go_at_call 40; refine HDE.out.mono ?_; rintro e w4 ⟨cs4, n4, rfl, hn4, hb4, hl4, ht4, ho4, hbe4⟩; have HN4 := Lib.hid hn4; have HB4 := Lib.hid hb4; have HL4 := Lib.hid hl4; have HT4 := Lib.hid ht4; have HO4 := Lib.hid ho4; have HBE4 := Lib.hid hbe4; have BK4 : Hid (Blk w4 w.heap.size 41 [.int .i64 p0, .slice A2 cur.length c2, .slice (some ⟨g2, 0, none⟩) m d2]) := (ho4 w.heap.size (by have := HG2.out; have := LT1.out; omega)).trans BK3.out; have z2 : w4.cell? ⟨w.heap.size, 2, none⟩ = some (.slice (some ⟨g2, 0, none⟩) m d2) := (BK4.out.cell 2).trans rfl; have y2 := BK4.out.free 2; clear hn4 hb4 hl4 ht4 ho4 hbe4 k0 k1 k2 kr))
  obtain ⟨W5, hW5⟩ : ∃ W5, W5 = w4.setCell ⟨w.heap.size, 2, none⟩ (.slice (some ⟨g2, 0, none⟩) n4 d2) := ⟨_, rfl⟩
  have BK5 : Hid (Blk W5 w.heap.size 41 [.int .i64 p0, .slice A2 cur.length c2, .slice (some ⟨g2, 0, none⟩) n4 d2]) := by rw [hW5]; exact BK4.out.set 2 _
  have OT5 : Hid (∀ b, b ≠ w.heap.size → W5.heap[b]? = w4.heap[b]?) := fun b hb => by rw [hW5]; exact Below.heap_setCell _ _ _ b hb
  have NG : Hid (w.heap.size + 1 < g2) := by have := HG2.out; have := LT1.out; show _ < _; omega
  have BR5 : Hid (Blk W5 (w.heap.size + 1) 41 [.int .i64 0, .slice none 0 0, .slice none 0 0]) :=
    (OT5.out _ (by omega)).trans ((HO4.out _ (by have := NG.out; omega)).trans ((OT3.out _ (by omega)).trans BR2.out))
  have BW4 : Hid (Below w.heap.size w w4) := HBE4.out w w.heap.size BW3.out (by have := NG.out; omega)
  have BW5 : Hid (Below w.heap.size w W5) := by
    rw [hW5]
    exact BW4.out.setCell (p := ⟨w.heap.size, 2, none⟩) (Nat.le_refl _) _
  rw [← hW5]
  clear hW5 z2 y2
  have z0 : W5.cell? ⟨w.heap.size, 0, none⟩ = some (.int .i64 p0) := (BK5.out.cell 0).trans rfl
  have z1 : W5.cell? ⟨w.heap.size, 1, none⟩ = some (.slice A2 cur.length c2) := (BK5.out.cell 1).trans rfl
  have z2 : W5.cell? ⟨w.heap.size, 2, none⟩ = some (.slice (some ⟨g2, 0, none⟩) n4 d2) := (BK5.out.cell 2).trans rfl
  have KEEP : Hid (∀ (r : BRow), RowO w w2 r → RowO w W5 r) := fun r hr =>
    own_of_blk (blk_off BK4.out (fun b _ hb => OT5.out b hb) (by decide)) (own_of_blk (blk_off HG3.out (fun b _ hb => HO4.out b hb) (by decide)) (own_of_blk (blk_off BK2.out (fun b _ hb => OT3.out b hb) (by decide)) hr BW3.out) BW4.out) BW5.out
  have HZ : Hid (∀ wq, Gr W5 wq → wq.cell? ⟨w.heap.size, 0, none⟩ = some (.int .i64 p0) ∧ wq.cell? ⟨w.heap.size, 1, none⟩ = some (.slice A2 cur.length c2) ∧ wq.cell? ⟨w.heap.size, 2, none⟩ = some (.slice (some ⟨g2, 0, none⟩) n4 d2)) := fun wq hq => ⟨(hq.blk BK5.out).cell 0, (hq.blk BK5.out).cell 1, (hq.blk BK5.out).cell 2⟩
  clear z0 z1 z2
  refine wp_region_grow (by kernel_rfl) [0, 0, 1, 7, 15] [.p 0, .p 2, .q 1, .s 3, .p 4] (by kernel_rfl) (trivial) ?_
  refine wpG_pe rfl rfl ?_
  apply Exists.intro
  refine ⟨fun wq => ?_, ?_⟩
  · unfold plainAt
    go_simp
    first | exact rfl | exact ⟨rfl, rfl⟩
  go_simp
  refine wpG_pe rfl rfl ?_
  apply Exists.intro
  refine ⟨fun wq => ?_, ?_⟩
  · unfold plainAt
    go_simp
    first | exact rfl | exact ⟨rfl, rfl⟩
  go_simp
  refine wpG_qe rfl rfl ?_
  apply Exists.intro
  refine ⟨fun wq hq => ?_, ?_⟩
  · obtain ⟨z0, z1, z2⟩ := HZ.out wq ((Gr.drew _).trans hq)
    unfold plainAt
    go_simp
    first | exact rfl | exact ⟨rfl, rfl⟩
  go_simp
  refine wpG_s rfl rfl ?_
  intro W5' g5 K hK
  have G5 := Lib.hid ((Gr.drew W5).trans g5)
  clear g5
  refine wp_store_row 41 (.tmp 9) (.tmp 73) rfl (w.heap.size + 1) _ rfl rfl 41 #[.int .i64 0, .slice none 0 0, .slice none 0 0] (G5.out.blk BR5.out) chSize rfl (chOne _ _ _ _ _ _ _) ?_
  obtain ⟨W6, hW6⟩ : ∃ W6, W6 = W5'.setRow (w.heap.size + 1) #[.int .i64 p0, .slice A2 cur.length c2, .slice (some ⟨g2, 0, none⟩) n4 d2] := ⟨_, rfl⟩
  have BR7 : Hid (Blk W6 (w.heap.size + 1) 41 [.int .i64 p0, .slice A2 cur.length c2, .slice (some ⟨g2, 0, none⟩) n4 d2]) := by rw [hW6]; exact setRow_heap W5' (w.heap.size + 1) _ _ _ _ (G5.out.blk BR5.out)
  have OT7 : Hid (∀ b, b < W5.heap.size → b ≠ w.heap.size + 1 → W6.heap[b]? = W5.heap[b]?) := fun b hb hn => by rw [hW6]; exact (setRow_other W5' (w.heap.size + 1) b _ hn).trans (G5.out.block b hb)
  have BW7 : Hid (Below w.heap.size w W6) := by rw [hW6]; exact below_row (below_both BW5.out G5.out) (by omega) _
  refine hK _ _ ?_
  go_simp
  rw [← hW6]
  clear hW6
  refine wpG_pe rfl rfl ?_
  apply Exists.intro
  refine ⟨fun wq => ?_, ?_⟩
  · unfold plainAt
    go_simp
    first | exact rfl | exact ⟨rfl, rfl⟩
  go_simp
  refine wpG_nil ?_
  intro W7 G7
  have BR8 := G7.blk BR7.out
  have keep7 : ∀ (r : BRow), RowO w w2 r → RowO w W7 r := fun r hr => (RowO.mono (own_of_blk (blk_off BR5.out OT7.out (by decide)) (KEEP.out r hr) BW7.out) G7)
  have q0 : W7.cell? ⟨w.heap.size + 1, 0, none⟩ = some (.int .i64 p0) := (BR8.cell 0).trans rfl
  have q1 : W7.cell? ⟨w.heap.size + 1, 1, none⟩ = some (.slice A2 cur.length c2) := (BR8.cell 1).trans rfl
  have q2 : W7.cell? ⟨w.heap.size + 1, 2, none⟩ = some (.slice (some ⟨g2, 0, none⟩) n4 d2) := (BR8.cell 2).trans rfl
  have FIN : Hid (RetAtK w p0 cur x.r.l ((L.map Wr.kk).eraseIdx k) (.returned (.tuple #[.slice y.r.a y.r.n y.r.c, .agg #[.int .i64 p0, .slice A2 cur.length c2, .slice (some ⟨g2, 0, none⟩) n4 d2], .int .i64 0])) W7) := by
    have hym : y ∈ M2 := List.mem_of_getElem? HY.out
    have hyl : y.r.l = x.r.l := (Prod.mk.inj HYK.out).2
    have hyb := (O2.out.2 y hym).1
    have hne : n4 = (M2.eraseIdx k).length := by rw [List.length_eraseIdx, if_pos (by rw [HML.out]; exact hkm), HML.out]; have := HN4.out; omega
    have hG5 : Blk W5 g2 54 cs4 := (OT5.out g2 (by have := NG.out; omega)).trans HB4.out
    have hG6 : Blk W7 g2 54 cs4 := G7.blk ((OT7.out g2 hG5.lt (by have := NG.out; omega)).trans hG5)
    have hBW : Below w.heap.size w W7 := below_both BW7.out G7
    refine ⟨y.r.a, y.r.n, y.r.c, A2, _, c2, some ⟨g2, 0, none⟩, d2, M2.eraseIdx k, by rw [hne], ?_, keep7 _ S2.out, ⟨⟨⟨?_, .inr ⟨g2, d2, cs4.toArray, rfl, ?_, hG6, ?_, HC2.out, ?_, ?_⟩⟩, hBW⟩, fun z hz => ?_⟩, ?_⟩
    · have h := keep7 y.r hyb
      unfold RowO at h ⊢
      rw [hyl] at h
      exact h
    · rw [flat_length Wr.cells_len]
    · have := NG.out; omega
    · rw [← hne]; have := HN4.out; have := HC1.out; omega
    · rw [List.size_toArray, HL4.out]
    · rw [← hne]; exact HT4.out
    · have hz2 := List.mem_of_mem_eraseIdx hz
      exact ⟨keep7 z.r (O2.out.2 z hz2).1, (O2.out.2 z hz2).2⟩
    · rw [← K2.out, erase_map]
  go_wp2_with fail
  try rw [Exit.noGoto_ret]
  exact bodyPost_ret (v := .tuple #[.slice y.r.a y.r.n y.r.c, .agg #[.int .i64 p0, .slice A2 cur.length c2, .slice (some ⟨g2, 0, none⟩) n4 d2], .int .i64 0]) (by simp [results, Tryd.results14, go_sem, q0, q1, q2]) rfl FIN.out
end Go.Proofs.YtplddbaggbdbiaaDoor
