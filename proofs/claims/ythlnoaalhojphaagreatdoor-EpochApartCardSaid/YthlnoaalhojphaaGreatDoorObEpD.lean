/- ObEpD, ObEpE: one text. No condition. -/
import Derived.Test.YthlnoaalhojphaaGreatDoorObEpB
import Derived.Test.YthlnoaalhojphaaGreatDoorObChH
import Derived.Outline
import Derived.Test.YthlnoaalhojphaaGreatDoorObChJ
/- Epochs: Back, a birth as the reference's. No condition. -/
namespace Go.Proofs.YthlnoaalhojphaaGreatDoor
open Go.RowKit
set_option linter.unusedVariables false
/-- A chain of the reference, at its start. -/
structure CRow where
  x : BRow
  z : Option Addr
  d : Nat
def CRow.cells (r : CRow) : List Value := [.int .i64 0, r.x.v, .slice r.z 0 r.d]
theorem CRow.len (r : CRow) : r.cells.length = 3 := rfl
theorem CRow.one (r : CRow) : ∀ u ∈ r.cells, u.oneCell' = true := by intro u hu; simp [CRow.cells, BRow.v] at hu; rcases hu with rfl | rfl | rfl <;> rfl
theorem tRef : ElemT Tryz.prog 39 76 (.agg #[.int .i64 0, .slice none 0 0, .slice none 0 0]) 3 56 := ⟨Tryz.underlying39, by kernel_rfl, rfl, by decide, by decide⟩
theorem rbSize : (Tryz.prog.info? 41).map (·.size) = some 3 := by kernel_rfl
/-- A row of chains, each at its start, to be read. -/
def Chr (w : World) (A : Option Addr) (n c : Nat) (M : List BRow) : Prop := Sl w A n c 3 (M.flatMap chC) ∧ M.length = n ∧ ∀ x ∈ M, x.n = 32 ∧ Bs w x.a x.n x.c x.l
theorem Chr.mono {w w' : World} {A : Option Addr} {n c : Nat} {M : List BRow} (h : Chr w A n c M) (hb : Gr w w') : Chr w' A n c M := ⟨h.1.mono hb, h.2.1, fun x hx => ⟨(h.2.2 x hx).1, (h.2.2 x hx).2.mono hb⟩⟩
theorem Chs.chr {w0 w : World} {B : Nat} {vc : Value} {M : List BRow} (h : Chs w0 B w vc M) (hb : Below w0.heap.size w0 w) (hB : B ≤ w.heap.size) : ∃ A c, vc = .slice A M.length c ∧ Chr w A M.length c M := by
  obtain ⟨A, c, rfl, hs⟩ := (h.cut hB).slice
  exact ⟨A, c, rfl, hs, rfl, fun x hx => ⟨(h.2 x hx).1, by
    obtain ⟨A', c', e, hbs, _⟩ := (h.2 x hx).2.at hb
    unfold BRow.v at e
    injection e with e1 e2 e3
    rw [e1, e2, e3]
    exact hbs⟩⟩
theorem Chr.row {w : World} {A : Option Addr} {n c : Nat} {M : List BRow} (h : Chr w A n c M) {k : Nat} (hk : k < n) : ∃ b o xa xc xl, A = some ⟨b, o, none⟩ ∧ M[k]? = some ⟨xa, 32, xc, xl⟩ ∧ w.cell? ⟨b, o + k * 3, none⟩ = some (.int .i64 0) ∧ w.cell? ⟨b, o + k * 3 + 1, none⟩ = some (.slice xa 32 xc) ∧ w.cell? ⟨b, o + k * 3 + 2, none⟩ = some (.slice none 0 0) ∧ Bs w xa 32 xc xl := by
  obtain ⟨b, o, rfl, hc⟩ := h.1.addr (by omega)
  have hlt : k < M.length := by rw [h.2.1]; exact hk
  obtain ⟨⟨xa, xn, xc, xl⟩, hx⟩ : ∃ x, M[k]? = some x := ⟨_, List.getElem?_eq_getElem hlt⟩
  obtain ⟨hn, hb⟩ := h.2.2 _ (List.mem_of_getElem? hx)
  simp only at hn hb
  subst hn
  refine ⟨b, o, xa, xc, xl, rfl, hx, ?_, ?_, ?_, hb⟩
  · exact hc (k * 3) _ ((flat_at chC_len M k 0 (by decide) _ hx).trans rfl)
  · rw [Nat.add_assoc]; exact hc (k * 3 + 1) _ ((flat_at chC_len M k 1 (by decide) _ hx).trans rfl)
  · rw [Nat.add_assoc]; exact hc (k * 3 + 2) _ ((flat_at chC_len M k 2 (by decide) _ hx).trans rfl)
theorem Gr.mono' {w w' : World} {B : Nat} (h : Gr w w') (hB : B ≤ w.heap.size) : Below B w w' := Below.mono h hB
theorem kept_below {w w1 w2 : World} {t : TypeId} {s n : Nat} {v v' : Value} {xs : List Value} (ho : w1.ownsRow w.heap.size t s v n xs) (hb : Below w.heap.size w w1) (hb' : Below w.heap.size w w2) (hk : Kept w1 w2 v v') : Below w.heap.size w1 w2 :=
  ⟨hb'.os.trans hb.os.symm, hb'.tape.trans hb.tape.symm, hb'.output.trans hb.output.symm, hk.2.1, fun k hk' => (hb'.block k hk').trans (hb.block k hk').symm⟩
def RetBk (w : World) (ve vi : Value) (M : List BRow) (e : Ending) (w' : World) : Prop := ∃ (v : Value) (R : List CRow), e = .returned (.agg #[ve, vi, v]) ∧ Own w w' 76 3 v R.length (R.flatMap CRow.cells) ∧ R.map CRow.x = M ∧ ∀ r ∈ R, r.d ≤ maxLen
theorem mapx_snoc {R : List CRow} {M : List BRow} {k : Nat} {r : CRow} (h : R.map CRow.x = M.take k) (hx : M[k]? = some r.x) : (R ++ [r]).map CRow.x = M.take (k + 1) := by
  rw [List.map_append, h, List.take_add_one, hx]; rfl
set_option maxRecDepth 100000 in
set_option maxHeartbeats 1000000 in
theorem back34_any (A1 A2 B : Option Addr) (n1 c1 n2 c2 m d : Nat) (M : List BRow) (w : World) (hM : Chr w B m d M) (hm : m ≤ 100) :
    Calls Tryz.prog 12 #[.agg #[.slice A1 n1 c1, .slice A2 n2 c2, .slice B m d]] w (RetBk w (.slice A1 n1 c1) (.slice A2 n2 c2) M) := by
  have hmax := hM.1.max
  have hcap := hM.1.cap
  obtain ⟨W, hW⟩ : ∃ W, W = ((w.alloc (.cells #[.slice A1 n1 c1, .slice A2 n2 c2, .slice B m d] 30)).alloc (.cells #[.slice none 0 0, .slice none 0 0, .slice none 0 0] 41)).alloc (.cells #[.slice A1 n1 c1, .slice A2 n2 c2, .slice none 0 0] 41) := ⟨_, rfl⟩
  have hGW : Gr w W := by rw [hW]; exact ((Gr.alloc _ _).trans (Gr.alloc _ _)).trans (Gr.alloc _ _)
  have hb1 : Blk W w.heap.size 30 [.slice A1 n1 c1, .slice A2 n2 c2, .slice B m d] := by rw [hW]; exact ((Blk.new w 30 #[.slice A1 n1 c1, .slice A2 n2 c2, .slice B m d]).alloc _).alloc _
  have hb2 : Blk W (w.heap.size + 1) 41 [.slice none 0 0, .slice none 0 0, .slice none 0 0] := by
    rw [hW]
    exact Blk.alloc (cs := [.slice none 0 0, .slice none 0 0, .slice none 0 0]) (heap_alloc2_new w _ _) _
  have hb3 : Blk W (w.heap.size + 1 + 1) 41 [.slice A1 n1 c1, .slice A2 n2 c2, .slice none 0 0] := by
    rw [hW]
    have := heap_alloc2_new (w.alloc (.cells #[.slice A1 n1 c1, .slice A2 n2 c2, .slice B m d] 30)) (.cells #[.slice none 0 0, .slice none 0 0, .slice none 0 0] 41) (.cells #[.slice A1 n1 c1, .slice A2 n2 c2, .slice none 0 0] 41)
    rw [show (w.alloc (.cells #[.slice A1 n1 c1, .slice A2 n2 c2, .slice B m d] 30)).heap.size = w.heap.size + 1 by simp] at this
    exact this
  have O0 : Hid (Own w W 76 3 (.slice none 0 0) 0 ((([] : List CRow)).flatMap CRow.cells)) := Own.nil' hGW _ _
  have HB1 := Lib.hid hb1; have HB2 := Lib.hid hb2; have HB3 := Lib.hid hb3; have HGW := Lib.hid hGW; have HW := Lib.hid hW; have HM := Lib.hid hM
  clear hM hb1 hb2 hb3 hGW hW
  go_enter Tryz.func12, Tryz.ntmps12
  go_wp2_with fail
  rw [← HW.out]
  go_loopw [4] (fun i wr => ∃ (k : Nat) (v : Value) (R : List CRow), k ≤ m ∧ i = .int .i64 (k : Int) ∧ Blk wr w.heap.size 30 [.slice A1 n1 c1, .slice A2 n2 c2, .slice B m d] ∧ Blk wr (w.heap.size + 1) 41 [.slice none 0 0, .slice none 0 0, .slice none 0 0] ∧ Blk wr (w.heap.size + 1 + 1) 41 [.slice A1 n1 c1, .slice A2 n2 c2, v] ∧ Own w wr 76 3 v R.length (R.flatMap CRow.cells) ∧ R.length = k ∧ R.map CRow.x = M.take k ∧ ∀ r ∈ R, r.d ≤ maxLen) (fun i _ => m - (Go.RowKit.intOf i).toNat)
  case atStart => exact ⟨0, _, [], Nat.zero_le _, rfl, HB1.out, HB2.out, HB3.out, O0.out, rfl, rfl, fun r hr => by cases hr⟩
  case round =>
    obtain ⟨k, v, R, hk, rfl, bk1, bk2, bk3, own, rl, rx, rd⟩ := hrel
    have BK1 := Lib.hid bk1; have BK2 := Lib.hid bk2; have BK3 := Lib.hid bk3; have OW := Lib.hid own; have RL := Lib.hid rl; have RX := Lib.hid rx; have RD := Lib.hid rd
    have x2 : wr.cell? ⟨w.heap.size, 2, none⟩ = some (.slice B m d) := (bk1.cell 2).trans rfl
    by_cases hlt : k < m
    · have y2 : wr.cell? ⟨w.heap.size + 1 + 1, 2, none⟩ = some v := (bk3.cell 2).trans rfl
      obtain ⟨b, o, xa, xc, xl, rfl, hx, d0, d1, d2, hbs⟩ := (HM.out.mono own.below).row hlt
      have HX := Lib.hid hx; have HBS := Lib.hid hbs
      have HLB : Hid (b < w.heap.size) := by
        obtain ⟨b', o', _, _, _, e, _, d0', _⟩ := HM.out.row hlt
        injection e with e
        injection e with e1 e2
        subst e1
        exact World.block_lt_of_cell? w _ d0'
      have D0 : Hid (∀ w', Below w.heap.size wr w' → w'.cell? ⟨b, o + k * 3, none⟩ = some (.int .i64 0)) := fun w' hb => (hb.cell (p := ⟨b, o + k * 3, none⟩) HLB.out).trans d0
      have D1 : Hid (∀ w', Below w.heap.size wr w' → w'.cell? ⟨b, o + k * 3 + 1, none⟩ = some (.slice xa 32 xc)) := fun w' hb => (hb.cell (p := ⟨b, o + k * 3 + 1, none⟩) HLB.out).trans d1
      have D2 : Hid (∀ w', Below w.heap.size wr w' → w'.cell? ⟨b, o + k * 3 + 2, none⟩ = some (.slice none 0 0)) := fun w' hb => (hb.cell (p := ⟨b, o + k * 3 + 2, none⟩) HLB.out).trans d2
      have hlt2 : (k : Int) < m := by omega
      have p0' : (0 : Int) ≤ k := by omega
      clear bk1 bk2 bk3 own rl rx rd hx d0 d1 d2 hbs
      go_upto_region 5 with fail
      refine wp_region_pre (by kernel_rfl) (fun w' => w'.cell? ⟨w.heap.size, 2, none⟩ = some (.slice (some ⟨b, o, none⟩) m d) ∧ w'.cell? ⟨w.heap.size + 1 + 1, 2, none⟩ = some v ∧ Below w.heap.size wr w') (fun i => i == 1 || i == 3 || i == 6) (fun i => i == 11) [0, 2, 4, 1, 3, 5, 6] 5 (by kernel_rfl) (by kernel_rfl) (by kernel_rfl) ⟨x2, y2, (Below.refl _ _).drew⟩ ?_
      refine wpPre_e rfl rfl ?_
      apply Exists.intro
      refine ⟨fun wq hq => ?_, ?_⟩
      · clear hq
        unfold plainAt
        go_simp
        first | exact rfl | exact ⟨rfl, rfl⟩
      go_simp
      refine wpPre_e rfl rfl ?_
      apply Exists.intro
      refine ⟨fun wq hq => ?_, ?_⟩
      · clear hq
        unfold plainAt
        go_simp
        first | exact rfl | exact ⟨rfl, rfl⟩
      go_simp
      refine wpPre_e rfl rfl ?_
      apply Exists.intro
      refine ⟨fun wq hq => ?_, ?_⟩
      · clear hq
        unfold plainAt
        go_simp
        first | exact rfl | exact ⟨rfl, rfl⟩
      go_simp
      refine wpPre_e rfl rfl ?_
      apply Exists.intro
      refine ⟨fun wq hq => ?_, ?_⟩
      · replace hq := hq rfl
        have z0 := hq.2.1
        unfold plainAt
        go_simp
        first | exact rfl | exact ⟨rfl, rfl⟩
      go_simp
      refine wpPre_e rfl rfl ?_
      apply Exists.intro
      refine ⟨fun wq hq => ?_, ?_⟩
      · replace hq := hq rfl
        have z0 := hq.1
        unfold plainAt
        go_simp
        first | exact rfl | exact ⟨rfl, rfl⟩
      go_simp
      refine wpPre_e rfl rfl ?_
      apply Exists.intro
      refine ⟨fun wq hq => ?_, ?_⟩
      · clear hq
        unfold plainAt
        go_simp
        first | exact rfl | exact ⟨rfl, rfl⟩
      go_simp
      refine wpPre_e rfl rfl ?_
      apply Exists.intro
      refine ⟨fun wq hq => ?_, ?_⟩
      · replace hq := hq rfl
        have z0 := D0.out wq hq.2.2; have z1 := D1.out wq hq.2.2; have z2 := D2.out wq hq.2.2
        unfold plainAt
        go_simp
        first | exact rfl | exact ⟨rfl, rfl⟩
      go_simp
      refine wpPre_nil ?_
      clear x2 y2
      refine wpRest_one (i := 7) (by kernel_rfl) rfl rfl ?_
      intro K hK
      go_simp
      go_at_call 32
      refine (back22_any 0 xa none 32 xc 0 0 [] wr.drew ⟨rfl, Sl.nil _ _, fun x hx => by cases hx⟩ (by decide)).mono ?_
      rintro e w2 ⟨v2, rfl, o2⟩
      obtain ⟨z2, d2, rfl, sl2⟩ := o2.slice
      have G2 : Hid (Gr wr w2) := (Gr.drew wr).trans o2.below
      have DM : Hid (d2 ≤ maxLen) := sl2.2.2.1
      clear o2 sl2
      refine hK _ _ (fun _ => ⟨((G2.out.blk BK1.out).cell 2).trans rfl, ((G2.out.blk BK3.out).cell 2).trans rfl, G2.out.mono' OW.out.below.size⟩) ?_
      clear hK
      go_simp
      refine wpRest_one (i := 8) (by kernel_rfl) rfl rfl ?_
      intro K hK
      go_simp
      have N3 : Hid (Blk (w2.alloc (.cells #[.int .i64 0, .slice xa 32 xc, .slice z2 0 d2] 76)) w2.heap.size 76 [.int .i64 0, .slice xa 32 xc, .slice z2 0 d2]) := Blk.new _ _ _
      have G3 : Hid (Gr wr (w2.alloc (.cells #[.int .i64 0, .slice xa 32 xc, .slice z2 0 d2] 76))) := G2.out.trans (Gr.alloc _ _)
      generalize hW3 : w2.alloc (.cells #[.int .i64 0, .slice xa 32 xc, .slice z2 0 d2] 76) = w3 at *
      refine hK _ _ (fun _ => ⟨((G3.out.blk BK1.out).cell 2).trans rfl, ((G3.out.blk BK3.out).cell 2).trans rfl, G3.out.mono' OW.out.below.size⟩) ?_
      clear hK
      go_simp
      refine wpRest_one (i := 9) (by kernel_rfl) rfl rfl ?_
      intro K hK
      refine wp_pushG (.tmp 21) (.tmp 28) 39 rfl tRef rfl (OW.out.mono G3.out) _ _ (CRow.cells ⟨⟨xa, 32, xc, xl⟩, z2, d2⟩) rfl rfl (CRow.one _) (fun i u hu => by rw [N3.out.cell]; exact hu) (by have := RL.out; omega) ?_
      intro v4 w4 own4 kept4
      have o3 := (OW.out.mono G3.out).1
      have P1 := Lib.hid (keptBlk o3 kept4 (G3.out.blk BK1.out) (by decide)); have P2 := Lib.hid (keptBlk o3 kept4 (G3.out.blk BK2.out) (by decide)); have P3 := Lib.hid (keptBlk o3 kept4 (G3.out.blk BK3.out) (by decide))
      obtain ⟨A4, c4, rfl, _⟩ := own4.slice
      have O4 := Lib.hid own4
      have BB : Hid (Below w.heap.size wr w4) := (G3.out.mono' OW.out.below.size).trans (kept_below o3 (OW.out.mono G3.out).below own4.below kept4)
      clear o3 own4 kept4
      have y4 : w4.cell? ⟨w.heap.size + 1 + 1, 2, none⟩ = some v := (P3.out.cell 2).trans rfl
      have f4 := P3.out.free 2
      refine hK _ _ (fun _ => ⟨(P1.out.cell 2).trans rfl, y4, BB.out⟩) ?_
      clear hK
      go_simp
      refine wpRest_one (i := 10) (by kernel_rfl) rfl rfl ?_
      intro K hK
      go_simp
      refine hK _ _ (fun _ => ⟨(P1.out.cell 2).trans rfl, y4, BB.out⟩) ?_
      clear hK
      go_simp
      refine wpRest_one (i := 11) (by kernel_rfl) rfl rfl ?_
      intro K hK
      go_simp
      refine hK _ _ (fun q => by cases q) ?_
      clear hK
      go_simp
      refine wpRest_nil (by kernel_rfl) ?_
      have B5 : Hid (Below w.heap.size w4 (w4.setCell ⟨w.heap.size + 1 + 1, 2, none⟩ (.slice A4 (R.length + 1) c4))) := (Below.refl _ _).setCell (p := ⟨w.heap.size + 1 + 1, 2, none⟩) (by show w.heap.size ≤ w.heap.size + 1 + 1; omega) _
      have O5 : Hid (Own w (w4.setCell ⟨w.heap.size + 1 + 1, 2, none⟩ (.slice A4 (R.length + 1) c4)) 76 3 (.slice A4 (R.length + 1) c4) (R ++ [(⟨⟨xa, 32, xc, xl⟩, z2, d2⟩ : CRow)]).length ((R ++ [(⟨⟨xa, 32, xc, xl⟩, z2, d2⟩ : CRow)]).flatMap CRow.cells)) := by
        rw [List.length_append, List.flatMap_append, List.flatMap_singleton]
        exact ⟨ownsRow_of_blk (blk_set_far P3.out (by decide)) O4.out.1, O4.out.below.trans B5.out⟩
      clear y4 f4
      go_wp2_with fail
      go_roundw
      case rel => exact ⟨k + 1, _, R ++ [(⟨⟨xa, 32, xc, xl⟩, z2, d2⟩ : CRow)], by omega, by go_num, blk_set_far P3.out (by decide) _ _ P1.out, P2.out.far (by show w.heap.size + 1 ≠ w.heap.size + 1 + 1; omega) _, P3.out.set 2 _, O5.out, by rw [List.length_append, RL.out]; rfl, mapx_snoc RX.out HX.out, fun r hr => by
        rcases List.mem_append.1 hr with hr | hr
        · exact RD.out r hr
        · obtain rfl := List.mem_singleton.1 hr
          exact DM.out⟩
      case measure => simp [Go.RowKit.intOf]; omega
    · obtain rfl : k = m := by omega
      obtain ⟨Av, cv, rfl, _⟩ := own.slice
      have y0 : wr.cell? ⟨w.heap.size + 1 + 1, 0, none⟩ = some (.slice A1 n1 c1) := (bk3.cell 0).trans rfl
      have y1 : wr.cell? ⟨w.heap.size + 1 + 1, 1, none⟩ = some (.slice A2 n2 c2) := (bk3.cell 1).trans rfl
      have y2 : wr.cell? ⟨w.heap.size + 1 + 1, 2, none⟩ = some (.slice Av R.length cv) := (bk3.cell 2).trans rfl
      clear bk1 bk2 bk3 own rl rx rd
      go_wp2_with (refine wpList_store_row rfl 41 (.tmp 2) (.tmp 31) rfl (w.heap.size + 1) #[.slice A1 n1 c1, .slice A2 n2 c2, .slice Av R.length cv] rfl rfl 41 #[.slice none 0 0, .slice none 0 0, .slice none 0 0] BK2.out rbSize rfl (by simp [Value.oneCell']) ?_)
      have hN : (wr.setRow (w.heap.size + 1) #[.slice A1 n1 c1, .slice A2 n2 c2, .slice Av R.length cv]).heap[w.heap.size + 1]? = some (.cells #[.slice A1 n1 c1, .slice A2 n2 c2, .slice Av R.length cv] 41 (0, 0)) := setRow_heap wr (w.heap.size + 1) _ _ _ _ BK2.out
      have hB4 : Below w.heap.size w (wr.setRow (w.heap.size + 1) #[.slice A1 n1 c1, .slice A2 n2 c2, .slice Av R.length cv]) := below_row OW.out.below (by omega) _
      have hO : Own w (wr.setRow (w.heap.size + 1) #[.slice A1 n1 c1, .slice A2 n2 c2, .slice Av R.length cv]) 76 3 (.slice Av R.length cv) R.length (R.flatMap CRow.cells) := by
        refine ⟨ownsRow_of_blk (fun g cs hb => ?_) OW.out.1, hB4⟩
        refine (setRow_other wr (w.heap.size + 1) g _ (fun e => ?_)).trans hb
        subst e
        have h1 : wr.heap[w.heap.size + 1]? = some (.cells #[.slice none 0 0, .slice none 0 0, .slice none 0 0] 41 (0, 0)) := BK2.out
        have h2 : wr.heap[w.heap.size + 1]? = some (.cells cs.toArray 76 (0, 0)) := hb
        rw [h1] at h2
        injection h2 with h2
        injection h2 with _ h2
        exact absurd h2 (by decide)
      exact bodyPost_ret (v := .agg #[.slice A1 n1 c1, .slice A2 n2 c2, .slice Av R.length cv]) (results_cell_row Tryz.results12 _ _ (w.heap.size + 1) 41 _ (0, 0) _ rfl hN Tryz.underlying41 rfl rbSize) rfl ⟨_, R, rfl, hO, by rw [RX.out, List.take_of_length_le (by rw [HM.out.2.1]; omega)], RD.out⟩
end Go.Proofs.YthlnoaalhojphaaGreatDoor
/- Epochs: two births of the reference that are alike. No condition. -/
namespace Go.Proofs.YthlnoaalhojphaaGreatDoor
open Go.RowKit
set_option linter.unusedVariables false
/-- A row of the reference's chains, each at its start, to be read. -/
def Rch (w : World) (A : Option Addr) (n c : Nat) (R : List CRow) : Prop := Sl w A n c 3 (R.flatMap CRow.cells) ∧ R.length = n ∧ ∀ r ∈ R, Bs w r.x.a r.x.n r.x.c r.x.l ∧ r.d ≤ maxLen
theorem Rch.mono {w w' : World} {A : Option Addr} {n c : Nat} {R : List CRow} (h : Rch w A n c R) (hb : Gr w w') : Rch w' A n c R := ⟨h.1.mono hb, h.2.1, fun x hx => ⟨(h.2.2 x hx).1.mono hb, (h.2.2 x hx).2⟩⟩
theorem Rch.row {w : World} {A : Option Addr} {n c : Nat} {R : List CRow} (h : Rch w A n c R) {k : Nat} (hk : k < n) : ∃ b o xa xn xc xl z d, A = some ⟨b, o, none⟩ ∧ R[k]? = some ⟨⟨xa, xn, xc, xl⟩, z, d⟩ ∧ w.cell? ⟨b, o + k * 3, none⟩ = some (.int .i64 0) ∧ w.cell? ⟨b, o + k * 3 + 1, none⟩ = some (.slice xa xn xc) ∧ w.cell? ⟨b, o + k * 3 + 2, none⟩ = some (.slice z 0 d) ∧ Bs w xa xn xc xl ∧ d ≤ maxLen := by
  obtain ⟨b, o, rfl, hc⟩ := h.1.addr (by omega)
  have hlt : k < R.length := by rw [h.2.1]; exact hk
  obtain ⟨⟨⟨xa, xn, xc, xl⟩, z, d⟩, hx⟩ : ∃ x, R[k]? = some x := ⟨_, List.getElem?_eq_getElem hlt⟩
  obtain ⟨hb, hd⟩ := h.2.2 _ (List.mem_of_getElem? hx)
  refine ⟨b, o, xa, xn, xc, xl, z, d, rfl, hx, ?_, ?_, ?_, hb, hd⟩
  · exact hc (k * 3) _ ((flat_at CRow.len R k 0 (by decide) _ hx).trans rfl)
  · rw [Nat.add_assoc]; exact hc (k * 3 + 1) _ ((flat_at CRow.len R k 1 (by decide) _ hx).trans rfl)
  · rw [Nat.add_assoc]; exact hc (k * 3 + 2) _ ((flat_at CRow.len R k 2 (by decide) _ hx).trans rfl)
theorem RetBk.rch {w w' : World} {ve vi : Value} {M : List BRow} {e : Ending} (h : RetBk w ve vi M e w') (hM : ∀ x ∈ M, Bs w x.a x.n x.c x.l) : ∃ A c R, e = .returned (.agg #[ve, vi, .slice A M.length c]) ∧ Rch w' A M.length c R ∧ R.map CRow.x = M ∧ Gr w w' := by
  obtain ⟨v, R, rfl, ho, hx, hd⟩ := h
  obtain ⟨A, c, rfl, hs⟩ := ho.slice
  have hl : R.length = M.length := by have := congrArg List.length hx; simpa using this
  rw [hl] at hs
  refine ⟨A, c, R, by rw [hl], ⟨hs, hl, fun r hr => ⟨(hM r.x ?_).mono ho.below, hd r hr⟩⟩, hx, ho.below⟩
  rw [← hx]
  exact List.mem_map_of_mem hr
set_option maxRecDepth 100000 in
set_option maxHeartbeats 2000000 in
theorem same34_yes (A1 B1 A2 B2 C D : Option Addr) (n1 c1 m1 d1 n2 c2 m2 d2 m mc md : Nat) (l1 l2 : List UInt8) (R R' : List CRow) (w : World) (h1 : Bs w A1 n1 c1 l1) (k1 : Bs w B1 m1 d1 l1) (h2 : Bs w A2 n2 c2 l2) (k2 : Bs w B2 m2 d2 l2) (hR : Rch w C m mc R) (hR' : Rch w D m md R') (he : R'.map (·.x.l) = R.map (·.x.l)) (hm : m ≤ 100) :
    Calls Tryz.prog 11 #[.agg #[.slice A1 n1 c1, .slice A2 n2 c2, .slice C m mc], .agg #[.slice B1 m1 d1, .slice B2 m2 d2, .slice D m md]] w fun e w' => e = .returned (.bool true) ∧ Gr w w' := by
  have hmax := hR.1.max
  have hcap := hR.1.cap
  have hmax' := hR'.1.max
  have hcap' := hR'.1.cap
  obtain ⟨W, hW⟩ : ∃ W, W = (w.alloc (.cells #[.slice A1 n1 c1, .slice A2 n2 c2, .slice C m mc] 41)).alloc (.cells #[.slice B1 m1 d1, .slice B2 m2 d2, .slice D m md] 41) := ⟨_, rfl⟩
  have hGW : Gr w W := by rw [hW]; exact (Gr.alloc _ _).trans (Gr.alloc _ _)
  have hb1 : Blk W w.heap.size 41 [.slice A1 n1 c1, .slice A2 n2 c2, .slice C m mc] := by rw [hW]; exact (Blk.new w 41 #[.slice A1 n1 c1, .slice A2 n2 c2, .slice C m mc]).alloc _
  have hb2 : Blk W (w.heap.size + 1) 41 [.slice B1 m1 d1, .slice B2 m2 d2, .slice D m md] := by rw [hW]; exact heap_alloc2_new w _ _
  have HB1 := Lib.hid hb1; have HB2 := Lib.hid hb2; have HGW := Lib.hid hGW; have HW := Lib.hid hW; have HR := Lib.hid (hR.mono hGW); have HR' := Lib.hid (hR'.mono hGW); have HE := Lib.hid he
  have H1 := Lib.hid (h1.mono hGW); have K1 := Lib.hid (k1.mono hGW); have H2 := Lib.hid (h2.mono hGW); have K2 := Lib.hid (k2.mono hGW)
  have x0 : W.cell? ⟨w.heap.size, 0, none⟩ = some (.slice A1 n1 c1) := (hb1.cell 0).trans rfl
  have x1 : W.cell? ⟨w.heap.size, 1, none⟩ = some (.slice A2 n2 c2) := (hb1.cell 1).trans rfl
  have x2 : W.cell? ⟨w.heap.size, 2, none⟩ = some (.slice C m mc) := (hb1.cell 2).trans rfl
  have z0 : W.cell? ⟨w.heap.size + 1, 0, none⟩ = some (.slice B1 m1 d1) := (hb2.cell 0).trans rfl
  have z1 : W.cell? ⟨w.heap.size + 1, 1, none⟩ = some (.slice B2 m2 d2) := (hb2.cell 1).trans rfl
  have z2 : W.cell? ⟨w.heap.size + 1, 2, none⟩ = some (.slice D m md) := (hb2.cell 2).trans rfl
  clear h1 k1 h2 k2 hR hR' he hb1 hb2 hGW hW
  go_enter Tryz.func11, Tryz.ntmps11
  go_wp2_with fail
  rw [← HW.out]
  go_wp2_with fail
  refine (refSame_b A1 B1 n1 m1 c1 d1 l1 l1 _ H1.out K1.out).mono ?_
  rintro e w1 ⟨rfl, g1⟩
  rw [beq_self_eq_true]
  have G1 : Hid (Gr W w1) := g1
  clear g1 x0 x1 x2 z0 z1 z2
  have x1 : w1.cell? ⟨w.heap.size, 1, none⟩ = some (.slice A2 n2 c2) := ((G1.out.blk HB1.out).cell 1).trans rfl
  have x2 : w1.cell? ⟨w.heap.size, 2, none⟩ = some (.slice C m mc) := ((G1.out.blk HB1.out).cell 2).trans rfl
  have z1 : w1.cell? ⟨w.heap.size + 1, 1, none⟩ = some (.slice B2 m2 d2) := ((G1.out.blk HB2.out).cell 1).trans rfl
  have z2 : w1.cell? ⟨w.heap.size + 1, 2, none⟩ = some (.slice D m md) := ((G1.out.blk HB2.out).cell 2).trans rfl
  go_wp2_with fail
  refine (refSame_b A2 B2 n2 m2 c2 d2 l2 l2 _ (H2.out.mono G1.out) (K2.out.mono G1.out)).mono ?_
  rintro e w2 ⟨rfl, g2⟩
  rw [beq_self_eq_true]
  have G2 : Hid (Gr W w2) := G1.out.trans g2
  clear g2 x1 x2 z1 z2
  have x1 : w2.cell? ⟨w.heap.size, 1, none⟩ = some (.slice A2 n2 c2) := ((G2.out.blk HB1.out).cell 1).trans rfl
  have x2 : w2.cell? ⟨w.heap.size, 2, none⟩ = some (.slice C m mc) := ((G2.out.blk HB1.out).cell 2).trans rfl
  have z1 : w2.cell? ⟨w.heap.size + 1, 1, none⟩ = some (.slice B2 m2 d2) := ((G2.out.blk HB2.out).cell 1).trans rfl
  have z2 : w2.cell? ⟨w.heap.size + 1, 2, none⟩ = some (.slice D m md) := ((G2.out.blk HB2.out).cell 2).trans rfl
  have tne : ((m : Int) != (m : Int)) = false := by simp
  go_wp2_with fail
  clear x1 x2 z1 z2
  go_loopw [5] (fun i wr => ∃ k : Nat, k ≤ m ∧ i = .int .i64 (k : Int) ∧ Gr W wr) (fun i _ => m - (Go.RowKit.intOf i).toNat)
  case atStart => exact ⟨0, Nat.zero_le _, rfl, G2.out⟩
  case round =>
    obtain ⟨k, hk, rfl, hb⟩ := hrel
    have x2 : wr.cell? ⟨w.heap.size, 2, none⟩ = some (.slice C m mc) := ((hb.blk HB1.out).cell 2).trans rfl
    by_cases hlt : k < m
    · obtain ⟨b, o, xa, xn, xc, xl, z, d, rfl, hx, e0, e1, e2, hbx, hdx⟩ := (HR.out.mono hb).row hlt
      obtain ⟨b', o', xa', xn', xc', xl', z', d', rfl, hx', e0', e1', e2', hbx', hdx'⟩ := (HR'.out.mono hb).row hlt
      have hel : xl' = xl := by
        have h := congrArg (fun l => l[k]?) HE.out
        simp only [List.getElem?_map, hx, hx', Option.map_some] at h
        exact Option.some.inj h
      subst hel
      have HB := Lib.hid hb
      have CF : Hid (∀ wq, Below wr.heap.size wr wq → wq.cell? ⟨w.heap.size, 2, none⟩ = some (.slice (some ⟨b, o, none⟩) m mc) ∧ wq.cell? ⟨w.heap.size + 1, 2, none⟩ = some (.slice (some ⟨b', o', none⟩) m md) ∧ (wq.cell? ⟨b, o + k * 3, none⟩ = some (.int .i64 0) ∧ wq.cell? ⟨b, o + k * 3 + 1, none⟩ = some (.slice xa xn xc) ∧ wq.cell? ⟨b, o + k * 3 + 2, none⟩ = some (.slice z 0 d)) ∧ (wq.cell? ⟨b', o' + k * 3, none⟩ = some (.int .i64 0) ∧ wq.cell? ⟨b', o' + k * 3 + 1, none⟩ = some (.slice xa' xn' xc') ∧ wq.cell? ⟨b', o' + k * 3 + 2, none⟩ = some (.slice z' 0 d'))) := fun wq hq =>
        have c : ∀ p u, wr.cell? p = some u → wq.cell? p = some u := fun p u hc => (hq.cell (World.block_lt_of_cell? wr _ hc)).trans hc
        ⟨c _ _ x2, c _ _ (((hb.blk HB2.out).cell 2).trans rfl), ⟨c _ _ e0, c _ _ e1, c _ _ e2⟩, ⟨c _ _ e0', c _ _ e1', c _ _ e2'⟩⟩
      have HSC : Hid (∀ wq, Below wr.heap.size wr wq → Calls Tryz.prog 31 #[.agg #[.int .i64 0, .slice xa xn xc, .slice z 0 d], .agg #[.int .i64 0, .slice xa' xn' xc', .slice z' 0 d']] wq fun e w' => e = .returned (.bool true) ∧ Below wr.heap.size wr w') := fun wq hq => by
        have h0 : xn' = xn := by have := hbx.len; have := hbx'.len; omega
        subst h0
        refine (sameChain_yes 0 xa z xa' z' xn' xc 0 d xc' d' xl' [] [] wq (hbx.mono hq) (hbx'.mono hq) ⟨rfl, ⟨rfl, Nat.zero_le _, hdx, fun h => absurd h (by decide)⟩, fun x hx => by cases hx⟩ ⟨rfl, ⟨rfl, Nat.zero_le _, hdx', fun h => absurd h (by decide)⟩, fun x hx => by cases hx⟩ rfl (by decide)).mono ?_
        rintro e w2 ⟨he, hbb⟩
        exact ⟨he, below_both hq hbb⟩
      have hlt2 : (k : Int) < m := by omega
      have p0' : (0 : Int) ≤ k := by omega
      clear hx hx' e0 e1 e2 e0' e1' e2' hbx hbx' hb
      go_upto_region 6 with fail
      clear x2
      refine wp_region_quiet (C := fun w' => Below (wr).heap.size (wr) w') (by kernel_rfl) (by kernel_rfl) (Below.refl _ _).drew ?_
      simp only
      repeat (first
        | go_big_quiet_skip
        | (go_big_quiet_want
           apply Exists.intro
           refine ⟨fun wq hq => ?_, ?_⟩
           · (obtain ⟨q1, q2, ⟨q3, q4, q5⟩, q6, q7, q8⟩ := CF.out wq hq
              go_simp
              first
                | done
                | exact rfl
                | (with_reducible exact ⟨rfl, rfl⟩)
                | (go_at_call 31; exact HSC.out wq hq))
           go_simp
           go_big_quiet_on))
      refine wpQuiet_nil ?_
      intro wq hq
      go_wp2_with fail
      go_roundw
      case rel => exact ⟨k + 1, by omega, by go_num, HB.out.trans hq⟩
      case measure => simp [Go.RowKit.intOf]; omega
    · obtain rfl : k = m := by omega
      have HB := Lib.hid hb; clear hb
      go_wp2_with fail
      go_ret
      exact ⟨rfl, HGW.out.trans HB.out⟩
end Go.Proofs.YthlnoaalhojphaaGreatDoor
