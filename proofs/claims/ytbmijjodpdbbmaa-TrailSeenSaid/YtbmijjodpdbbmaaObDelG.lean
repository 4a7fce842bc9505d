import Derived.Test.YtbmijjodpdbbmaaObDelF
namespace Go.Proofs.Ytbmijjodpdbbmaa
open Go.RowKit Go.Maps
set_option linter.unusedVariables false

theorem below_setRow {B : Nat} {w0 w : World} {g : Nat} (h : Below B w0 w) (hg : B ≤ g) (cs : Array Value) : Below B w0 (w.setRow g cs) :=
  ⟨h.os, h.tape, h.output, by simpa [World.setRow] using h.size, fun k hk => by
    have hne : g ≠ k := by omega
    rw [← h.block k hk]
    simp [World.setRow, Array.getElem?_modify, hne]⟩

set_option maxHeartbeats 1000000 in
theorem delW_any (v : Value) (L : List Wr) (p : Nat) (B : Option Addr) (m d : Nat) (H : List Int) (w0 w : World) (ho : OwnW w0 w v L) (hn : L.length ≤ 1048576) (hr : ∀ x ∈ L, Bs w0 x.r.a x.r.n x.r.c x.r.l ∧ -9223372036854775808 ≤ x.p ∧ x.p ≤ 9223372036854775807)
    (hp : w0.cell? ⟨p, 0, none⟩ = some (.slice B m d)) (hH : Is w0 B m d H) :
    Calls Try.prog 41 #[v, .func (.func 39) #[] #[.pointer (some ⟨p, 0, none⟩)]] w fun e w' => ∃ v', e = .returned v' ∧ OwnW w0 w' v' (keepW H L) := by
  have hbw := ho.below
  have hplt : p < w0.heap.size := World.block_lt_of_cell? w0 _ hp
  obtain ⟨A, c, rfl, hs⟩ := ho.slice
  have hmax := Sl.max hs
  have hcap := Sl.cap hs
  have HWR : Hid (Wrs w A L.length c L) := ⟨rfl, hs, fun x hx => ⟨(hr x hx).1.mono hbw, (hr x hx).2⟩⟩
  have HP : Hid (∀ wq, Below w0.heap.size w0 wq → wq.cell? ⟨p, 0, none⟩ = some (.slice B m d)) := fun wq hq => (hq.cell (p := ⟨p, 0, none⟩) hplt).trans hp
  have HI := Lib.hid hH
  have HIX := Lib.hid (indexW_any A L.length c L p B m d H w HWR.out (HP.out w hbw) (hH.mono hbw))
  have HO := Lib.hid ho
  have HB := Lib.hid hbw
  clear hs hp hH ho hbw
  go_enter Try.func41, Try.ntmps41
  go_wp2_with fail
  refine HIX.out.mono ?_
  rintro e w1 ⟨r, rfl, hfirst, b1⟩
  rcases hfirst with ⟨rfl, hall⟩ | ⟨k, rfl, hk, hall, x, hx, hh⟩
  · have HE : Hid (OwnW w0 w1 (.slice A L.length c) (keepW H L)) := by rw [keepW_all H L hall]; exact HO.out.mono b1
    clear hall
    go_wp2
    go_ret
    exact ⟨_, rfl, HE.out⟩
  · have t1 : ((k : Int) == -1) = false := by simp
    have hown := HO.out
    rcases hown.1.2 with ⟨hv, _⟩ | ⟨g, cap, cur, hv, hg, hhp, hnc, hcm, hsz, htk⟩
    · injection hv with h1 h2 h3
      omega
    injection hv with h1 h2 h3
    subst h1 h3
    obtain ⟨cs0, rfl⟩ : ∃ cs0 : List Value, cur = cs0.toArray := ⟨cur.toList, by simp⟩
    have hblk0 : Blk w1 g 46 cs0 := (show Blk w g 46 cs0 from hhp).mono b1
    have hcl : cs0.length = c * 2 := by simpa using hsz
    have hG : Gone H L k (k + 1) cs0 := by
      have hkl := cells_len L
      have hpre : ∀ t, t < L.length * 2 → cs0[t]? = (L.flatMap Wr.cells)[t]? := by
        intro t ht
        rw [← htk, List.getElem?_take_of_lt (by omega)]
      have e : keepW H (L.take k) = L.take k := keepW_all H _ hall
      have h0 : Gone H L k k cs0 := by
        refine ⟨by rw [e, List.length_take]; omega, fun t ht => ?_, fun t _ h2 => hpre t h2⟩
        rw [e, cells_take, List.getElem?_take_of_lt ht]
        exact hpre t (by omega)
      exact h0.skip hx hh
    have HB1 := Lib.hid (HB.out.trans (b1.mono HB.out.size))
    clear hown hhp hsz htk hall hx hh b1 HIX
    have HG0 := Lib.hid hG; have HBK0 := Lib.hid hblk0; clear hG hblk0
    go_wp2
    clear t1
    go_loopw [5, 6] (fun vi vj wr => ∃ (i j : Nat) (cs : List Value), i < j ∧ j ≤ L.length ∧ vi = .int .i64 i ∧ vj = .int .i64 j ∧ Gone H L i j cs ∧ cs.length = c * 2 ∧ Blk wr g 46 cs ∧ Below w0.heap.size w0 wr) (fun _ vj _ => L.length - (intOf vj).toNat)
    case atStart => exact ⟨k, k + 1, cs0, by omega, by omega, rfl, by go_num, HG0.out, hcl, HBK0.out, HB1.out⟩
    case round =>
      obtain ⟨i, j, cs, hij, hj, rfl, rfl, hG, hcs, hblk, hbel⟩ := hrel
      have HGN := Lib.hid hG; clear hG
      have HCS := Lib.hid hcs; clear hcs
      by_cases hlt : j < L.length
      · obtain ⟨x, hx⟩ : ∃ x, L[j]? = some x := ⟨_, List.getElem?_eq_getElem hlt⟩
        obtain ⟨xp, xr⟩ := x
        have c0 : wr.cell? ⟨g, j * 2, none⟩ = some (.int .i64 xp) := by
          rw [hblk.cell, HGN.out.2.2 _ (by omega) (by omega)]
          exact (flat_at (s := 2) Wr.cells_len L j 0 (by decide) _ hx).trans rfl
        have c1 : wr.cell? ⟨g, j * 2 + 1, none⟩ = some (.slice xr.a xr.n xr.c) := by
          rw [hblk.cell, HGN.out.2.2 _ (by omega) (by omega)]
          exact (flat_at (s := 2) Wr.cells_len L j 1 (by decide) _ hx).trans rfl
        have HX := Lib.hid hx; clear hx
        have hf0 := hblk.free (i * 2)
        have hf1 := hblk.free (i * 2 + 1)
        obtain ⟨wl, hwl⟩ : ∃ wl, wl = wr.alloc (.cells #[.int .i64 xp, .slice xr.a xr.n xr.c] 46) := ⟨_, rfl⟩
        have hbl : Below wr.heap.size wr wl := by rw [hwl]; exact (Below.refl _ _).alloc (Nat.le_refl _) _
        have hb0 := hbel.trans (hbl.mono hbel.size)
        have d0 : wl.cell? ⟨wr.heap.size, 0, none⟩ = some (.int .i64 xp) := by rw [hwl, (Blk.new wr _ _).cell]; rfl
        have d1 : wl.cell? ⟨wr.heap.size, 1, none⟩ = some (.slice xr.a xr.n xr.c) := by rw [hwl, (Blk.new wr _ _).cell]; rfl
        have hzl : wr.heap.size < wl.heap.size := by rw [hwl]; simp
        have HC := Lib.hid (covert_any p xp xr B m d H wl (HP.out wl hb0) (HI.out.mono hb0))
        have HBK := Lib.hid (hblk.mono hbl)
        have HWL := Lib.hid hwl; have HB0 := Lib.hid hb0; clear hwl hbl hb0 hblk hbel
        cases he : H.contains xp
        · rw [he] at HC
          go_wp2_with fail
          rw [← HWL.out]
          refine HC.out.mono ?_
          rintro e w2 ⟨rfl, b2⟩
          have f0 : w2.cell? ⟨wr.heap.size, 0, none⟩ = some (.int .i64 xp) := (b2.cell (p := ⟨wr.heap.size, 0, none⟩) hzl).trans d0
          have f1 : w2.cell? ⟨wr.heap.size, 1, none⟩ = some (.slice xr.a xr.n xr.c) := (b2.cell (p := ⟨wr.heap.size, 1, none⟩) hzl).trans d1
          have hbk2 := HBK.out.mono b2
          have g0 := hbk2.free (i * 2)
          have g1 := hbk2.free (i * 2 + 1)
          have hlen : i * 2 + 1 < cs.length := by rw [HCS.out]; omega
          have k0 : w2.cell? ⟨g, i * 2, none⟩ = some cs[i * 2] := by rw [hbk2.cell, List.getElem?_eq_getElem (by omega)]
          have k1 : w2.cell? ⟨g, i * 2 + 1, none⟩ = some cs[i * 2 + 1] := by rw [hbk2.cell, List.getElem?_eq_getElem hlen]
          have HK2 := Lib.hid hbk2; have HE := Lib.hid he; clear hbk2 he
          have HB2 := Lib.hid (HB0.out.trans (b2.mono HB0.out.size)); clear b2
          go_wp2
          go_roundw
          case rel =>
            exact ⟨i + 1, j + 1, (cs.set (i * 2) (.int .i64 xp)).set (i * 2 + 1) (.slice xr.a xr.n xr.c), by omega, by omega, by go_num, by go_num, HGN.out.keep HX.out HE.out (by omega) hlen, by rw [List.length_set, List.length_set]; exact HCS.out,
              (HK2.out.set (i * 2) (.int .i64 xp)).set (i * 2 + 1) (.slice xr.a xr.n xr.c), (HB2.out.setCell (p := ⟨g, i * 2, none⟩) hg _).setCell (p := ⟨g, i * 2 + 1, none⟩) hg _⟩
          case measure => simp [intOf]; omega
        · rw [he] at HC
          have HE := Lib.hid he; clear he
          go_wp2_with fail
          rw [← HWL.out]
          refine HC.out.mono ?_
          rintro e w2 ⟨rfl, b2⟩
          have HK2 := Lib.hid (HBK.out.mono b2)
          have HB2 := Lib.hid (HB0.out.trans (b2.mono HB0.out.size)); clear b2
          go_wp2
          go_roundw
          case rel => exact ⟨i, j + 1, cs, by omega, by omega, rfl, by go_num, HGN.out.skip HX.out HE.out, HCS.out, HK2.out, HB2.out⟩
          case measure => simp [intOf]; omega
      · have hjl : j = L.length := by omega
        obtain ⟨A', hA', hfrom⟩ := run_from tWr (some ⟨g, 0, none⟩) L.length c i (by omega) hcap
        obtain rfl := hA' (by omega) g 0 rfl
        have hupto := fun w => run_upto tWr (some ⟨g, 0, none⟩) L.length c i (by omega) w
        obtain ⟨cs', hclr, hl', hpre', hblk'⟩ := clear_wrs g (0 + i * 2) (L.length - i) (c - i) 0 cs wr hblk (by rw [HCS.out]; omega)
        have HF : Hid (OwnW w0 (wr.setRow g cs'.toArray) (.slice (some ⟨g, 0, none⟩) i c) (keepW H L)) := by
          have hk := HGN.out
          rw [hjl] at hk
          unfold Gone at hk
          rw [List.take_of_length_le (Nat.le_refl _)] at hk
          have hlen := cells_len (keepW H L)
          rw [hk.1] at hlen
          unfold OwnW
          rw [hk.1]
          refine ⟨⟨hlen, .inr ⟨g, c, cs'.toArray, rfl, hg, hblk', by omega, hcm, ?_, ?_⟩⟩, ?_⟩
          · simp; rw [hl', HCS.out]
          · apply List.ext_getElem?
            intro t
            rcases Nat.lt_or_ge t (i * 2) with h | h
            · rw [List.getElem?_take_of_lt h]
              show cs'[t]? = _
              rw [hpre' t (by omega)]
              exact hk.2.1 t h
            · rw [List.getElem?_eq_none (by simp; omega), List.getElem?_eq_none (by omega)]
          · exact below_setRow hbel hg _
        clear hblk hblk' hl' hpre' hjl
        simp only [Nat.zero_add] at hfrom hclr
        go_wp2
        go_ret
        exact ⟨_, rfl, HF.out⟩
end Go.Proofs.Ytbmijjodpdbbmaa
