/- Epochs: where there is none; what the reference says of births. No condition. -/
import Derived.Test.YthlnoaalhojphaaGreatDoorObEpB
import Derived.Test.YthlnoaalhojphaaGreatDoorObEpD
import Derived.Test.YthlnoaalhojphaaGreatDoorObRef
import Derived.Outline
namespace Go.Proofs.YthlnoaalhojphaaGreatDoor
open Go.RowKit
set_option linter.unusedVariables false
/-- No birth. -/
def RetNoB (f : Int) (w : World) (e : Ending) (w' : World) : Prop := e = .returned (.tuple #[.agg #[.slice none 0 0, .slice none 0 0, .slice none 0 0], .int .i64 f]) ∧ Gr w w'
set_option maxRecDepth 100000 in
set_option maxHeartbeats 1000000 in
theorem firstNo_any (p snd : Int) (q : Nat) (A : Option Addr) (n c : Nat) (l : List UInt8) (w : World) (f : Int) (hf : whyL snd [⟨A, n, c, l⟩] = f) (hne : f ≠ 0) :
    Calls Tryz.prog 7 #[.pointer (some ⟨q, 0, none⟩), .slice A n c, .int .i64 snd] w (RetNoB f w) := by
  obtain ⟨W, hW⟩ : ∃ W, W = w.alloc (.cells #[.slice none 0 0, .slice none 0 0, .slice none 0 0] 30) := ⟨_, rfl⟩
  have hGW : Gr w W := by rw [hW]; exact Gr.alloc _ _
  have hzW : W.heap.size = w.heap.size + 1 := by rw [hW]; simp
  have b3 : Blk W w.heap.size 30 [.slice none 0 0, .slice none 0 0, .slice none 0 0] := by rw [hW]; exact Blk.new w _ _
  have HW := Lib.hid hW; have HGW := Lib.hid hGW; have B3 := Lib.hid b3
  have hrow := row1_sl W ⟨A, n, c, l⟩ 22
  rw [hzW] at hrow
  have HWY := Lib.hid (why_any q snd (some ⟨w.heap.size + 1, 0, none⟩) 1 1 [⟨A, n, c, l⟩] (W.alloc (.cells #[.slice A n c] 22)) hrow)
  rw [hf] at HWY
  have HG4 := Lib.hid (Gr.alloc W (.cells #[.slice A n c] 22))
  have tne : ((f : Int) != 0) = true := bne_iff_ne.2 hne
  clear hrow hW hGW hzW b3 hf
  go_enter Tryz.func7, Tryz.ntmps7
  go_wp2_with fail
  rw [← HW.out]
  refine HWY.out.mono ?_
  rintro e w1 ⟨rfl, g1⟩
  have G1 : Hid (Gr w w1) := HGW.out.trans (HG4.out.trans g1)
  have PB1 := Lib.hid ((HG4.out.trans g1).blk B3.out)
  clear g1 HWY
  have bw : Below w.heap.size w1 (w1.setRow (w.heap.size) #[.slice none 0 0, .slice none 0 0, .slice none 0 0]) := below_row (Below.refl _ _) (by omega) _
  have PBN : Blk (w1.setRow (w.heap.size) #[.slice none 0 0, .slice none 0 0, .slice none 0 0]) (w.heap.size) 30 [.slice none 0 0, .slice none 0 0, .slice none 0 0] := setRow_heap w1 (w.heap.size) _ _ _ _ PB1.out
  go_wp2_with (refine wpList_store_row rfl 30 (.tmp 6) (.tmp 16) rfl (w.heap.size) #[.slice none 0 0, .slice none 0 0, .slice none 0 0] rfl rfl 30 #[.slice none 0 0, .slice none 0 0, .slice none 0 0] PB1.out bSize rfl (by simp [Value.oneCell']) ?_)
  generalize w1.setRow (w.heap.size) #[.slice none 0 0, .slice none 0 0, .slice none 0 0] = w9 at *
  have q0 : w9.cell? ⟨w.heap.size, 0, none⟩ = some (.slice none 0 0) := (PBN.cell 0).trans rfl
  have q1 : w9.cell? ⟨w.heap.size, 1, none⟩ = some (.slice none 0 0) := (PBN.cell 1).trans rfl
  have q2 : w9.cell? ⟨w.heap.size, 2, none⟩ = some (.slice none 0 0) := (PBN.cell 2).trans rfl
  have FIN : Hid (Gr w w9) := Below.trans (G1.out) bw
  exact bodyPost_ret (v := .tuple #[.agg #[.slice none 0 0, .slice none 0 0, .slice none 0 0], .int .i64 f]) (by simp [results, Tryz.results7, go_sem, q0, q1, q2]) rfl ⟨rfl, FIN.out⟩
set_option maxRecDepth 100000 in
set_option maxHeartbeats 1000000 in
theorem firstNil_any (snd : Int) (A : Option Addr) (n c : Nat) (w : World) :
    Calls Tryz.prog 7 #[.pointer none, .slice A n c, .int .i64 snd] w (RetNoB 1 w) := by
  obtain ⟨W, hW⟩ : ∃ W, W = w.alloc (.cells #[.slice none 0 0, .slice none 0 0, .slice none 0 0] 30) := ⟨_, rfl⟩
  have hGW : Gr w W := by rw [hW]; exact Gr.alloc _ _
  have b3 : Blk W w.heap.size 30 [.slice none 0 0, .slice none 0 0, .slice none 0 0] := by rw [hW]; exact Blk.new w _ _
  have HW := Lib.hid hW; have HGW := Lib.hid hGW; have B3 := Lib.hid b3
  have HWY := Lib.hid (fun v W => whyNil_any snd v W)
  have HG4 := Lib.hid (Gr.alloc W (.cells #[.slice A n c] 22))
  obtain ⟨f, hf⟩ : ∃ f : Int, f = 1 := ⟨_, rfl⟩
  rw [← hf] at HWY ⊢
  have tne : ((f : Int) != 0) = true := by rw [hf]; decide
  clear hW hGW b3 hf
  go_enter Tryz.func7, Tryz.ntmps7
  go_wp2_with fail
  rw [← HW.out]
  refine (HWY.out _ _).mono ?_
  rintro e w1 ⟨rfl, h1⟩
  have G1 : Hid (Gr w w1) := by rw [← h1]; exact HGW.out.trans HG4.out
  have PB1 : Hid (Blk w1 w.heap.size 30 [.slice none 0 0, .slice none 0 0, .slice none 0 0]) := by rw [← h1]; exact HG4.out.blk B3.out
  clear h1 HWY
  have bw : Below w.heap.size w1 (w1.setRow (w.heap.size) #[.slice none 0 0, .slice none 0 0, .slice none 0 0]) := below_row (Below.refl _ _) (by omega) _
  have PBN : Blk (w1.setRow (w.heap.size) #[.slice none 0 0, .slice none 0 0, .slice none 0 0]) (w.heap.size) 30 [.slice none 0 0, .slice none 0 0, .slice none 0 0] := setRow_heap w1 (w.heap.size) _ _ _ _ PB1.out
  go_wp2_with (refine wpList_store_row rfl 30 (.tmp 6) (.tmp 16) rfl (w.heap.size) #[.slice none 0 0, .slice none 0 0, .slice none 0 0] rfl rfl 30 #[.slice none 0 0, .slice none 0 0, .slice none 0 0] PB1.out bSize rfl (by simp [Value.oneCell']) ?_)
  generalize w1.setRow (w.heap.size) #[.slice none 0 0, .slice none 0 0, .slice none 0 0] = w9 at *
  have q0 : w9.cell? ⟨w.heap.size, 0, none⟩ = some (.slice none 0 0) := (PBN.cell 0).trans rfl
  have q1 : w9.cell? ⟨w.heap.size, 1, none⟩ = some (.slice none 0 0) := (PBN.cell 1).trans rfl
  have q2 : w9.cell? ⟨w.heap.size, 2, none⟩ = some (.slice none 0 0) := (PBN.cell 2).trans rfl
  have FIN : Hid (Gr w w9) := Below.trans (G1.out) bw
  exact bodyPost_ret (v := .tuple #[.agg #[.slice none 0 0, .slice none 0 0, .slice none 0 0], .int .i64 f]) (by simp [results, Tryz.results7, go_sem, q0, q1, q2]) rfl ⟨rfl, FIN.out⟩
set_option maxRecDepth 100000 in
set_option maxHeartbeats 1000000 in
theorem nextNo_any (snd : Int) (q : Nat) (A B : Option Addr) (n c m d : Nat) (l k : List UInt8) (w : World) (f : Int) (hf : whyL snd [⟨A, n, c, l⟩, ⟨B, m, d, k⟩] = f) (hne : f ≠ 0) :
    Calls Tryz.prog 8 #[.pointer (some ⟨q, 0, none⟩), .slice A n c, .slice B m d, .int .i64 snd] w (RetNoB f w) := by
  obtain ⟨W, hW⟩ : ∃ W, W = w.alloc (.cells #[.slice none 0 0, .slice none 0 0, .slice none 0 0] 30) := ⟨_, rfl⟩
  have hGW : Gr w W := by rw [hW]; exact Gr.alloc _ _
  have hzW : W.heap.size = w.heap.size + 1 := by rw [hW]; simp
  have b3 : Blk W w.heap.size 30 [.slice none 0 0, .slice none 0 0, .slice none 0 0] := by rw [hW]; exact Blk.new w _ _
  have HW := Lib.hid hW; have HGW := Lib.hid hGW; have B3 := Lib.hid b3
  have hrow := row2_sl W ⟨A, n, c, l⟩ ⟨B, m, d, k⟩ 22
  rw [hzW] at hrow
  have HWY := Lib.hid (why_any q snd (some ⟨w.heap.size + 1, 0, none⟩) 2 2 [⟨A, n, c, l⟩, ⟨B, m, d, k⟩] (W.alloc (.cells #[.slice A n c, .slice B m d] 22)) hrow)
  rw [hf] at HWY
  have HG4 := Lib.hid (Gr.alloc W (.cells #[.slice A n c, .slice B m d] 22))
  have tne : ((f : Int) != 0) = true := bne_iff_ne.2 hne
  clear hrow hW hGW hzW b3 hf
  go_enter Tryz.func8, Tryz.ntmps8
  go_wp2_with fail
  rw [← HW.out]
  refine HWY.out.mono ?_
  rintro e w1 ⟨rfl, g1⟩
  have G1 : Hid (Gr w w1) := HGW.out.trans (HG4.out.trans g1)
  have PB1 := Lib.hid ((HG4.out.trans g1).blk B3.out)
  clear g1 HWY
  have bw : Below w.heap.size w1 (w1.setRow (w.heap.size) #[.slice none 0 0, .slice none 0 0, .slice none 0 0]) := below_row (Below.refl _ _) (by omega) _
  have PBN : Blk (w1.setRow (w.heap.size) #[.slice none 0 0, .slice none 0 0, .slice none 0 0]) (w.heap.size) 30 [.slice none 0 0, .slice none 0 0, .slice none 0 0] := setRow_heap w1 (w.heap.size) _ _ _ _ PB1.out
  go_wp2_with (refine wpList_store_row rfl 30 (.tmp 8) (.tmp 19) rfl (w.heap.size) #[.slice none 0 0, .slice none 0 0, .slice none 0 0] rfl rfl 30 #[.slice none 0 0, .slice none 0 0, .slice none 0 0] PB1.out bSize rfl (by simp [Value.oneCell']) ?_)
  generalize w1.setRow (w.heap.size) #[.slice none 0 0, .slice none 0 0, .slice none 0 0] = w9 at *
  have q0 : w9.cell? ⟨w.heap.size, 0, none⟩ = some (.slice none 0 0) := (PBN.cell 0).trans rfl
  have q1 : w9.cell? ⟨w.heap.size, 1, none⟩ = some (.slice none 0 0) := (PBN.cell 1).trans rfl
  have q2 : w9.cell? ⟨w.heap.size, 2, none⟩ = some (.slice none 0 0) := (PBN.cell 2).trans rfl
  have FIN : Hid (Gr w w9) := Below.trans (G1.out) bw
  exact bodyPost_ret (v := .tuple #[.agg #[.slice none 0 0, .slice none 0 0, .slice none 0 0], .int .i64 f]) (by simp [results, Tryz.results8, go_sem, q0, q1, q2]) rfl ⟨rfl, FIN.out⟩
set_option maxRecDepth 100000 in
set_option maxHeartbeats 1000000 in
theorem bornNo_any (snd : Int) (p : Nat) (A : Option Addr) (n c : Nat) (l : List UInt8) (w : World) (f : Int) (hf : whyL snd [⟨A, n, c, l⟩] = f) (hne : f ≠ 0) :
    Calls Tryz.prog 9 #[.pointer (some ⟨p, 0, none⟩), .slice A n c, .int .i64 snd] w (RetNoB f w) := by
  obtain ⟨W, hW⟩ : ∃ W, W = ((w.alloc (.cells #[.pointer (some ⟨p, 0, none⟩)] 24)).alloc (.cells #[.slice A n c] 22)).alloc (.cells #[.slice none 0 0, .slice none 0 0, .slice none 0 0] 30) := ⟨_, rfl⟩
  have hGW : Gr w W := by rw [hW]; exact ((Gr.alloc _ _).trans (Gr.alloc _ _)).trans (Gr.alloc _ _)
  have hzW : W.heap.size = w.heap.size + 1 + 1 + 1 := by rw [hW]; simp
  have b1 : Blk W w.heap.size 24 [.pointer (some ⟨p, 0, none⟩)] := by rw [hW]; exact ((Blk.new w 24 #[.pointer (some ⟨p, 0, none⟩)]).alloc _).alloc _
  have b2 : Blk W (w.heap.size + 1) 22 [.slice A n c] := by
    rw [hW]
    exact Blk.alloc (cs := [.slice A n c]) (heap_alloc2_new w _ _) _
  have b3 : Blk W (w.heap.size + 1 + 1) 30 [.slice none 0 0, .slice none 0 0, .slice none 0 0] := by
    rw [hW]
    have := heap_alloc2_new (w.alloc (.cells #[.pointer (some ⟨p, 0, none⟩)] 24)) (.cells #[.slice A n c] 22) (.cells #[.slice none 0 0, .slice none 0 0, .slice none 0 0] 30)
    rw [show (w.alloc (.cells #[.pointer (some ⟨p, 0, none⟩)] 24)).heap.size = w.heap.size + 1 by simp] at this
    exact this
  have HW := Lib.hid hW; have HGW := Lib.hid hGW; have B3 := Lib.hid b3
  have hrow := row1_sl W ⟨A, n, c, l⟩ 22
  rw [hzW] at hrow
  have HWY := Lib.hid (why_any p snd (some ⟨w.heap.size + 1 + 1 + 1, 0, none⟩) 1 1 [⟨A, n, c, l⟩] (W.alloc (.cells #[.slice A n c] 22)) hrow)
  rw [hf] at HWY
  have HG4 := Lib.hid (Gr.alloc W (.cells #[.slice A n c] 22))
  have tne : ((f : Int) != 0) = true := bne_iff_ne.2 hne
  have y1 : W.cell? ⟨w.heap.size, 0, none⟩ = some (.pointer (some ⟨p, 0, none⟩)) := (b1.cell 0).trans rfl
  have y2 : W.cell? ⟨w.heap.size + 1, 0, none⟩ = some (.slice A n c) := (b2.cell 0).trans rfl
  clear hrow hW hGW hzW b1 b2 b3 hf
  go_enter Tryz.func9, Tryz.ntmps9
  go_wp2_with fail
  rw [← HW.out]
  refine HWY.out.mono ?_
  rintro e w1 ⟨rfl, g1⟩
  have G1 : Hid (Gr w w1) := HGW.out.trans (HG4.out.trans g1)
  have PB1 := Lib.hid ((HG4.out.trans g1).blk B3.out)
  have z0 : w1.cell? ⟨w.heap.size + 1 + 1, 0, none⟩ = some (.slice none 0 0) := (PB1.out.cell 0).trans rfl
  have z1 : w1.cell? ⟨w.heap.size + 1 + 1, 1, none⟩ = some (.slice none 0 0) := (PB1.out.cell 1).trans rfl
  have z2 : w1.cell? ⟨w.heap.size + 1 + 1, 2, none⟩ = some (.slice none 0 0) := (PB1.out.cell 2).trans rfl
  clear g1 HWY y1 y2
  have bw : Below w.heap.size w1 (w1.setRow (w.heap.size + 1 + 1) #[.slice none 0 0, .slice none 0 0, .slice none 0 0]) := below_row (Below.refl _ _) (by omega) _
  have PBN : Blk (w1.setRow (w.heap.size + 1 + 1) #[.slice none 0 0, .slice none 0 0, .slice none 0 0]) (w.heap.size + 1 + 1) 30 [.slice none 0 0, .slice none 0 0, .slice none 0 0] := setRow_heap w1 (w.heap.size + 1 + 1) _ _ _ _ PB1.out
  go_wp2_with (refine wpList_store_row rfl 30 (.tmp 6) (.tmp 18) rfl (w.heap.size + 1 + 1) #[.slice none 0 0, .slice none 0 0, .slice none 0 0] rfl rfl 30 #[.slice none 0 0, .slice none 0 0, .slice none 0 0] PB1.out bSize rfl (by simp [Value.oneCell']) ?_)
  generalize w1.setRow (w.heap.size + 1 + 1) #[.slice none 0 0, .slice none 0 0, .slice none 0 0] = w9 at *
  have q0 : w9.cell? ⟨w.heap.size + 1 + 1, 0, none⟩ = some (.slice none 0 0) := (PBN.cell 0).trans rfl
  have q1 : w9.cell? ⟨w.heap.size + 1 + 1, 1, none⟩ = some (.slice none 0 0) := (PBN.cell 1).trans rfl
  have q2 : w9.cell? ⟨w.heap.size + 1 + 1, 2, none⟩ = some (.slice none 0 0) := (PBN.cell 2).trans rfl
  have FIN : Hid (Gr w w9) := Below.trans (G1.out) bw
  exact bodyPost_ret (v := .tuple #[.agg #[.slice none 0 0, .slice none 0 0, .slice none 0 0], .int .i64 f]) (by simp [results, Tryz.results9, go_sem, q0, q1, q2]) rfl ⟨rfl, FIN.out⟩
set_option maxHeartbeats 1000000 in
theorem refWhy_any (snd : Int) (A : Option Addr) (n c : Nat) (L : List BRow) (w : World) (h : Sl w A n c 1 (L.map BRow.v)) :
    Calls Tryz.prog 10 #[.slice A n c, .int .i64 snd] w fun e w' => e = .returned (.int .i64 (whyL snd L)) ∧ Gr w w' := by
  unfold whyL
  by_cases h1 : snd < 1
  · rw [if_pos (.inl h1)]
    clear h
    go_enter Tryz.func10, Tryz.ntmps10
    go_wp2_with fail
    go_ret
    exact ⟨rfl, by first | exact Gr.refl _ | exact Gr.drew _⟩
  by_cases h2 : 4 < snd
  · rw [if_pos (.inr h2)]
    clear h
    go_enter Tryz.func10, Tryz.ntmps10
    go_wp2_with fail
    go_ret
    exact ⟨rfl, by first | exact Gr.refl _ | exact Gr.drew _⟩
  rw [if_neg (by omega)]
  obtain ⟨r, hr⟩ : ∃ r : Int, r = if L.any oddK = true then 4 else 0 := ⟨_, rfl⟩
  rw [← hr]
  have HR1 : Hid (L.any oddK = true → r = 4) := fun h => by rw [hr, if_pos h]
  have HR0 : Hid (L.any oddK = false → r = 0) := fun h => by rw [hr, if_neg (by rw [h]; decide)]
  clear hr
  have hmax := h.max
  have hcap := h.cap
  have hll : L.length = n := by have := h.len; simpa using this
  have HL := Lib.hid hll
  have HH := Lib.hid h; clear h hll
  go_enter Tryz.func10, Tryz.ntmps10
  go_wp2_with fail
  go_loopw [5] (fun i wr => ∃ k : Nat, k ≤ n ∧ i = .int .i64 k ∧ Gr w wr ∧ (L.take k).any oddK = false) (fun i _ => n - (Go.RowKit.intOf i).toNat)
  case atStart => exact ⟨0, Nat.zero_le _, rfl, Gr.refl _, rfl⟩
  case round =>
    obtain ⟨k, hk, rfl, hbel, hall⟩ := hrel
    have HA := Lib.hid hall; have HB := Lib.hid hbel; clear hall
    by_cases hlt : k < n
    · obtain ⟨b, o, rfl, hcc⟩ := (HH.out.mono hbel).addr (by omega)
      have hkl : k < L.length := by rw [HL.out]; exact hlt
      obtain ⟨⟨xa, xn, xc, xl⟩, hx⟩ : ∃ x, L[k]? = some x := ⟨_, List.getElem?_eq_getElem hkl⟩
      have c1 : wr.cell? ⟨b, o + k, none⟩ = some (.slice xa xn xc) := hcc k _ (by rw [List.getElem?_map, hx]; rfl)
      have HS := Lib.hid (anyK_snoc oddK L k _ hx)
      have HT : Hid (oddK ⟨xa, xn, xc, xl⟩ = true → L.any oddK = true) := fun hh => List.any_eq_true.2 ⟨_, List.mem_of_getElem? hx, hh⟩
      have hlt2 : (k : Int) < n := by omega
      have p0' : (0 : Int) ≤ k := by omega
      clear hcc hkl hbel hx
      cases he : ((xn : Int) != 32)
      · have HT2 : Hid ((L.take (k + 1)).any oddK = false) := by show _ = _; rw [HS.out, HA.out]; exact he
        go_wp2_with fail
        go_roundw
        case rel => exact ⟨k + 1, by omega, by go_num, by first | exact HB.out | exact HB.out.trans (Gr.drew _), HT2.out⟩
        case measure => simp [Go.RowKit.intOf]; omega
      · have HF : Hid (L.any oddK = true) := HT.out he
        have H4 := Lib.hid (HR1.out HF.out)
        go_wp2_with fail
        go_ret
        exact ⟨by rw [H4.out]; rfl, by first | exact HB.out | exact HB.out.trans (Gr.drew _)⟩
    · obtain rfl : n = k := by omega
      have HF : Hid (L.any oddK = false) := by have := HA.out; rwa [List.take_of_length_le (by rw [HL.out]; omega)] at this
      have H0 := Lib.hid (HR0.out HF.out)
      clear hbel
      go_wp2_with fail
      go_ret
      exact ⟨by rw [H0.out]; rfl, HB.out⟩
end Go.Proofs.YthlnoaalhojphaaGreatDoor
