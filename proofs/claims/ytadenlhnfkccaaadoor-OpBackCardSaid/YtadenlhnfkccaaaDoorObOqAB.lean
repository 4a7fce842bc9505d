/- ObOqA, ObOqB: one text. No condition. -/
import Derived.Test.YtadenlhnfkccaaaDoorObOpZ
import Derived.Outline
/- Operations as lines: Print, as the program says. No condition. -/
namespace Go.Proofs.YtadenlhnfkccaaaDoor
open Go.RowKit
set_option linter.unusedVariables false
set_option linter.unusedSimpArgs false
theorem Own.not_iter {w0 w : World} {e : TypeId} {s n I p : Nat} {v : Value} {xs : List Value} {t : ByteArray} (h : Own w0 w e s v n xs) (hI : w.heap[I]? = some (.stringIter t p)) {b : Nat} (hb : v.ownBlock = some b) : b ≠ I := by
  rintro rfl
  obtain ⟨⟨_, h⟩, _⟩ := h
  rcases h with ⟨rfl, _⟩ | ⟨g, cap, cur, rfl, hg, hh, _⟩
  · cases hb
  · have : g = b := by simpa [Value.ownBlock] using hb
    subst this
    rw [hI] at hh
    cases hh
set_option maxRecDepth 100000 in
set_option maxHeartbeats 4000000 in
theorem opPrint_any (o : OpD) (A : Option Addr) (m c : Nat) (w : World) (ho : OpOk o) (hg : o.g.length ≤ 1000) (hi : o.i.length ≤ 1000) (hx : Bs w A m c o.x) (hT : Pow10 w) (hM : MLen w) :
    Calls Tryd.prog 8 #[opV o A m c] w fun e w' => e = .returned (.tuple #[strc (printO o).1, .int .i64 ((printO o).2 : Int)]) ∧ Gr w w' := by
  have HFO : Hid (∀ wr : World, Calls Tryd.prog 24 #[] wr fun e w' => e = .returned (.agg formCells) ∧ Gr wr w') := fun wr => forms_any wr
  have HO := Lib.hid formOne
  have HC8 : Hid (∀ wq, Gr (w.alloc (.cells (opC o A m c) 24)) wq → ∀ (i : Nat) (v : Value), (opC o A m c).toList[i]? = some v → wq.cell? ⟨w.heap.size, i, none⟩ = some v) := fun wq g i v h => (((Blk.new w 24 (opC o A m c)).mono g).cell i).trans h
  have G0 : Hid (Gr w (w.alloc (.cells (opC o A m c) 24))) := Gr.alloc w _
  by_cases hk : 1 ≤ o.k ∧ o.k < 10
  · obtain ⟨K, hke⟩ : ∃ K : Nat, o.k = (K : Int) := ⟨o.k.toNat, by omega⟩
    have hK : K < 10 := by omega
    have hfo : formOf o = K := by unfold formOf; rw [if_pos hk]; omega
    have HFL : Hid (∀ (s : UInt8) wr, s ∈ formS K → Gr w wr → Calls Tryd.prog 25 #[opV o A m c, .int .i32 (s.toNat : Int)] wr fun e w' => e = .returned (strc (fieldL o s.toNat)) ∧ Gr wr w') := fun s wr hs g => field_any o A m c s.toNat wr ho (hx.mono g) (hT.mono g) (signs_all _ s hs)
    have HSM : Hid (∀ o2 A2 m2 c2 wr, Gr w wr → Bs wr A2 m2 c2 o2.x → Calls Tryd.prog 27 #[opV o A m c, opV o2 A2 m2 c2] wr fun e w' => e = .returned (.bool (sameO o o2)) ∧ Gr wr w') := fun o2 A2 m2 c2 wr g hb => same39_any o o2 A A2 m c m2 c2 wr (hx.mono g) hb
    have hlen : (lineT o).length ≤ 100000 := by
      have := lineTo_len o hg hi _ (Nat.le_refl (formS (formOf o)).length)
      have h4 := formS_len (formOf o)
      have h5 : (formS (formOf o)).length * 1001 ≤ 4 * 1001 := Nat.mul_le_mul_right _ h4
      show (lineTo _ _ _).length ≤ _
      omega
    have HPP : Hid (∀ wr, Gr w wr → Calls Tryd.prog 10 #[strc (lineT o)] wr (RetOp wr (parseO (lineT o)))) := fun wr g => opParse_any _ wr hlen (hM.mono g) (hT.mono g)
    obtain ⟨r, hr⟩ : ∃ r, r = printO o := ⟨_, rfl⟩
    rw [← hr]
    have HR : Hid (r = if (parseO (lineT o)).2 = 0 ∧ sameO o (parseO (lineT o)).1 = true then (lineT o, 0) else ([], 2)) := hr.trans (printO_eq o)
    have HLT : Hid (lineT o = Lib.join (formW K :: (formS K).map fun s => fieldL o s.toNat) [32]) := by
      show lineTo (formOf o) o (formS (formOf o)).length = _
      rw [hfo, Lib.join_cons]
      unfold lineTo
      rw [List.take_length]
    have hf4 := formS_len K
    have HSG := Lib.hid (signs_all K)
    clear hr hx ho hT hM
    obtain ⟨x, hxx⟩ : ∃ x : ByteArray, x = ⟨(formW K).toArray⟩ := ⟨_, rfl⟩
    obtain ⟨y, hy⟩ : ∃ y : ByteArray, y = ⟨(formS K).toArray⟩ := ⟨_, rfl⟩
    have hys : y.size = (formS K).length := by rw [hy]; exact size_of' _
    have HAT := Lib.hid (at_of (formS K) y hy)
    have hxs : strc (formW K) = .string x := by rw [hxx]; rfl
    have hyS : strc (formS K) = .string y := by rw [hy]; rfl
    have HX := Lib.hid hxx; have HYY := Lib.hid hy
    clear hxx hy
    unfold opV at *
    go_enter Tryd.func8, Tryd.ntmps8
    go_wp2_with fail
    refine (HFO.out _).mono ?_
    rintro e w2 ⟨rfl, g2⟩
    have G2 := Lib.hid g2; clear g2
    have G23 : Gr w2 ((w2.alloc (.cells #[.string ⟨#[]⟩, .string ⟨#[]⟩, .string ⟨#[]⟩, .string ⟨#[]⟩, .string ⟨#[]⟩, .string ⟨#[]⟩, .string ⟨#[]⟩, .string ⟨#[]⟩, .string ⟨#[]⟩, .string ⟨#[]⟩, .string ⟨#[]⟩, .string ⟨#[]⟩, .string ⟨#[]⟩, .string ⟨#[]⟩, .string ⟨#[]⟩, .string ⟨#[]⟩, .string ⟨#[]⟩, .string ⟨#[]⟩, .string ⟨#[]⟩, .string ⟨#[]⟩] 63)).setRow w2.heap.size formCells) := below_row39 ((Below.refl _ _).alloc (Nat.le_refl _) _) (Nat.le_refl _) _
    have BF : Blk ((w2.alloc (.cells #[.string ⟨#[]⟩, .string ⟨#[]⟩, .string ⟨#[]⟩, .string ⟨#[]⟩, .string ⟨#[]⟩, .string ⟨#[]⟩, .string ⟨#[]⟩, .string ⟨#[]⟩, .string ⟨#[]⟩, .string ⟨#[]⟩, .string ⟨#[]⟩, .string ⟨#[]⟩, .string ⟨#[]⟩, .string ⟨#[]⟩, .string ⟨#[]⟩, .string ⟨#[]⟩, .string ⟨#[]⟩, .string ⟨#[]⟩, .string ⟨#[]⟩, .string ⟨#[]⟩] 63)).setRow w2.heap.size formCells) w2.heap.size 63 formCells.toList := setRow_heap _ w2.heap.size _ _ _ _ (heap_alloc_new w2 _)
    have GS := Lib.hid (G2.out.trans G23)
    have GB : Gr ((w2.alloc (.cells #[.string ⟨#[]⟩, .string ⟨#[]⟩, .string ⟨#[]⟩, .string ⟨#[]⟩, .string ⟨#[]⟩, .string ⟨#[]⟩, .string ⟨#[]⟩, .string ⟨#[]⟩, .string ⟨#[]⟩, .string ⟨#[]⟩, .string ⟨#[]⟩, .string ⟨#[]⟩, .string ⟨#[]⟩, .string ⟨#[]⟩, .string ⟨#[]⟩, .string ⟨#[]⟩, .string ⟨#[]⟩, .string ⟨#[]⟩, .string ⟨#[]⟩, .string ⟨#[]⟩] 63)).setRow w2.heap.size formCells) (((w2.alloc (.cells #[.string ⟨#[]⟩, .string ⟨#[]⟩, .string ⟨#[]⟩, .string ⟨#[]⟩, .string ⟨#[]⟩, .string ⟨#[]⟩, .string ⟨#[]⟩, .string ⟨#[]⟩, .string ⟨#[]⟩, .string ⟨#[]⟩, .string ⟨#[]⟩, .string ⟨#[]⟩, .string ⟨#[]⟩, .string ⟨#[]⟩, .string ⟨#[]⟩, .string ⟨#[]⟩, .string ⟨#[]⟩, .string ⟨#[]⟩, .string ⟨#[]⟩, .string ⟨#[]⟩] 63)).setRow w2.heap.size formCells).alloc (.cells #[.string x] 9)) := Gr.alloc _ _
    have d0 : ((w2.alloc (.cells #[.string ⟨#[]⟩, .string ⟨#[]⟩, .string ⟨#[]⟩, .string ⟨#[]⟩, .string ⟨#[]⟩, .string ⟨#[]⟩, .string ⟨#[]⟩, .string ⟨#[]⟩, .string ⟨#[]⟩, .string ⟨#[]⟩, .string ⟨#[]⟩, .string ⟨#[]⟩, .string ⟨#[]⟩, .string ⟨#[]⟩, .string ⟨#[]⟩, .string ⟨#[]⟩, .string ⟨#[]⟩, .string ⟨#[]⟩, .string ⟨#[]⟩, .string ⟨#[]⟩] 63)).setRow w2.heap.size formCells).cell? ⟨w.heap.size, 0, none⟩ = some (.int .i64 (K : Int)) := (HC8.out _ GS.out 0 _ rfl).trans (by rw [hke])
    have cw : ((w2.alloc (.cells #[.string ⟨#[]⟩, .string ⟨#[]⟩, .string ⟨#[]⟩, .string ⟨#[]⟩, .string ⟨#[]⟩, .string ⟨#[]⟩, .string ⟨#[]⟩, .string ⟨#[]⟩, .string ⟨#[]⟩, .string ⟨#[]⟩, .string ⟨#[]⟩, .string ⟨#[]⟩, .string ⟨#[]⟩, .string ⟨#[]⟩, .string ⟨#[]⟩, .string ⟨#[]⟩, .string ⟨#[]⟩, .string ⟨#[]⟩, .string ⟨#[]⟩, .string ⟨#[]⟩] 63)).setRow w2.heap.size formCells).cell? ⟨w2.heap.size, K * 2, none⟩ = some (.string x) := by
      rw [BF.cell, Nat.mul_comm, formCells_w K hK, hxs]
    have d0' : (((w2.alloc (.cells #[.string ⟨#[]⟩, .string ⟨#[]⟩, .string ⟨#[]⟩, .string ⟨#[]⟩, .string ⟨#[]⟩, .string ⟨#[]⟩, .string ⟨#[]⟩, .string ⟨#[]⟩, .string ⟨#[]⟩, .string ⟨#[]⟩, .string ⟨#[]⟩, .string ⟨#[]⟩, .string ⟨#[]⟩, .string ⟨#[]⟩, .string ⟨#[]⟩, .string ⟨#[]⟩, .string ⟨#[]⟩, .string ⟨#[]⟩, .string ⟨#[]⟩, .string ⟨#[]⟩] 63)).setRow w2.heap.size formCells).alloc (.cells #[.string x] 9)).cell? ⟨w.heap.size, 0, none⟩ = some (.int .i64 (K : Int)) := (HC8.out _ (GS.out.trans GB) 0 _ rfl).trans (by rw [hke])
    have cs' : (((w2.alloc (.cells #[.string ⟨#[]⟩, .string ⟨#[]⟩, .string ⟨#[]⟩, .string ⟨#[]⟩, .string ⟨#[]⟩, .string ⟨#[]⟩, .string ⟨#[]⟩, .string ⟨#[]⟩, .string ⟨#[]⟩, .string ⟨#[]⟩, .string ⟨#[]⟩, .string ⟨#[]⟩, .string ⟨#[]⟩, .string ⟨#[]⟩, .string ⟨#[]⟩, .string ⟨#[]⟩, .string ⟨#[]⟩, .string ⟨#[]⟩, .string ⟨#[]⟩, .string ⟨#[]⟩] 63)).setRow w2.heap.size formCells).alloc (.cells #[.string x] 9)).cell? ⟨w2.heap.size, K * 2 + 1, none⟩ = some (.string y) := by
      rw [(BF.mono GB).cell, Nat.mul_comm, formCells_s K hK, hyS]
    have t1 : decide ((K : Int) < 1) = false := decide_eq_false (by omega)
    have t2 : decide ((K : Int) ≥ 10) = false := decide_eq_false (by omega)
    have hi10 : (K : Int) < 10 := by omega
    clear hk hke
    go_wp2_with (refine wpList_store_row rfl 63 (.tmp 4) (.tmp 11) rfl w2.heap.size formCells rfl rfl 63 (reps 20 (.string ⟨#[]⟩)).toArray (by exact heap_alloc_new w2 _) formSize rfl HO.out ?_)
    obtain ⟨w3, hw3⟩ : ∃ w3, w3 = ((w2.alloc (.cells #[.string ⟨#[]⟩, .string ⟨#[]⟩, .string ⟨#[]⟩, .string ⟨#[]⟩, .string ⟨#[]⟩, .string ⟨#[]⟩, .string ⟨#[]⟩, .string ⟨#[]⟩, .string ⟨#[]⟩, .string ⟨#[]⟩, .string ⟨#[]⟩, .string ⟨#[]⟩, .string ⟨#[]⟩, .string ⟨#[]⟩, .string ⟨#[]⟩, .string ⟨#[]⟩, .string ⟨#[]⟩, .string ⟨#[]⟩, .string ⟨#[]⟩, .string ⟨#[]⟩] 63)).setRow w2.heap.size formCells) := ⟨_, rfl⟩
    rw [← hw3] at GS ⊢
    have hs3 : w3.heap.size = w2.heap.size + 1 := by rw [hw3]; simp [World.setRow]
    clear d0 cw d0' cs' GB BF G23 hw3
    have O0 : Hid (Own w3 ((w3.alloc (.cells #[.string x] 9)).iter y 0) 9 1 (.slice (some ⟨w3.heap.size, 0, none⟩) 1 1) 1 [.string x]) := by
      have := (Blk.new w3 9 #[.string x]).own (w0 := w3) (size := 1) (n := 1) (Nat.le_refl _) (Gr.alloc w3 _) rfl (by decide)
      exact Own.alloc this (.stringIter y 0)
    rw [hs3] at O0
    have hIH : ((w3.alloc (.cells #[.string x] 9)).iter y 0).heap[w3.heap.size + 1]? = some (.stringIter y 0) := by
      have := heap_alloc_new (w3.alloc (.cells #[.string x] 9)) (.stringIter y 0)
      rw [show (w3.alloc (.cells #[.string x] 9)).heap.size = w3.heap.size + 1 by simp] at this
      exact this
    rw [hs3] at hIH
    have HIH := Lib.hid hIH; clear hIH
    have HS3 := Lib.hid hs3; clear hs3
    clear t1 t2 hi10
    go_loopw [5] (fun v wr => ∃ j : Nat, j ≤ y.size ∧ Own w3 wr 9 1 v (j + 1) ((formW K :: ((formS K).take j).map fun s => fieldL o s.toNat).map strc) ∧ wr.heap[w2.heap.size + 1 + 1]? = some (.stringIter y j)) (fun _ wr => y.size - wr.iterPos (w2.heap.size + 1 + 1))
    case atStart => exact ⟨0, by omega, by simpa [hxs] using O0.out, HIH.out⟩
    case round =>
      obtain ⟨j, hj, ow, hit⟩ := hrel
      have OW := Lib.hid ow; clear ow
      by_cases hlt : j < y.size
      · have hja : j < (formS K).length := by omega
        have hsg := HSG.out _ (List.getElem_mem hja)
        have hya : (y[j]'hlt).toNat = (formS K)[j].toNat := by
          have h1 := HAT.out j hlt
          unfold bAt at h1
          rw [show (formS K).getD j 0 = (formS K)[j] by simp [List.getD_eq_getElem?_getD, List.getElem?_eq_getElem hja]] at h1
          omega
        have hnx : ∀ ty, (Instr.next (.pointer (some ⟨w2.heap.size + 1 + 1, 0, none⟩)) true ty).run Tryd.prog wr = .ok (.tuple #[.bool true, .int .i64 j, .int .i32 ((formS K)[j].toNat : Int)]) (wr.iterAt (w2.heap.size + 1 + 1) y (j + 1)) := fun ty => by
          rw [Lib.run_next_ascii_at wr (w2.heap.size + 1 + 1) y j ty hit hlt (by rw [hya]; rcases hsg with h | h | h | h | h | h | h <;> omega), hya]
        have OI : Hid (Own w3 (wr.iterAt (w2.heap.size + 1 + 1) y (j + 1)) 9 1 u5 (j + 1) ((formW K :: ((formS K).take j).map fun s => fieldL o s.toNat).map strc)) := Own.tch OW.out (Tch.iterAt wr (w2.heap.size + 1 + 1) y (j + 1)) (fun b e => by have e : b = w2.heap.size + 1 + 1 := e; have := HS3.out; omega) (fun b e h => Own.not_iter OW.out hit e h)
        have hit2 := Lib.iterAt_heap wr (w2.heap.size + 1 + 1) y j (j + 1) hit
        have GXI : Gr (w.alloc (.cells (opC o A m c) 24)) (wr.iterAt (w2.heap.size + 1 + 1) y (j + 1)) := Below.trans GS.out (OI.out.below.mono GS.out.size)
        have d0 := HC8.out _ GXI 0 _ rfl
        have d1 := HC8.out _ GXI 1 _ rfl
        have d2 := HC8.out _ GXI 2 _ rfl
        have d3 := HC8.out _ GXI 3 _ rfl
        have d4 := HC8.out _ GXI 4 _ rfl
        have d5 := HC8.out _ GXI 5 _ rfl
        have d6 := HC8.out _ GXI 6 _ rfl
        have d7 := HC8.out _ GXI 7 _ rfl
        have GWI := Lib.hid (G0.out.trans GXI)
        have HFC := Lib.hid (HFL.out (formS K)[j] _ (List.getElem_mem hja) GWI.out)
        have hst : Hid ((formW K :: ((formS K).take (j + 1)).map fun s => fieldL o s.toNat).map strc = (formW K :: ((formS K).take j).map fun s => fieldL o s.toNat).map strc ++ [strc (fieldL o (formS K)[j].toNat)]) := by
          show _ = _
          rw [List.take_succ_eq_append_getElem hja, List.map_append, ← List.cons_append, List.map_append]
          rfl
        have HI2 := Lib.hid hit2; have HI1 := Lib.hid hit
        clear hit hit2 hya hsg GXI
        generalize (formS K)[j].toNat = sg at *
        obtain ⟨fx, hfx⟩ : ∃ fx : ByteArray, strc (fieldL o sg) = .string fx := ⟨_, rfl⟩
        rw [hfx] at HFC hst
        clear hfx
        go_wp2_with fail
        refine HFC.out.mono ?_
        rintro e w6 ⟨rfl, g6⟩
        have O6 := Lib.hid (OI.out.mono g6)
        have HI6 := Lib.hid ((g6.block _ (Array.getElem?_eq_some_iff.1 HI2.out).1).trans HI2.out)
        clear d0 d1 d2 d3 d4 d5 d6 d7 g6
        go_wp2_with (at_builtin; refine wpList_pushG rfl (.tmp 35) (.tmp 39) 65 rfl tWords rfl O6.out #[.string fx] rfl rfl (by intro u hu; simp at hu; subst hu; rfl) (by omega) ?_; intro v1 wn o1 kp)
        have hI7 : wn.heap[w2.heap.size + 1 + 1]? = some (.stringIter y (j + 1)) := by
          have h1 : (w6.alloc (.cells #[.string fx] 9)).heap[w2.heap.size + 1 + 1]? = some (.stringIter y (j + 1)) := by
            exact ((Gr.alloc w6 (.cells #[.string fx] 9)).block _ (Array.getElem?_eq_some_iff.1 HI6.out).1).trans HI6.out
          rw [kp.1 _ (Array.getElem?_eq_some_iff.1 h1).1 (fun e => Own.not_iter O6.out HI6.out e rfl)]
          exact h1
        have OE : Hid (Own w3 wn 9 1 v1 (j + 1 + 1) ((formW K :: ((formS K).take (j + 1)).map fun s => fieldL o s.toNat).map strc)) := by
          show Own _ _ _ _ _ _ _
          rw [hst.out]
          exact o1
        refine ⟨⟨j + 1, by omega, OE.out, hI7⟩, ?_⟩
        rw [iterPos_of hI7, iterPos_of HI1.out]
        omega
      · have hje : j = (formS K).length := by omega
        subst hje
        have hnx : ∀ ty, (Instr.next (.pointer (some ⟨w2.heap.size + 1 + 1, 0, none⟩)) true ty).run Tryd.prog wr = .ok (.tuple #[.bool false]) wr := fun ty => Lib.run_next_end_at wr (w2.heap.size + 1 + 1) y _ ty hit hlt
        have OF : Hid (Own w3 wr 9 1 u5 ((formS K).length + 1) ((formW K :: (formS K).map fun s => fieldL o s.toNat).map strc)) := by
          show Own _ _ _ _ _ _ _
          have := OW.out
          rw [List.take_length] at this
          exact this
        have GX3 : Hid (Gr (w.alloc (.cells (opC o A m c) 24)) wr) := (Below.trans GS.out (OF.out.below.mono GS.out.size))
        obtain ⟨A5, c5, rfl, s5⟩ := OF.out.slice
        have hcap5 := s5.cap
        obtain ⟨tx, htx⟩ : ∃ tx : ByteArray, tx = ⟨(lineT o).toArray⟩ := ⟨_, rfl⟩
        have hjn : Hid (Calls Tryd.prog 26 #[.slice A5 ((formS K).length + 1) c5, .string ⟨#[32]⟩] wr fun e w' => e = .returned (.string tx) ∧ Gr wr w') := by
          have hlw : (formW K :: (formS K).map fun s => fieldL o s.toNat).length = (formS K).length + 1 := by simp
          obtain ⟨bk, ok, rfl, hcl⟩ := Ws.addr (ps := formW K :: (formS K).map fun s => fieldL o s.toNat) s5 (by omega)
          have hxs2 : ((formW K :: (formS K).map fun s => fieldL o s.toNat).map fun p => (⟨p.toArray⟩ : ByteArray)).map (·.data.toList) = (formW K :: (formS K).map fun s => fieldL o s.toNat) := by rw [List.map_map]; exact List.map_id'' (fun p => rfl) _
          have h := Tryd.strings_Join bk ok c5 ((formW K :: (formS K).map fun s => fieldL o s.toNat).map fun p => (⟨p.toArray⟩ : ByteArray)) ⟨#[32]⟩ wr (fun j x hx => by
            rw [List.getElem?_map] at hx
            obtain ⟨p, hp, rfl⟩ := Option.map_eq_some_iff.1 hx
            obtain ⟨hj, rfl⟩ := List.getElem?_eq_some_iff.1 hp
            exact hcl j hj) (World.block_lt_of_cell? wr _ (hcl 0 (by omega))) (by rw [List.length_map, hlw]; omega) (by rw [List.length_map, hlw]; exact hcap5) (by
              rw [hxs2]
              have := hlen
              rw [HLT.out] at this
              show (Lib.join _ [32]).length ≤ _
              omega)
          rw [hxs2, List.length_map, hlw] at h
          rw [htx, HLT.out]
          exact h
        have HTX : Hid (strc (lineT o) = .string tx) := by rw [htx]; rfl
        rw [HTX.out] at HPP
        generalize lineT o = tl at *
        generalize parseO tl = p at *
        clear htx hit
        go_wp2_with fail
        refine hjn.out.mono ?_
        rintro e w4 ⟨rfl, g4⟩
        have GX4 := Lib.hid (GX3.out.trans g4); clear g4
        go_wp2_with fail
        refine (HPP.out _ (G0.out.trans GX4.out)).mono ?_
        rintro e w5 ⟨A2, m2, c2, rfl, sx, g5⟩
        have GX5 := Lib.hid (GX4.out.trans g5); have SX := Lib.hid sx
        clear g5 sx
        unfold opV at *
        obtain ⟨p1, p2⟩ := p
        have HYB := setRow_heap (w5.alloc (.cells #[.int .i64 0, .string ⟨#[]⟩, .string ⟨#[]⟩, .int .i64 0, .int .i64 0, .int .i64 0, .int .i64 0, .slice none 0 0] 24)) w5.heap.size _ (opC p1 A2 m2 c2) _ _ (heap_alloc_new w5 _)
        have GS0 : Gr w5 ((w5.alloc (.cells #[.int .i64 0, .string ⟨#[]⟩, .string ⟨#[]⟩, .int .i64 0, .int .i64 0, .int .i64 0, .int .i64 0, .slice none 0 0] 24)).setRow w5.heap.size (opC p1 A2 m2 c2)) := below_row39 ((Below.refl _ _).alloc (Nat.le_refl _) _) (Nat.le_refl _) _
        have SX2 := Lib.hid (Sl.gr SX.out GS0)
        have GXS := Lib.hid (GX5.out.trans GS0)
        have HY8 : Hid (∀ (i : Nat) (v : Value), (opC p1 A2 m2 c2).toList[i]? = some v → ((w5.alloc (.cells #[.int .i64 0, .string ⟨#[]⟩, .string ⟨#[]⟩, .int .i64 0, .int .i64 0, .int .i64 0, .int .i64 0, .slice none 0 0] 24)).setRow w5.heap.size (opC p1 A2 m2 c2)).cell? ⟨w5.heap.size, i, none⟩ = some v) := fun i v h => ((show Blk ((w5.alloc (.cells #[.int .i64 0, .string ⟨#[]⟩, .string ⟨#[]⟩, .int .i64 0, .int .i64 0, .int .i64 0, .int .i64 0, .slice none 0 0] 24)).setRow w5.heap.size (opC p1 A2 m2 c2)) w5.heap.size 24 (opC p1 A2 m2 c2).toList from HYB).cell i).trans h
        clear GS0 HYB
        have GWS : Hid (Gr w ((w5.alloc (.cells #[.int .i64 0, .string ⟨#[]⟩, .string ⟨#[]⟩, .int .i64 0, .int .i64 0, .int .i64 0, .int .i64 0, .slice none 0 0] 24)).setRow w5.heap.size (opC p1 A2 m2 c2))) := G0.out.trans GXS.out
        by_cases hp2 : p2 = 0
        · subst hp2
          have HSC := Lib.hid (HSM.out p1 A2 m2 c2 _ GWS.out SX2.out)
          cases hso : sameO o p1 with
          | true =>
            have HF : Hid (r = (tl, 0)) := by show _ = _; rw [HR.out, if_pos ⟨rfl, hso⟩]
            rw [hso] at HSC
            clear hso HR
            have d0 := HC8.out _ GXS.out 0 _ rfl
            have d1 := HC8.out _ GXS.out 1 _ rfl
            have d2 := HC8.out _ GXS.out 2 _ rfl
            have d3 := HC8.out _ GXS.out 3 _ rfl
            have d4 := HC8.out _ GXS.out 4 _ rfl
            have d5 := HC8.out _ GXS.out 5 _ rfl
            have d6 := HC8.out _ GXS.out 6 _ rfl
            have d7 := HC8.out _ GXS.out 7 _ rfl
            have e0 := HY8.out 0 _ rfl
            have e1 := HY8.out 1 _ rfl
            have e2 := HY8.out 2 _ rfl
            have e3 := HY8.out 3 _ rfl
            have e4 := HY8.out 4 _ rfl
            have e5 := HY8.out 5 _ rfl
            have e6 := HY8.out 6 _ rfl
            have e7 := HY8.out 7 _ rfl
            go_wp2_with (refine wpList_store_row rfl 24 (.tmp 9) (.tmp 46) rfl w5.heap.size (opC p1 A2 m2 c2) rfl rfl 24 #[.int .i64 0, .string ⟨#[]⟩, .string ⟨#[]⟩, .int .i64 0, .int .i64 0, .int .i64 0, .int .i64 0, .slice none 0 0] (by exact heap_alloc_new w5 _) opSize rfl (opOne _ _ _ _) ?_)
            refine HSC.out.mono ?_
            rintro e w7 ⟨rfl, g7⟩
            have G7 := Lib.hid (GWS.out.trans g7); clear g7
            go_wp2_with fail
            go_ret2
            rw [HF.out]
            exact ⟨by rw [HTX.out]; rfl, G7.out⟩
          | false =>
            have HF : Hid (r = ([], 2)) := by show _ = _; rw [HR.out, if_neg (fun h => by rw [hso] at h; cases h.2)]
            rw [hso] at HSC
            clear hso HR
            have d0 := HC8.out _ GXS.out 0 _ rfl
            have d1 := HC8.out _ GXS.out 1 _ rfl
            have d2 := HC8.out _ GXS.out 2 _ rfl
            have d3 := HC8.out _ GXS.out 3 _ rfl
            have d4 := HC8.out _ GXS.out 4 _ rfl
            have d5 := HC8.out _ GXS.out 5 _ rfl
            have d6 := HC8.out _ GXS.out 6 _ rfl
            have d7 := HC8.out _ GXS.out 7 _ rfl
            have e0 := HY8.out 0 _ rfl
            have e1 := HY8.out 1 _ rfl
            have e2 := HY8.out 2 _ rfl
            have e3 := HY8.out 3 _ rfl
            have e4 := HY8.out 4 _ rfl
            have e5 := HY8.out 5 _ rfl
            have e6 := HY8.out 6 _ rfl
            have e7 := HY8.out 7 _ rfl
            go_wp2_with (refine wpList_store_row rfl 24 (.tmp 9) (.tmp 46) rfl w5.heap.size (opC p1 A2 m2 c2) rfl rfl 24 #[.int .i64 0, .string ⟨#[]⟩, .string ⟨#[]⟩, .int .i64 0, .int .i64 0, .int .i64 0, .int .i64 0, .slice none 0 0] (by exact heap_alloc_new w5 _) opSize rfl (opOne _ _ _ _) ?_)
            refine HSC.out.mono ?_
            rintro e w7 ⟨rfl, g7⟩
            have G7 := Lib.hid (GWS.out.trans g7); clear g7
            go_wp2_with fail
            go_ret2
            rw [HF.out]
            exact ⟨rfl, G7.out⟩
        · have t2 : ((p2 : Int) != 0) = true := by rw [bne_iff_ne]; omega
          have HF : Hid (r = ([], 2)) := by show _ = _; rw [HR.out, if_neg (fun h => hp2 h.1)]
          go_wp2_with (refine wpList_store_row rfl 24 (.tmp 9) (.tmp 46) rfl w5.heap.size (opC p1 A2 m2 c2) rfl rfl 24 #[.int .i64 0, .string ⟨#[]⟩, .string ⟨#[]⟩, .int .i64 0, .int .i64 0, .int .i64 0, .int .i64 0, .slice none 0 0] (by exact heap_alloc_new w5 _) opSize rfl (opOne _ _ _ _) ?_)
          go_ret2
          rw [HF.out]
          exact ⟨rfl, GWS.out⟩
  · have HP : Hid (printO o = ([], 2)) := by
      show _ = _
      unfold printO
      rw [if_neg (fun h => hk h.1)]
    rw [HP.out]
    clear HP hx ho hT hM
    unfold opV at *
    go_enter Tryd.func8, Tryd.ntmps8
    go_wp2_with fail
    refine (HFO.out _).mono ?_
    rintro e w2 ⟨rfl, g2⟩
    have G2 := Lib.hid g2; clear g2
    have G23 : Gr w2 ((w2.alloc (.cells (reps 20 (.string ⟨#[]⟩)).toArray 63)).setRow w2.heap.size formCells) := below_row39 ((Below.refl _ _).alloc (Nat.le_refl _) _) (Nat.le_refl _) _
    have GS := Lib.hid (G2.out.trans G23)
    clear G23
    have d0 : ((w2.alloc (.cells #[.string ⟨#[]⟩, .string ⟨#[]⟩, .string ⟨#[]⟩, .string ⟨#[]⟩, .string ⟨#[]⟩, .string ⟨#[]⟩, .string ⟨#[]⟩, .string ⟨#[]⟩, .string ⟨#[]⟩, .string ⟨#[]⟩, .string ⟨#[]⟩, .string ⟨#[]⟩, .string ⟨#[]⟩, .string ⟨#[]⟩, .string ⟨#[]⟩, .string ⟨#[]⟩, .string ⟨#[]⟩, .string ⟨#[]⟩, .string ⟨#[]⟩, .string ⟨#[]⟩] 63)).setRow w2.heap.size formCells).cell? ⟨w.heap.size, 0, none⟩ = some (.int .i64 o.k) := HC8.out _ GS.out 0 _ rfl
    by_cases h1 : o.k < 1
    · have t1 : decide (o.k < 1) = true := decide_eq_true h1
      go_wp2_with (refine wpList_store_row rfl 63 (.tmp 4) (.tmp 11) rfl w2.heap.size formCells rfl rfl 63 (reps 20 (.string ⟨#[]⟩)).toArray (by exact heap_alloc_new w2 _) formSize rfl HO.out ?_)
      go_ret2
      exact ⟨rfl, G0.out.trans GS.out⟩
    · have t1 : decide (o.k < 1) = false := decide_eq_false h1
      have t2 : decide (o.k ≥ 10) = true := decide_eq_true (by omega)
      go_wp2_with (refine wpList_store_row rfl 63 (.tmp 4) (.tmp 11) rfl w2.heap.size formCells rfl rfl 63 (reps 20 (.string ⟨#[]⟩)).toArray (by exact heap_alloc_new w2 _) formSize rfl HO.out ?_)
      go_ret2
      exact ⟨rfl, G0.out.trans GS.out⟩
end Go.Proofs.YtadenlhnfkccaaaDoor
/- Operations as lines: words of faults, and whether operations are short. No condition. -/
namespace Go.Proofs.YtadenlhnfkccaaaDoor
open Go.RowKit
set_option linter.unusedVariables false
set_option linter.unusedSimpArgs false
/-- The words of faults. -/
def wordL : Nat → List UInt8
  | 0 => [111, 107]
  | 1 => [98, 97, 100, 97, 114, 103]
  | 2 => [114, 97, 110, 103, 101]
  | 3 => [115, 121, 110, 116, 97, 120]
  | 4 => [102, 111, 114, 109]
  | 5 => [102, 117, 108, 108]
  | 6 => [98, 105, 103]
  | 7 => [109, 105, 115, 115, 105, 110, 103]
  | 8 => [101, 120, 105, 115, 116, 115]
  | 9 => [117, 115, 101, 100]
  | 10 => [119, 105, 110, 100, 111, 119]
  | 11 => [99, 111, 114, 114, 117, 112, 116]
  | 12 => [100, 111, 119, 110]
  | 13 => [108, 105, 109, 105, 116]
  | 14 => [115, 116, 97, 116, 101]
  | _ => []
def wordT (f : Int) : List UInt8 := if f < 0 then [] else wordL f.toNat
def wordCells : Array Value := #[.string ⟨#[111, 107]⟩, .string ⟨#[98, 97, 100, 97, 114, 103]⟩, .string ⟨#[114, 97, 110, 103, 101]⟩, .string ⟨#[115, 121, 110, 116, 97, 120]⟩, .string ⟨#[102, 111, 114, 109]⟩, .string ⟨#[102, 117, 108, 108]⟩, .string ⟨#[98, 105, 103]⟩, .string ⟨#[109, 105, 115, 115, 105, 110, 103]⟩, .string ⟨#[101, 120, 105, 115, 116, 115]⟩, .string ⟨#[117, 115, 101, 100]⟩, .string ⟨#[119, 105, 110, 100, 111, 119]⟩, .string ⟨#[99, 111, 114, 114, 117, 112, 116]⟩, .string ⟨#[100, 111, 119, 110]⟩, .string ⟨#[108, 105, 109, 105, 116]⟩, .string ⟨#[115, 116, 97, 116, 101]⟩]
theorem wordCells_at (k : Nat) (hk : k < 15) : wordCells.toList[k]? = some (strc (wordL k)) := by
  rcases show k = 0 ∨ k = 1 ∨ k = 2 ∨ k = 3 ∨ k = 4 ∨ k = 5 ∨ k = 6 ∨ k = 7 ∨ k = 8 ∨ k = 9 ∨ k = 10 ∨ k = 11 ∨ k = 12 ∨ k = 13 ∨ k = 14 by omega with rfl | rfl | rfl | rfl | rfl | rfl | rfl | rfl | rfl | rfl | rfl | rfl | rfl | rfl | rfl <;> rfl
theorem wordSize : (Tryd.prog.info? 122).map (·.size) = some 15 := by kernel_rfl
theorem wordOne : wordCells.all (·.oneCell') = true := by
  rw [Array.all_eq_true']
  intro v hv
  have : v ∈ wordCells.toList := Array.mem_toList_iff.2 hv
  simp only [wordCells, List.mem_cons, List.not_mem_nil, or_false] at this
  rcases this with h | h | h | h | h | h | h | h | h | h | h | h | h | h | h <;> subst h <;> rfl
set_option maxRecDepth 100000 in
theorem words_any39 (w : World) : Calls Tryd.prog 67 #[] w fun e w' => e = .returned (.agg wordCells) ∧ Gr w w' := by
  have HO := Lib.hid wordOne
  have hb : Hid (Below w.heap.size w ((w.alloc (.cells (reps 15 (.string ⟨#[]⟩)).toArray 122)).setRow w.heap.size wordCells)) := below_row39 ((Below.refl _ _).alloc (Nat.le_refl _) _) (Nat.le_refl _) _
  have HN : Hid (((w.alloc (.cells (reps 15 (.string ⟨#[]⟩)).toArray 122)).setRow w.heap.size wordCells).heap[w.heap.size]? = some (.cells wordCells 122 (0, 0))) := setRow_heap _ w.heap.size _ _ _ _ (heap_alloc_new w _)
  go_enter Tryd.func67, Tryd.ntmps67
  go_wp2_with (refine wpList_store_row rfl 122 (.tmp 0) (.tmp 1) rfl w.heap.size wordCells rfl rfl 122 (reps 15 (.string ⟨#[]⟩)).toArray (by exact heap_alloc_new w _) wordSize rfl HO.out ?_)
  exact bodyPost_ret (v := .agg wordCells) (results_cell_row Tryd.results67 _ _ w.heap.size 122 _ (0, 0) _ rfl HN.out Tryd.underlying122 rfl wordSize) rfl ⟨rfl, hb.out⟩
/-- The word of a fault. -/
theorem word_any (f : Int) (w : World) : Calls Tryd.prog 37 #[.int .i64 f] w fun e w' => e = .returned (strc (wordT f)) ∧ Gr w w' := by
  have HW := Lib.hid (words_any39 w)
  have HO := Lib.hid wordOne
  go_enter Tryd.func37, Tryd.ntmps37
  go_wp2_with fail
  refine HW.out.mono ?_
  rintro e w2 ⟨rfl, g2⟩
  have G2 := Lib.hid g2; clear g2
  have G23 : Gr w2 ((w2.alloc (.cells #[.string ⟨#[]⟩, .string ⟨#[]⟩, .string ⟨#[]⟩, .string ⟨#[]⟩, .string ⟨#[]⟩, .string ⟨#[]⟩, .string ⟨#[]⟩, .string ⟨#[]⟩, .string ⟨#[]⟩, .string ⟨#[]⟩, .string ⟨#[]⟩, .string ⟨#[]⟩, .string ⟨#[]⟩, .string ⟨#[]⟩, .string ⟨#[]⟩] 122)).setRow w2.heap.size wordCells) := below_row39 ((Below.refl _ _).alloc (Nat.le_refl _) _) (Nat.le_refl _) _
  have BW : Blk ((w2.alloc (.cells #[.string ⟨#[]⟩, .string ⟨#[]⟩, .string ⟨#[]⟩, .string ⟨#[]⟩, .string ⟨#[]⟩, .string ⟨#[]⟩, .string ⟨#[]⟩, .string ⟨#[]⟩, .string ⟨#[]⟩, .string ⟨#[]⟩, .string ⟨#[]⟩, .string ⟨#[]⟩, .string ⟨#[]⟩, .string ⟨#[]⟩, .string ⟨#[]⟩] 122)).setRow w2.heap.size wordCells) w2.heap.size 122 wordCells.toList := setRow_heap _ w2.heap.size _ _ _ _ (heap_alloc_new w2 _)
  have GG := Lib.hid (G2.out.trans G23)
  clear G23
  by_cases h1 : f < 0
  · have t1 : decide (f < 0) = true := decide_eq_true h1
    have HF : Hid (wordT f = []) := if_pos h1
    clear BW
    go_wp2_with (refine wpList_store_row rfl 122 (.tmp 3) (.tmp 4) rfl w2.heap.size wordCells rfl rfl 122 (reps 15 (.string ⟨#[]⟩)).toArray (by exact heap_alloc_new w2 _) wordSize rfl HO.out ?_)
    go_ret
    exact ⟨by rw [HF.out]; rfl, GG.out⟩
  · have t1 : decide (f < 0) = false := decide_eq_false h1
    by_cases h2 : f ≥ 15
    · have t2 : decide (f ≥ 15) = true := decide_eq_true h2
      have HF : Hid (wordT f = []) := by
        show _ = _
        unfold wordT
        rw [if_neg h1]
        obtain ⟨k, hk⟩ : ∃ k, f.toNat = k + 15 := ⟨f.toNat - 15, by omega⟩
        rw [hk]; rfl
      clear BW
      go_wp2_with (refine wpList_store_row rfl 122 (.tmp 3) (.tmp 4) rfl w2.heap.size wordCells rfl rfl 122 (reps 15 (.string ⟨#[]⟩)).toArray (by exact heap_alloc_new w2 _) wordSize rfl HO.out ?_)
      go_ret
      exact ⟨by rw [HF.out]; rfl, GG.out⟩
    · obtain ⟨k, rfl⟩ : ∃ k : Nat, f = (k : Int) := ⟨f.toNat, by omega⟩
      have hk : k < 15 := by omega
      have t2 : decide ((k : Int) ≥ 15) = false := decide_eq_false h2
      have hi : (k : Int) < 15 := by omega
      have HF : Hid (wordT (k : Int) = wordL k) := by show _ = _; unfold wordT; rw [if_neg h1]; rfl
      obtain ⟨x, hx⟩ : ∃ x : ByteArray, strc (wordL k) = .string x := ⟨_, rfl⟩
      have cx : ((w2.alloc (.cells #[.string ⟨#[]⟩, .string ⟨#[]⟩, .string ⟨#[]⟩, .string ⟨#[]⟩, .string ⟨#[]⟩, .string ⟨#[]⟩, .string ⟨#[]⟩, .string ⟨#[]⟩, .string ⟨#[]⟩, .string ⟨#[]⟩, .string ⟨#[]⟩, .string ⟨#[]⟩, .string ⟨#[]⟩, .string ⟨#[]⟩, .string ⟨#[]⟩] 122)).setRow w2.heap.size wordCells).cell? ⟨w2.heap.size, k, none⟩ = some (.string x) := by rw [BW.cell, wordCells_at k hk, hx]
      have HXX := Lib.hid hx
      clear BW hx
      go_wp2_with (refine wpList_store_row rfl 122 (.tmp 3) (.tmp 4) rfl w2.heap.size wordCells rfl rfl 122 (reps 15 (.string ⟨#[]⟩)).toArray (by exact heap_alloc_new w2 _) wordSize rfl HO.out ?_)
      go_ret
      exact ⟨by rw [HF.out, HXX.out]; rfl, GG.out⟩
/-- Is an operation short? -/
def lightO (o : OpD) : Bool := decide (o.g.length ≤ 100) && decide (o.i.length ≤ 100) && decide (o.x.length ≤ 100)
set_option maxRecDepth 100000 in
set_option maxHeartbeats 1000000 in
theorem light37_one (o : OpD) (A : Option Addr) (m c b : Nat) (w : World) (hB : Blk w b 24 (opC o A m c).toList) (hx : Bs w A m c o.x) :
    Calls Tryd.prog 6 #[.slice (some ⟨b, 0, none⟩) 1 1] w fun e w' => e = .returned (.bool (lightO o)) ∧ Gr w w' := by
  have hml := hx.len
  obtain ⟨g, hg⟩ : ∃ g : ByteArray, g = ⟨o.g.toArray⟩ := ⟨_, rfl⟩
  obtain ⟨i, hi⟩ : ∃ i : ByteArray, i = ⟨o.i.toArray⟩ := ⟨_, rfl⟩
  have hgz : g.size = o.g.length := by rw [hg]; exact size_of' _
  have hiz : i.size = o.i.length := by rw [hi]; exact size_of' _
  have HC1 : Hid (w.cell? ⟨b, 1, none⟩ = some (.string g)) := by show _ = _; rw [hB.cell, hg]; rfl
  have HC2 : Hid (w.cell? ⟨b, 2, none⟩ = some (.string i)) := by show _ = _; rw [hB.cell, hi]; rfl
  have HC7 : Hid (w.cell? ⟨b, 7, none⟩ = some (.slice A m c)) := by show _ = _; rw [hB.cell]; rfl
  obtain ⟨r, hr⟩ : ∃ r, r = lightO o := ⟨_, rfl⟩
  rw [← hr]
  have HR : Hid (r = (decide (g.size ≤ 100) && decide (i.size ≤ 100) && decide (m ≤ 100))) := by
    show _ = _
    rw [hr, hgz, hiz, ← hml]; rfl
  clear hr hB hx hg hi hml hgz hiz
  go_enter Tryd.func6, Tryd.ntmps6
  go_wp2
  go_loopw [3] (fun v wr => ∃ k : Nat, k ≤ 1 ∧ v = .int .i64 k ∧ wr = w ∧ (k = 1 → r = true)) (fun v _ => 1 - (intOf v).toNat)
  case atStart => exact ⟨0, by omega, rfl, rfl, by omega⟩
  case round =>
    obtain ⟨k, hk, rfl, rfl, hdone⟩ := hrel
    by_cases hlt : k < 1
    · obtain rfl : k = 0 := by omega
      have c1 := HC1.out; have c2 := HC2.out; have c7 := HC7.out
      have t0 : decide (((0 : Nat) : Int) < 1) = true := by decide
      by_cases h1 : 100 < g.size
      · have t1 : decide ((100 : Int) < (g.size : Int)) = true := decide_eq_true (by omega)
        have HF : Hid (r = false) := by show _ = _; rw [HR.out, decide_eq_false (by omega)]; rfl
        go_wp2_with fail
        go_ret
        exact ⟨by rw [HF.out]; rfl, Gr.refl _⟩
      · have t1 : decide ((100 : Int) < (g.size : Int)) = false := decide_eq_false (by omega)
        by_cases h2 : 100 < i.size
        · have t2 : decide ((100 : Int) < (i.size : Int)) = true := decide_eq_true (by omega)
          have HF : Hid (r = false) := by show _ = _; rw [HR.out, decide_eq_true (by omega : g.size ≤ 100), decide_eq_false (by omega)]; rfl
          go_wp2_with fail
          go_ret
          exact ⟨by rw [HF.out]; rfl, Gr.refl _⟩
        · have t2 : decide ((100 : Int) < (i.size : Int)) = false := decide_eq_false (by omega)
          by_cases h3 : 100 < m
          · have t3 : decide ((100 : Int) < (m : Int)) = true := decide_eq_true (by omega)
            have HF : Hid (r = false) := by show _ = _; rw [HR.out, decide_eq_true (by omega : g.size ≤ 100), decide_eq_true (by omega : i.size ≤ 100), decide_eq_false (by omega)]; rfl
            go_wp2_with fail
            go_ret
            exact ⟨by rw [HF.out]; rfl, Gr.refl _⟩
          · have t3 : decide ((100 : Int) < (m : Int)) = false := decide_eq_false (by omega)
            have HF : Hid (r = true) := by show _ = _; rw [HR.out, decide_eq_true (by omega : g.size ≤ 100), decide_eq_true (by omega : i.size ≤ 100), decide_eq_true (by omega : m ≤ 100)]; rfl
            go_wp2_with fail
            refine ⟨⟨1, by omega, by first | trivial | rfl, by first | trivial | rfl, fun _ => HF.out⟩, ?_⟩
            show 1 - (1 : Int).toNat < 1 - (0 : Int).toNat
            omega
    · obtain rfl : k = 1 := by omega
      have t0 : decide (((1 : Nat) : Int) < 1) = false := by decide
      have HF : Hid (r = true) := hdone rfl
      clear hdone
      go_wp2_with fail
      go_ret
      exact ⟨by rw [HF.out]; rfl, Gr.refl _⟩
end Go.Proofs.YtadenlhnfkccaaaDoor
