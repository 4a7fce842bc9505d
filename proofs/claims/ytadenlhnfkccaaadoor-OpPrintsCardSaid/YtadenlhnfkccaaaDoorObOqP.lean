/- OpPrints' walk. No condition. -/
import Derived.Test.YtadenlhnfkccaaaDoorObOqCD
import Derived.Test.YtadenlhnfkccaaaDoorObOpenO
import Derived.Outline
namespace Go.Proofs.YtadenlhnfkccaaaDoor
open Go.RowKit
set_option linter.unusedVariables false
set_option linter.unusedSimpArgs false
set_option maxRecDepth 100000 in
set_option maxHeartbeats 4000000 in
theorem prints_any (o : OpD) (A : Option Addr) (m c : Nat) (l : List UInt8) (w : World) (hn : OpNum o) (hx : Bs w A m c o.x) (hT : Pow10 w) (hM : MLen w) :
    Calls Tryd.prog 3 #[opV o A m c, strc l] w fun e w' => e = .returned (.bool true) ∧ Gr w w' := by
  have HL : Hid (∀ wr b, Gr w wr → Blk wr b 24 (opC o A m c).toList → Calls Tryd.prog 6 #[.slice (some ⟨b, 0, none⟩) 1 1] wr fun e w' => e = .returned (.bool (lightO o)) ∧ Gr wr w') := fun wr b g h => light37_one o A m c b wr h (hx.mono g)
  have HAL : Hid (∀ wr, Gr w wr → Calls Tryd.prog 7 #[] wr fun e w' => e = .returned (.bool true) ∧ Gr wr w') := fun wr g => alive39_any wr (hT.mono g) (hM.mono g)
  have HC8 : Hid (∀ wq, Gr (w.alloc (.cells (opC o A m c) 24)) wq → ∀ (i : Nat) (v : Value), (opC o A m c).toList[i]? = some v → wq.cell? ⟨w.heap.size, i, none⟩ = some v) := fun wq g i v h => (((Blk.new w 24 (opC o A m c)).mono g).cell i).trans h
  have G0 : Hid (Gr w (w.alloc (.cells (opC o A m c) 24))) := Gr.alloc w _
  obtain ⟨s, hs⟩ : ∃ s : ByteArray, s = ⟨l.toArray⟩ := ⟨_, rfl⟩
  have hsz : s.size = l.length := by rw [hs]; exact size_of' _
  have hss : strc l = .string s := by rw [hs]; rfl
  have HB2 := Lib.hid (Blk.new (w.alloc (.cells (opC o A m c) 24)) 24 (opC o A m c))
  have GB2 : Hid (Gr w ((w.alloc (.cells (opC o A m c) 24)).alloc (.cells (opC o A m c) 24))) := G0.out.trans (Gr.alloc _ _)
  have HLC := Lib.hid (HL.out _ _ GB2.out HB2.out)
  rw [show (w.alloc (.cells (opC o A m c) 24)).heap.size = w.heap.size + 1 by simp] at HLC
  have HX := Lib.hid hx
  have HT := Lib.hid hT
  have HM := Lib.hid hM
  have HN := Lib.hid hn
  clear HB2 hs HL hx hT hM hn
  cases hlo : lightO o with
  | false =>
    rw [hlo] at HLC
    clear hlo
    rw [hss]
    unfold opV
    go_enter Tryd.func3, Tryd.ntmps3
    have d0 := HC8.out _ (Gr.refl _) 0 _ rfl
    have d1 := HC8.out _ (Gr.refl _) 1 _ rfl
    have d2 := HC8.out _ (Gr.refl _) 2 _ rfl
    have d3 := HC8.out _ (Gr.refl _) 3 _ rfl
    have d4 := HC8.out _ (Gr.refl _) 4 _ rfl
    have d5 := HC8.out _ (Gr.refl _) 5 _ rfl
    have d6 := HC8.out _ (Gr.refl _) 6 _ rfl
    have d7 := HC8.out _ (Gr.refl _) 7 _ rfl
    go_wp2_with fail
    refine HLC.out.mono ?_
    rintro e w2 ⟨rfl, g2⟩
    have G2 := Lib.hid (GB2.out.trans g2); clear g2
    go_wp2_with fail
    refine (HAL.out _ G2.out).mono ?_
    rintro e w9 ⟨rfl, g9⟩
    have G9 : Gr w w9 := Gr.trans G2.out g9; clear g9
    go_wp2_with fail
    go_ret
    exact ⟨rfl, G9⟩
  | true =>
    rw [hlo] at HLC
    have HO := Lib.hid (HN.out.ok hlo)
    have hlg : o.g.length ≤ 1000 ∧ o.i.length ≤ 1000 := by
      unfold lightO at hlo
      simp only [Bool.and_eq_true, decide_eq_true_eq] at hlo
      omega
    clear hlo
    by_cases hbig : 300 < s.size
    · have t1 : decide ((300 : Int) < (s.size : Int)) = true := decide_eq_true (by omega)
      rw [hss]
      unfold opV
      go_enter Tryd.func3, Tryd.ntmps3
      have d0 := HC8.out _ (Gr.refl _) 0 _ rfl
      have d1 := HC8.out _ (Gr.refl _) 1 _ rfl
      have d2 := HC8.out _ (Gr.refl _) 2 _ rfl
      have d3 := HC8.out _ (Gr.refl _) 3 _ rfl
      have d4 := HC8.out _ (Gr.refl _) 4 _ rfl
      have d5 := HC8.out _ (Gr.refl _) 5 _ rfl
      have d6 := HC8.out _ (Gr.refl _) 6 _ rfl
      have d7 := HC8.out _ (Gr.refl _) 7 _ rfl
      go_wp2_with fail
      refine HLC.out.mono ?_
      rintro e w2 ⟨rfl, g2⟩
      have G2 := Lib.hid (GB2.out.trans g2); clear g2
      go_wp2_with fail
      refine (HAL.out _ G2.out).mono ?_
      rintro e w9 ⟨rfl, g9⟩
      have G9 : Gr w w9 := Gr.trans G2.out g9; clear g9
      go_wp2_with fail
      go_ret
      exact ⟨rfl, G9⟩
    · have t1 : decide ((300 : Int) < (s.size : Int)) = false := decide_eq_false (by omega)
      have HPR : Hid (∀ wr, Gr w wr → Calls Tryd.prog 8 #[opV o A m c] wr fun e w' => e = .returned (.tuple #[strc (printO o).1, .int .i64 ((printO o).2 : Int)]) ∧ Gr wr w') := fun wr g => opPrint_any o A m c wr HO.out hlg.1 hlg.2 (HX.out.mono g) (HT.out.mono g) (HM.out.mono g)
      have HRP : Hid (∀ wr, Gr w wr → Calls Tryd.prog 9 #[opV o A m c] wr fun e w' => e = .returned (.tuple #[strc (printO o).1, .int .i64 ((printO o).2 : Int)]) ∧ Gr wr w') := fun wr g => refOpPrint_any o A m c wr HO.out hlg.1 hlg.2 (HX.out.mono g)
      have HPA : Hid (∀ wr, Gr w wr → Calls Tryd.prog 10 #[strc l] wr (RetOp wr (parseO l))) := fun wr g => opParse_any l wr (by omega) (HM.out.mono g) (HT.out.mono g)
      have HRA : Hid (∀ wr, Gr w wr → Calls Tryd.prog 11 #[strc l] wr (RetOp wr (parseO l))) := fun wr g => refOpParse_any l wr (by omega)
      have HSM : Hid (∀ (o1 : OpD) A1 m1 c1 A2 m2 c2 wr, Bs wr A1 m1 c1 o1.x → Bs wr A2 m2 c2 o1.x → Calls Tryd.prog 12 #[opV o1 A1 m1 c1, opV o1 A2 m2 c2] wr fun e w' => e = .returned (.bool true) ∧ Gr wr w') := fun o1 A1 m1 c1 A2 m2 c2 wr h1 h2 => by
        have := refSame39_any o1 o1 A1 A2 m1 c1 m2 c2 wr h1 h2
        rw [sameO_self] at this
        exact this
      generalize parseO l = pl at *
      obtain ⟨p1, p2⟩ := pl
      obtain ⟨r1, hr1⟩ : ∃ r1 : ByteArray, strc (printO o).1 = .string r1 := ⟨_, rfl⟩
      rw [hr1] at HPR HRP
      generalize (printO o).2 = r2 at *
      clear hr1
      have te : (r1.toList == r1.toList) = true := beq_self_eq_true _
      rw [hss] at HPA HRA ⊢
      clear hss hsz hbig hlg HO HN HM HT HX
      unfold opV at *
      go_enter Tryd.func3, Tryd.ntmps3
      have d0 := HC8.out _ (Gr.refl _) 0 _ rfl
      have d1 := HC8.out _ (Gr.refl _) 1 _ rfl
      have d2 := HC8.out _ (Gr.refl _) 2 _ rfl
      have d3 := HC8.out _ (Gr.refl _) 3 _ rfl
      have d4 := HC8.out _ (Gr.refl _) 4 _ rfl
      have d5 := HC8.out _ (Gr.refl _) 5 _ rfl
      have d6 := HC8.out _ (Gr.refl _) 6 _ rfl
      have d7 := HC8.out _ (Gr.refl _) 7 _ rfl
      go_wp2_with fail
      refine HLC.out.mono ?_
      rintro e w2 ⟨rfl, g2⟩
      have GX2 : Hid (Gr (w.alloc (.cells (opC o A m c) 24)) w2) := (Gr.alloc _ _).trans g2
      clear g2 d0 d1 d2 d3 d4 d5 d6 d7
      have d0 := HC8.out _ GX2.out 0 _ rfl
      have d1 := HC8.out _ GX2.out 1 _ rfl
      have d2 := HC8.out _ GX2.out 2 _ rfl
      have d3 := HC8.out _ GX2.out 3 _ rfl
      have d4 := HC8.out _ GX2.out 4 _ rfl
      have d5 := HC8.out _ GX2.out 5 _ rfl
      have d6 := HC8.out _ GX2.out 6 _ rfl
      have d7 := HC8.out _ GX2.out 7 _ rfl
      go_wp2_with fail
      refine (HPR.out _ (G0.out.trans GX2.out)).mono ?_
      rintro e w3 ⟨rfl, g3⟩
      have GX3 := Lib.hid (GX2.out.trans g3)
      clear g3 d0 d1 d2 d3 d4 d5 d6 d7
      have d0 := HC8.out _ GX3.out 0 _ rfl
      have d1 := HC8.out _ GX3.out 1 _ rfl
      have d2 := HC8.out _ GX3.out 2 _ rfl
      have d3 := HC8.out _ GX3.out 3 _ rfl
      have d4 := HC8.out _ GX3.out 4 _ rfl
      have d5 := HC8.out _ GX3.out 5 _ rfl
      have d6 := HC8.out _ GX3.out 6 _ rfl
      have d7 := HC8.out _ GX3.out 7 _ rfl
      go_wp2_with fail
      refine (HRP.out _ (G0.out.trans GX3.out)).mono ?_
      rintro e w4 ⟨rfl, g4⟩
      have GX4 := Lib.hid (G0.out.trans (GX3.out.trans g4))
      clear g4 d0 d1 d2 d3 d4 d5 d6 d7
      go_wp2_with fail
      refine (HPA.out _ GX4.out).mono ?_
      rintro e w5 ⟨A2, m2, c2, rfl, sx, g5⟩
      have HYB := setRow_heap (w5.alloc (.cells #[.int .i64 0, .string ⟨#[]⟩, .string ⟨#[]⟩, .int .i64 0, .int .i64 0, .int .i64 0, .int .i64 0, .slice none 0 0] 24)) w5.heap.size _ (opC p1 A2 m2 c2) _ _ (heap_alloc_new w5 _)
      have GS0 : Gr w5 ((w5.alloc (.cells #[.int .i64 0, .string ⟨#[]⟩, .string ⟨#[]⟩, .int .i64 0, .int .i64 0, .int .i64 0, .int .i64 0, .slice none 0 0] 24)).setRow w5.heap.size (opC p1 A2 m2 c2)) := below_row39 ((Below.refl _ _).alloc (Nat.le_refl _) _) (Nat.le_refl _) _
      have GX6 := Lib.hid (GX4.out.trans (Gr.trans g5 GS0))
      have SX := Lib.hid (Sl.gr sx GS0)
      clear g5 sx GS0
      go_wp2_with (refine wpList_store_row rfl 24 (.tmp 9) (.tmp 36) rfl w5.heap.size (opC p1 A2 m2 c2) rfl rfl 24 #[.int .i64 0, .string ⟨#[]⟩, .string ⟨#[]⟩, .int .i64 0, .int .i64 0, .int .i64 0, .int .i64 0, .slice none 0 0] (by exact heap_alloc_new w5 _) opSize rfl (opOne _ _ _ _) ?_)
      obtain ⟨w6, hw6⟩ : ∃ w6, w6 = ((w5.alloc (.cells #[.int .i64 0, .string ⟨#[]⟩, .string ⟨#[]⟩, .int .i64 0, .int .i64 0, .int .i64 0, .int .i64 0, .slice none 0 0] 24)).setRow w5.heap.size (opC p1 A2 m2 c2)) := ⟨_, rfl⟩
      rw [← hw6] at GX6 SX HYB ⊢
      have BY : Hid (Blk w6 w5.heap.size 24 (opC p1 A2 m2 c2).toList) := HYB
      clear HYB hw6
      refine (HRA.out _ GX6.out).mono ?_
      rintro e w7 ⟨A3, m3, c3, rfl, sx, g7⟩
      have HZB := setRow_heap (w7.alloc (.cells #[.int .i64 0, .string ⟨#[]⟩, .string ⟨#[]⟩, .int .i64 0, .int .i64 0, .int .i64 0, .int .i64 0, .slice none 0 0] 24)) w7.heap.size _ (opC p1 A3 m3 c3) _ _ (heap_alloc_new w7 _)
      have GS0 : Gr w7 ((w7.alloc (.cells #[.int .i64 0, .string ⟨#[]⟩, .string ⟨#[]⟩, .int .i64 0, .int .i64 0, .int .i64 0, .int .i64 0, .slice none 0 0] 24)).setRow w7.heap.size (opC p1 A3 m3 c3)) := below_row39 ((Below.refl _ _).alloc (Nat.le_refl _) _) (Nat.le_refl _) _
      have GX8 := Lib.hid (GX6.out.trans (Gr.trans g7 GS0))
      have SY := Lib.hid (Sl.gr sx GS0)
      have SX2 := Lib.hid (Sl.gr SX.out (Gr.trans g7 GS0))
      have HY8 : Hid (∀ (i : Nat) (v : Value), (opC p1 A2 m2 c2).toList[i]? = some v → ((w7.alloc (.cells #[.int .i64 0, .string ⟨#[]⟩, .string ⟨#[]⟩, .int .i64 0, .int .i64 0, .int .i64 0, .int .i64 0, .slice none 0 0] 24)).setRow w7.heap.size (opC p1 A3 m3 c3)).cell? ⟨w5.heap.size, i, none⟩ = some v) := fun i v h => ((BY.out.mono (Gr.trans g7 GS0)).cell i).trans h
      have HZ8 : Hid (∀ (i : Nat) (v : Value), (opC p1 A3 m3 c3).toList[i]? = some v → ((w7.alloc (.cells #[.int .i64 0, .string ⟨#[]⟩, .string ⟨#[]⟩, .int .i64 0, .int .i64 0, .int .i64 0, .int .i64 0, .slice none 0 0] 24)).setRow w7.heap.size (opC p1 A3 m3 c3)).cell? ⟨w7.heap.size, i, none⟩ = some v) := fun i v h => ((show Blk ((w7.alloc (.cells #[.int .i64 0, .string ⟨#[]⟩, .string ⟨#[]⟩, .int .i64 0, .int .i64 0, .int .i64 0, .int .i64 0, .slice none 0 0] 24)).setRow w7.heap.size (opC p1 A3 m3 c3)) w7.heap.size 24 (opC p1 A3 m3 c3).toList from HZB).cell i).trans h
      clear g7 sx GS0 HZB
      have HSC := Lib.hid (HSM.out p1 A2 m2 c2 A3 m3 c3 _ SX2.out SY.out)
      have d0 := HY8.out 0 _ rfl
      have d1 := HY8.out 1 _ rfl
      have d2 := HY8.out 2 _ rfl
      have d3 := HY8.out 3 _ rfl
      have d4 := HY8.out 4 _ rfl
      have d5 := HY8.out 5 _ rfl
      have d6 := HY8.out 6 _ rfl
      have d7 := HY8.out 7 _ rfl
      have e0 := HZ8.out 0 _ rfl
      have e1 := HZ8.out 1 _ rfl
      have e2 := HZ8.out 2 _ rfl
      have e3 := HZ8.out 3 _ rfl
      have e4 := HZ8.out 4 _ rfl
      have e5 := HZ8.out 5 _ rfl
      have e6 := HZ8.out 6 _ rfl
      have e7 := HZ8.out 7 _ rfl
      go_wp2_with (refine wpList_store_row rfl 24 (.tmp 11) (.tmp 41) rfl w7.heap.size (opC p1 A3 m3 c3) rfl rfl 24 #[.int .i64 0, .string ⟨#[]⟩, .string ⟨#[]⟩, .int .i64 0, .int .i64 0, .int .i64 0, .int .i64 0, .slice none 0 0] (by exact heap_alloc_new w7 _) opSize rfl (opOne _ _ _ _) ?_)
      refine HSC.out.mono ?_
      rintro e w8 ⟨rfl, g8⟩
      have G8 := Lib.hid (GX8.out.trans g8); clear g8
      go_wp2_with fail
      refine (HAL.out _ G8.out).mono ?_
      rintro e w9 ⟨rfl, g9⟩
      have G9 := Lib.hid (G8.out.trans g9); clear g9
      go_wp2_with fail
      go_ret
      exact ⟨rfl, G9.out⟩
theorem prints_law (o : OpD) (A : Option Addr) (m c : Nat) (s : ByteArray) (w : World) (hn : OpNum o) (hx : Bs w A m c o.x) (hT : Pow10 w) (hM : MLen w) :
    Calls Tryd.prog 3 #[opV o A m c, .string s] w fun e w' => e = .returned (.bool true) ∧ Gr w w' := by
  have h := prints_any o A m c s.data.toList w hn hx hT hM
  rw [show strc s.data.toList = .string s by unfold strc; simp] at h
  exact h
end Go.Proofs.YtadenlhnfkccaaaDoor
