/- OpBack's walk. No condition. -/
import Derived.Test.YtadenlhnfkccaaaDoorObOqCD
import Derived.Test.YtadenlhnfkccaaaDoorObOqRd
import Derived.Test.YtadenlhnfkccaaaDoorObOqST
import Derived.Test.YtadenlhnfkccaaaDoorObOpenO
import Derived.Deep.DeepCutAuto
import Derived.Outline
namespace Go.Proofs.YtadenlhnfkccaaaDoor
open Go.RowKit
set_option linter.unusedVariables false
set_option linter.unusedSimpArgs false
theorem tellL_len (a : AnD) (hb : a.b.length ≤ 100) (hn : a.n.length ≤ 20) (ht : a.t.length ≤ 100) : (tellL a).length ≤ 10000 := by
  unfold tellL
  split
  · have := wordT_len a.f; omega
  · split
    · exact Nat.zero_le _
    · have h1 := joinL_len 32 201 (tellA a) (by
        intro p hp
        unfold tellA tellW at hp
        rcases List.mem_append.1 hp with hp | hp
        · rcases List.mem_append.1 hp with hp | hp
          · rcases List.mem_cons.1 hp with rfl | hp
            · have := wordT_len a.f; omega
            · obtain ⟨n, _, rfl⟩ := List.mem_map.1 hp
              have := countT_len n; omega
          · split at hp
            · simp at hp
            · simp only [List.mem_singleton] at hp
              subst hp
              simp only [List.length_cons, hexP_len]; omega
        · split at hp
          · simp at hp
          · simp only [List.mem_singleton] at hp
            subst hp
            simp only [List.length_cons]; omega)
      have h2 : (tellA a).length ≤ 23 := by
        unfold tellA tellW
        simp only [List.length_append, List.length_cons, List.length_map]
        split <;> split <;> simp <;> omega
      have := Nat.mul_le_mul_right 202 h2
      omega
set_option maxRecDepth 100000 in
set_option maxHeartbeats 8000000 in
theorem backs_any (o : OpD) (A : Option Addr) (m c : Nat) (a : AnD) (Aa B : Option Addr) (ma ca p q : Nat) (l : List UInt8) (w : World) (hn : OpNum o) (hx : Bs w A m c o.x) (hb : Bs w Aa ma ca a.b) (hi : Is w B p q a.n) (hr : ∀ x ∈ a.n, -9223372036854775808 ≤ x ∧ x ≤ 9223372036854775807) (hT : Pow10 w) (hM : MLen w) :
    Calls Tryd.prog 4 #[opV o A m c, .agg (anC a Aa ma ca B p q), strc l] w fun e w' => e = .returned (.bool true) ∧ Gr w w' := by
  have HL : Hid (∀ wr b, Gr w wr → Blk wr b 24 (opC o A m c).toList → Calls Tryd.prog 6 #[.slice (some ⟨b, 0, none⟩) 1 1] wr fun e w' => e = .returned (.bool (lightO o)) ∧ Gr wr w') := fun wr b g h => light37_one o A m c b wr h (hx.mono g)
  have HLA : Hid (∀ wr, Gr w wr → Calls Tryd.prog 13 #[.agg (anC a Aa ma ca B p q)] wr fun e w' => e = .returned (.bool (decide (a.b.length ≤ 100) && decide (a.n.length ≤ 20) && decide (a.t.length ≤ 100))) ∧ Gr wr w') := fun wr g => light39_any a Aa B ma ca p q wr (hb.mono g) (hi.mono g)
  have HAL : Hid (∀ wr, Gr w wr → Calls Tryd.prog 7 #[] wr fun e w' => e = .returned (.bool true) ∧ Gr wr w') := fun wr g => alive39_any wr (hT.mono g) (hM.mono g)
  have HC8 : Hid (∀ wq, Gr ((w.alloc (.cells (opC o A m c) 24)).alloc (.cells (anC a Aa ma ca B p q) 37)) wq → ∀ (i : Nat) (v : Value), (opC o A m c).toList[i]? = some v → wq.cell? ⟨w.heap.size, i, none⟩ = some v) := fun wq g i v h => ((((Blk.new w 24 (opC o A m c)).alloc _).mono g).cell i).trans h
  have HA4 : Hid (∀ wq, Gr ((w.alloc (.cells (opC o A m c) 24)).alloc (.cells (anC a Aa ma ca B p q) 37)) wq → ∀ (i : Nat) (v : Value), (anC a Aa ma ca B p q).toList[i]? = some v → wq.cell? ⟨w.heap.size + 1, i, none⟩ = some v) := fun wq g i v h => by
    have hB := Blk.new (w.alloc (.cells (opC o A m c) 24)) 37 (anC a Aa ma ca B p q)
    rw [World.size_alloc] at hB
    exact ((hB.mono g).cell i).trans h
  have G0 : Hid (Gr w ((w.alloc (.cells (opC o A m c) 24)).alloc (.cells (anC a Aa ma ca B p q) 37))) := (Gr.alloc w _).trans (Gr.alloc _ _)
  obtain ⟨s, hs⟩ : ∃ s : ByteArray, s = ⟨l.toArray⟩ := ⟨_, rfl⟩
  have hsz : s.size = l.length := by rw [hs]; exact size_of' _
  have hsl : s.toList = l := by rw [hs, ByteArray.toList_eq]
  have hss : strc l = .string s := by rw [hs]; rfl
  have HB2 := Lib.hid (Blk.new ((w.alloc (.cells (opC o A m c) 24)).alloc (.cells (anC a Aa ma ca B p q) 37)) 24 (opC o A m c))
  have GS2 : Hid (Gr ((w.alloc (.cells (opC o A m c) 24)).alloc (.cells (anC a Aa ma ca B p q) 37)) (((w.alloc (.cells (opC o A m c) 24)).alloc (.cells (anC a Aa ma ca B p q) 37)).alloc (.cells (opC o A m c) 24))) := Gr.alloc _ _
  have HLC := Lib.hid (HL.out _ _ (G0.out.trans GS2.out) HB2.out)
  rw [show ((w.alloc (.cells (opC o A m c) 24)).alloc (.cells (anC a Aa ma ca B p q) 37)).heap.size = w.heap.size + 1 + 1 by simp] at HLC
  have HX := Lib.hid hx; have HT := Lib.hid hT; have HM := Lib.hid hM; have HN := Lib.hid hn
  have HBB := Lib.hid hb; have HII := Lib.hid hi; have HRR := Lib.hid hr
  clear HB2 hs HL hx hT hM hn hb hi hr
  cases hlo : lightO o with
  | false =>
    rw [hlo] at HLC
    clear hlo
    rw [hss]
    unfold opV
    go_enter Tryd.func4, Tryd.ntmps4
    have d0 := HC8.out _ (Gr.refl _) 0 _ rfl
    have d1 := HC8.out _ (Gr.refl _) 1 _ rfl
    have d2 := HC8.out _ (Gr.refl _) 2 _ rfl
    have d3 := HC8.out _ (Gr.refl _) 3 _ rfl
    have d4 := HC8.out _ (Gr.refl _) 4 _ rfl
    have d5 := HC8.out _ (Gr.refl _) 5 _ rfl
    have d6 := HC8.out _ (Gr.refl _) 6 _ rfl
    have d7 := HC8.out _ (Gr.refl _) 7 _ rfl
    go_wp2_with fail
    refine HLC.out.mono ?_
    rintro e w2 ⟨rfl, g2⟩
    have G2 := Lib.hid (G0.out.trans (GS2.out.trans g2)); clear g2
    go_wp2_with fail
    refine (HAL.out _ G2.out).mono ?_
    rintro e w9 ⟨rfl, g9⟩
    have G9 : Gr w w9 := Gr.trans G2.out g9; clear g9
    go_wp2_with fail
    go_ret
    exact ⟨rfl, G9⟩
  | true =>
    rw [hlo] at HLC
    have HO := Lib.hid (HN.out.ok hlo)
    have hlg : o.g.length ≤ 1000 ∧ o.i.length ≤ 1000 := by
      unfold lightO at hlo
      simp only [Bool.and_eq_true, decide_eq_true_eq] at hlo
      omega
    clear hlo
    cases hla : (decide (a.b.length ≤ 100) && decide (a.n.length ≤ 20) && decide (a.t.length ≤ 100)) with
    | false =>
      rw [hla] at HLA
      clear hla
      rw [hss]
      unfold opV
      go_enter Tryd.func4, Tryd.ntmps4
      have d0 := HC8.out _ (Gr.refl _) 0 _ rfl
      have d1 := HC8.out _ (Gr.refl _) 1 _ rfl
      have d2 := HC8.out _ (Gr.refl _) 2 _ rfl
      have d3 := HC8.out _ (Gr.refl _) 3 _ rfl
      have d4 := HC8.out _ (Gr.refl _) 4 _ rfl
      have d5 := HC8.out _ (Gr.refl _) 5 _ rfl
      have d6 := HC8.out _ (Gr.refl _) 6 _ rfl
      have d7 := HC8.out _ (Gr.refl _) 7 _ rfl
      go_wp2_with fail
      refine HLC.out.mono ?_
      rintro e w2 ⟨rfl, g2⟩
      have GX2 := Lib.hid (GS2.out.trans g2); clear g2
      clear d0 d1 d2 d3 d4 d5 d6 d7
      have a0 := HA4.out _ GX2.out 0 _ rfl
      have a1 := HA4.out _ GX2.out 1 _ rfl
      have a2 := HA4.out _ GX2.out 2 _ rfl
      have a3 := HA4.out _ GX2.out 3 _ rfl
      go_wp2_with fail
      refine (HLA.out _ (G0.out.trans GX2.out)).mono ?_
      rintro e w3 ⟨rfl, g3⟩
      have G3 := Lib.hid ((G0.out.trans GX2.out).trans g3); clear g3
      clear a0 a1 a2 a3
      go_wp2_with fail
      refine (HAL.out _ G3.out).mono ?_
      rintro e w9 ⟨rfl, g9⟩
      have G9 : Gr w w9 := Gr.trans G3.out g9; clear g9
      go_wp2_with fail
      go_ret
      exact ⟨rfl, G9⟩
    | true =>
      rw [hla] at HLA
      have hab : a.b.length ≤ 100 ∧ a.n.length ≤ 20 ∧ a.t.length ≤ 100 := by
        simp only [Bool.and_eq_true, decide_eq_true_eq] at hla
        exact ⟨hla.1.1, hla.1.2, hla.2⟩
      clear hla
      by_cases hbig : 300 < s.size
      · have t1 : decide ((300 : Int) < (s.size : Int)) = true := decide_eq_true (by omega)
        rw [hss]
        unfold opV
        go_enter Tryd.func4, Tryd.ntmps4
        have d0 := HC8.out _ (Gr.refl _) 0 _ rfl
        have d1 := HC8.out _ (Gr.refl _) 1 _ rfl
        have d2 := HC8.out _ (Gr.refl _) 2 _ rfl
        have d3 := HC8.out _ (Gr.refl _) 3 _ rfl
        have d4 := HC8.out _ (Gr.refl _) 4 _ rfl
        have d5 := HC8.out _ (Gr.refl _) 5 _ rfl
        have d6 := HC8.out _ (Gr.refl _) 6 _ rfl
        have d7 := HC8.out _ (Gr.refl _) 7 _ rfl
        go_wp2_with fail
        refine HLC.out.mono ?_
        rintro e w2 ⟨rfl, g2⟩
        have GX2 := Lib.hid (GS2.out.trans g2); clear g2
        clear d0 d1 d2 d3 d4 d5 d6 d7
        have a0 := HA4.out _ GX2.out 0 _ rfl
        have a1 := HA4.out _ GX2.out 1 _ rfl
        have a2 := HA4.out _ GX2.out 2 _ rfl
        have a3 := HA4.out _ GX2.out 3 _ rfl
        go_wp2_with fail
        refine (HLA.out _ (G0.out.trans GX2.out)).mono ?_
        rintro e w3 ⟨rfl, g3⟩
        have G3 := Lib.hid ((G0.out.trans GX2.out).trans g3); clear g3
        clear a0 a1 a2 a3
        go_wp2_with fail
        refine (HAL.out _ G3.out).mono ?_
        rintro e w9 ⟨rfl, g9⟩
        have G9 : Gr w w9 := Gr.trans G3.out g9; clear g9
        go_wp2_with fail
        go_ret
        exact ⟨rfl, G9⟩
      · have t1 : decide ((300 : Int) < (s.size : Int)) = false := decide_eq_false (by omega)
        have HPR : Hid (∀ wr, Gr w wr → Calls Tryd.prog 8 #[opV o A m c] wr fun e w' => e = .returned (.tuple #[strc (printO o).1, .int .i64 ((printO o).2 : Int)]) ∧ Gr wr w') := fun wr g => opPrint_any o A m c wr HO.out hlg.1 hlg.2 (HX.out.mono g) (HT.out.mono g) (HM.out.mono g)
        have HPA1 : Hid (∀ wr, Gr w wr → Calls Tryd.prog 10 #[strc (printO o).1] wr (RetOp wr (parseO (printO o).1))) := fun wr g => opParse_any _ wr (by have := printO_len hlg.1 hlg.2; omega) (HM.out.mono g) (HT.out.mono g)
        have HPB : Hid ((printO o).2 = 0 → (parseO (printO o).1).2 = 0 ∧ sameO (parseO (printO o).1).1 o = true) := fun h => print_back h
        have HSM : Hid (∀ o1 A2 m2 c2 wr, sameO o1 o = true → Gr w wr → Bs wr A2 m2 c2 o1.x → Calls Tryd.prog 12 #[opV o1 A2 m2 c2, opV o A m c] wr fun e w' => e = .returned (.bool true) ∧ Gr wr w') := fun o1 A2 m2 c2 wr hs g h1 => by
          have := refSame39_any o1 o A2 A m2 c2 m c wr h1 (HX.out.mono g)
          rw [hs] at this
          exact this
        have HTL : Hid (∀ wr, Gr w wr → Calls Tryd.prog 14 #[.agg (anC a Aa ma ca B p q)] wr fun e w' => e = .returned (strc (tellL a)) ∧ Gr wr w') := fun wr g => tell_any a Aa B ma ca p q wr (HBB.out.mono g) (HII.out.mono g) (by omega) (by omega) (by omega) HRR.out (HT.out.mono g)
        have HRT : Hid (∀ wr, Gr w wr → Calls Tryd.prog 15 #[strc (tellL a)] wr (RetAn wr (readA (tellL a)))) := fun wr g => opRead_any _ wr (tellL_len a hab.1 hab.2.1 hab.2.2) (HM.out.mono g) (HT.out.mono g)
        have HTR : Hid (tellL a ≠ [] → (readA (tellL a)).2 = 0 ∧ (readA (tellL a)).1.f = a.f ∧ (a.f = 0 → (readA (tellL a)).1 = a)) := tell_read a
        have HSA : Hid (∀ A2 B2 m2 c2 p2 q2 wr, Gr w wr → Bs wr A2 m2 c2 a.b → Is wr B2 p2 q2 a.n → Calls Tryd.prog 16 #[.agg (anC a A2 m2 c2 B2 p2 q2), .agg (anC a Aa ma ca B p q)] wr fun e w' => e = .returned (.bool true) ∧ Gr wr w') := fun A2 B2 m2 c2 p2 q2 wr g h1 h2 => sameA_self a A2 Aa B2 B m2 c2 ma ca p2 q2 p q wr h1 (HBB.out.mono g) h2 (HII.out.mono g)
        have HPL : Hid (∀ wr, Gr w wr → Calls Tryd.prog 10 #[strc l] wr (RetOp wr (parseO l))) := fun wr g => opParse_any l wr (by omega) (HM.out.mono g) (HT.out.mono g)
        have HPP : Hid (∀ A2 m2 c2 wr, Gr w wr → Bs wr A2 m2 c2 (parseO l).1.x → Calls Tryd.prog 8 #[opV (parseO l).1 A2 m2 c2] wr fun e w' => e = .returned (.tuple #[strc (printO (parseO l).1).1, .int .i64 ((printO (parseO l).1).2 : Int)]) ∧ Gr wr w') := fun A2 m2 c2 wr g h1 => by
          have hsm := parseO_sm (l := l) (by omega)
          exact opPrint_any _ A2 m2 c2 wr hsm.1 hsm.2.1 hsm.2.2 h1 (HT.out.mono g) (HM.out.mono g)
        have HPK : Hid ((parseO l).2 = 0 → printO (parseO l).1 = (l, 0)) := fun h => parse_back h
        have HRL : Hid (∀ wr, Gr w wr → Calls Tryd.prog 15 #[strc l] wr (RetAn wr (readA l))) := fun wr g => opRead_any l wr (by omega) (HM.out.mono g) (HT.out.mono g)
        have HRK : Hid ((readA l).2 = 0 → tellL (readA l).1 = l) := fun h => read_tell h
        have HTX : Hid (∀ A2 B2 m2 c2 p2 q2 wr, Gr w wr → Bs wr A2 m2 c2 (readA l).1.b → Is wr B2 p2 q2 (readA l).1.n → Calls Tryd.prog 14 #[.agg (anC (readA l).1 A2 m2 c2 B2 p2 q2)] wr fun e w' => e = .returned (strc (tellL (readA l).1)) ∧ Gr wr w') := fun A2 B2 m2 c2 p2 q2 wr g h1 h2 => by
          have hg : GotOk (readA l).1 l.length l.length := by
            unfold readA
            split
            · rw [← gotJ_all l l.length (by have := (cut_size 32 l).1; simp only [List.length_tail]; omega)]
              exact gotJ_ok l l.length
            · exact ⟨Nat.zero_le _, Nat.zero_le _, Nat.zero_le _, fun x hx => by cases hx⟩
          have h3 := hg.n; have h4 := hg.b; have h5 := hg.t
          exact tell_any _ A2 B2 m2 c2 p2 q2 wr h1 h2 (by omega) (by omega) (by omega) hg.r (HT.out.mono g)
        clear hlg hab hbig hsz HO HN HM HT HX HBB HII HRR
        have HSL := Lib.hid hsl
        have HSS := Lib.hid hss
        rw [hss] at HPL HRL ⊢
        clear hss hsl
        unfold opV at *
        go_enter Tryd.func4, Tryd.ntmps4
        have d0 := HC8.out _ (Gr.refl _) 0 _ rfl
        have d1 := HC8.out _ (Gr.refl _) 1 _ rfl
        have d2 := HC8.out _ (Gr.refl _) 2 _ rfl
        have d3 := HC8.out _ (Gr.refl _) 3 _ rfl
        have d4 := HC8.out _ (Gr.refl _) 4 _ rfl
        have d5 := HC8.out _ (Gr.refl _) 5 _ rfl
        have d6 := HC8.out _ (Gr.refl _) 6 _ rfl
        have d7 := HC8.out _ (Gr.refl _) 7 _ rfl
        go_wp2_with fail
        refine HLC.out.mono ?_
        rintro e w2 ⟨rfl, g2⟩
        have GX2 := Lib.hid (GS2.out.trans g2); clear g2 HLC
        clear d0 d1 d2 d3 d4 d5 d6 d7
        have a0 := HA4.out _ GX2.out 0 _ rfl
        have a1 := HA4.out _ GX2.out 1 _ rfl
        have a2 := HA4.out _ GX2.out 2 _ rfl
        have a3 := HA4.out _ GX2.out 3 _ rfl
        go_wp2_with fail
        refine (HLA.out _ (G0.out.trans GX2.out)).mono ?_
        rintro e w3 ⟨rfl, g3⟩
        have GX3 := Lib.hid (GX2.out.trans g3); clear g3
        clear a0 a1 a2 a3
        have d0 := HC8.out _ GX3.out 0 _ rfl
        have d1 := HC8.out _ GX3.out 1 _ rfl
        have d2 := HC8.out _ GX3.out 2 _ rfl
        have d3 := HC8.out _ GX3.out 3 _ rfl
        have d4 := HC8.out _ GX3.out 4 _ rfl
        have d5 := HC8.out _ GX3.out 5 _ rfl
        have d6 := HC8.out _ GX3.out 6 _ rfl
        have d7 := HC8.out _ GX3.out 7 _ rfl
        go_wp2_with fail
        refine (HPR.out _ (G0.out.trans GX3.out)).mono ?_
        rintro e w4 ⟨rfl, g4⟩
        have GX4 := Lib.hid (GX3.out.trans g4); clear g4
        clear d0 d1 d2 d3 d4 d5 d6 d7
        go_upto_if 41 with fail
        go_cut [9, 10] (fun v9 v10 wx => Gr ((w.alloc (.cells (opC o A m c) 24)).alloc (.cells (anC a Aa ma ca B p q) 37)) wx)
        case first =>
          by_cases hr2 : (printO o).2 = 0
          · obtain ⟨hb1, hb2⟩ := HPB.out hr2
            have t41 : (((printO o).2 : Int) == 0) = true := by rw [hr2]; rfl
            go_wp2_with fail
            refine (HPA1.out _ (G0.out.trans GX4.out)).mono ?_
            rintro e w5 ⟨A2, m2, c2, rfl, sx, g5⟩
            rw [hb1]
            obtain ⟨o1, ho1⟩ : ∃ o1, o1 = (parseO (printO o).1).1 := ⟨_, rfl⟩
            rw [← ho1] at sx hb2 ⊢
            have HB2 := Lib.hid hb2
            clear ho1 hb1 hr2 t41 hb2
            have HYB := setRow_heap (w5.alloc (.cells #[.int .i64 0, .string ⟨#[]⟩, .string ⟨#[]⟩, .int .i64 0, .int .i64 0, .int .i64 0, .int .i64 0, .slice none 0 0] 24)) w5.heap.size _ (opC o1 A2 m2 c2) _ _ (heap_alloc_new w5 _)
            have GS0 : Gr w5 ((w5.alloc (.cells #[.int .i64 0, .string ⟨#[]⟩, .string ⟨#[]⟩, .int .i64 0, .int .i64 0, .int .i64 0, .int .i64 0, .slice none 0 0] 24)).setRow w5.heap.size (opC o1 A2 m2 c2)) := below_row39 ((Below.refl _ _).alloc (Nat.le_refl _) _) (Nat.le_refl _) _
            have GX6 := Lib.hid (GX4.out.trans (Gr.trans g5 GS0))
            have SX := Lib.hid (Sl.gr sx GS0)
            have HY8 : Hid (∀ (i : Nat) (v : Value), (opC o1 A2 m2 c2).toList[i]? = some v → ((w5.alloc (.cells #[.int .i64 0, .string ⟨#[]⟩, .string ⟨#[]⟩, .int .i64 0, .int .i64 0, .int .i64 0, .int .i64 0, .slice none 0 0] 24)).setRow w5.heap.size (opC o1 A2 m2 c2)).cell? ⟨w5.heap.size, i, none⟩ = some v) := fun i v h => ((show Blk ((w5.alloc (.cells #[.int .i64 0, .string ⟨#[]⟩, .string ⟨#[]⟩, .int .i64 0, .int .i64 0, .int .i64 0, .int .i64 0, .slice none 0 0] 24)).setRow w5.heap.size (opC o1 A2 m2 c2)) w5.heap.size 24 (opC o1 A2 m2 c2).toList from HYB).cell i).trans h
            clear HYB GS0 g5 sx
            have e0 := HY8.out 0 _ rfl
            have e1 := HY8.out 1 _ rfl
            have e2 := HY8.out 2 _ rfl
            have e3 := HY8.out 3 _ rfl
            have e4 := HY8.out 4 _ rfl
            have e5 := HY8.out 5 _ rfl
            have e6 := HY8.out 6 _ rfl
            have e7 := HY8.out 7 _ rfl
            have HSC := Lib.hid (HSM.out o1 A2 m2 c2 _ HB2.out (G0.out.trans GX6.out) SX.out)
            have d0 := HC8.out _ GX6.out 0 _ rfl
            have d1 := HC8.out _ GX6.out 1 _ rfl
            have d2 := HC8.out _ GX6.out 2 _ rfl
            have d3 := HC8.out _ GX6.out 3 _ rfl
            have d4 := HC8.out _ GX6.out 4 _ rfl
            have d5 := HC8.out _ GX6.out 5 _ rfl
            have d6 := HC8.out _ GX6.out 6 _ rfl
            have d7 := HC8.out _ GX6.out 7 _ rfl
            go_wp2_with (refine wpList_store_row rfl 24 (.tmp 9) (.tmp 45) rfl w5.heap.size (opC o1 A2 m2 c2) rfl rfl 24 #[.int .i64 0, .string ⟨#[]⟩, .string ⟨#[]⟩, .int .i64 0, .int .i64 0, .int .i64 0, .int .i64 0, .slice none 0 0] (by exact heap_alloc_new w5 _) opSize rfl (opOne _ _ _ _) ?_)
            refine HSC.out.mono ?_
            rintro e w6 ⟨rfl, g6⟩
            have GX7 := Lib.hid (GX6.out.trans g6); clear g6
            go_wp2_with fail
            go_meet
            case rel => exact GX7.out
          · have t41 : (((printO o).2 : Int) == 0) = false := beq_eq_false_iff_ne.2 (by omega)
            go_wp2_with fail
            go_meet
            case rel => exact GX4.out
        case rest =>
        have GC1 : Hid (Gr ((w.alloc (.cells (opC o A m c) 24)).alloc (.cells (anC a Aa ma ca B p q) 37)) wc) := hcut
        clear hcut HPR HPA1 HPB HSM
        have a0 := HA4.out _ GC1.out 0 _ rfl
        have a1 := HA4.out _ GC1.out 1 _ rfl
        have a2 := HA4.out _ GC1.out 2 _ rfl
        have a3 := HA4.out _ GC1.out 3 _ rfl
        go_wp2_with fail
        refine (HTL.out _ (G0.out.trans GC1.out)).mono ?_
        rintro e w5 ⟨rfl, g5⟩
        have GX5 := Lib.hid (GC1.out.trans g5); clear g5
        clear a0 a1 a2 a3
        obtain ⟨tx, htx⟩ : ∃ tx : ByteArray, tx = ⟨(tellL a).toArray⟩ := ⟨_, rfl⟩
        have htl : tx.toList = tellL a := by rw [htx, ByteArray.toList_eq]
        have htv : strc (tellL a) = .string tx := by rw [htx]; rfl
        rw [htv] at HRT ⊢
        have HTX2 := Lib.hid htl
        clear htx htv htl
        obtain ⟨tb, htb⟩ : ∃ tb, (tx.toList == ([] : List UInt8)) = tb := ⟨_, rfl⟩
        go_upto_if 58 with fail
        have HTB := Lib.hid htb
        clear htb
        go_cut [12, 13] (fun v12 v13 wx => Gr ((w.alloc (.cells (opC o A m c) 24)).alloc (.cells (anC a Aa ma ca B p q) 37)) wx)
        case first =>
          by_cases hte : tellL a = []
          · obtain rfl : tb = true := by rw [← HTB.out, HTX2.out, hte]; rfl
            go_wp2_with fail
            go_meet
            case rel => exact GX5.out
          · obtain rfl : tb = false := by rw [← HTB.out, HTX2.out]; exact beq_false_of_ne hte
            obtain ⟨x1, x2, x3⟩ := HTR.out hte
            go_wp2_with fail
            refine (HRT.out _ (G0.out.trans GX5.out)).mono ?_
            rintro e w6 ⟨A2, m2, c2, B2, p2, q2, rfl, sx, si, g6⟩
            rw [x1]
            obtain ⟨r, hr⟩ : ∃ r, r = (readA (tellL a)).1 := ⟨_, rfl⟩
            rw [← hr] at sx si x2 x3 ⊢
            clear hr x1 hte
            have X3 := Lib.hid x3
            have tf : (r.f != a.f) = false := by rw [bne_eq_false_iff_eq]; exact x2
            clear x2 x3
            have HYB := setRow_heap (w6.alloc (.cells #[.int .i64 0, .slice none 0 0, .slice none 0 0, .string ⟨#[]⟩] 37)) w6.heap.size _ (anC r A2 m2 c2 B2 p2 q2) _ _ (heap_alloc_new w6 _)
            have GS0 : Gr w6 ((w6.alloc (.cells #[.int .i64 0, .slice none 0 0, .slice none 0 0, .string ⟨#[]⟩] 37)).setRow w6.heap.size (anC r A2 m2 c2 B2 p2 q2)) := below_row39 ((Below.refl _ _).alloc (Nat.le_refl _) _) (Nat.le_refl _) _
            have GX6 := Lib.hid (GX5.out.trans (Gr.trans g6 GS0))
            have SX := Lib.hid (Sl.gr sx GS0)
            have SI := Lib.hid (Sl.gr si GS0)
            have HY8 : Hid (∀ (i : Nat) (v : Value), (anC r A2 m2 c2 B2 p2 q2).toList[i]? = some v → ((w6.alloc (.cells #[.int .i64 0, .slice none 0 0, .slice none 0 0, .string ⟨#[]⟩] 37)).setRow w6.heap.size (anC r A2 m2 c2 B2 p2 q2)).cell? ⟨w6.heap.size, i, none⟩ = some v) := fun i v h => ((show Blk ((w6.alloc (.cells #[.int .i64 0, .slice none 0 0, .slice none 0 0, .string ⟨#[]⟩] 37)).setRow w6.heap.size (anC r A2 m2 c2 B2 p2 q2)) w6.heap.size 37 (anC r A2 m2 c2 B2 p2 q2).toList from HYB).cell i).trans h
            clear HYB GS0 g6 sx si
            have e0 := HY8.out 0 _ rfl
            have e1 := HY8.out 1 _ rfl
            have e2 := HY8.out 2 _ rfl
            have e3 := HY8.out 3 _ rfl
            have a0 := HA4.out _ GX6.out 0 _ rfl
            have a1 := HA4.out _ GX6.out 1 _ rfl
            have a2 := HA4.out _ GX6.out 2 _ rfl
            have a3 := HA4.out _ GX6.out 3 _ rfl
            by_cases haf : a.f = 0
            · have hra := X3.out haf
              have HSC := Lib.hid (HSA.out A2 B2 m2 c2 p2 q2 _ (G0.out.trans GX6.out) (hra ▸ SX.out) (hra ▸ SI.out))
              subst hra
              have t76 : (r.f == 0) = true := beq_iff_eq.2 haf
              clear haf
              go_wp2_with (refine wpList_store_row rfl 37 (.tmp 12) (.tmp 62) rfl w6.heap.size (anC r A2 m2 c2 B2 p2 q2) rfl rfl 37 #[.int .i64 0, .slice none 0 0, .slice none 0 0, .string ⟨#[]⟩] (by exact heap_alloc_new w6 _) anSize rfl (anOne _ _ _ _ _ _ _) ?_)
              refine HSC.out.mono ?_
              rintro e w7 ⟨rfl, g7⟩
              have GX7 := Lib.hid (GX6.out.trans g7); clear g7
              go_wp2_with fail
              go_meet
              case rel => exact GX7.out
            · have t76 : (a.f == 0) = false := beq_eq_false_iff_ne.2 haf
              clear haf
              go_wp2_with (refine wpList_store_row rfl 37 (.tmp 12) (.tmp 62) rfl w6.heap.size (anC r A2 m2 c2 B2 p2 q2) rfl rfl 37 #[.int .i64 0, .slice none 0 0, .slice none 0 0, .string ⟨#[]⟩] (by exact heap_alloc_new w6 _) anSize rfl (anOne _ _ _ _ _ _ _) ?_)
              go_meet
              case rel => exact GX6.out
        case rest =>
        have GC2 : Hid (Gr ((w.alloc (.cells (opC o A m c) 24)).alloc (.cells (anC a Aa ma ca B p q) 37)) wc) := hcut
        clear hcut HTX2 HTL HRT HTR HSA
        obtain ⟨wd, hwd⟩ : ∃ wd, wd = wc := ⟨_, rfl⟩
        rw [← hwd] at GC2 ⊢
        clear hwd
        go_wp2_with fail
        refine (HPL.out _ (G0.out.trans GC2.out)).mono ?_
        rintro e w5 ⟨A2, m2, c2, rfl, sx, g5⟩
        obtain ⟨o1, ho1⟩ : ∃ o1, o1 = (parseO l).1 := ⟨_, rfl⟩
        obtain ⟨f1, hf1⟩ : ∃ f1, f1 = (parseO l).2 := ⟨_, rfl⟩
        rw [← ho1, ← hf1] at HPK
        rw [← ho1] at HPP sx ⊢
        rw [← hf1]
        clear ho1 hf1
        have HYB := setRow_heap (w5.alloc (.cells #[.int .i64 0, .string ⟨#[]⟩, .string ⟨#[]⟩, .int .i64 0, .int .i64 0, .int .i64 0, .int .i64 0, .slice none 0 0] 24)) w5.heap.size _ (opC o1 A2 m2 c2) _ _ (heap_alloc_new w5 _)
        have GS0 : Gr w5 ((w5.alloc (.cells #[.int .i64 0, .string ⟨#[]⟩, .string ⟨#[]⟩, .int .i64 0, .int .i64 0, .int .i64 0, .int .i64 0, .slice none 0 0] 24)).setRow w5.heap.size (opC o1 A2 m2 c2)) := below_row39 ((Below.refl _ _).alloc (Nat.le_refl _) _) (Nat.le_refl _) _
        have GX6 := Lib.hid (GC2.out.trans (Gr.trans g5 GS0))
        have SX := Lib.hid (Sl.gr sx GS0)
        have HY8 : Hid (∀ (i : Nat) (v : Value), (opC o1 A2 m2 c2).toList[i]? = some v → ((w5.alloc (.cells #[.int .i64 0, .string ⟨#[]⟩, .string ⟨#[]⟩, .int .i64 0, .int .i64 0, .int .i64 0, .int .i64 0, .slice none 0 0] 24)).setRow w5.heap.size (opC o1 A2 m2 c2)).cell? ⟨w5.heap.size, i, none⟩ = some v) := fun i v h => ((show Blk ((w5.alloc (.cells #[.int .i64 0, .string ⟨#[]⟩, .string ⟨#[]⟩, .int .i64 0, .int .i64 0, .int .i64 0, .int .i64 0, .slice none 0 0] 24)).setRow w5.heap.size (opC o1 A2 m2 c2)) w5.heap.size 24 (opC o1 A2 m2 c2).toList from HYB).cell i).trans h
        clear HYB GS0 g5 sx
        have e0 := HY8.out 0 _ rfl
        have e1 := HY8.out 1 _ rfl
        have e2 := HY8.out 2 _ rfl
        have e3 := HY8.out 3 _ rfl
        have e4 := HY8.out 4 _ rfl
        have e5 := HY8.out 5 _ rfl
        have e6 := HY8.out 6 _ rfl
        have e7 := HY8.out 7 _ rfl
        go_upto_if 90 with (refine wpList_store_row rfl 24 (.tmp 14) (.tmp 87) rfl w5.heap.size (opC o1 A2 m2 c2) rfl rfl 24 #[.int .i64 0, .string ⟨#[]⟩, .string ⟨#[]⟩, .int .i64 0, .int .i64 0, .int .i64 0, .int .i64 0, .slice none 0 0] (by exact heap_alloc_new w5 _) opSize rfl (opOne _ _ _ _) ?_)
        go_cut [16, 17] (fun v16 v17 wx => Gr ((w.alloc (.cells (opC o A m c) 24)).alloc (.cells (anC a Aa ma ca B p q) 37)) wx)
        case first =>
          by_cases hf1 : f1 = 0
          · have t90 : ((f1 : Int) == 0) = true := by rw [hf1]; rfl
            have hpk := HPK.out hf1
            have HPC := Lib.hid (HPP.out A2 m2 c2 _ (G0.out.trans GX6.out) SX.out)
            rw [hpk, HSS.out] at HPC
            have ts : (s.toList == s.toList) = true := beq_self_eq_true _
            clear hf1 hpk
            go_wp2_with fail
            refine HPC.out.mono ?_
            rintro e w6 ⟨rfl, g6⟩
            have GX7 := Lib.hid (GX6.out.trans g6); clear g6
            go_wp2_with fail
            go_meet
            case rel => exact GX7.out
          · have t90 : ((f1 : Int) == 0) = false := beq_eq_false_iff_ne.2 (by omega)
            go_wp2_with fail
            go_meet
            case rel => exact GX6.out
        case rest =>
        have GC3 : Hid (Gr ((w.alloc (.cells (opC o A m c) 24)).alloc (.cells (anC a Aa ma ca B p q) 37)) wc) := hcut
        clear hcut HPL HPP HPK GX6 SX HY8 e0 e1 e2 e3 e4 e5 e6 e7
        obtain ⟨we, hwe⟩ : ∃ we, we = wc := ⟨_, rfl⟩
        rw [← hwe] at GC3 ⊢
        clear hwe
        go_wp2_with fail
        refine (HRL.out _ (G0.out.trans GC3.out)).mono ?_
        rintro e w6 ⟨A2, m2, c2, B2, p2, q2, rfl, sx, si, g6⟩
        obtain ⟨r, hr⟩ : ∃ r, r = (readA l).1 := ⟨_, rfl⟩
        obtain ⟨f2, hf2⟩ : ∃ f2, f2 = (readA l).2 := ⟨_, rfl⟩
        rw [← hr, ← hf2] at HRK
        rw [← hr] at HTX sx si ⊢
        rw [← hf2]
        clear hr hf2
        have HYB := setRow_heap (w6.alloc (.cells #[.int .i64 0, .slice none 0 0, .slice none 0 0, .string ⟨#[]⟩] 37)) w6.heap.size _ (anC r A2 m2 c2 B2 p2 q2) _ _ (heap_alloc_new w6 _)
        have GS0 : Gr w6 ((w6.alloc (.cells #[.int .i64 0, .slice none 0 0, .slice none 0 0, .string ⟨#[]⟩] 37)).setRow w6.heap.size (anC r A2 m2 c2 B2 p2 q2)) := below_row39 ((Below.refl _ _).alloc (Nat.le_refl _) _) (Nat.le_refl _) _
        have GX6 := Lib.hid (GC3.out.trans (Gr.trans g6 GS0))
        have SX := Lib.hid (Sl.gr sx GS0)
        have SI := Lib.hid (Sl.gr si GS0)
        have HY8 : Hid (∀ (i : Nat) (v : Value), (anC r A2 m2 c2 B2 p2 q2).toList[i]? = some v → ((w6.alloc (.cells #[.int .i64 0, .slice none 0 0, .slice none 0 0, .string ⟨#[]⟩] 37)).setRow w6.heap.size (anC r A2 m2 c2 B2 p2 q2)).cell? ⟨w6.heap.size, i, none⟩ = some v) := fun i v h => ((show Blk ((w6.alloc (.cells #[.int .i64 0, .slice none 0 0, .slice none 0 0, .string ⟨#[]⟩] 37)).setRow w6.heap.size (anC r A2 m2 c2 B2 p2 q2)) w6.heap.size 37 (anC r A2 m2 c2 B2 p2 q2).toList from HYB).cell i).trans h
        clear HYB GS0 g6 sx si
        have e0 := HY8.out 0 _ rfl
        have e1 := HY8.out 1 _ rfl
        have e2 := HY8.out 2 _ rfl
        have e3 := HY8.out 3 _ rfl
        by_cases hf2 : f2 = 0
        · have t109 : ((f2 : Int) != 0) = false := by rw [hf2]; rfl
          have hrk := HRK.out hf2
          have HTC := Lib.hid (HTX.out A2 B2 m2 c2 p2 q2 _ (G0.out.trans GX6.out) SX.out SI.out)
          rw [hrk, HSS.out] at HTC
          have ts : (s.toList == s.toList) = true := beq_self_eq_true _
          clear hf2 hrk
          go_wp2_with (refine wpList_store_row rfl 37 (.tmp 18) (.tmp 106) rfl w6.heap.size (anC r A2 m2 c2 B2 p2 q2) rfl rfl 37 #[.int .i64 0, .slice none 0 0, .slice none 0 0, .string ⟨#[]⟩] (by exact heap_alloc_new w6 _) anSize rfl (anOne _ _ _ _ _ _ _) ?_)
          refine HTC.out.mono ?_
          rintro e w7 ⟨rfl, g7⟩
          have GX7 := Lib.hid (G0.out.trans (GX6.out.trans g7)); clear g7
          go_wp2_with fail
          refine (HAL.out _ GX7.out).mono ?_
          rintro e w9 ⟨rfl, g9⟩
          have G9 : Gr w w9 := Gr.trans GX7.out g9; clear g9
          go_wp2_with fail
          go_ret
          exact ⟨rfl, G9⟩
        · have t109 : ((f2 : Int) != 0) = true := bne_iff_ne.2 (by omega)
          have GX7 := Lib.hid (G0.out.trans GX6.out)
          go_wp2_with (refine wpList_store_row rfl 37 (.tmp 18) (.tmp 106) rfl w6.heap.size (anC r A2 m2 c2 B2 p2 q2) rfl rfl 37 #[.int .i64 0, .slice none 0 0, .slice none 0 0, .string ⟨#[]⟩] (by exact heap_alloc_new w6 _) anSize rfl (anOne _ _ _ _ _ _ _) ?_)
          refine (HAL.out _ GX7.out).mono ?_
          rintro e w9 ⟨rfl, g9⟩
          have G9 := Lib.hid (GX7.out.trans g9); clear g9
          go_wp2_with fail
          go_ret
          exact ⟨rfl, G9.out⟩
theorem backs_law (o : OpD) (A : Option Addr) (m c : Nat) (a : AnD) (Aa B : Option Addr) (ma ca p q : Nat) (s : ByteArray) (w : World) (hn : OpNum o) (hx : Bs w A m c o.x) (hb : Bs w Aa ma ca a.b) (hi : Is w B p q a.n) (hr : Fits a.n) (hT : Pow10 w) (hM : MLen w) :
    Calls Tryd.prog 4 #[opV o A m c, .agg (anC a Aa ma ca B p q), .string s] w fun e w' => e = .returned (.bool true) ∧ Gr w w' := by
  have h := backs_any o A m c a Aa B ma ca p q s.data.toList w hn hx hb hi hr hT hM
  rw [show strc s.data.toList = .string s by unfold strc; simp] at h
  exact h
end Go.Proofs.YtadenlhnfkccaaaDoor
