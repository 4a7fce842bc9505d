/- Own texts of this claim, one behind the other. No condition. -/
import Derived.Test.YtfemhhjmfckicaaGreatDoorObPkV

/- SuiteApart: the chapter's example. No condition. -/
namespace Go.Proofs.YtfemhhjmfckicaaGreatDoor
open Go.RowKit
set_option linter.unusedVariables false
set_option linter.unusedSimpArgs false
theorem tin_sz {T : List Nd} (h : TIn T) : ∀ x ∈ T, x.s.size ≤ maxLen := fun x hx => (h.fit x hx).2.2.2
theorem FS.ownB {w0 w w' : World} {v : Value} {n : Nat} {l : List UInt8} (h : FS w w') (ho : Own w0 w 5 1 v n (l.map u8c)) (hb : Below w0.heap.size w0 w') : Own w0 w' 5 1 v n (l.map u8c) := h.own ho (by decide) (by decide) (by decide) hb
set_option maxRecDepth 100000 in
set_option maxHeartbeats 2000000 in
theorem alive17_any (w : World) : Calls Tryz.prog 15 #[] w fun e w' => e = .returned (.bool true) ∧ Gr w w' := by
  go_enter Tryz.func15, Tryz.ntmps15
  go_wp2_with fail
  refine (symbolic2_any w).mono ?_
  rintro e w1 ⟨p, g, bm, bs, rfl, s1, _⟩
  have S1 := Lib.hid s1; clear s1
  go_wp2_with fail
  refine (S1.out.draw2 (by decide)).mono ?_
  rintro e w2 ⟨⟨v2, rfl, o2, s2, f2⟩, _⟩
  obtain ⟨A2, c2, rfl, sl2⟩ := o2.slice
  have hc2 := sl2.cap; have hm2 := sl2.max
  have O2 := Lib.hid o2; have S2 := Lib.hid s2
  clear o2 s2 f2 sl2
  obtain ⟨T1, hT1⟩ : ∃ T1, T1 = (atomT []).1 := ⟨_, rfl⟩
  obtain ⟨i1, hi1⟩ : ∃ i1, i1 = (atomT []).2 := ⟨_, rfl⟩
  have hl1 : T1.length = 1 := by rw [hT1]; rfl
  rw [← hT1] at S2
  rw [← hi1] at O2
  have HL1 := Lib.hid hl1
  clear hT1 hi1 hl1
  obtain ⟨w3, hw3⟩ : ∃ w3, w3 = w2.alloc (.cells #[.int .u8 7] 5) := ⟨_, rfl⟩
  have g3 : Gr w2 w3 := by rw [hw3]; exact Gr.alloc _ _
  have b3 : Blk w3 w2.heap.size 5 (([7] : List UInt8).map u8c) := by rw [hw3]; exact Blk.new w2 5 #[.int .u8 7]
  have hbk : ∀ w', Blk w' w2.heap.size 5 (([7] : List UInt8).map u8c) → Bs w' (some ⟨w2.heap.size, 0, none⟩) 1 1 [7] := fun w' hb => ⟨rfl, Nat.le_refl _, by decide, fun _ => ⟨_, 0, rfl, fun j u hu => by rw [Nat.zero_add, hb.cell]; exact hu⟩⟩
  have o3 := O2.out.mono g3
  obtain ⟨A2', c2', e2, sl3⟩ := o3.slice
  injection e2 with ea eb ec
  subst ea ec
  have HSE := Lib.hid ((S2.out.gr g3).seal (by rw [HL1.out]; decide) A2 (some ⟨w2.heap.size, 0, none⟩) 32 c2 1 1 (handleL i1) [7] sl3 (hbk w3 b3) rfl (by decide) (fun w' hf _ => hbk w' (hf _ _ _ (by decide) (by decide) (by decide) b3)))
  have HO3 := Lib.hid o3
  have HW3 := Lib.hid hw3
  clear hw3 g3 b3 hbk o3 sl3 eb
  go_wp2_with fail
  rw [← HW3.out]
  refine HSE.out.mono ?_
  rintro e w4 ⟨⟨v4, rfl, o4⟩, s4, f4, _⟩
  obtain ⟨A4, c4, rfl, sl4⟩ := o4.slice
  have hc4 := sl4.cap; have hm4 := sl4.max
  have S4 := Lib.hid s4
  have o3' := f4.ownB HO3.out s4.below
  obtain ⟨A2', c2', e2, sl5⟩ := o3'.slice
  injection e2 with ea eb ec
  subst ea ec
  obtain ⟨id, pa, pb, hsd⟩ := seald_of (T := T1) (by rw [HL1.out]; decide) (handleL i1) [7]
  have hln := seal_len T1 (handleL i1) [7]
  rw [HL1.out] at hln
  have hsd1 := hsd _ (Onto.refl _) (by omega)
  have HOP := Lib.hid (s4.openS (by omega) (tin_sz s4.i) hsd1 (by decide) A2 A4 32 c2 (1 + 48) c4 (handleL i1) sl5 sl4)
  clear s4 o3' o4 f4 sl4 sl5 hsd hsd1 hln eb
  go_wp2_with fail
  refine HOP.out.mono ?_
  rintro e w5 ⟨C, q, r, rfl, hx, _, g5⟩
  have hx := hx trivial
  have hq : q = 1 := by have := hx.len; simpa using this.symm
  subst hq
  obtain ⟨b5, o5, rfl, hc5⟩ := hx.addr (by decide)
  have e5 : w5.cell? ⟨b5, o5, none⟩ = some (.int .u8 7) := hc5 0 (by decide)
  have hcx := hx.cap; have hmx := hx.max
  have tk : (handleL i1 == handleL i1) = true := by simp
  rw [tk]
  have G5 : Hid (Gr w w5) := Gr.trans S4.out.below g5
  clear hx hc5 g5 tk
  go_wp2_with fail
  go_ret
  exact ⟨rfl, G5.out⟩
end Go.Proofs.YtfemhhjmfckicaaGreatDoor

/- SuiteApart: the walk. No condition. -/
namespace Go.Proofs.YtfemhhjmfckicaaGreatDoor
open Go.RowKit
set_option linter.unusedVariables false
set_option linter.unusedSimpArgs false
theorem ownsMap_tchG {w w' : World} {P : Program} {k b n : Nat} {D : DataW Value} (h : w.ownsMap P k Rv b n D) (g : Gr w w') : w'.ownsMap P k Rv b n D := by
  obtain ⟨es, clock, h1, h2⟩ := h
  exact ⟨es, clock, (g.block b (Array.getElem?_eq_some_iff.1 h1).1).trans h1, h2⟩
set_option maxRecDepth 100000 in
set_option maxHeartbeats 8000000 in
theorem suiteApart_walk (A B C : Option Addr) (n c m d q e0 : Nat) (key text other : List UInt8) (w : World) (hk : Bs w A n c key) (ht : Bs w B m d text) (ho : Bs w C q e0 other) :
    Calls Tryz.prog 4 #[.slice A n c, .slice B m d, .slice C q e0] w fun e w' => e = .returned (.bool true) ∧ Below w.heap.size w w' := by
  show Calls _ _ _ _ fun e w' => e = .returned (.bool true) ∧ Gr w w'
  have k1 := hk.cap; have k2 := hk.max; have k3 := ht.cap; have k4 := ht.max; have k5 := ho.cap; have k6 := ho.max
  have HK := Lib.hid hk; have HT := Lib.hid ht; have HO := Lib.hid ho
  have HKL := Lib.hid hk.len; have HTL := Lib.hid ht.len; have HOL := Lib.hid ho.len
  clear hk ht ho
  by_cases h32 : n = 32
  case neg =>
    have t1 : ((n : Int) != 32) = true := by rw [bne_iff_ne]; omega
    go_enter Tryz.func4, Tryz.ntmps4
    go_wp2_with fail
    refine (alive17_any _).mono ?_
    rintro e w1 ⟨rfl, g1⟩
    have G1 := Lib.hid g1; clear g1
    go_wp2_with fail
    go_ret
    exact ⟨rfl, G1.out⟩
  subst h32
  by_cases h200 : 200 < m
  · have t2 : decide ((200 : Int) < (m : Int)) = true := decide_eq_true (by omega)
    go_enter Tryz.func4, Tryz.ntmps4
    go_wp2_with fail
    refine (alive17_any _).mono ?_
    rintro e w1 ⟨rfl, g1⟩
    have G1 := Lib.hid g1; clear g1
    go_wp2_with fail
    go_ret
    exact ⟨rfl, G1.out⟩
  have t2 : decide ((200 : Int) < (m : Int)) = false := decide_eq_false (by omega)
  by_cases hq200 : 200 < q
  · have t3 : decide ((200 : Int) < (q : Int)) = true := decide_eq_true (by omega)
    go_enter Tryz.func4, Tryz.ntmps4
    go_wp2_with fail
    refine (alive17_any _).mono ?_
    rintro e w1 ⟨rfl, g1⟩
    have G1 := Lib.hid g1; clear g1
    go_wp2_with fail
    go_ret
    exact ⟨rfl, G1.out⟩
  have t3 : decide ((200 : Int) < (q : Int)) = false := decide_eq_false (by omega)
  have htl : text.length ≤ 200 := by rw [HTL.out]; omega
  go_enter Tryz.func4, Tryz.ntmps4
  go_wp2_with fail
  refine (symbolic2_any w).mono ?_
  rintro e w1 ⟨p, g, bm, bs, rfl, s1, hp, hne, hmap, hbs⟩
  have S1 := Lib.hid s1
  have HSE := Lib.hid (s1.seal (by decide) A B 32 c m d key text (HK.out.mono s1.below) (HT.out.mono s1.below) rfl (by omega) (fun w' _ hb => HT.out.mono hb))
  have HMP := Lib.hid hmap; have HNE := Lib.hid hne; have HBS := Lib.hid hbs
  clear s1 hmap hne hbs hp
  go_wp2_with fail
  refine HSE.out.mono ?_
  rintro e w2 ⟨⟨v2, rfl, o2⟩, s2, f2, km2⟩
  obtain ⟨A2, c2, rfl, sl2⟩ := o2.slice
  have hc2 := sl2.cap; have hm2 := sl2.max
  have S2 := Lib.hid s2; have KM2 := Lib.hid km2
  obtain ⟨id, pa, pb, hsd⟩ := seald_of (T := []) (by decide) key text
  have hln := seal_len [] key text
  simp only [List.length_nil] at hln
  have hsd1 := hsd _ (Onto.refl _) (by omega)
  have HOP := Lib.hid (s2.openS (by omega) (tin_sz s2.i) hsd1 htl C A2 q e0 _ c2 other (HO.out.mono s2.below) sl2)
  have HLN := Lib.hid hln
  clear s2 km2 o2 f2 sl2 hsd hsd1
  generalize (sealT [] key text).1 = T1 at *
  go_wp2_with fail
  refine HOP.out.mono ?_
  rintro e w3 ⟨C3, q3, r3, rfl, hx1, hx2, g3⟩
  have S3 := Lib.hid (S2.out.gr g3)
  have KM3 := Lib.hid (KM2.out.trans (KM.gr g3))
  have HSM := Lib.hid (refSame_any C A q 32 e0 c other key w3 (HO.out.mono S3.out.below) (HK.out.mono S3.out.below))
  have HXL : Hid ((key == other) = false → q3 = 0) := fun h => hx2 (by simpa using h)
  have hbb : (other == key) = (key == other) := Bool.eq_iff_iff.2 (by rw [beq_iff_eq, beq_iff_eq]; exact eq_comm)
  rw [hbb] at HSM
  clear hx1 hx2 g3 hbb
  cases hbq : (key == other)
  case' false =>
    rw [hbq] at HSM
    have hq3 := HXL.out hbq
    subst hq3
  case' true => rw [hbq] at HSM
  all_goals
    clear hbq HXL
    go_wp2_with fail
    refine HSM.out.mono ?_
    rintro e w4 ⟨rfl, q4, rfl⟩
    have S4 := Lib.hid (S3.out.gr (belowN (Below.refl _ _) q4))
    have KM4 := Lib.hid (KM3.out.trans (KM.gr (belowN (Below.refl w3.heap.size w3) q4)))
    obtain ⟨w5, hw5⟩ : ∃ w5, w5 = w3.drewN q4 := ⟨_, rfl⟩
    rw [← hw5] at S4 KM4 ⊢
    clear hw5
    go_wp2_with fail
    have HD1 := Lib.hid (S4.out.draw2 (by have := HLN.out; omega))
    refine HD1.out.mono ?_
    rintro e w6 ⟨⟨v6, rfl, o6, s6, f6⟩, km6⟩
    obtain ⟨A6, c6, rfl, sl6⟩ := o6.slice
    have hc6 := sl6.cap; have hm6 := sl6.max
    have O6 := Lib.hid o6; have S6 := Lib.hid s6; have KM6 := Lib.hid (KM4.out.trans km6)
    clear o6 s6 f6 sl6 km6 HD1
    obtain ⟨T2, hT2⟩ : ∃ T2, T2 = (atomT T1).1 := ⟨_, rfl⟩
    obtain ⟨i1, hi1⟩ : ∃ i1, i1 = (atomT T1).2 := ⟨_, rfl⟩
    have HI1 : Hid (i1 = T1.length + 1) := by show _ = _; rw [hi1]; rfl
    have HL2 : Hid (T2.length = T1.length + 1) := by show _ = _; rw [hT2]; unfold atomT; simp
    rw [← hT2] at S6
    rw [← hi1] at O6
    clear hT2 hi1
    go_wp2_with fail
    have HD2 := Lib.hid (S6.out.draw2 (by have := HLN.out; have := HL2.out; omega))
    refine HD2.out.mono ?_
    rintro e w7 ⟨⟨v7, rfl, o7, s7, f7⟩, km7⟩
    obtain ⟨A7, c7, rfl, sl7⟩ := o7.slice
    have hc7 := sl7.cap; have hm7 := sl7.max
    have O7 := Lib.hid o7; have S7 := Lib.hid s7; have KM7 := Lib.hid (KM6.out.trans km7)
    have O67 := Lib.hid (f7.ownB O6.out s7.below)
    clear o7 s7 f7 sl7 km7 HD2 O6
    obtain ⟨T3, hT3⟩ : ∃ T3, T3 = (atomT T2).1 := ⟨_, rfl⟩
    obtain ⟨i2, hi2⟩ : ∃ i2, i2 = (atomT T2).2 := ⟨_, rfl⟩
    have HI2 : Hid (i2 = T2.length + 1) := by show _ = _; rw [hi2]; rfl
    have HL3 : Hid (T3.length = T2.length + 1) := by show _ = _; rw [hT3]; unfold atomT; simp
    rw [← hT3] at S7
    rw [← hi2] at O7
    clear hT3 hi2
    have HB3 : Hid (T3.length ≤ 10) := by have := HLN.out; have := HL2.out; have := HL3.out; show _ ≤ _; omega
    have HNEI : Hid (handleL i1 ≠ handleL i2) := fun q => by
      have := HLN.out; have := HL2.out; have := HI1.out; have := HI2.out
      have := handle_inj (by omega) (by omega) q
      omega
    obtain ⟨B6, d6, e6, sl6⟩ := O67.out.slice
    injection e6 with ea eb ec
    subst ea ec
    have HSE2 := Lib.hid (S7.out.seal (by have := HB3.out; omega) A6 B 32 c6 m d (handleL i1) text sl6 (HT.out.mono S7.out.below) rfl (by omega) (fun w' _ hb => HT.out.mono hb))
    clear eb sl6
    go_wp2_with fail
    refine HSE2.out.mono ?_
    rintro e w8 ⟨⟨v8, rfl, o8⟩, s8, f8, km8⟩
    obtain ⟨A8, c8, rfl, sl8⟩ := o8.slice
    have hc8 := sl8.cap; have hm8 := sl8.max
    have S8 := Lib.hid s8; have KM8 := Lib.hid (KM7.out.trans km8)
    have O68 := Lib.hid (f8.ownB O67.out s8.below)
    have O78 := Lib.hid (f8.ownB O7.out s8.below)
    obtain ⟨id2, pa2, pb2, hsd⟩ := seald_of (T := T3) (by have := HB3.out; omega) (handleL i1) text
    have hln2 := seal_len T3 (handleL i1) text
    have hT4 : (sealT T3 (handleL i1) text).1.length ≤ 1000 := by have := HB3.out; omega
    have HSD := Lib.hid (hsd _ (Onto.refl _) hT4)
    obtain ⟨B6, d6, e6, sl6⟩ := O68.out.slice
    injection e6 with ea eb ec
    subst ea ec
    obtain ⟨B7, d7, e7, sl7⟩ := O78.out.slice
    injection e7 with ea7 eb7 ec7
    subst ea7 ec7
    have HOP1 := Lib.hid (fun wr (k : Gr w8 wr) => (s8.gr k).openS hT4 (tin_sz s8.i) HSD.out htl A6 A8 32 c6 _ c8 (handleL i1) (sl6.mono k) (sl8.mono k))
    have HOP2 := Lib.hid (fun wr (k : Gr w8 wr) => (s8.gr k).openS hT4 (tin_sz s8.i) HSD.out htl A7 A8 32 c7 _ c8 (handleL i2) (sl7.mono k) (sl8.mono k))
    have tk1 : (handleL i1 == handleL i1) = true := by simp
    have tk2 : (handleL i1 == handleL i2) = false := by rw [beq_eq_false_iff_ne]; exact HNEI.out
    rw [tk1] at HOP1
    rw [tk2] at HOP2
    have HSMK := Lib.hid (fun wr (h1 : Bs wr A6 32 c6 (handleL i1)) (h2 : Bs wr A7 32 c7 (handleL i2)) => refSame_any A6 A7 32 32 c6 c7 (handleL i1) (handleL i2) wr h1 h2)
    rw [tk2] at HSMK
    have R6 : Hid (Bs w8 A6 32 c6 (handleL i1)) := sl6
    have R7 : Hid (Bs w8 A7 32 c7 (handleL i2)) := sl7
    clear s8 o8 f8 km8 sl8 sl6 sl7 hsd hln2 hT4 tk1 tk2 eb eb7
    go_wp2_with fail
    refine (HOP1.out w8 (Gr.refl _)).mono ?_
    rintro e w9 ⟨C9, q9, r9, rfl, _, _, g9⟩
    have G9 := Lib.hid g9; clear g9
    go_wp2_with fail
    refine (HOP2.out w9 G9.out).mono ?_
    rintro e w10 ⟨C10, q10, r10, rfl, _, _, g10⟩
    have G10 := Lib.hid (Gr.trans G9.out g10); clear g10
    have HBL : Hid (Blk w10 p 61 [.pointer (some ⟨g, 0, none⟩), .map (some bs), .pointer none]) := S8.out.blk.mono G10.out
    have HM10 : Hid (w10.heap[bs]? = some (.map #[] 0)) := KM8.out.trans (KM.gr G10.out) HNE.out _ _ HMP.out
    have GB10 : Hid (Gr w w10) := Gr.trans S8.out.below G10.out
    have HSUM := Lib.hid (sum_first HBL.out HM10.out B m d text (HT.out.mono GB10.out))
    go_wp2_with fail
    refine HSUM.out.mono ?_
    rintro e w11 ⟨A11, c11, rfl, sl11, hb11, hm11, t11⟩
    have GB11 : Hid (Gr w w11) := t11.below GB10.out GB10.out.size (fun b e => e ▸ HBS.out)
    have R6' : Hid (Bs w11 A6 32 c6 (handleL i1)) := Sl.tch (R6.out.mono G10.out) (by decide) t11 (fun hn b o e => Sl.not_map (R6.out.mono G10.out) (by decide) HM10.out hn e)
    have R7' : Hid (Bs w11 A7 32 c7 (handleL i2)) := Sl.tch (R7.out.mono G10.out) (by decide) t11 (fun hn b o e => Sl.not_map (R7.out.mono G10.out) (by decide) HM10.out hn e)
    have HSK := Lib.hid (HSMK.out w11 R6'.out R7'.out)
    have HCK := Lib.hid (fun wr (k : Gr w11 wr) => check_one (hb11.mono k) (ownsMap_tchG hm11 k) C A11 q e0 c11 other (HO.out.mono (Gr.trans GB11.out k)) (sl11.mono k))
    have HSF := Lib.hid (fun wr (k : Gr w11 wr) => refSame_any C B q m e0 d other text wr (HO.out.mono (Gr.trans GB11.out k)) (HT.out.mono (Gr.trans GB11.out k)))
    have hc11 := sl11.cap; have hm11' := sl11.max
    clear sl11 hb11 hm11 t11
    obtain ⟨bt, hbt⟩ : ∃ bt, bt = (other == text) := ⟨_, rfl⟩
    rw [← hbt] at HCK HSF
    have tbt : (bt == bt) = true := by simp
    clear hbt
    go_wp2_with fail
    refine HSK.out.mono ?_
    rintro e w12 ⟨rfl, q12, rfl⟩
    have G12 : Hid (Gr w11 (w11.drewN q12)) := belowN (Below.refl _ _) q12
    go_wp2_with fail
    refine (HCK.out _ G12.out).mono ?_
    rintro e w13 ⟨rfl, g13⟩
    have G13 := Lib.hid (Gr.trans G12.out g13); clear g13
    go_wp2_with fail
    refine (HSF.out _ G13.out).mono ?_
    rintro e w14 ⟨rfl, q14, rfl⟩
    have G14 : Hid (Gr w (w13.drewN q14)) := belowN (Gr.trans GB11.out G13.out) q14
    go_wp2_with fail
    refine (alive17_any _).mono ?_
    rintro e w15 ⟨rfl, g15⟩
    have G15 := Lib.hid (Gr.trans G14.out g15); clear g15
    go_wp2_with fail
    go_ret
    exact ⟨rfl, G15.out⟩
end Go.Proofs.YtfemhhjmfckicaaGreatDoor
