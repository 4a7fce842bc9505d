/- The law TermPlays, walked. No condition. -/
import Derived.Test.YthlnoaalhojphaaDoorObPlayT
import Derived.Outline
namespace Go.Proofs.YthlnoaalhojphaaDoor
open Go.RowKit
set_option linter.unusedVariables false
theorem labelR_eq {T : List Nd} (hT : Parted T) (hc : TC T) (id : Int) : labelR T id = labelT T id := by
  unfold labelR labelT
  split
  · rfl
  · cases hx : T[id.toNat - 1]? with
    | none => rfl
    | some x =>
      have hk := (hT _ x hx).1
      have hcn := hc.c x (List.mem_of_getElem? hx)
      show x.s = if x.k = 2 ∨ x.k = 3 then x.s else ⟨#[]⟩
      split
      · rfl
      · by_cases k1 : x.k = 1
        · exact hcn.2.2.2 k1
        · exact hcn.2.2.1 (by omega)
set_option maxRecDepth 100000 in
set_option maxHeartbeats 1000000 in
theorem refPrintT_any (A : Option Addr) (n c : Nat) (T : List Nd) (id : Int) (w : World) (h : RTb w A n c T) (hT : Parted T) (hK : Kinds T) (hB : Brief T) (hn : n ≤ 1000) :
    Calls Tryd.prog 48 #[.slice A n c, .int .i64 id] w fun e w' => e = .returned (.string ⟨(textT T id).toArray⟩) ∧ Gr w w' := by
  have hl : T.length = n := h.1
  have HR := Lib.hid (refThere_any A n c id w)
  cases ho : outside n id with
  | true =>
    rw [ho] at HR
    have ht : textT T id = [] := if_pos (.inl ((sizeT_zero hT id).2 (by rw [hl]; exact ho)))
    rw [ht]
    clear h hl ht
    go_enter Tryd.func48, Tryd.ntmps48
    go_wp2_with fail
    refine HR.out.mono ?_
    rintro e w1 ⟨rfl, rfl⟩
    go_wp2_with fail
    go_ret
    exact ⟨rfl, Gr.refl _⟩
  | false =>
    rw [ho] at HR
    have HS := Lib.hid (refSize_any A n c T id w h hT hK hn)
    have hin : 1 ≤ id ∧ id ≤ n := by unfold outside at ho; simp at ho; omega
    obtain ⟨k, rfl⟩ : ∃ k : Nat, id = (k : Int) := ⟨id.toNat, by omega⟩
    have hne : sizeT T (k : Int) ≠ 0 := fun q => by
      have := (sizeT_zero hT _).1 q
      rw [hl, ho] at this; cases this
    by_cases hbig : 1000 < sizeT T (k : Int)
    · have ht : textT T (k : Int) = [] := textT_long hbig
      rw [ht]
      have t1 : decide (1000 < (sizeT T (k : Int) : Int)) = true := decide_eq_true (by omega)
      clear h hl ht ho
      generalize sizeT T (k : Int) = q at *
      go_enter Tryd.func48, Tryd.ntmps48
      go_wp2_with fail
      refine HR.out.mono ?_
      rintro e w1 ⟨rfl, h1⟩
      obtain rfl : w = w1 := h1.symm
      go_wp2_with fail
      refine HS.out.mono ?_
      rintro e w2 ⟨rfl, g2⟩
      have G2 := Lib.hid g2; clear g2
      go_wp2_with fail
      go_ret
      exact ⟨rfl, G2.out⟩
    · have ht : textT T (k : Int) = printT T k := if_neg (by omega)
      rw [ht]
      have e1 : sizeT T (k : Int) = (sizesL T).getD (k - 1) 0 := sizeT_part (by omega) (by omega)
      have hlen := printT_len hT hB k (by omega) (by omega) (by rw [← e1]; omega)
      have hTX := refText_any A n c T hT hK hB hl hn k (by omega) (by omega)
      unfold Texts at hTX
      have HTX : Hid (∀ wq, Gr w wq → Calls Tryd.prog 83 #[.slice A n c, .int .i64 (k : Int)] wq fun e w' => e = .returned (.string ⟨(printT T k).toArray⟩) ∧ Gr wq w') := fun wq hq => hTX wq (h.mono hq) (by rw [← e1] at hlen; omega)
      have t1 : decide (1000 < (sizeT T (k : Int) : Int)) = false := decide_eq_false (by omega)
      clear h hl ht ho hlen hTX e1
      generalize sizeT T (k : Int) = q at *
      go_enter Tryd.func48, Tryd.ntmps48
      go_wp2_with fail
      refine HR.out.mono ?_
      rintro e w1 ⟨rfl, h1⟩
      obtain rfl : w = w1 := h1.symm
      go_wp2_with fail
      refine HS.out.mono ?_
      rintro e w2 ⟨rfl, g2⟩
      have G2 := Lib.hid g2; clear g2
      go_wp2_with fail
      refine (HTX.out _ G2.out).mono ?_
      rintro e w3 ⟨rfl, g3⟩
      have G3 := Lib.hid (G2.out.trans g3); clear g3
      go_wp2_with fail
      go_ret
      exact ⟨rfl, G3.out⟩
/-- Both tables, to be read. -/
structure Both (w : World) (g : Nat) (A : Option Addr) (n c : Nat) (T : List Nd) : Prop where
  t : TRd w g T
  s : SRd w g T
  r : RTb w A n c T
theorem Both.mono {w w' : World} {g : Nat} {A : Option Addr} {n c : Nat} {T : List Nd} (h : Both w g A n c T) (hg : Gr w w') : Both w' g A n c T := ⟨h.t.mono hg, h.s.mono hg, h.r.mono hg⟩
set_option maxRecDepth 100000 in
set_option maxHeartbeats 2000000 in
theorem like_any (g : Nat) (A : Option Addr) (n c : Nat) (T : List Nd) (id : Int) (w : World) (h : Both w g A n c T) (hT : Parted T) (hK : Kinds T) (hB : Brief T) (hC : TC T) (hn : n ≤ 1000) (hid : -9223372036854775808 ≤ id ∧ id ≤ 9223372036854775807) :
    Calls Tryd.prog 14 #[.pointer (some ⟨g, 0, none⟩), .slice A n c, .int .i64 id] w fun e w' => e = .returned (.bool true) ∧ Gr w w' := by
  have hl : T.length = n := h.r.1
  have HK1 := Lib.hid (kind_any g T id w h.t hK hid)
  have HK2 := Lib.hid (fun wq (hq : Gr w wq) => refKind_any A n c T id wq (h.r.mono hq))
  have HP1 := Lib.hid (fun wq (hq : Gr w wq) => parts_any g T id wq (h.t.mono hq) hK hid)
  have HP2 := Lib.hid (fun wq (hq : Gr w wq) => refParts_any A n c T id wq (h.r.mono hq) hK)
  have HL1 := Lib.hid (fun wq (hq : Gr w wq) => label_any g T id wq (h.t.mono hq) hK hid)
  have HL2 := Lib.hid (fun wq (hq : Gr w wq) => refLabel_any A n c T id wq (h.r.mono hq))
  have HS1 := Lib.hid (fun wq (hq : Gr w wq) => termSize_any g T id wq (h.t.mono hq) (h.s.mono hq) hid)
  have HS2 := Lib.hid (fun wq (hq : Gr w wq) => refSize_any A n c T id wq (h.r.mono hq) hT hK hn)
  have HT1 := Lib.hid (fun wq (hq : Gr w wq) => termPrint_any g T id wq (h.t.mono hq) (h.s.mono hq) hT hK hB (by omega) hid)
  have HT2 := Lib.hid (fun wq (hq : Gr w wq) => refPrintT_any A n c T id wq (h.r.mono hq) hT hK hB hn)
  simp only [labelR_eq hT hC id] at HL2
  clear h hT hK hB hC hl
  generalize kindOf T id = kd at *
  generalize (partsOf T id).map Int.ofNat = ps at *
  generalize labelT T id = lb at *
  generalize sizeT T id = sz at *
  generalize textT T id = tx at *
  have tps : (ps == ps) = true := by simp
  by_cases h40 : 40 < sz
  · have t1 : decide (40 < (sz : Int)) = true := decide_eq_true (by omega)
    by_cases h1000 : sz ≤ 1000
    · have t2 : decide ((sz : Int) ≤ 1000) = true := decide_eq_true (by omega)
      go_enter Tryd.func14, Tryd.ntmps14
      go_wp2_with fail
      refine HK1.out.mono ?_
      rintro e w1 ⟨rfl, g1⟩
      have G1 := Lib.hid g1; clear g1
      go_wp2_with fail
      refine (HK2.out _ G1.out).mono ?_
      rintro e w2 ⟨rfl, h2⟩
      obtain rfl : w1 = w2 := h2.symm
      go_wp2_with fail
      refine (HP1.out _ G1.out).mono ?_
      rintro e w3 ⟨A3, c3, rfl, i3, g3, _⟩
      have I3 := Lib.hid i3; have G3 := Lib.hid (G1.out.trans g3); clear i3 g3
      go_wp2_with fail
      refine (HP2.out _ G3.out).mono ?_
      rintro e w4 ⟨A4, c4, rfl, i4, g4, _⟩
      have I4 := Lib.hid i4; have I5 := Lib.hid (I3.out.mono g4); have G4 := Lib.hid (G3.out.trans g4); clear i4 g4
      go_wp2_with fail
      refine (ints_any _ _ _ _ _ _ _ _ _ I5.out I4.out).mono ?_
      rintro e w5 ⟨rfl, q5, h5⟩
      have G5 : Hid (Gr w w5) := by rw [h5]; exact belowN G4.out q5
      rw [tps]
      clear h5
      go_wp2_with fail
      refine (HL1.out _ G5.out).mono ?_
      rintro e w6 ⟨rfl, g6⟩
      have G6 := Lib.hid (G5.out.trans g6); clear g6
      go_wp2_with fail
      refine (HL2.out _ G6.out).mono ?_
      rintro e w7 ⟨rfl, h7⟩
      obtain rfl : w6 = w7 := h7.symm
      go_wp2_with fail
      refine (HS1.out _ G6.out).mono ?_
      rintro e w8 ⟨rfl, g8⟩
      have G8 := Lib.hid (G6.out.trans g8); clear g8
      go_wp2_with fail
      refine (HS2.out _ G8.out).mono ?_
      rintro e w9 ⟨rfl, g9⟩
      have G9 := Lib.hid (G8.out.trans g9); clear g9
      go_wp2_with fail
      refine (HS2.out _ G9.out).mono ?_
      rintro e w10 ⟨rfl, g10⟩
      have G10 := Lib.hid (G9.out.trans g10); clear g10
      go_wp2_with fail
      refine (HS2.out _ G10.out).mono ?_
      rintro e w11 ⟨rfl, g11⟩
      have G11 := Lib.hid (G10.out.trans g11); clear g11
      go_wp2_with fail
      go_ret
      exact ⟨rfl, G11.out⟩
    · have t2 : decide ((sz : Int) ≤ 1000) = false := decide_eq_false (by omega)
      go_enter Tryd.func14, Tryd.ntmps14
      go_wp2_with fail
      refine HK1.out.mono ?_
      rintro e w1 ⟨rfl, g1⟩
      have G1 := Lib.hid g1; clear g1
      go_wp2_with fail
      refine (HK2.out _ G1.out).mono ?_
      rintro e w2 ⟨rfl, h2⟩
      obtain rfl : w1 = w2 := h2.symm
      go_wp2_with fail
      refine (HP1.out _ G1.out).mono ?_
      rintro e w3 ⟨A3, c3, rfl, i3, g3, _⟩
      have I3 := Lib.hid i3; have G3 := Lib.hid (G1.out.trans g3); clear i3 g3
      go_wp2_with fail
      refine (HP2.out _ G3.out).mono ?_
      rintro e w4 ⟨A4, c4, rfl, i4, g4, _⟩
      have I4 := Lib.hid i4; have I5 := Lib.hid (I3.out.mono g4); have G4 := Lib.hid (G3.out.trans g4); clear i4 g4
      go_wp2_with fail
      refine (ints_any _ _ _ _ _ _ _ _ _ I5.out I4.out).mono ?_
      rintro e w5 ⟨rfl, q5, h5⟩
      have G5 : Hid (Gr w w5) := by rw [h5]; exact belowN G4.out q5
      rw [tps]
      clear h5
      go_wp2_with fail
      refine (HL1.out _ G5.out).mono ?_
      rintro e w6 ⟨rfl, g6⟩
      have G6 := Lib.hid (G5.out.trans g6); clear g6
      go_wp2_with fail
      refine (HL2.out _ G6.out).mono ?_
      rintro e w7 ⟨rfl, h7⟩
      obtain rfl : w6 = w7 := h7.symm
      go_wp2_with fail
      refine (HS1.out _ G6.out).mono ?_
      rintro e w8 ⟨rfl, g8⟩
      have G8 := Lib.hid (G6.out.trans g8); clear g8
      go_wp2_with fail
      refine (HS2.out _ G8.out).mono ?_
      rintro e w9 ⟨rfl, g9⟩
      have G9 := Lib.hid (G8.out.trans g9); clear g9
      go_wp2_with fail
      refine (HS2.out _ G9.out).mono ?_
      rintro e w10 ⟨rfl, g10⟩
      have G10 := Lib.hid (G9.out.trans g10); clear g10
      go_wp2_with fail
      refine (HS2.out _ G10.out).mono ?_
      rintro e w11 ⟨rfl, g11⟩
      have G11 := Lib.hid (G10.out.trans g11); clear g11
      go_wp2_with fail
      refine (HT1.out _ G11.out).mono ?_
      rintro e w12 ⟨rfl, g12⟩
      have G12 := Lib.hid (G11.out.trans g12); clear g12
      go_wp2_with fail
      refine (HT2.out _ G12.out).mono ?_
      rintro e w13 ⟨rfl, g13⟩
      have G13 := Lib.hid (G12.out.trans g13); clear g13
      go_wp2_with fail
      go_ret
      exact ⟨rfl, G13.out⟩
  · have t1 : decide (40 < (sz : Int)) = false := decide_eq_false (by omega)
    go_enter Tryd.func14, Tryd.ntmps14
    go_wp2_with fail
    refine HK1.out.mono ?_
    rintro e w1 ⟨rfl, g1⟩
    have G1 := Lib.hid g1; clear g1
    go_wp2_with fail
    refine (HK2.out _ G1.out).mono ?_
    rintro e w2 ⟨rfl, h2⟩
    obtain rfl : w1 = w2 := h2.symm
    go_wp2_with fail
    refine (HP1.out _ G1.out).mono ?_
    rintro e w3 ⟨A3, c3, rfl, i3, g3, _⟩
    have I3 := Lib.hid i3; have G3 := Lib.hid (G1.out.trans g3); clear i3 g3
    go_wp2_with fail
    refine (HP2.out _ G3.out).mono ?_
    rintro e w4 ⟨A4, c4, rfl, i4, g4, _⟩
    have I4 := Lib.hid i4; have I5 := Lib.hid (I3.out.mono g4); have G4 := Lib.hid (G3.out.trans g4); clear i4 g4
    go_wp2_with fail
    refine (ints_any _ _ _ _ _ _ _ _ _ I5.out I4.out).mono ?_
    rintro e w5 ⟨rfl, q5, h5⟩
    have G5 : Hid (Gr w w5) := by rw [h5]; exact belowN G4.out q5
    rw [tps]
    clear h5
    go_wp2_with fail
    refine (HL1.out _ G5.out).mono ?_
    rintro e w6 ⟨rfl, g6⟩
    have G6 := Lib.hid (G5.out.trans g6); clear g6
    go_wp2_with fail
    refine (HL2.out _ G6.out).mono ?_
    rintro e w7 ⟨rfl, h7⟩
    obtain rfl : w6 = w7 := h7.symm
    go_wp2_with fail
    refine (HS1.out _ G6.out).mono ?_
    rintro e w8 ⟨rfl, g8⟩
    have G8 := Lib.hid (G6.out.trans g8); clear g8
    go_wp2_with fail
    refine (HS2.out _ G8.out).mono ?_
    rintro e w9 ⟨rfl, g9⟩
    have G9 := Lib.hid (G8.out.trans g9); clear g9
    go_wp2_with fail
    refine (HS2.out _ G9.out).mono ?_
    rintro e w10 ⟨rfl, g10⟩
    have G10 := Lib.hid (G9.out.trans g10); clear g10
    go_wp2_with fail
    refine (HT1.out _ G10.out).mono ?_
    rintro e w12 ⟨rfl, g12⟩
    have G12 := Lib.hid (G10.out.trans g12); clear g12
    go_wp2_with fail
    refine (HT2.out _ G12.out).mono ?_
    rintro e w13 ⟨rfl, g13⟩
    have G13 := Lib.hid (G12.out.trans g13); clear g13
    go_wp2_with fail
    go_ret
    exact ⟨rfl, G13.out⟩
end Go.Proofs.YthlnoaalhojphaaDoor
