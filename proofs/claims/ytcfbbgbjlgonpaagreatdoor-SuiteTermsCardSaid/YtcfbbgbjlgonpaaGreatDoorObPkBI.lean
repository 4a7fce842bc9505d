/- Own texts of this claim, one behind the other. No condition. -/
import Derived.Test.YtcfbbgbjlgonpaaGreatDoorObPkAR
import Derived.Test.YtcfbbgbjlgonpaaGreatDoorObPkAU
import Derived.Test.YtcfbbgbjlgonpaaGreatDoorObPkBB
import Derived.Test.YtcfbbgbjlgonpaaGreatDoorObPkBE
import Derived.Test.YtcfbbgbjlgonpaaGreatDoorObPkBF
import Derived.Test.YtcfbbgbjlgonpaaGreatDoorObPkBG
import Derived.Test.YtcfbbgbjlgonpaaGreatDoorObPkBH

/- The suite of terms: Find. No condition. -/
namespace Go.Proofs.YtcfbbgbjlgonpaaGreatDoor
open Go.RowKit
set_option linter.unusedVariables false
set_option linter.unusedSimpArgs false
def RetIs3 (w : World) (l : List Int) (e : Ending) (w' : World) : Prop := ∃ A n c, e = .returned (.slice A n c) ∧ Is w' A n c l ∧ Gr w w'
theorem MLenI.mono {w w' : World} (h : MLenI w) (g : Gr w w') : MLenI w' := by
  obtain ⟨m, e⟩ := h
  exact ⟨m, (g.cell (World.block_lt_of_cell? w _ e)).trans e⟩
def slen : Value → Nat
  | .slice _ n _ => n
  | _ => 0
section
variable {w0 w : World} {p g bm bs : Nat} {T : List Nd}
set_option maxRecDepth 100000 in
set_option maxHeartbeats 4000000 in
theorem SymS.find (h : SymS w0 w p g bm bs T) (hn : T.length ≤ 1000) (A : Option Addr) (n c : Nat) (b : List UInt8) (hb : Bs w A n c b) (hq : n ≤ 20000) (hm : MLenI w) :
    Calls Tryz.prog 25 #[.pointer (some ⟨p, 0, none⟩), .slice A n c] w (RetIs3 w (findL T b)) := by
  have HN := Lib.hid h.isNone; have HR := Lib.hid h.isReal
  have hcp := hb.cap; have hmx := hb.max
  have hbl : b.length = n := hb.len
  have HBL := Lib.hid hbl
  have HB := Lib.hid hb; have HM := Lib.hid hm; have HS := Lib.hid h; have HTN := Lib.hid hn
  clear h hb hm hbl
  go_enter Tryz.func25, Tryz.ntmps25
  go_wp2_with fail
  go_step3
  go_wp2_with fail
  refine HN.out.mono ?_
  rintro e w1 ⟨rfl, h1⟩
  subst h1
  go_wp2_with fail
  refine HR.out.mono ?_
  rintro e w1 ⟨rfl, h1⟩
  subst h1
  go_wp2_with fail
  go_step3
  go_wp2_with fail
  go_loopw [1, 4] (fun bv ov wr => ∃ (j : Nat) (Aj : Option Addr) (cj : Nat) (O : List Int), j ≤ n ∧ bv = .slice Aj (n - j) cj ∧ Bs w Aj (n - j) cj (b.drop j) ∧ Got T b j O ∧ O.length ≤ j ∧ Own w wr 3 1 ov O.length (O.map i64c)) (fun bv _ _ => slen bv)
  case atStart => exact ⟨0, A, c, [], Nat.zero_le _, rfl, HB.out, Got.nil T b, Nat.le_refl _, Own.nil _ _ _⟩
  case round =>
    obtain ⟨wo, rfl⟩ : ∃ wo : World, wo = wr := ⟨_, rfl⟩
    obtain ⟨j, Aj, cj, O, hj, rfl, hbj, hgot, hol, hown⟩ := hrel
    have HO := Lib.hid hown; have HGT := Lib.hid hgot; have HBJ := Lib.hid hbj
    have HG : Hid (Gr w wo) := hown.below
    have hcj := hbj.cap; have hmj := hbj.max
    obtain ⟨m, hm⟩ : ∃ m, m = n - j := ⟨_, rfl⟩
    rw [← hm] at HBJ hcj ⊢
    have HDL : Hid ((b.drop j).length = m) := by show _ = _; rw [List.length_drop, HBL.out, hm]
    have hmn : m + j = n := by omega
    clear hm
    have HIX := Lib.hid (bytesIndex_any Aj m cj 8 (some ⟨wo.heap.size, 0, none⟩) (b.drop j) (wo.alloc magicO) (HBJ.out.mono (HG.out.trans (Gr.alloc _ _))) (by omega) (magic_sl wo) (HM.out.mono (HG.out.trans (Gr.alloc _ _))))
    have hcv := fun (W : World) (C : Array Value) (n c : Nat) => Lib.run_convert_bytes_const (P := Tryz.prog) W 28 5 C n c Tryz.underlying28 Tryz.underlying5
    have HSP := Lib.index_spec (b.drop j) magicL
    have HRM := Lib.hid (Lib.index_room (b.drop j) magicL)
    clear hown hgot hbj
    rcases HSP with ⟨hi, hno⟩ | ⟨i, hi, hil, hocc, hno⟩
    · rw [hi] at HIX
      have HALL := Lib.hid (HGT.out.all (k := m + 1) (fun k hk => hno k (by rw [HDL.out]; omega)) (by rw [HBL.out]; omega))
      clear hi hno
      go_upto_region 3 with fail
      go_upto_region 4 with (go_at_call 61; refine HIX.out.mono ?_; rintro e w2 ⟨rfl, q2, rfl⟩; have HOW := Lib.hid (HO.out.mono (belowN (Gr.alloc wo magicO) q2)))
      go_upto_region 9 with fail
      go_upto_region 10 with (go_at_call 62; refine (sortI_any w _ _ O HOW.out (by omega)).mono ?_; rintro e w7 ⟨rfl, o7⟩; have O7 := Lib.hid o7; clear o7)
      have o7 := O7.out
      rw [← (List.length_mergeSort O : (O.mergeSort fun x y => decide (x ≤ y)).length = O.length)] at o7
      have HCP := Lib.hid (compactI_any w w7 _ _ o7 (by rw [List.length_mergeSort]; omega))
      rw [find_sorted HS.out.i.kinds HTN.out b O (HALL.out)] at HCP
      clear o7
      go_wp2_with (go_at_call 63; refine HCP.out.mono ?_; rintro e w8 ⟨A8, n8, c8, rfl, i8, g8⟩; have HF : Hid (RetIs3 w (findL T b) (.returned (.slice A8 n8 c8)) w8) := ⟨A8, n8, c8, rfl, i8, g8⟩; clear i8 g8)
      try rw [Exit.noGoto_ret]
      go_ret
      exact HF.out
    · rw [hi] at HIX HRM
      have hrm : i + 8 ≤ m := by
        have h1 := HRM.out (by omega)
        rw [HDL.out] at h1
        have h2 : magicL.length = 8 := rfl
        rw [h2] at h1
        omega
      have t0 : decide ((i : Int) < 0) = false := decide_eq_false (by omega)
      have hwm : IntKind.i64.wrap ((m : Int) - (i : Int)) = (m : Int) - (i : Int) := IntWalk.i64_in _ (by omega)
      have HNO := Lib.hid hno; have HOC := Lib.hid hocc
      clear hi hil hno hocc HRM
      by_cases h16 : m < i + 16
      · have t1 : decide ((m : Int) - (i : Int) < 16) = true := decide_eq_true (by omega)
        have HALL := Lib.hid (HGT.out.all (k := i) HNO.out (by rw [HBL.out]; omega))
        go_upto_region 3 with fail
        go_upto_region 4 with (go_at_call 61; refine HIX.out.mono ?_; rintro e w2 ⟨rfl, q2, rfl⟩; have HOW := Lib.hid (HO.out.mono (belowN (Gr.alloc wo magicO) q2)))
        go_upto_region 9 with fail
        go_upto_region 10 with (go_at_call 62; refine (sortI_any w _ _ O HOW.out (by omega)).mono ?_; rintro e w7 ⟨rfl, o7⟩; have O7 := Lib.hid o7; clear o7)
        have o7 := O7.out
        rw [← (List.length_mergeSort O : (O.mergeSort fun x y => decide (x ≤ y)).length = O.length)] at o7
        have HCP := Lib.hid (compactI_any w w7 _ _ o7 (by rw [List.length_mergeSort]; omega))
        rw [find_sorted HS.out.i.kinds HTN.out b O (HALL.out)] at HCP
        clear o7
        go_wp2_with (go_at_call 63; refine HCP.out.mono ?_; rintro e w8 ⟨A8, n8, c8, rfl, i8, g8⟩; have HF : Hid (RetIs3 w (findL T b) (.returned (.slice A8 n8 c8)) w8) := ⟨A8, n8, c8, rfl, i8, g8⟩; clear i8 g8)
        try rw [Exit.noGoto_ret]
        go_ret
        exact HF.out
      · have t1 : decide ((m : Int) - (i : Int) < 16) = false := decide_eq_false (by omega)
        obtain ⟨bb, oo, rfl, hcc⟩ := HBJ.out.addr (by omega)
        have hsub : Bs w (some ⟨bb, oo + (i + 8), none⟩) 8 (cj - (i + 8)) ((b.drop (j + i + 8)).take 8) := by
          have h1 := HBJ.out.from (A' := some ⟨bb, oo + (i + 8), none⟩) (k := i + 8) (by omega) (fun _ b' o' e => by injection e with e; injection e with e1 e2; subst e1 e2; rfl)
          have h2 := h1.upto (k := 8) (by omega)
          rw [← List.map_drop, ← List.map_take, List.drop_drop, show j + (i + 8) = j + i + 8 by omega] at h2
          exact h2
        have HNX : Hid (Bs w (some ⟨bb, oo + (i + 1), none⟩) (n - (j + i + 1)) (cj - (i + 1)) (b.drop (j + i + 1))) := by
          have h1 := HBJ.out.from (A' := some ⟨bb, oo + (i + 1), none⟩) (k := i + 1) (by omega) (fun _ b' o' e => by injection e with e; injection e with e1 e2; subst e1 e2; rfl)
          rw [← List.map_drop, List.drop_drop, show j + (i + 1) = j + i + 1 by omega, show m - (i + 1) = n - (j + i + 1) by omega] at h1
          exact h1
        have hlen8 : ((b.drop (j + i + 8)).take 8).length = 8 := by rw [List.length_take, List.length_drop, HBL.out]; omega
        have e1 : getS ((b.drop (j + i + 8)).take 8) = getL ((b.drop (j + i + 8)).take 8) := if_pos ⟨by omega, by omega⟩
        have hgl : getL ((b.drop (j + i + 8)).take 8) < 18446744073709551616 := by have := getL_lt ((b.drop (j + i + 8)).take 8); rw [hlen8] at this; omega
        have HMO := Lib.hid (HGT.out.more HNO.out HOC.out (by rw [HBL.out]; omega) (getL ((b.drop (j + i + 8)).take 8)) rfl)
        have HGE0 := Lib.hid (fun W (k : Gr w W) => get_any (some ⟨bb, oo + (i + 8), none⟩) 8 (cj - (i + 8)) ((b.drop (j + i + 8)).take 8) W (hsub.mono k))
        rw [e1] at HGE0
        clear e1 hlen8 hsub hcc
        generalize getL ((b.drop (j + i + 8)).take 8) = q at *
        have hwu : IntKind.u64.wrap (T.length : Int) = T.length := IntWalk.u64_in _ (by have := HTN.out; omega)
        have hw8 : IntKind.i64.wrap ((i : Int) + 8) = (i : Int) + 8 := IntWalk.i64_in _ (by omega)
        have hw16 : IntKind.i64.wrap ((i : Int) + 16) = (i : Int) + 16 := IntWalk.i64_in _ (by omega)
        have hw1 : IntKind.i64.wrap ((i : Int) + 1) = (i : Int) + 1 := IntWalk.i64_in _ (by omega)
        have s1 : (0 : Int) ≤ (i : Int) + 16 := by omega
        have s2 : (i : Int) + 16 ≤ (cj : Int) := by omega
        have s3 : ((i : Int) + 16).toNat = i + 16 := by omega
        have s4 : (0 : Int) ≤ (i : Int) + 8 := by omega
        have s5 : (i : Int) + 8 ≤ (i : Int) + 16 := by omega
        have s6 : ((i : Int) + 8).toNat = i + 8 := by omega
        have s7 : i + 16 - (i + 8) = 8 := by omega
        have s8 : ¬ (cj = i + 8) := by omega
        have s9 : (0 : Int) ≤ (i : Int) + 1 := by omega
        have s10 : (i : Int) + 1 ≤ (m : Int) := by omega
        have s11 : ((i : Int) + 1).toNat = i + 1 := by omega
        have s12 : ¬ (cj = i + 1) := by omega
        by_cases h1 : q < 1
        · have t2 : decide ((1 : Int) ≤ (q : Int)) = false := decide_eq_false (by omega)
          have HNN : Hid (Got T b (j + i + 1) O) := by have h5 := HMO.out; rwa [if_neg (by omega)] at h5
          go_upto_region 3 with fail
          go_upto_region 4 with (go_at_call 61; refine HIX.out.mono ?_; rintro e w2 ⟨rfl, q2, rfl⟩; have HOW := Lib.hid (HO.out.mono (belowN (Gr.alloc wo magicO) q2)))
          obtain ⟨w2, hw2⟩ : ∃ w2, w2 = (wo.alloc magicO).drewN q2 := ⟨_, rfl⟩
          rw [← hw2] at HOW ⊢
          clear hw2
          have HG2 : Hid (Gr w w2) := HOW.out.below
          have HGE := Lib.hid (HGE0.out w2 HG2.out)
          have HS2 := Lib.hid (HS.out.gr HG2.out)
          have c0 := HS2.out.c0
          go_upto_region 6 with (go_at_call 37; refine HGE.out.mono ?_; rintro e w3 ⟨rfl, h3⟩; rw [← h3]; clear h3 w3)
          go_wp2_with fail
          go_roundw
          case rel => exact ⟨j + i + 1, some ⟨bb, oo + (i + 1), none⟩, cj - (i + 1), _, by omega, by rw [show n - (j + i + 1) = m - (i + 1) by omega], HNX.out, HNN.out, by omega, HOW.out⟩
          case measure => simp [slen]; omega
        have t2 : decide ((1 : Int) ≤ (q : Int)) = true := decide_eq_true (by omega)
        have HLN := Lib.hid (fun W (k : Gr w W) => len_any g T W ((HS.out.gr k).rd))
        by_cases h2 : T.length < q
        · have t3 : decide ((q : Int) ≤ (T.length : Int)) = false := decide_eq_false (by omega)
          have HNN : Hid (Got T b (j + i + 1) O) := by have h5 := HMO.out; rwa [if_neg (by omega)] at h5
          go_upto_region 3 with fail
          go_upto_region 4 with (go_at_call 61; refine HIX.out.mono ?_; rintro e w2 ⟨rfl, q2, rfl⟩; have HOW := Lib.hid (HO.out.mono (belowN (Gr.alloc wo magicO) q2)))
          obtain ⟨w2, hw2⟩ : ∃ w2, w2 = (wo.alloc magicO).drewN q2 := ⟨_, rfl⟩
          rw [← hw2] at HOW ⊢
          clear hw2
          have HG2 : Hid (Gr w w2) := HOW.out.below
          have HGE := Lib.hid (HGE0.out w2 HG2.out)
          have HS2 := Lib.hid (HS.out.gr HG2.out)
          have c0 := HS2.out.c0
          go_upto_region 6 with (go_at_call 37; refine HGE.out.mono ?_; rintro e w3 ⟨rfl, h3⟩; rw [← h3]; clear h3 w3)
          go_upto_region 8 with (go_at_call 11; refine (HLN.out _ HG2.out).mono ?_; rintro e w4 ⟨rfl, h4⟩; rw [← h4]; clear h4 w4)
          go_wp2_with fail
          go_roundw
          case rel => exact ⟨j + i + 1, some ⟨bb, oo + (i + 1), none⟩, cj - (i + 1), _, by omega, by rw [show n - (j + i + 1) = m - (i + 1) by omega], HNX.out, HNN.out, by omega, HOW.out⟩
          case measure => simp [slen]; omega
        have t3 : decide ((q : Int) ≤ (T.length : Int)) = true := decide_eq_true (by omega)
        have hwq : IntKind.i64.wrap (q : Int) = q := IntWalk.i64_in _ (by have := HTN.out; omega)
        have HBE := Lib.hid (fun W (k : Gr w W) => (HS.out.gr k).bears (q : Int) ⟨by omega, by have := HTN.out; omega⟩)
        cases h3 : bearsT T (q : Int) with
        | false =>
          rw [h3] at HBE
          have HNN : Hid (Got T b (j + i + 1) O) := by have h5 := HMO.out; rwa [if_neg (fun qq => by rw [h3] at qq; cases qq.2.2)] at h5
          clear h3
          go_upto_region 3 with fail
          go_upto_region 4 with (go_at_call 61; refine HIX.out.mono ?_; rintro e w2 ⟨rfl, q2, rfl⟩; have HOW := Lib.hid (HO.out.mono (belowN (Gr.alloc wo magicO) q2)))
          obtain ⟨w2, hw2⟩ : ∃ w2, w2 = (wo.alloc magicO).drewN q2 := ⟨_, rfl⟩
          rw [← hw2] at HOW ⊢
          clear hw2
          have HG2 : Hid (Gr w w2) := HOW.out.below
          have HGE := Lib.hid (HGE0.out w2 HG2.out)
          have HS2 := Lib.hid (HS.out.gr HG2.out)
          have c0 := HS2.out.c0
          go_upto_region 6 with (go_at_call 37; refine HGE.out.mono ?_; rintro e w3 ⟨rfl, h3⟩; rw [← h3]; clear h3 w3)
          go_upto_region 8 with (first
            | (go_at_call 11; refine (HLN.out _ HG2.out).mono ?_; rintro e w4 ⟨rfl, h4⟩; rw [← h4]; clear h4 w4)
            | (go_at_call 33; refine (HBE.out _ HG2.out).mono ?_; rintro e w5 ⟨rfl, g5⟩; have HOW5 := Lib.hid (HOW.out.mono g5); clear g5))
          go_wp2_with fail
          go_roundw
          case rel => exact ⟨j + i + 1, some ⟨bb, oo + (i + 1), none⟩, cj - (i + 1), _, by omega, by rw [show n - (j + i + 1) = m - (i + 1) by omega], HNX.out, HNN.out, by omega, HOW5.out⟩
          case measure => simp [slen]; omega
        | true =>
          rw [h3] at HBE
          have HNN : Hid (Got T b (j + i + 1) (O ++ [(q : Int)])) := by have h5 := HMO.out; rwa [if_pos ⟨by omega, by omega, h3⟩] at h5
          clear h3
          go_upto_region 3 with fail
          go_upto_region 4 with (go_at_call 61; refine HIX.out.mono ?_; rintro e w2 ⟨rfl, q2, rfl⟩; have HOW := Lib.hid (HO.out.mono (belowN (Gr.alloc wo magicO) q2)))
          obtain ⟨w2, hw2⟩ : ∃ w2, w2 = (wo.alloc magicO).drewN q2 := ⟨_, rfl⟩
          rw [← hw2] at HOW ⊢
          clear hw2
          have HG2 : Hid (Gr w w2) := HOW.out.below
          have HGE := Lib.hid (HGE0.out w2 HG2.out)
          have HS2 := Lib.hid (HS.out.gr HG2.out)
          have c0 := HS2.out.c0
          go_upto_region 6 with (go_at_call 37; refine HGE.out.mono ?_; rintro e w3 ⟨rfl, h3⟩; rw [← h3]; clear h3 w3)
          go_upto_region 7 with (first
            | (go_at_call 11; refine (HLN.out _ HG2.out).mono ?_; rintro e w4 ⟨rfl, h4⟩; rw [← h4]; clear h4 w4)
            | (go_at_call 33; refine (HBE.out _ HG2.out).mono ?_; rintro e w5 ⟨rfl, g5⟩; have HOW5 := Lib.hid (HOW.out.mono g5); clear g5))
          go_upto_region 8 with (at_builtin; refine wpList_push rfl _ _ 50 rfl tNums rfl HOW5.out #[_] rfl rfl (one_int _ _) (by omega) ?_; intro v6 w6 own6)
          have HOW6 : Hid (Own w w6 3 1 v6 (O ++ [(q : Int)]).length ((O ++ [(q : Int)]).map i64c)) := by
            show Own _ _ _ _ _ _ _
            rw [List.length_append, List.map_append]
            exact own6
          clear own6
          go_wp2_with fail
          go_roundw
          case rel => exact ⟨j + i + 1, some ⟨bb, oo + (i + 1), none⟩, cj - (i + 1), _, by omega, by rw [show n - (j + i + 1) = m - (i + 1) by omega], HNX.out, HNN.out, by rw [List.length_append]; show O.length + 1 ≤ _; omega, HOW6.out⟩
          case measure => simp [slen]; omega
end
end Go.Proofs.YtcfbbgbjlgonpaaGreatDoor

/- Acts one behind the other on a suite of terms, and on the document's: what stands. No condition. -/
namespace Go.Proofs.YtcfbbgbjlgonpaaGreatDoor
open Go.RowKit
set_option linter.unusedVariables false
set_option linter.unusedSimpArgs false
section
variable {w0 : World} {p g bm bs : Nat} {A : Option Addr} {c : Nat} {B : Option Addr} {e0 n : Nat} {T : List Nd} {L : List BRow}
theorem actT_any (k i j : Int) (x y : BRow) (s : List UInt8) (a b : BRow) (w : World) (st : ST w0 p g bm bs A c B e0 T L T (L.map (·.l)) w) (ba : RowK w0 w a) (bb : RowK w0 w b) (tg : TG2 T n) (hn : n ≤ 800) (hL : L.length ≤ 800) (hqa : a.n ≤ 20000) (hqb : b.n ≤ 20000) (hsl : s.length ≤ 5000) :
    Calls Tryz.prog 28 #[.pointer (some ⟨p, 0, none⟩), tv A T.length c B L.length e0, xact k i j x y s, a.v, b.v] w (RetDoT w0 w p g bm bs (.slice B L.length e0) b T L n) := by
  by_cases h : 0 ≤ k ∧ k ≤ 5
  · rcases (by omega : k = 0 ∨ k = 1 ∨ k = 2 ∨ k = 3 ∨ k = 4 ∨ k = 5) with rfl | rfl | rfl | rfl | rfl | rfl
    · exact actT_draw i j x y s a b w st ba bb tg hn hL hqa hqb
    · by_cases h32 : a.n = 32
      · exact actT_seal i j x y s a b w st ba bb tg hn hL hqa hqb h32
      · exact actT_seal_not i j x y s a b w st ba bb tg hn hL hqa hqb h32
    · exact actT_open i j x y s a b w st ba bb tg hn hL hqa hqb
    · exact actT_derive i j x y s a b w st ba bb tg hn hL hqa hqb hsl
    · exact actT_mix i j x y s a b w st ba bb tg hn hL hqa hqb
    · exact actT_sum i j x y s a b w st ba bb tg hn hL hqa hqb
  · exact actT_check k i j x y s a b w st ba bb tg hn hL hqa hqb h
end
theorem KU.row {W : World} {k : Nat} {cs : List Value} (y : Xk W k cs) (ds : Array Value) : KU W (W.setRow k ds) := fun b a m q => by
  have hb : b ≠ k := fun z => by subst z; exact blk_no_u8 y (by decide) a m q
  exact (setRow_other W k b ds hb).trans q
/-- Behind acts: both suites, the document's as it lies at h, and what was had. -/
structure PV (w0 : World) (h p g bm bs : Nat) (A : Option Addr) (c : Nat) (B : Option Addr) (e : Nat) (T : List Nd) (L : List BRow) (v : Value) (R : List BRow) (xa : List Value) (W : World) : Prop where
  st : ST w0 p g bm bs A c B e T L T (L.map (·.l)) W
  x : Xk W h xa
  ga : SumsO w0 W v R
  h0 : w0.heap.size ≤ h
  ap : ∀ b, v.ownBlock = some b → (Value.slice B L.length e).ownBlock ≠ some b
section
variable {w0 : World} {h p g bm bs : Nat} {A A' : Option Addr} {c c' : Nat} {B B' : Option Addr} {e e' : Nat} {T T' : List Nd} {L L' : List BRow} {v v' : Value} {R : List BRow} {xa : List Value} {W W' : World}
theorem PV.mono (q : PV w0 h p g bm bs A c B e T L v R xa W) (d : Gr W W') : PV w0 h p g bm bs A c B e T L v R xa W' := ⟨q.st.mono d, d.blk q.x, q.ga.mono d, q.h0, q.ap⟩
theorem PV.act (q : PV w0 h p g bm bs A c B e T L v R xa W) (st : ST w0 p g bm bs A' c' B' e' T' L' T' (L'.map (·.l)) W') (kd : KD (.slice B L.length e) W W') (ow : ∀ u, (Value.slice B' L'.length e').ownBlock = some u → (Value.slice B L.length e).ownBlock = some u ∨ W.heap.size ≤ u) : PV w0 h p g bm bs A' c' B' e' T' L' v R xa W' := by
  refine ⟨st, q.st.keepX kd q.x, q.ga.stay st.below kd.1 (fun b hb => ?_) (q.st.ku kd), q.h0, fun b hb hs => ?_⟩
  · obtain ⟨cs, kb⟩ := q.ga.1.blk_at hb
    exact (kd.blk kb (by unfold tyT; decide) (q.ap b hb)).trans kb.symm
  · rcases ow b hs with z | z
    · exact q.ap b hb z
    · obtain ⟨cs, kb⟩ := q.ga.1.blk_at hb
      have := kb.lt
      omega
theorem PV.row (q : PV w0 h p g bm bs A c B e T L v R xa W) {k : Nat} {cs : List Value} (y : Xk W k cs) (hk : w0.heap.size ≤ k) (hne : k ≠ h) (ds : Array Value) : PV w0 h p g bm bs A c B e T L v R xa (W.setRow k ds) := by
  have tc : Tch (fun b => b = k) W (W.setRow k ds) := Tch.rowC k ds rfl
  have n2 := Own.not_blk q.ga.1 y (by decide)
  exact ⟨q.st.row y hk ds, Blk.tch q.x tc (fun z => hne z.symm), q.ga.tch tc (fun b z => z ▸ hk) (fun b hb z => n2 (by rw [hb, z])) (fun b a m z => by subst z; exact blk_no_u8 y (by decide) a m), q.h0, q.ap⟩
theorem PV.set (q : PV w0 h p g bm bs A c B e T L v R xa W) (ds : List Value) : PV w0 h p g bm bs A c B e T L v R ds (W.setRow h ds.toArray) := by
  have tc : Tch (fun b => b = h) W (W.setRow h ds.toArray) := Tch.rowC h _ rfl
  have n2 := Own.not_blk q.ga.1 q.x (by decide)
  exact ⟨q.st.row q.x q.h0 _, q.x.row _, q.ga.tch tc (fun b z => z ▸ q.h0) (fun b hb z => n2 (by rw [hb, z])) (fun b a m z => by subst z; exact blk_no_u8 q.x (by decide) a m), q.h0, q.ap⟩
/-- What was had grows. -/
theorem PV.push (q : PV w0 h p g bm bs A c B e T L v R xa W) {r : BRow} (own : Own w0 W' 28 1 v' (R.length + 1) (R.map BRow.v ++ [r.v])) (k : Kept W W' v v') (fr : FB w0 W r.a r.n r.c r.l) : PV w0 h p g bm bs A c B e T L v' (R ++ [r]) xa W' := by
  have t := Turn1.of k
  have tc := Tch.kept k own q.ga.1.below
  have hS : ∀ b, v.ownBlock = some b → w0.heap.size ≤ b := fun b hb => q.ga.1.ge hb
  obtain ⟨es, ck, hm⟩ := q.st.sm.map
  have sy : SymS w0 W' p g bm bs T := q.st.sy.off tc hS q.st.nb hm (fun b hb => .inl (by obtain ⟨cs, z⟩ := q.ga.1.blk_at hb; exact ⟨_, cs, z, by decide, by decide, by decide, by decide⟩))
  have u8 : ∀ b a m, v.ownBlock = some b → W.heap[b]? ≠ some (.cells a 5 m) := fun b a m z => own_no_u8 q.ga.1 (by decide) z a m
  have ku : KU W W' := fun b a m z => (t.keep b (at_lt z) (fun y => u8 b a m y z)).trans z
  have ap2 : ∀ b, (Value.slice B L.length e).ownBlock = some b → v.ownBlock ≠ some b := fun b hb z => q.ap b z hb
  refine ⟨⟨sy, q.st.sm.keep (t.keep bs q.st.sm.lt (q.ga.1.not_map hm)), q.st.rt.stay sy.below t.size (fun b hb => t.keep b (by obtain ⟨cs, z⟩ := q.st.rt.blk_at hb; exact z.lt) (Own.apart2 q.st.rt q.ga.1 (by decide) hb)), q.st.so.stay sy.below t.size (fun b hb => t.keep b (by obtain ⟨cs, z⟩ := q.st.so.1.blk_at hb; exact z.lt) (ap2 b hb)) ku, q.st.nb, q.st.ge⟩, Blk.tch q.x tc (fun z => Own.not_blk q.ga.1 q.x (by decide) z), q.ga.push own k fr, q.h0, fun b hb hs => ?_⟩
  rcases t.own b hb with z | z
  · exact q.ap b z hs
  · obtain ⟨cs, y⟩ := q.st.so.1.blk_at hs
    have := y.lt
    omega
end
/-- Between acts. -/
structure PW (w0 : World) (h p g bm bs k : Nat) (A : Option Addr) (c : Nat) (B : Option Addr) (e : Nat) (T : List Nd) (L : List BRow) (v : Value) (R : List BRow) (W : World) : Prop where
  pv : PV w0 h p g bm bs A c B e T L v R (ts A T.length c B L.length e) W
  hr : ∀ r ∈ R, r.n ≤ 200 + 48 * k
  tg : TG2 T (3 * k)
  hL : L.length ≤ k
  hl : R.length = k
theorem rangeAt_later {w w' : World} {b o : Nat} {cs : List Value} (h : w.rangeAt b o cs) (g : Gr w w') : w'.rangeAt b o cs := fun j v hv => (g.cell (p := ⟨b, o + j, none⟩) (World.block_lt_of_cell? w _ (h j v hv))).trans (h j v hv)
theorem sizeActT (k i j : Int) (x y : BRow) (s : List UInt8) : (Tryz.prog.info? 54).map (·.size) = some ([.int .i64 k, .int .i64 i, .int .i64 j, x.v, y.v, .string ⟨s.toArray⟩] : List Value).length := by kernel_rfl
/-- What an act keeps, whatever it turns: the document's suites. -/
def KX (w w' : World) : Prop := w.heap.size ≤ w'.heap.size ∧ ∀ b cs, Blk w b 33 cs → Blk w' b 33 cs
end Go.Proofs.YtcfbbgbjlgonpaaGreatDoor
