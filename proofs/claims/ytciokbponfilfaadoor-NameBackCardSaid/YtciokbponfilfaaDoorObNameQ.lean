/- Names: Cmp, and what is said of a name's parts. No condition. -/
import Derived.Test.YtciokbponfilfaaDoorObNameO
import Derived.Outline
import Derived.Lib.LazyBuf
namespace Go.Proofs.YtciokbponfilfaaDoor
open Go.RowKit
set_option linter.unusedVariables false
set_option linter.unusedSimpArgs false
def RetB2 (w : World) (q : Int) (e : Ending) (w' : World) : Prop := ∃ (A B : Option Addr) (n m c d : Nat) (a b : List (List UInt8)), e = .returned (.tuple #[.slice A n c, .slice B m d]) ∧ Ws w' A n c a ∧ Ws w' B m d b ∧ compareL a b = q ∧ Gr w w'
theorem RetB2.nil {w w' : World} (g : Gr w w') : RetB2 w 0 (.returned (.tuple #[.slice none 0 0, .slice none 0 0])) w' := ⟨none, none, 0, 0, 0, 0, [], [], rfl, Sl.nil _ _, Sl.nil _ _, rfl, g⟩
set_option maxRecDepth 100000 in
set_option maxHeartbeats 1000000 in
theorem both_any (s t : List UInt8) (w : World) (hs : s.length ≤ 100000) (ht : t.length ≤ 100000) (hT : U8 w) (hM : MLen w) : Calls Tryd.prog 31 #[strc s, strc t] w (RetB2 w (cmpL s t)) := by
  have H1 : Hid (∀ wr, Gr w wr → rightL s = false → Calls Tryd.prog 10 #[strc s] wr fun e w' => e = .returned (.slice none 0 0) ∧ Gr wr w') := fun wr g h => split_none s wr hs (hT.mono g) h
  have H2 : Hid (∀ wr, Gr w wr → rightL t = false → Calls Tryd.prog 10 #[strc t] wr fun e w' => e = .returned (.slice none 0 0) ∧ Gr wr w') := fun wr g h => split_none t wr ht (hT.mono g) h
  have H3 : Hid (∀ wr, Gr w wr → rightL s = true → Calls Tryd.prog 10 #[strc s] wr (RetS wr (piecesL s))) := fun wr g h => split_some s wr hs (hT.mono g) (hM.mono g) h
  have H4 : Hid (∀ wr, Gr w wr → rightL t = true → Calls Tryd.prog 10 #[strc t] wr (RetS wr (piecesL t))) := fun wr g h => split_some t wr ht (hT.mono g) (hM.mono g) h
  obtain ⟨q, hq⟩ : ∃ q, q = cmpL s t := ⟨_, rfl⟩
  rw [← hq]
  have HQ : Hid (q = if rightL s = true ∧ rightL t = true then compareL (piecesL s) (piecesL t) else 0) := hq
  obtain ⟨sx, hsx⟩ : ∃ sx : ByteArray, strc s = .string sx := ⟨_, rfl⟩
  obtain ⟨tx, htx⟩ : ∃ tx : ByteArray, strc t = .string tx := ⟨_, rfl⟩
  rw [hsx] at H1 H3 ⊢
  rw [htx] at H2 H4 ⊢
  clear hq hsx htx hT hM
  have hn0 := fun w => run_eql_slice_nil (P := Tryd.prog) w 22 9 none 0 0 Tryd.underlying22
  have hns := fun w b o n c => run_eql_slice_nil (P := Tryd.prog) w 22 9 (some ⟨b, o, none⟩) n c Tryd.underlying22
  cases hrs : rightL s with
  | false =>
    have HF : Hid (q = 0) := by show _ = _; rw [HQ.out, hrs]; rfl
    rw [hrs] at H1
    cases hrt : rightL t with
    | false =>
      rw [hrt] at H2
      clear hrs hrt
      go_enter Tryd.func31, Tryd.ntmps31
      go_wp2_with fail
      refine (H1.out _ (Gr.refl _) trivial).mono ?_
      rintro e w1 ⟨rfl, g1⟩
      have G1 := Lib.hid g1; clear g1
      go_wp2_with fail
      refine (H2.out _ G1.out trivial).mono ?_
      rintro e w2 ⟨rfl, g2⟩
      have G2 := Lib.hid (Gr.trans G1.out g2); clear g2
      go_wp2_with fail
      go_ret2
      rw [HF.out]
      exact RetB2.nil G2.out
    | true =>
      rw [hrt] at H4
      clear hrs hrt
      go_enter Tryd.func31, Tryd.ntmps31
      go_wp2_with fail
      refine (H1.out _ (Gr.refl _) trivial).mono ?_
      rintro e w1 ⟨rfl, g1⟩
      have G1 := Lib.hid g1; clear g1
      go_wp2_with fail
      refine (H4.out _ G1.out trivial).mono ?_
      rintro e w2 ⟨b, o, c, rfl, s2, g2⟩
      have G2 := Lib.hid (Gr.trans G1.out g2); clear g2 s2
      go_wp2_with fail
      go_ret2
      rw [HF.out]
      exact RetB2.nil G2.out
  | true =>
    rw [hrs] at H3
    cases hrt : rightL t with
    | false =>
      rw [hrt] at H2
      have HF : Hid (q = 0) := by show _ = _; rw [HQ.out, hrs, hrt]; rfl
      clear hrs hrt
      go_enter Tryd.func31, Tryd.ntmps31
      go_wp2_with fail
      refine (H3.out _ (Gr.refl _) trivial).mono ?_
      rintro e w1 ⟨b, o, c, rfl, s1, g1⟩
      have G1 := Lib.hid g1; clear g1 s1
      go_wp2_with fail
      refine (H2.out _ G1.out trivial).mono ?_
      rintro e w2 ⟨rfl, g2⟩
      have G2 := Lib.hid (Gr.trans G1.out g2); clear g2
      go_wp2_with fail
      go_ret2
      rw [HF.out]
      exact RetB2.nil G2.out
    | true =>
      rw [hrt] at H4
      have HF : Hid (q = compareL (piecesL s) (piecesL t)) := by show _ = _; rw [HQ.out, hrs, hrt, if_pos ⟨rfl, rfl⟩]
      clear hrs hrt
      go_enter Tryd.func31, Tryd.ntmps31
      go_wp2_with fail
      refine (H3.out _ (Gr.refl _) trivial).mono ?_
      rintro e w1 ⟨b, o, c, rfl, s1, g1⟩
      have G1 := Lib.hid g1; have S1 := Lib.hid s1; clear g1 s1
      go_wp2_with fail
      refine (H4.out _ G1.out trivial).mono ?_
      rintro e w2 ⟨b2, o2, c2, rfl, s2, g2⟩
      have G2 := Lib.hid (Gr.trans G1.out g2); have S2 := Lib.hid s2
      have S12 := Lib.hid (Sl.gr S1.out g2)
      clear g2 s2
      go_wp2_with fail
      go_ret2
      exact ⟨_, _, _, _, _, _, _, _, rfl, S12.out, S2.out, HF.out.symm, G2.out⟩
theorem cmp_any (s t : List UInt8) (w : World) (hs : s.length ≤ 100000) (ht : t.length ≤ 100000) (hT : U8 w) (hM : MLen w) : Calls Tryd.prog 12 #[strc s, strc t] w fun e w' => e = .returned (.int .i64 (cmpL s t)) ∧ Gr w w' := by
  have HB := Lib.hid (both_any s t w hs ht hT hM)
  obtain ⟨sx, hsx⟩ : ∃ sx : ByteArray, strc s = .string sx := ⟨_, rfl⟩
  obtain ⟨tx, htx⟩ : ∃ tx : ByteArray, strc t = .string tx := ⟨_, rfl⟩
  rw [hsx, htx] at HB ⊢
  clear hsx htx hT hM
  generalize cmpL s t = q at *
  go_enter Tryd.func12, Tryd.ntmps12
  go_wp2_with fail
  refine HB.out.mono ?_
  rintro e w1 ⟨A, B, n, m, c, d, a, b, rfl, ha, hb, hq, g1⟩
  have HC := Lib.hid (compare_any A B n m c d a b w1 ha hb)
  rw [hq] at HC
  have G1 := Lib.hid g1; clear g1 ha hb hq
  go_wp2_with fail
  refine HC.out.mono ?_
  rintro e w2 ⟨rfl, g2⟩
  have G2 := Lib.hid (Gr.trans G1.out g2); clear g2
  go_wp2_with fail
  go_ret
  exact ⟨rfl, G2.out⟩
theorem turn_same {q q2 : Int} (h : q = -1 ∨ q = 0 ∨ q = 1) (h2 : q2 = -q) : (q != wrap64 (-q2)) = false := by
  subst h2
  rcases h with rfl | rfl | rfl <;> decide +kernel
theorem splitR_nil {l m : List UInt8} (h : rightL l = false) : belowP l m = false := by
  unfold belowP
  rw [h]
  rfl
set_option maxRecDepth 100000 in
set_option maxHeartbeats 2000000 in
theorem nameBack_walk (a b : ByteArray) (w : World) (hT : U8 w) (hM : MLen w) (ha : a.size ≤ 9223372036854775807) (hb : b.size ≤ 9223372036854775807) :
    Calls Tryd.prog 4 #[.string a, .string b] w fun e w' => e = .returned (.bool true) ∧ Below w.heap.size w w' := by
  show Calls _ _ _ _ fun e w' => e = .returned (.bool true) ∧ Gr w w'
  have HT := Lib.hid hT; have HM := Lib.hid hM
  have HAL : Hid (∀ wr, Gr w wr → Calls Tryd.prog 6 #[] wr fun e w' => e = .returned (.bool true) ∧ Gr wr w') := fun wr g => alive03_any wr (hT.mono g)
  clear hT hM
  by_cases h1 : 200 < a.size
  · have t1 : decide ((200 : Int) < (a.size : Int)) = true := decide_eq_true (by omega)
    go_enter Tryd.func4, Tryd.ntmps4
    go_wp2_with fail
    refine (HAL.out _ (Gr.refl w)).mono ?_
    rintro e w1 ⟨rfl, g1⟩
    have G1 := Lib.hid g1; clear g1
    go_wp2_with fail
    go_ret
    exact ⟨rfl, G1.out⟩
  have t1 : decide ((200 : Int) < (a.size : Int)) = false := decide_eq_false (by omega)
  by_cases h2 : 200 < b.size
  · have t2 : decide ((200 : Int) < (b.size : Int)) = true := decide_eq_true (by omega)
    go_enter Tryd.func4, Tryd.ntmps4
    go_wp2_with fail
    refine (HAL.out _ (Gr.refl w)).mono ?_
    rintro e w1 ⟨rfl, g1⟩
    have G1 := Lib.hid g1; clear g1
    go_wp2_with fail
    go_ret
    exact ⟨rfl, G1.out⟩
  have t2 : decide ((200 : Int) < (b.size : Int)) = false := decide_eq_false (by omega)
  obtain ⟨l, hl⟩ : ∃ l, l = a.data.toList := ⟨_, rfl⟩
  have e1 : strc l = .string a := by rw [hl]; rfl
  have hll : l.length ≤ 200 := by rw [hl]; show a.data.toList.length ≤ 200; have : a.data.toList.length = a.size := Array.length_toList; omega
  have hla : a.toList = l := by rw [hl, ByteArray.toList_eq]
  obtain ⟨m, hm⟩ : ∃ m, m = b.data.toList := ⟨_, rfl⟩
  have e2 : strc m = .string b := by rw [hm]; rfl
  have hml : m.length ≤ 200 := by rw [hm]; show b.data.toList.length ≤ 200; have : b.data.toList.length = b.size := Array.length_toList; omega
  clear hl hm
  obtain ⟨q, hq⟩ : ∃ q, q = cmpL l m := ⟨_, rfl⟩
  obtain ⟨q2, hq2⟩ : ∃ q2, q2 = cmpL m l := ⟨_, rfl⟩
  have tn : (q != wrap64 (-q2)) = false := turn_same (by rw [hq]; exact cmpL_cases l m) (by rw [hq, hq2]; exact cmpL_turn l m)
  have HC1 : Hid (∀ wr, Gr w wr → Calls Tryd.prog 12 #[.string a, .string b] wr fun e w' => e = .returned (.int .i64 q) ∧ Gr wr w') := fun wr g => by rw [hq, ← e1, ← e2]; exact cmp_any l m wr (by omega) (by omega) (HT.out.mono g) (HM.out.mono g)
  have HC2 : Hid (∀ wr, Gr w wr → Calls Tryd.prog 12 #[.string b, .string a] wr fun e w' => e = .returned (.int .i64 q2) ∧ Gr wr w') := fun wr g => by rw [hq2, ← e1, ← e2]; exact cmp_any m l wr (by omega) (by omega) (HT.out.mono g) (HM.out.mono g)
  have HR : Hid (∀ wr, Gr w wr → Calls Tryd.prog 13 #[.string a] wr fun e w' => e = .returned (.bool (rightL l)) ∧ Gr wr w') := fun wr g => by rw [← e1]; exact right_any l wr (by omega) (HT.out.mono g)
  clear hq hq2
  cases hr : rightL l with
  | false =>
    rw [hr] at HR
    have HS : Hid (∀ wr, Gr w wr → Calls Tryd.prog 10 #[.string a] wr fun e w' => e = .returned (.slice none 0 0) ∧ Gr wr w') := fun wr g => by rw [← e1]; exact split_none l wr (by omega) (HT.out.mono g) hr
    have HBL : Hid (∀ wr, Gr w wr → Calls Tryd.prog 14 #[.string a, .string b] wr fun e w' => e = .returned (.bool false) ∧ Gr wr w') := fun wr g => by
      have h := below_any l m wr (by omega) (by omega) (HT.out.mono g)
      rw [splitR_nil hr, e1, e2] at h
      exact h
    clear hr e1 e2 hla
    go_enter Tryd.func4, Tryd.ntmps4
    go_wp2_with fail
    refine (HC1.out _ (Gr.refl w)).mono ?_
    rintro e w1 ⟨rfl, g1⟩
    have G1 := Lib.hid g1; clear g1
    go_wp2_with fail
    refine (HC2.out _ G1.out).mono ?_
    rintro e w2 ⟨rfl, g2⟩
    have G2 := Lib.hid (Gr.trans G1.out g2); clear g2
    go_wp2_with fail
    refine (HS.out _ G2.out).mono ?_
    rintro e w3 ⟨rfl, g3⟩
    have G3 := Lib.hid (Gr.trans G2.out g3); clear g3
    go_wp2_with fail
    refine (HR.out _ G3.out).mono ?_
    rintro e w4 ⟨rfl, g4⟩
    have G4 := Lib.hid (Gr.trans G3.out g4); clear g4
    go_wp2_with fail
    refine (HBL.out _ G4.out).mono ?_
    rintro e w5 ⟨rfl, g5⟩
    have G5 := Lib.hid (Gr.trans G4.out g5); clear g5
    go_wp2_with fail
    refine (HAL.out _ G5.out).mono ?_
    rintro e w6 ⟨rfl, g6⟩
    have G6 := Lib.hid (Gr.trans G5.out g6); clear g6
    go_wp2_with fail
    go_ret
    exact ⟨rfl, G6.out⟩
  | true =>
    rw [hr] at HR
    have HS : Hid (∀ wr, Gr w wr → Calls Tryd.prog 10 #[.string a] wr (RetS wr (piecesL l))) := fun wr g => by rw [← e1]; exact split_some l wr (by omega) (HT.out.mono g) (HM.out.mono g) hr
    have HBL : Hid (∀ wr, Gr w wr → Calls Tryd.prog 14 #[.string a, .string a] wr fun e w' => e = .returned (.bool false) ∧ Gr wr w') := fun wr g => by
      have h := below_any l l wr (by omega) (by omega) (HT.out.mono g)
      rw [below_short (Nat.le_refl _), e1] at h
      exact h
    have tl : (a.toList == a.toList) = true := by simp
    have hpz : ∀ p ∈ piecesL l, p.length ≤ 10000 := fun p hp => Nat.le_trans ((pieces_size l).2 p hp) (by omega)
    have HJ : Hid (∀ (A : Option Addr) (n c : Nat) wr, Gr w wr → Ws wr A n c (piecesL l) → Calls Tryd.prog 7 #[.slice A n c] wr fun e w' => e = .returned (.tuple #[.string a, .int .i64 0]) ∧ Gr wr w') := fun A n c wr g h => by
      have hj := join_any A n c (piecesL l) wr h hpz (HT.out.mono g)
      rw [joinR_pieces hr] at hj
      unfold RetJ at hj
      rw [show strc (l, 0).1 = .string a from e1] at hj
      exact hj
    have HTOP : Hid (∀ (k : Nat), 0 < k → k < (piecesL l).length → ∃ t : ByteArray, (∀ (A : Option Addr) (c : Nat) wr, Gr w wr → Ws wr A (piecesL l).length c (piecesL l) → Calls Tryd.prog 7 #[.slice A k c] wr fun e w' => e = .returned (.tuple #[.string t, .int .i64 0]) ∧ Gr wr w') ∧
        (∀ wr, Gr w wr → Calls Tryd.prog 14 #[.string a, .string t] wr fun e w' => e = .returned (.bool true) ∧ Gr wr w') ∧
        (∀ wr, Gr w wr → Calls Tryd.prog 14 #[.string t, .string a] wr fun e w' => e = .returned (.bool false) ∧ Gr wr w') ∧
        (∀ wr, Gr w wr → Calls Tryd.prog 12 #[.string t, .string a] wr fun e w' => e = .returned (.int .i64 (-1)) ∧ Gr wr w')) := fun k h0 hk => by
      have htl := top_len l k h0 hk
      refine ⟨⟨(topL l k).toArray⟩, fun A c wr g h => ?_, fun wr g => ?_, fun wr g => ?_, fun wr g => ?_⟩
      · have hu := Sl.upto h (k := k) (Nat.le_of_lt hk)
        rw [← List.map_take] at hu
        have hj := join_any A k c ((piecesL l).take k) wr hu (fun p hp => hpz p (List.mem_of_mem_take hp)) (HT.out.mono g)
        rw [joinR_top hr h0] at hj
        exact hj
      · have h := below_any l (topL l k) wr (by omega) (by omega) (HT.out.mono g)
        rw [below_top hr h0 hk, e1] at h
        exact h
      · have h := below_any (topL l k) l wr (by omega) (by omega) (HT.out.mono g)
        rw [below_short htl, e1] at h
        exact h
      · have h := cmp_any (topL l k) l wr (by omega) (by omega) (HT.out.mono g) (HM.out.mono g)
        rw [cmpL_top hr h0 hk, e1] at h
        exact h
    have hne := List.length_pos_iff.2 (pieces_ne l)
    clear hr e1 e2 hla hpz
    generalize piecesL l = ps at *
    go_enter Tryd.func4, Tryd.ntmps4
    go_wp2_with fail
    refine (HC1.out _ (Gr.refl w)).mono ?_
    rintro e w1 ⟨rfl, g1⟩
    have G1 := Lib.hid g1; clear g1
    go_wp2_with fail
    refine (HC2.out _ G1.out).mono ?_
    rintro e w2 ⟨rfl, g2⟩
    have G2 := Lib.hid (Gr.trans G1.out g2); clear g2
    go_wp2_with fail
    refine (HS.out _ G2.out).mono ?_
    rintro e w3 ⟨bk, o, c, rfl, s3, g3⟩
    have G3 := Lib.hid (Gr.trans G2.out g3); have S3 := Lib.hid s3
    have hcap := s3.cap
    have hmax := s3.max
    clear g3 s3
    go_wp2_with fail
    refine (HR.out _ G3.out).mono ?_
    rintro e w4 ⟨rfl, g4⟩
    have G4 := Lib.hid (Gr.trans G3.out g4); have S4 := Lib.hid (Sl.gr S3.out g4); clear g4
    go_wp2_with fail
    refine (HJ.out _ _ _ _ G4.out S4.out).mono ?_
    rintro e w5 ⟨rfl, g5⟩
    have G5 := Lib.hid (Gr.trans G4.out g5); have S5 := Lib.hid (Sl.gr S4.out g5); clear g5
    go_wp2_with fail
    go_loopw [8] (fun i wr => ∃ k : Nat, 0 < k ∧ k ≤ ps.length ∧ i = .int .i64 k ∧ Gr w wr ∧ Ws wr (some ⟨bk, o, none⟩) ps.length c ps) (fun i _ => ps.length - (intOf i).toNat)
    case atStart => exact ⟨1, by omega, hne, rfl, G5.out, S5.out⟩
    case round =>
      obtain ⟨k, h0, hk, rfl, g, sw⟩ := hrel
      have G := Lib.hid g; have SW := Lib.hid sw; clear g sw
      by_cases hlt : k < ps.length
      · obtain ⟨t, hj, hb1, hb2, hc⟩ := HTOP.out k h0 hlt
        have HJ1 := Lib.hid (hj _ _ _ G.out SW.out); have HB1 := Lib.hid hb1; have HB2 := Lib.hid hb2; have HCC := Lib.hid hc
        clear hj hb1 hb2 hc
        go_wp2_with fail
        refine HJ1.out.mono ?_
        rintro e w6 ⟨rfl, g6⟩
        have G6 := Lib.hid (Gr.trans G.out g6); have S6 := Lib.hid (Sl.gr SW.out g6); clear g6
        go_wp2_with fail
        refine (HB1.out _ G6.out).mono ?_
        rintro e w7 ⟨rfl, g7⟩
        have G7 := Lib.hid (Gr.trans G6.out g7); have S7 := Lib.hid (Sl.gr S6.out g7); clear g7
        go_wp2_with fail
        refine (HB2.out _ G7.out).mono ?_
        rintro e w8 ⟨rfl, g8⟩
        have G8 := Lib.hid (Gr.trans G7.out g8); have S8 := Lib.hid (Sl.gr S7.out g8); clear g8
        go_wp2_with fail
        refine (HCC.out _ G8.out).mono ?_
        rintro e w9 ⟨rfl, g9⟩
        have G9 := Lib.hid (Gr.trans G8.out g9); have S9 := Lib.hid (Sl.gr S8.out g9); clear g9
        go_wp2_with fail
        refine ⟨⟨k + 1, by omega, by omega, by first | trivial | go_num, G9.out, S9.out⟩, ?_⟩
        show ps.length - ((k : Int) + 1).toNat < ps.length - (k : Int).toNat
        omega
      · go_wp2_with fail
        refine (HBL.out _ G.out).mono ?_
        rintro e w6 ⟨rfl, g6⟩
        have G6 := Lib.hid (Gr.trans G.out g6); clear g6
        go_wp2_with fail
        refine (HAL.out _ G6.out).mono ?_
        rintro e w7 ⟨rfl, g7⟩
        have G7 := Lib.hid (Gr.trans G6.out g7); clear g7
        go_wp2_with fail
        go_ret
        exact ⟨rfl, G7.out⟩
end Go.Proofs.YtciokbponfilfaaDoor
