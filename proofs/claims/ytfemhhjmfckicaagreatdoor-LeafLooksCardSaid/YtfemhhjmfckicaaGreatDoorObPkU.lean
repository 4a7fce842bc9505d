/- Own texts of this claim, one behind the other. No condition. -/
import Derived.Test.YtfemhhjmfckicaaGreatDoorObPkT
import Derived.Outline
import Derived.Lib.LazyBuf

/- Names: how two names stand, as the program says. No condition. -/
namespace Go.Proofs.YtfemhhjmfckicaaGreatDoor
open Go.RowKit
set_option linter.unusedVariables false
set_option linter.unusedSimpArgs false
theorem isNaN_any (x : ByteArray) (w : World) : Calls Tryz.prog 100 #[.string x] w fun e w' => e = .returned (.bool false) ∧ w' = w := by
  have t1 : (x.toList == x.toList) = true := by simp
  go_enter Tryz.func100, Tryz.ntmps100
  go_wp2
  go_ret
  exact ⟨by simp, rfl⟩
theorem gtr_run (x y : ByteArray) (w : World) (P : Program) : Sem.run P (binOp .gtr 9 (.string x) (.string y)) w = .ok (.bool (!(Op.bytesLess x.toList y.toList || x.toList == y.toList))) w := rfl
theorem cmpTwo_any (x y : ByteArray) (w : World) : Calls Tryz.prog 60 #[.string x, .string y] w fun e w' => e = .returned (.int .i64 (cmpB x.toList y.toList)) ∧ w' = w := by
  obtain ⟨r, hr⟩ : ∃ r, r = cmpB x.toList y.toList := ⟨_, rfl⟩
  rw [← hr]
  have HR : Hid (r = if Op.bytesLess x.toList y.toList = true then -1 else if (Op.bytesLess x.toList y.toList || x.toList == y.toList) = false then 1 else 0) := hr
  clear hr
  cases t1 : Op.bytesLess x.toList y.toList with
  | true =>
    have HF : Hid (r = -1) := by show _ = _; rw [HR.out, if_pos t1]
    go_enter Tryz.func60, Tryz.ntmps60
    go_wp2_with (go_at_call 100; refine (isNaN_any _ _).mono ?_; rintro e w' ⟨rfl, rfl⟩)
    go_ret
    exact ⟨by rw [HF.out]; rfl, rfl⟩
  | false =>
    cases t2 : (x.toList == y.toList) with
    | true =>
      have HF : Hid (r = 0) := by show _ = _; rw [HR.out, t1, t2]; rfl
      go_enter Tryz.func60, Tryz.ntmps60
      go_wp2_with (go_at_call 100; refine (isNaN_any _ _).mono ?_; rintro e w' ⟨rfl, rfl⟩)
      rw [gtr_run, t1, t2]
      go_wp2
      go_ret
      exact ⟨by rw [HF.out]; rfl, rfl⟩
    | false =>
      have HF : Hid (r = 1) := by show _ = _; rw [HR.out, t1, t2]; rfl
      go_enter Tryz.func60, Tryz.ntmps60
      go_wp2_with (go_at_call 100; refine (isNaN_any _ _).mono ?_; rintro e w' ⟨rfl, rfl⟩)
      rw [gtr_run, t1, t2]
      go_wp2
      go_ret
      exact ⟨by rw [HF.out]; rfl, rfl⟩
theorem compare_step {a b : List (List UInt8)} {k : Nat} (ha : k < a.length) (hb : k < b.length) : compareL (a.drop k) (b.drop k) = if cmpB a[k] b[k] = 0 then compareL (a.drop (k + 1)) (b.drop (k + 1)) else cmpB a[k] b[k] := by
  rw [List.drop_eq_getElem_cons ha, List.drop_eq_getElem_cons hb]
  rfl
theorem compare_more {a b : List (List UInt8)} {k : Nat} (ha : k < a.length) (hb : b.length ≤ k) : compareL (a.drop k) (b.drop k) = 1 := by
  rw [List.drop_eq_getElem_cons ha, List.drop_eq_nil_of_le hb]
  rfl
theorem compare_end {a b : List (List UInt8)} {k : Nat} (ha : a.length = k) : compareL (a.drop k) (b.drop k) = if k < b.length then -1 else 0 := by
  rw [List.drop_eq_nil_of_le (Nat.le_of_eq ha)]
  split
  · next h => rw [List.drop_eq_getElem_cons h]; rfl
  · next h => rw [List.drop_eq_nil_of_le (by omega)]; rfl
set_option maxRecDepth 100000 in
set_option maxHeartbeats 1000000 in
theorem compare_any (A B : Option Addr) (n m c d : Nat) (a b : List (List UInt8)) (w : World) (ha : Ws w A n c a) (hb : Ws w B m d b) :
    Calls Tryz.prog 98 #[.slice A n c, .slice B m d] w fun e w' => e = .returned (.int .i64 (compareL a b)) ∧ Gr w w' := by
  have hla := ha.len
  have hlb := hb.len
  have ma := ha.max
  have mb := hb.max
  have ca := ha.cap
  have cb := hb.cap
  have HA := Lib.hid ha; have HB := Lib.hid hb; clear ha hb
  have HLA := Lib.hid hla; have HLB := Lib.hid hlb; clear hla hlb
  obtain ⟨r, hr⟩ : ∃ r, r = compareL a b := ⟨_, rfl⟩
  rw [← hr]
  have HR : Hid (r = compareL (a.drop 0) (b.drop 0)) := hr
  clear hr
  go_enter Tryz.func98, Tryz.ntmps98
  go_wp2
  go_loopw [11] (fun i wr => ∃ k : Nat, k ≤ n ∧ i = .int .i64 k ∧ Gr w wr ∧ r = compareL (a.drop k) (b.drop k)) (fun i _ => n - (intOf i).toNat)
  case atStart => exact ⟨0, Nat.zero_le _, rfl, Gr.refl _, HR.out⟩
  case round =>
    obtain ⟨k, hk, rfl, g, hsame⟩ := hrel
    have HSM := Lib.hid hsame; have G := Lib.hid g; clear hsame
    by_cases hlt : k < n
    · have hka : k < a.length := by rw [HLA.out]; exact hlt
      by_cases hlm : k < m
      · have hkb : k < b.length := by rw [HLB.out]; exact hlm
        obtain ⟨b1, o1, rfl, hc1⟩ := Ws.addr (HA.out.mono g) (by omega)
        obtain ⟨b2, o2, rfl, hc2⟩ := Ws.addr (HB.out.mono g) (by omega)
        have c1 : wr.cell? ⟨b1, o1 + k, none⟩ = some _ := hc1 k hka
        have c2 : wr.cell? ⟨b2, o2 + k, none⟩ = some _ := hc2 k hkb
        have HST : Hid (r = if cmpB a[k] b[k] = 0 then compareL (a.drop (k + 1)) (b.drop (k + 1)) else cmpB a[k] b[k]) := HSM.out.trans (compare_step hka hkb)
        have t2 : decide ((k : Int) ≥ (m : Int)) = false := decide_eq_false (by omega)
        clear hc1 hc2 g
        generalize a[k] = x at *
        generalize b[k] = y at *
        obtain ⟨xs, hxs⟩ : ∃ xs : ByteArray, xs = ⟨x.toArray⟩ := ⟨_, rfl⟩
        obtain ⟨ys, hys⟩ : ∃ ys : ByteArray, ys = ⟨y.toArray⟩ := ⟨_, rfl⟩
        rw [← hxs] at c1
        rw [← hys] at c2
        have hxl : xs.toList = x := by rw [ByteArray.toList_eq, hxs]
        have hyl : ys.toList = y := by rw [ByteArray.toList_eq, hys]
        have HCP := Lib.hid (fun w => cmpTwo_any xs ys w)
        rw [hxl, hyl] at HCP
        clear hxs hys hxl hyl
        generalize cmpB x y = q at *
        by_cases he : q = 0
        · subst he
          have HE : Hid (r = compareL (a.drop (k + 1)) (b.drop (k + 1))) := by show _ = _; rw [HST.out, if_pos rfl]
          go_wp2_with fail
          refine (HCP.out _).mono ?_
          rintro e w' ⟨rfl, rfl⟩
          go_wp2_with fail
          refine ⟨⟨k + 1, by omega, by first | trivial | go_num, G.out, HE.out⟩, ?_⟩
          show n - ((k : Int) + 1).toNat < n - (k : Int).toNat
          omega
        · have HE : Hid (r = q) := by show _ = _; rw [HST.out, if_neg he]
          have t1 : (q != 0) = true := bne_iff_ne.2 he
          go_wp2_with fail
          refine (HCP.out _).mono ?_
          rintro e w' ⟨rfl, rfl⟩
          go_wp2_with fail
          go_ret
          exact ⟨by rw [HE.out]; rfl, G.out⟩
      · obtain ⟨b1, o1, rfl, hc1⟩ := Ws.addr (HA.out.mono g) (by omega)
        have c1 : wr.cell? ⟨b1, o1 + k, none⟩ = some _ := hc1 k hka
        have HE : Hid (r = 1) := HSM.out.trans (compare_more hka (by rw [HLB.out]; omega))
        have t2 : decide ((k : Int) ≥ (m : Int)) = true := decide_eq_true (by omega)
        clear hc1 g
        go_wp2_with fail
        go_ret
        exact ⟨by rw [HE.out]; rfl, G.out⟩
    · obtain rfl : k = n := by omega
      have HE : Hid (r = if k < b.length then -1 else 0) := HSM.out.trans (compare_end HLA.out)
      clear g
      by_cases hkm : k < m
      · have HF : Hid (r = -1) := by show _ = _; rw [HE.out, if_pos (by rw [HLB.out]; exact hkm)]
        have t2 : decide ((k : Int) < (m : Int)) = true := decide_eq_true (by omega)
        go_wp2_with fail
        go_ret
        exact ⟨by rw [HF.out]; rfl, G.out⟩
      · have HF : Hid (r = 0) := by show _ = _; rw [HE.out, if_neg (by rw [HLB.out]; exact hkm)]
        have t2 : decide ((k : Int) < (m : Int)) = false := decide_eq_false (by omega)
        go_wp2_with fail
        go_ret
        exact ⟨by rw [HF.out]; rfl, G.out⟩
/-- Split tells nil of what is no name. -/
theorem split_none (l : List UInt8) (w : World) (hl : l.length ≤ 100000) (hT : U8 w) (hb : rightL l = false) : Calls Tryz.prog 124 #[strc l] w fun e w' => e = .returned (.slice none 0 0) ∧ Gr w w' := by
  have HR : Hid (Calls Tryz.prog 58 #[strc l] w fun e w' => e = .returned (.bool (rightL l)) ∧ Gr w w') := right_any l w hl hT
  rw [hb] at HR
  clear hb hT
  go_enter Tryz.func124, Tryz.ntmps124
  go_wp2_with fail
  refine HR.out.mono ?_
  rintro e w1 ⟨rfl, g1⟩
  have G1 := Lib.hid g1; clear g1
  go_wp2_with fail
  go_ret
  exact ⟨rfl, G1.out⟩
/-- Split tells the parts of a name. -/
def RetS (w : World) (ps : List (List UInt8)) (e : Ending) (w' : World) : Prop := ∃ b o c : Nat, e = .returned (.slice (some ⟨b, o, none⟩) ps.length c) ∧ Ws w' (some ⟨b, o, none⟩) ps.length c ps ∧ Gr w w'
theorem split_some (l : List UInt8) (w : World) (hl : l.length ≤ 100000) (hT : U8 w) (hM : MLen w) (hb : rightL l = true) : Calls Tryz.prog 124 #[strc l] w (RetS w (piecesL l)) := by
  have hs : splitL l = piecesL l := if_pos hb
  refine (split_any l w hl hT hM).mono ?_
  rintro e w' ⟨v, rfl, ow⟩
  rw [hs] at ow
  obtain ⟨A, c, rfl, sl⟩ := ow.slice
  obtain ⟨b, o, rfl, _⟩ := Ws.addr sl (List.length_pos_iff.2 (pieces_ne l))
  exact ⟨b, o, c, rfl, sl, ow.below⟩
end Go.Proofs.YtfemhhjmfckicaaGreatDoor

/- Names: Cmp, and what is said of a name's parts. No condition. -/
namespace Go.Proofs.YtfemhhjmfckicaaGreatDoor
open Go.RowKit
set_option linter.unusedVariables false
set_option linter.unusedSimpArgs false
def RetB2 (w : World) (q : Int) (e : Ending) (w' : World) : Prop := ∃ (A B : Option Addr) (n m c d : Nat) (a b : List (List UInt8)), e = .returned (.tuple #[.slice A n c, .slice B m d]) ∧ Ws w' A n c a ∧ Ws w' B m d b ∧ compareL a b = q ∧ Gr w w'
theorem RetB2.nil {w w' : World} (g : Gr w w') : RetB2 w 0 (.returned (.tuple #[.slice none 0 0, .slice none 0 0])) w' := ⟨none, none, 0, 0, 0, 0, [], [], rfl, Sl.nil _ _, Sl.nil _ _, rfl, g⟩
set_option maxRecDepth 100000 in
set_option maxHeartbeats 1000000 in
theorem both_any (s t : List UInt8) (w : World) (hs : s.length ≤ 100000) (ht : t.length ≤ 100000) (hT : U8 w) (hM : MLen w) : Calls Tryz.prog 99 #[strc s, strc t] w (RetB2 w (cmpL s t)) := by
  have H1 : Hid (∀ wr, Gr w wr → rightL s = false → Calls Tryz.prog 124 #[strc s] wr fun e w' => e = .returned (.slice none 0 0) ∧ Gr wr w') := fun wr g h => split_none s wr hs (hT.mono g) h
  have H2 : Hid (∀ wr, Gr w wr → rightL t = false → Calls Tryz.prog 124 #[strc t] wr fun e w' => e = .returned (.slice none 0 0) ∧ Gr wr w') := fun wr g h => split_none t wr ht (hT.mono g) h
  have H3 : Hid (∀ wr, Gr w wr → rightL s = true → Calls Tryz.prog 124 #[strc s] wr (RetS wr (piecesL s))) := fun wr g h => split_some s wr hs (hT.mono g) (hM.mono g) h
  have H4 : Hid (∀ wr, Gr w wr → rightL t = true → Calls Tryz.prog 124 #[strc t] wr (RetS wr (piecesL t))) := fun wr g h => split_some t wr ht (hT.mono g) (hM.mono g) h
  obtain ⟨q, hq⟩ : ∃ q, q = cmpL s t := ⟨_, rfl⟩
  rw [← hq]
  have HQ : Hid (q = if rightL s = true ∧ rightL t = true then compareL (piecesL s) (piecesL t) else 0) := hq
  obtain ⟨sx, hsx⟩ : ∃ sx : ByteArray, strc s = .string sx := ⟨_, rfl⟩
  obtain ⟨tx, htx⟩ : ∃ tx : ByteArray, strc t = .string tx := ⟨_, rfl⟩
  rw [hsx] at H1 H3 ⊢
  rw [htx] at H2 H4 ⊢
  clear hq hsx htx hT hM
  have hn0 := fun w => run_eql_slice_nil (P := Tryz.prog) w 22 9 none 0 0 Tryz.underlying22
  have hns := fun w b o n c => run_eql_slice_nil (P := Tryz.prog) w 22 9 (some ⟨b, o, none⟩) n c Tryz.underlying22
  cases hrs : rightL s with
  | false =>
    have HF : Hid (q = 0) := by show _ = _; rw [HQ.out, hrs]; rfl
    rw [hrs] at H1
    cases hrt : rightL t with
    | false =>
      rw [hrt] at H2
      clear hrs hrt
      go_enter Tryz.func99, Tryz.ntmps99
      go_wp2_with fail
      refine (H1.out _ (Gr.refl _) trivial).mono ?_
      rintro e w1 ⟨rfl, g1⟩
      have G1 := Lib.hid g1; clear g1
      go_wp2_with fail
      refine (H2.out _ G1.out trivial).mono ?_
      rintro e w2 ⟨rfl, g2⟩
      have G2 := Lib.hid (Gr.trans G1.out g2); clear g2
      go_wp2_with fail
      go_ret2
      rw [HF.out]
      exact RetB2.nil G2.out
    | true =>
      rw [hrt] at H4
      clear hrs hrt
      go_enter Tryz.func99, Tryz.ntmps99
      go_wp2_with fail
      refine (H1.out _ (Gr.refl _) trivial).mono ?_
      rintro e w1 ⟨rfl, g1⟩
      have G1 := Lib.hid g1; clear g1
      go_wp2_with fail
      refine (H4.out _ G1.out trivial).mono ?_
      rintro e w2 ⟨b, o, c, rfl, s2, g2⟩
      have G2 := Lib.hid (Gr.trans G1.out g2); clear g2 s2
      go_wp2_with fail
      go_ret2
      rw [HF.out]
      exact RetB2.nil G2.out
  | true =>
    rw [hrs] at H3
    cases hrt : rightL t with
    | false =>
      rw [hrt] at H2
      have HF : Hid (q = 0) := by show _ = _; rw [HQ.out, hrs, hrt]; rfl
      clear hrs hrt
      go_enter Tryz.func99, Tryz.ntmps99
      go_wp2_with fail
      refine (H3.out _ (Gr.refl _) trivial).mono ?_
      rintro e w1 ⟨b, o, c, rfl, s1, g1⟩
      have G1 := Lib.hid g1; clear g1 s1
      go_wp2_with fail
      refine (H2.out _ G1.out trivial).mono ?_
      rintro e w2 ⟨rfl, g2⟩
      have G2 := Lib.hid (Gr.trans G1.out g2); clear g2
      go_wp2_with fail
      go_ret2
      rw [HF.out]
      exact RetB2.nil G2.out
    | true =>
      rw [hrt] at H4
      have HF : Hid (q = compareL (piecesL s) (piecesL t)) := by show _ = _; rw [HQ.out, hrs, hrt, if_pos ⟨rfl, rfl⟩]
      clear hrs hrt
      go_enter Tryz.func99, Tryz.ntmps99
      go_wp2_with fail
      refine (H3.out _ (Gr.refl _) trivial).mono ?_
      rintro e w1 ⟨b, o, c, rfl, s1, g1⟩
      have G1 := Lib.hid g1; have S1 := Lib.hid s1; clear g1 s1
      go_wp2_with fail
      refine (H4.out _ G1.out trivial).mono ?_
      rintro e w2 ⟨b2, o2, c2, rfl, s2, g2⟩
      have G2 := Lib.hid (Gr.trans G1.out g2); have S2 := Lib.hid s2
      have S12 := Lib.hid (Sl.gr S1.out g2)
      clear g2 s2
      go_wp2_with fail
      go_ret2
      exact ⟨_, _, _, _, _, _, _, _, rfl, S12.out, S2.out, HF.out.symm, G2.out⟩
theorem cmp_any (s t : List UInt8) (w : World) (hs : s.length ≤ 100000) (ht : t.length ≤ 100000) (hT : U8 w) (hM : MLen w) : Calls Tryz.prog 59 #[strc s, strc t] w fun e w' => e = .returned (.int .i64 (cmpL s t)) ∧ Gr w w' := by
  have HB := Lib.hid (both_any s t w hs ht hT hM)
  obtain ⟨sx, hsx⟩ : ∃ sx : ByteArray, strc s = .string sx := ⟨_, rfl⟩
  obtain ⟨tx, htx⟩ : ∃ tx : ByteArray, strc t = .string tx := ⟨_, rfl⟩
  rw [hsx, htx] at HB ⊢
  clear hsx htx hT hM
  generalize cmpL s t = q at *
  go_enter Tryz.func59, Tryz.ntmps59
  go_wp2_with fail
  refine HB.out.mono ?_
  rintro e w1 ⟨A, B, n, m, c, d, a, b, rfl, ha, hb, hq, g1⟩
  have HC := Lib.hid (compare_any A B n m c d a b w1 ha hb)
  rw [hq] at HC
  have G1 := Lib.hid g1; clear g1 ha hb hq
  go_wp2_with fail
  refine HC.out.mono ?_
  rintro e w2 ⟨rfl, g2⟩
  have G2 := Lib.hid (Gr.trans G1.out g2); clear g2
  go_wp2_with fail
  go_ret
  exact ⟨rfl, G2.out⟩
theorem turn_same {q q2 : Int} (h : q = -1 ∨ q = 0 ∨ q = 1) (h2 : q2 = -q) : (q != wrap64 (-q2)) = false := by
  subst h2
  rcases h with rfl | rfl | rfl <;> decide +kernel
theorem splitR_nil {l m : List UInt8} (h : rightL l = false) : belowP l m = false := by
  unfold belowP
  rw [h]
  rfl
end Go.Proofs.YtfemhhjmfckicaaGreatDoor
