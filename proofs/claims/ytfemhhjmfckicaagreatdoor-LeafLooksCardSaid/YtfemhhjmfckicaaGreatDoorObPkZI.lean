/- Own texts of this claim, one behind the other. No condition. -/
import Derived.Test.YtfemhhjmfckicaaGreatDoorObPkU
import Derived.Test.YtfemhhjmfckicaaGreatDoorObPkV
import Derived.Test.YtfemhhjmfckicaaGreatDoorObPkZ
import Derived.Test.YtfemhhjmfckicaaGreatDoorObPkZH

/- The laws on leaf: names, and a row turned round. No condition. -/
namespace Go.Proofs.YtfemhhjmfckicaaGreatDoor
open Go.RowKit
set_option linter.unusedVariables false
set_option linter.unusedSimpArgs false
theorem Rw.ws {w0 w : World} {A : Option Addr} {n c : Nat} {ls : List (List UInt8)} (h : Rw w0 w A n c ls) : Ws w A n c ls := by
  obtain ⟨hl, ⟨hc, hm⟩, h⟩ := h
  refine ⟨by rw [List.length_map, hl, Nat.mul_one], hc, hm, fun hn => ?_⟩
  rcases h with ⟨rfl, rfl, rfl⟩ | ⟨g, rfl, hg, hw, hH⟩
  · omega
  · refine ⟨g, 0, rfl, fun j u hu => ?_⟩
    have hj : j < ls.length := by have := (List.getElem?_eq_some_iff.1 hu).1; rwa [List.length_map] at this
    have h1 := (hH j (by simpa using hj)).1
    rw [h1]
    rw [List.getElem?_map, List.getElem?_eq_getElem hj] at hu
    rw [getElem!_pos ls.toArray j (by simpa using hj)]
    exact hu
theorem find_own {N : List (List UInt8)} (h : InOrder N) {i : Nat} (hi : i < N.length) (h0 : N[i] ≠ []) : findH N N[i] = (i : Int) := by
  unfold findH
  rw [if_neg h0]
  have : N.findIdx? (· == N[i]) = some i := by
    rw [List.findIdx?_eq_some_iff_getElem]
    refine ⟨hi, by simp, fun j hj => ?_⟩
    have h1 := List.pairwise_iff_getElem.1 h j i (by omega) hi hj
    simpa using ltH_ne h1
  rw [this]
/-- What the names' loop asks of each name. -/
theorem name_ok {hs N : List (List UInt8)} (h : NamesOf hs N) {i : Nat} (hi : i < N.length) : N[i] ≠ [] ∧ 0 ≤ findH hs N[i] ∧ findH N N[i] = (i : Int) := by
  have h1 := (h.2 N[i]).1 (List.getElem_mem hi)
  exact ⟨h1.2, find_some h1.1 h1.2, find_own h.1 hi h1.2⟩
theorem head_ok {hs N : List (List UInt8)} (h : NamesOf hs N) {x : List UInt8} (hx : x ∈ hs) (h0 : x ≠ []) : 0 ≤ findH N x := find_some ((h.2 x).2 ⟨hx, h0⟩) h0
/-- A row that is being turned round. -/
structure Tu (w0 w : World) (A : Option Addr) (n c g : Nat) (rest : List Value) (N ms : List (List UInt8)) : Prop where
  gr : Gr w0 w
  ws : Ws w A n c ms
  pm : ms.Perm N
  bl : 0 < n → A = some ⟨g, 0, none⟩ ∧ w0.heap.size ≤ g ∧ Blk w g 9 (ms.map strc ++ rest)
theorem Tu.start {w0 w : World} {v : Value} {n : Nat} {N : List (List UInt8)} (h : Own w0 w 9 1 v n (N.map strc)) : ∃ A c g rest, v = .slice A n c ∧ Tu w0 w A n c g rest N N := by
  obtain ⟨A, c, rfl, sl⟩ := h.slice
  by_cases h0 : 0 < n
  · obtain ⟨g, cap, rest, hv, hg, hb, h1, h2, h3⟩ := h.opened h0
    injection hv with e1 e2 e3
    exact ⟨A, c, g, rest, rfl, ⟨h.below, sl, List.Perm.refl _, fun _ => ⟨e1, hg, hb⟩⟩⟩
  · exact ⟨A, c, 0, [], rfl, ⟨h.below, sl, List.Perm.refl _, fun q => absurd q h0⟩⟩
/-- Two stores. -/
theorem Tu.swap {w0 w : World} {A : Option Addr} {n c g i j : Nat} {rest : List Value} {N ms : List (List UInt8)} (h : Tu w0 w A n c g rest N ms) (hi : i < ms.length) (hj : j < ms.length) :
    Tu w0 ((w.setCell ⟨g, i, none⟩ (strc ms[j])).setCell ⟨g, j, none⟩ (strc ms[i])) A n c g rest N ((ms.set i ms[j]).set j ms[i]) := by
  have hl := h.ws.len
  obtain ⟨hA, hg, hb⟩ := h.bl (by omega)
  have b1 := hb.set i (strc ms[j])
  rw [set_left _ _ _ _ (by rw [List.length_map]; exact hi), ← List.map_set] at b1
  have b2 := b1.set j (strc ms[i])
  rw [set_left _ _ _ _ (by rw [List.length_map, List.length_set]; exact hj), ← List.map_set] at b2
  have t : Tch (fun b => b = g) w ((w.setCell ⟨g, i, none⟩ (strc ms[j])).setCell ⟨g, j, none⟩ (strc ms[i])) := (Tch.set (S := fun b => b = g) ⟨g, i, none⟩ _ rfl).trans (Tch.set (S := fun b => b = g) ⟨g, j, none⟩ _ rfl)
  refine ⟨t.below h.gr h.gr.size (fun b e => e ▸ hg), ⟨by rw [List.length_map, List.length_set, List.length_set, hl, Nat.mul_one], h.ws.cap, h.ws.max, fun hn => ⟨g, 0, hA, fun k u hu => ?_⟩⟩, (List.set_set_perm hi hj).trans h.pm, fun _ => ⟨hA, hg, b2⟩⟩
  rw [Nat.zero_add, b2.cell]
  exact at_left hu
theorem Tu.free {w0 w : World} {A : Option Addr} {n c g : Nat} {rest : List Value} {N ms : List (List UInt8)} (h : Tu w0 w A n c g rest N ms) (hn : 0 < n) (i : Nat) : w.frozen? ⟨g, i, none⟩ = false := (h.bl hn).2.2.free i
theorem Tu.cell {w0 w : World} {A : Option Addr} {n c g : Nat} {rest : List Value} {N ms : List (List UInt8)} (h : Tu w0 w A n c g rest N ms) {i : Nat} (hi : i < ms.length) : w.cell? ⟨g, i, none⟩ = some (strc ms[i]) := by
  obtain ⟨_, _, hb⟩ := h.bl (by have := h.ws.len; omega)
  rw [hb.cell]
  refine at_left ?_
  rw [List.getElem?_map, List.getElem?_eq_getElem hi]
  rfl
theorem Tu.names {w0 w : World} {A : Option Addr} {n c g : Nat} {rest : List Value} {hs N ms M : List (List UInt8)} (h : Tu w0 w A n c g rest N ms) (hN : NamesOf hs N) (hM : NamesOf ms M) : M = N :=
  names_same hM (names_perm hN fun x => h.pm.mem_iff)
end Go.Proofs.YtfemhhjmfckicaaGreatDoor

/- The reference's order of names. No condition. -/
namespace Go.Proofs.YtfemhhjmfckicaaGreatDoor
open Go.RowKit
set_option linter.unusedVariables false
set_option linter.unusedSimpArgs false
set_option maxRecDepth 100000 in
set_option maxHeartbeats 2000000 in
theorem refCmp_some (s t : List UInt8) (w : World) (hs : s.length ≤ 100000) (ht : t.length ≤ 100000) (hrs : rightL s = true) (hrt : rightL t = true) :
    Calls Tryz.prog 62 #[strc s, strc t] w fun e w' => e = .returned (.int .i64 (cmpL s t)) ∧ Gr w w' := by
  have H1 : Hid (∀ wr, Calls Tryz.prog 61 #[strc s] wr fun e w' => e = .returned (.bool true) ∧ Gr wr w') := fun wr => by have k := refRight_any s wr hs; rw [hrs] at k; exact k
  have H2 : Hid (∀ wr, Calls Tryz.prog 61 #[strc t] wr fun e w' => e = .returned (.bool true) ∧ Gr wr w') := fun wr => by have k := refRight_any t wr ht; rw [hrt] at k; exact k
  have H3 : Hid (∀ wr, Calls Tryz.prog 101 #[strc s] wr (RetWs wr (piecesL s))) := fun wr => refPieces_any s wr hs
  have H4 : Hid (∀ wr, Calls Tryz.prog 101 #[strc t] wr (RetWs wr (piecesL t))) := fun wr => refPieces_any t wr ht
  obtain ⟨r, hr⟩ : ∃ r, r = cmpL s t := ⟨_, rfl⟩
  rw [← hr]
  have HR : Hid (r = compareL ((piecesL s).drop 0) ((piecesL t).drop 0)) := by show _ = _; rw [hr]; unfold cmpL; rw [if_pos ⟨hrs, hrt⟩]; rfl
  generalize piecesL s = a at *
  generalize piecesL t = b at *
  obtain ⟨sx, hsx⟩ : ∃ sx : ByteArray, strc s = .string sx := ⟨_, rfl⟩
  obtain ⟨tx, htx⟩ : ∃ tx : ByteArray, strc t = .string tx := ⟨_, rfl⟩
  rw [hsx] at H1 H3 ⊢
  rw [htx] at H2 H4 ⊢
  clear hr hsx htx hrs hrt
  go_enter Tryz.func62, Tryz.ntmps62
  go_wp2_with fail
  refine (H1.out _).mono ?_
  rintro e w1 ⟨rfl, g1⟩
  have G1 := Lib.hid g1; clear g1
  go_wp2_with fail
  refine (H2.out _).mono ?_
  rintro e w2 ⟨rfl, g2⟩
  have G2 := Lib.hid (Gr.trans G1.out g2); clear g2
  go_wp2_with fail
  refine (H3.out _).mono ?_
  rintro e w3 ⟨v3, rfl, o3⟩
  obtain ⟨A3, c3, rfl, s3⟩ := o3.slice
  have hm3 := s3.max; have hc3 := s3.cap
  have S3 : Hid (Ws w3 A3 a.length c3 a) := s3
  have G3 := Lib.hid (Gr.trans G2.out o3.below)
  clear o3 s3
  go_wp2_with fail
  refine (H4.out _).mono ?_
  rintro e w4 ⟨v4, rfl, o4⟩
  obtain ⟨A4, c4, rfl, s4⟩ := o4.slice
  have hm4 := s4.max; have hc4 := s4.cap
  have S4 : Hid (Ws w4 A4 b.length c4 b) := s4
  have S3' : Hid (Ws w4 A3 a.length c3 a) := S3.out.mono o4.below
  have G4 := Lib.hid (Gr.trans G3.out o4.below)
  clear o4 s4 S3
  go_wp2_with fail
  go_loopw [7] (fun i wr => ∃ k : Nat, k ≤ a.length ∧ k ≤ b.length ∧ i = .int .i64 k ∧ Gr w4 wr ∧ r = compareL (a.drop k) (b.drop k)) (fun i _ => a.length - (intOf i).toNat)
  case atStart => exact ⟨0, Nat.zero_le _, Nat.zero_le _, rfl, Gr.refl _, HR.out⟩
  case round =>
    obtain ⟨k, hk, hkb0, rfl, g, hsame⟩ := hrel
    have HSM := Lib.hid hsame; have G := Lib.hid g; clear hsame
    have GF := Lib.hid (Gr.trans G4.out g)
    by_cases hka : k < a.length
    · by_cases hkb : k < b.length
      · obtain ⟨b1, o1, rfl, hc1⟩ := Ws.addr (S3'.out.mono g) (by omega)
        obtain ⟨b2, o2, rfl, hc2⟩ := Ws.addr (S4.out.mono g) (by omega)
        have c1 : wr.cell? ⟨b1, o1 + k, none⟩ = some _ := hc1 k hka
        have c2 : wr.cell? ⟨b2, o2 + k, none⟩ = some _ := hc2 k hkb
        have HST : Hid (r = if cmpB a[k] b[k] = 0 then compareL (a.drop (k + 1)) (b.drop (k + 1)) else cmpB a[k] b[k]) := HSM.out.trans (compare_step hka hkb)
        clear hc1 hc2 g
        generalize a[k] = x at *
        generalize b[k] = y at *
        obtain ⟨xs, hxs⟩ : ∃ xs : ByteArray, xs = ⟨x.toArray⟩ := ⟨_, rfl⟩
        obtain ⟨ys, hys⟩ : ∃ ys : ByteArray, ys = ⟨y.toArray⟩ := ⟨_, rfl⟩
        rw [← hxs] at c1
        rw [← hys] at c2
        have hxl : xs.toList = x := by rw [ByteArray.toList_eq, hxs]
        have hyl : ys.toList = y := by rw [ByteArray.toList_eq, hys]
        clear hxs hys
        unfold cmpB at HST
        rw [← hxl, ← hyl] at HST
        clear hxl hyl
        cases t1 : Op.bytesLess xs.toList ys.toList with
        | true =>
          have HE : Hid (r = -1) := by show _ = _; rw [HST.out, t1]; rfl
          go_wp2_with fail
          go_quiet (fail)
          go_wp2_with fail
          go_ret
          exact ⟨by rw [HE.out]; rfl, belowN GF.out _⟩
        | false =>
          cases t2 : (xs.toList == ys.toList) with
          | true =>
            have HE : Hid (r = compareL (a.drop (k + 1)) (b.drop (k + 1))) := by show _ = _; rw [HST.out, t1, t2]; rfl
            have hgt : ∀ W, Sem.run Tryz.prog (binOp .gtr 9 (.string xs) (.string ys)) W = .ok (.bool false) W := fun W => by rw [gtr_run, t1, t2]; rfl
            go_wp2_with fail
            go_quiet (fail)
            have d1 : (wr.drewN nq).cell? ⟨b1, o1 + k, none⟩ = some (.string xs) := c1
            have d2 : (wr.drewN nq).cell? ⟨b2, o2 + k, none⟩ = some (.string ys) := c2
            go_wp2_with fail
            go_quiet (fail)
            go_wp2_with fail
            refine ⟨⟨k + 1, by omega, by omega, by first | trivial | go_num, (by first | exact belowN (belowN G.out _) _ | exact belowN G.out _), HE.out⟩, ?_⟩
            show a.length - ((k : Int) + 1).toNat < a.length - (k : Int).toNat
            omega
          | false =>
            have HE : Hid (r = 1) := by show _ = _; rw [HST.out, t1, t2]; rfl
            have hgt : ∀ W, Sem.run Tryz.prog (binOp .gtr 9 (.string xs) (.string ys)) W = .ok (.bool true) W := fun W => by rw [gtr_run, t1, t2]; rfl
            go_wp2_with fail
            go_quiet (fail)
            have d1 : (wr.drewN nq).cell? ⟨b1, o1 + k, none⟩ = some (.string xs) := c1
            have d2 : (wr.drewN nq).cell? ⟨b2, o2 + k, none⟩ = some (.string ys) := c2
            go_wp2_with fail
            go_quiet (fail)
            go_wp2_with fail
            go_ret
            exact ⟨by rw [HE.out]; rfl, (by first | exact belowN (belowN GF.out _) _ | exact belowN GF.out _)⟩
      · have HE : Hid (r = 1) := HSM.out.trans (compare_more hka (by omega))
        have t3 : decide ((a.length : Int) < (b.length : Int)) = false := decide_eq_false (by omega)
        have t4 : decide ((b.length : Int) < (a.length : Int)) = true := decide_eq_true (by omega)
        clear g
        go_wp2_with fail
        go_ret
        exact ⟨by rw [HE.out]; rfl, GF.out⟩
    · have hke : a.length = k := by omega
      have HE : Hid (r = if k < b.length then -1 else 0) := HSM.out.trans (compare_end hke)
      clear g
      by_cases hkb : k < b.length
      · have HE2 : Hid (r = -1) := by show _ = _; rw [HE.out, if_pos hkb]
        have t3 : decide ((a.length : Int) < (b.length : Int)) = true := decide_eq_true (by omega)
        go_wp2_with fail
        go_ret
        exact ⟨by rw [HE2.out]; rfl, GF.out⟩
      · have HE2 : Hid (r = 0) := by show _ = _; rw [HE.out, if_neg hkb]
        have t3 : decide ((a.length : Int) < (b.length : Int)) = false := decide_eq_false (by omega)
        have t4 : decide ((b.length : Int) < (a.length : Int)) = false := decide_eq_false (by omega)
        go_wp2_with fail
        go_ret
        exact ⟨by rw [HE2.out]; rfl, GF.out⟩
def aheadB (a b : List UInt8) : Bool := decide (headC a b = -1)
set_option maxRecDepth 100000 in
set_option maxHeartbeats 1000000 in
theorem refAhead_any (s t : List UInt8) (w : World) (hs : s.length ≤ 100000) (ht : t.length ≤ 100000) : Calls Tryz.prog 31 #[strc s, strc t] w fun e w' => e = .returned (.bool (aheadB s t)) ∧ Gr w w' := by
  have H1 : Hid (∀ wr, Calls Tryz.prog 61 #[strc s] wr fun e w' => e = .returned (.bool (rightL s)) ∧ Gr wr w') := fun wr => refRight_any s wr hs
  have H2 : Hid (∀ wr, Calls Tryz.prog 61 #[strc t] wr fun e w' => e = .returned (.bool (rightL t)) ∧ Gr wr w') := fun wr => refRight_any t wr ht
  have H3 : Hid (rightL s = true → rightL t = true → ∀ wr, Calls Tryz.prog 62 #[strc s, strc t] wr fun e w' => e = .returned (.int .i64 (cmpL s t)) ∧ Gr wr w') := fun h1 h2 wr => refCmp_some s t wr hs ht h1 h2
  obtain ⟨r, hr⟩ : ∃ r, r = aheadB s t := ⟨_, rfl⟩
  rw [← hr]
  have HR : Hid (r = decide (headC s t = -1)) := hr
  have HB : Hid (∀ sx tx : ByteArray, strc s = .string sx → strc t = .string tx → Op.bytesLess sx.toList tx.toList = decide (cmpB s t = -1)) := fun sx tx h1 h2 => by
    injection h1 with h1
    injection h2 with h2
    subst h1 h2
    rw [ByteArray.toList_eq, ByteArray.toList_eq]
    cases hb : Op.bytesLess s t with
    | true => exact (decide_eq_true (cmpB_less.2 hb)).symm
    | false => exact (decide_eq_false (fun q => by rw [cmpB_less.1 q] at hb; cases hb)).symm
  obtain ⟨sx, hsx⟩ : ∃ sx : ByteArray, strc s = .string sx := ⟨_, rfl⟩
  obtain ⟨tx, htx⟩ : ∃ tx : ByteArray, strc t = .string tx := ⟨_, rfl⟩
  have HBX := Lib.hid (HB.out sx tx hsx htx)
  rw [hsx] at H1 H3 ⊢
  rw [htx] at H2 H3 ⊢
  clear hr hsx htx HB
  cases hrs : rightL s <;> cases hrt : rightL t
  case false.false =>
    have e : headC s t = cmpB s t := by simp [headC, hrs, hrt]
    rw [e, ← HBX.out] at HR
    rw [hrs] at H1; rw [hrt] at H2
    clear hrs hrt e H3
    obtain ⟨bl, hbl⟩ : ∃ bl, Op.bytesLess sx.toList tx.toList = bl := ⟨_, rfl⟩
    have HRR : Hid (r = bl) := by show _ = _; rw [HR.out, hbl]
    clear HR HBX
    go_enter Tryz.func31, Tryz.ntmps31
    go_wp2_with fail
    refine (H1.out _).mono ?_
    rintro e w1 ⟨rfl, g1⟩
    have G1 := Lib.hid g1; clear g1
    go_wp2_with fail
    refine (H2.out _).mono ?_
    rintro e w2 ⟨rfl, g2⟩
    have G2 := Lib.hid (Gr.trans G1.out g2); clear g2
    go_wp2_with fail
    go_ret
    exact ⟨by rw [HRR.out]; rfl, G2.out⟩
  case false.true =>
    have e : headC s t = -1 := by simp [headC, hrs, hrt]
    have HRR : Hid (r = true) := by show _ = _; rw [HR.out, e]; rfl
    rw [hrs] at H1; rw [hrt] at H2
    clear hrs hrt e H3 HR HBX
    go_enter Tryz.func31, Tryz.ntmps31
    go_wp2_with fail
    refine (H1.out _).mono ?_
    rintro e w1 ⟨rfl, g1⟩
    have G1 := Lib.hid g1; clear g1
    go_wp2_with fail
    refine (H2.out _).mono ?_
    rintro e w2 ⟨rfl, g2⟩
    have G2 := Lib.hid (Gr.trans G1.out g2); clear g2
    go_wp2_with fail
    go_ret
    exact ⟨by rw [HRR.out]; rfl, G2.out⟩
  case true.false =>
    have e : headC s t = 1 := by simp [headC, hrs, hrt]
    have HRR : Hid (r = false) := by show _ = _; rw [HR.out, e]; rfl
    rw [hrs] at H1; rw [hrt] at H2
    clear hrs hrt e H3 HR HBX
    go_enter Tryz.func31, Tryz.ntmps31
    go_wp2_with fail
    refine (H1.out _).mono ?_
    rintro e w1 ⟨rfl, g1⟩
    have G1 := Lib.hid g1; clear g1
    go_wp2_with fail
    refine (H2.out _).mono ?_
    rintro e w2 ⟨rfl, g2⟩
    have G2 := Lib.hid (Gr.trans G1.out g2); clear g2
    go_wp2_with fail
    go_ret
    exact ⟨by rw [HRR.out]; rfl, G2.out⟩
  case true.true =>
    have e : headC s t = cmpL s t := by simp [headC, hrs, hrt]
    obtain ⟨q, hq⟩ : ∃ q, q = cmpL s t := ⟨_, rfl⟩
    have hqc : q = -1 ∨ q = 0 ∨ q = 1 := by rw [hq]; exact cmpL_cases s t
    have H3q := Lib.hid (H3.out hrs hrt)
    rw [← hq] at H3q
    have HRR : Hid (r = decide (q = -1)) := by show _ = _; rw [HR.out, e, hq]
    rw [hrs] at H1; rw [hrt] at H2
    clear hrs hrt e H3 HR HBX hq
    have t1 : ∃ b, decide (q < 0) = b ∧ Hid (r = b) := ⟨_, rfl, by
      show _ = _
      rw [HRR.out]
      rcases hqc with rfl | rfl | rfl <;> rfl⟩
    obtain ⟨bb, t1, HBB⟩ := t1
    clear hqc HRR
    go_enter Tryz.func31, Tryz.ntmps31
    go_wp2_with fail
    refine (H1.out _).mono ?_
    rintro e w1 ⟨rfl, g1⟩
    have G1 := Lib.hid g1; clear g1
    go_wp2_with fail
    refine (H2.out _).mono ?_
    rintro e w2 ⟨rfl, g2⟩
    have G2 := Lib.hid (Gr.trans G1.out g2); clear g2
    go_wp2_with fail
    refine (H3q.out _).mono ?_
    rintro e w3 ⟨rfl, g3⟩
    have G3 := Lib.hid (Gr.trans G2.out g3); clear g3
    go_wp2_with fail
    go_ret
    exact ⟨by rw [HBB.out]; rfl, G3.out⟩
end Go.Proofs.YtfemhhjmfckicaaGreatDoor
