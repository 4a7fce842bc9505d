/- The reference's round. No condition. -/
import Derived.Test.YthlnoaalhojphaaObKnowK
import Derived.Outline
namespace Go.Proofs.Ythlnoaalhojphaa
open Go.RowKit
set_option linter.unusedVariables false
def RetBls (w : World) (d : List Bool) (e : Ending) (w' : World) : Prop := ∃ A c, e = .returned (.slice A d.length c) ∧ Bls w' A d.length c d ∧ Gr w w'
theorem one_bools (l : List Bool) : ∀ u ∈ l.map boolc, u.oneCell' = true := by intro u hu; obtain ⟨x, _, rfl⟩ := List.mem_map.1 hu; rfl
set_option maxRecDepth 100000 in
set_option maxHeartbeats 2000000 in
theorem refRound_any (A : Option Addr) (n c : Nat) (T : List Nd) (D : Option Addr) (dc : Nat) (d : List Bool) (w : World) (h : RTb w A n c T) (hT : Parted T) (hK : Kinds T) (hn : n ≤ 1000) (hd : Bls w D (n + 1) dc d) :
    Calls Try.prog 27 #[.slice A n c, .slice D (n + 1) dc] w (RetBls w (roundL T d)) := by
  have hl : T.length = n := h.1
  have HL := Lib.hid hl
  have HH := Lib.hid h; have HD := Lib.hid hd; have HT := Lib.hid hT; have HK := Lib.hid hK
  have hdl : d.length = n + 1 := by have := hd.1; simpa using this
  have HDL := Lib.hid hdl
  have hdc := hd.cap; have hdm := hd.max
  have hc1 := h.cap; have hc2 := h.max
  have HB : Hid (∀ w : World, Own w (w.alloc (.cells #[] 4)) 4 1 (.slice (some ⟨w.heap.size, 0, none⟩) 0 0) 0 []) := fun w =>
    (Blk.new w 4 #[]).own (Nat.le_refl _) ((Below.refl _ _).alloc (Nat.le_refl _) _) rfl (Nat.zero_le _)
  clear h hd hT hK hl hdl
  go_enter Try.func27, Try.ntmps27
  go_wp2_with (at_builtin; refine wpList_cat rfl (.tmp 10) (.tmp 11) 34 rfl tBools rfl (HB.out w) rfl (HD.out.mono ((Below.refl _ _).alloc (Nat.le_refl _) _)) (one_bools d) (by have := HDL.out; omega) ?_; intro v1 w1 O1)
  rw [Nat.zero_add, List.nil_append] at O1
  obtain ⟨g, cap, rest, rfl, hg, hbk, hnc, hcm, hlen⟩ := O1.opened (by omega)
  have BK := Lib.hid hbk; have B1 := Lib.hid O1.2; have HG := Lib.hid hg; have HLE := Lib.hid hlen
  clear hbk hlen O1
  go_loopw [6] (fun i wr => ∃ k : Nat, 1 ≤ k ∧ k ≤ n + 1 ∧ i = .int .i64 k ∧ Blk wr g 4 ((roundTo T d (k - 1)).map boolc ++ rest) ∧ Gr w wr) (fun i _ => n + 1 - (Go.RowKit.intOf i).toNat)
  case atStart => exact ⟨1, Nat.le_refl _, by omega, rfl, BK.out, B1.out⟩
  case round =>
    obtain ⟨k, hk1, hkn, rfl, hbk, hgr⟩ := hrel
    obtain ⟨wo, rfl⟩ : ∃ wo : World, wo = wr := ⟨_, rfl⟩
    have BO := Lib.hid hbk; have G := Lib.hid hgr; clear hbk hgr BK B1
    by_cases hlt : k ≤ n
    · have t0 : decide ((k : Int) ≤ (n : Int)) = true := decide_eq_true (by omega)
      obtain ⟨i, hki⟩ : ∃ i, k = i + 1 := ⟨k - 1, by omega⟩
      have hil : i < T.length := by have := HL.out; omega
      obtain ⟨x, hx⟩ : ∃ x, T[i]? = some x := ⟨_, List.getElem?_eq_getElem hil⟩
      have hks := kindOf_succ hx
      rw [← hki] at hks
      have hP := HT.out i x hx
      have HX := Lib.hid hx; have HKI := Lib.hid hki
      have HKC : Hid (∀ wq, Gr wo wq → Calls Try.prog 31 #[.slice A n c, .int .i64 (k : Int)] wq fun e w' => e = .returned (.int .i64 (x.k : Int)) ∧ w' = wq) := fun wq hq => by
        have := refKind_any A n c T (k : Int) wq (HH.out.mono (G.out.trans hq))
        rwa [hks.1] at this
      have HPC : Hid (∀ wq, Gr wo wq → Calls Try.prog 32 #[.slice A n c, .int .i64 (k : Int)] wq fun e w' => RetInts wq (x.parts.map Int.ofNat) e w') := fun wq hq => by
        have := refParts_any A n c T (k : Int) wq (HH.out.mono (G.out.trans hq)) HK.out
        rwa [hks.2] at this
      have HPS := Lib.hid hP.2
      have hxk := hP.1
      clear hx hki hks hP
      go_wp2_with fail
      refine (HPC.out _ (Gr.refl _)).mono ?_
      rintro e w2 ⟨A2, c2, rfl, i2, g2, f2⟩
      have F2 := Lib.hid f2
      have I2 := Lib.hid i2; have G2 := Lib.hid g2; have hc2' := i2.cap; have hm2 := i2.max
      obtain ⟨m, hm⟩ : ∃ m, m = (x.parts.map Int.ofNat).length := ⟨_, rfl⟩
      rw [← hm] at I2 hc2' ⊢
      have HM := Lib.hid hm
      have hm2' : m ≤ 2 := by rw [hm]; unfold Nd.parts; (repeat' split) <;> simp
      clear i2 g2 hm f2
      go_wp2_with fail
      refine (HKC.out _ G2.out).mono ?_
      rintro e w3 ⟨rfl, h3⟩
      obtain rfl : w2 = w3 := h3.symm
      go_wp2_with fail
      have hpl : x.parts.length = m := by have := HM.out; simpa using this.symm
      have HPL := Lib.hid hpl; clear hpl
      have hln : ∀ p ∈ x.parts, p < n + 1 := fun p hp => by have := (HPS.out p hp).2; have := HL.out; omega
      have HLN := Lib.hid hln; clear hln
      go_loop [8, 9] (fun v j => ∃ (i2 : Nat) (b : Bool), i2 ≤ m ∧ j = .int .i64 i2 ∧ v = .bool b ∧ b = (decide (x.k ≠ 1) && (x.parts.take i2).all (dAt d))) (fun _ j => m - (Go.RowKit.intOf j).toNat)
      case atStart => exact ⟨0, _, Nat.zero_le _, rfl, rfl, by
        rw [List.take_zero, List.all_nil, Bool.and_true]
        rw [Bool.eq_iff_iff, bne_iff_ne, decide_eq_true_iff]
        omega⟩
      case round =>
        obtain ⟨i2, b, hi2, rfl, rfl, hb⟩ := hrel
        have HB := Lib.hid hb; clear hb
        by_cases hlt2 : i2 < m
        · have t2 : decide ((i2 : Int) < (m : Int)) = true := decide_eq_true (by omega)
          have hip : i2 < x.parts.length := by rw [HPL.out]; exact hlt2
          have HSN : Hid ((x.parts.take (i2 + 1)).all (dAt d) = ((x.parts.take i2).all (dAt d) && dAt d x.parts[i2])) := by
            show _ = _
            rw [List.take_succ_eq_append_getElem hip, List.all_append]; simp
          cases b with
          | false =>
            go_wp2_with fail
            refine ⟨⟨i2 + 1, false, by omega, by simp, rfl, ?_⟩, by simp [Go.RowKit.intOf]; omega⟩
            rw [HSN.out, ← Bool.and_assoc, ← HB.out]; rfl
          | true =>
            obtain ⟨b2, o2, rfl, hcc⟩ := Is.addr I2.out (by omega)
            have u0 := hcc i2 (by omega)
            have e1 : iAt (x.parts.map Int.ofNat) i2 = (x.parts[i2] : Int) := by rw [iAt_get (by simpa using hip)]; simp
            rw [e1] at u0
            obtain ⟨bd, od, rfl, hdc⟩ := Sl.addr HD.out (by omega)
            have hpn := HLN.out _ (List.getElem_mem hip)
            have u1' := hdc x.parts[i2] _ (boolc_at (by rw [HDL.out]; exact hpn))
            have u1 := (Below.cell (G.out.trans G2.out) (World.block_lt_of_cell? w _ u1')).trans u1'
            clear hcc e1 hdc u1'
            generalize x.parts[i2] = p at *
            go_wp2_with fail
            refine ⟨⟨i2 + 1, dAt d p, by omega, by simp, rfl, ?_⟩, by simp [Go.RowKit.intOf]; omega⟩
            rw [HSN.out, ← Bool.and_assoc, ← HB.out]; rfl
        · obtain rfl : i2 = m := by omega
          have t2 : decide ((i2 : Int) < (i2 : Int)) = false := by simp
          have hb2 : b = (decide (x.k ≠ 1) && x.parts.all (dAt d)) := by
            have := HB.out
            rwa [List.take_of_length_le (by rw [HPL.out]; exact Nat.le_refl _)] at this
          have HB2 := Lib.hid hb2; clear hb2
          have hol : (roundTo T d (k - 1)).length = n + 1 := by rw [roundTo_len, HDL.out]
          have HRN : Hid (roundTo T d k = roundOne d (roundTo T d (k - 1)) k x) := by
            show _ = _
            rw [HKI.out, Nat.add_sub_cancel]
            conv => lhs; unfold roundTo
            rw [HX.out]
          obtain ⟨out, hout⟩ : ∃ out, out = roundTo T d (k - 1) := ⟨_, rfl⟩
          rw [← hout] at HRN hol BO
          have B2 := Lib.hid (G2.out.blk BO.out)
          have y0 := B2.out.free k
          have hlg := B2.out.lt
          have x0 : w2.cell? ⟨g, k, none⟩ = some (.bool (dAt out k)) := (B2.out.cell k).trans (at_left (boolc_at (by omega)))
          have HOL := Lib.hid hol
          obtain ⟨w4, hw4⟩ : ∃ w4, w4 = w2.setCell ⟨g, k, none⟩ (.bool (dAt out k || b)) := ⟨_, rfl⟩
          have B4 : Hid (Blk w4 g 4 ((out.set k (dAt out k || b)).map boolc ++ rest)) := by
            show Blk _ _ _ _
            rw [hw4, List.map_set, ← set_left _ _ _ _ (by simp; omega)]
            exact B2.out.set k _
          have G4 : Hid (Gr w w4) := by
            show Gr _ _
            rw [hw4]
            exact (G.out.trans G2.out).setCell (p := ⟨g, k, none⟩) hg _
          have HRN2 : Hid (roundTo T d k = if x.k = 5 ∧ dAt d k = true ∧ dAt d x.a = true then (out.set k (dAt out k || b)).set x.b true else out.set k (dAt out k || b)) := by
            show _ = _
            rw [HRN.out, HB2.out]; rfl
          have HKC4 := Lib.hid (refKind_any A n c T (k : Int) w4 (HH.out.mono G4.out))
          have I4 : Hid (Is w4 A2 i2 c2 (x.parts.map Int.ofNat)) := I2.out.tch (by decide) (S := fun b => b = g) (by rw [hw4]; exact Tch.set _ _ rfl) (fun h0 b' o' e q => by
            have h1 := F2.out b' o' e
            have h2 := BO.out.lt
            omega)
          have hki := HKI.out
          have hkk : (kindOf T (k : Int) : Int) = (x.k : Int) := by rw [hki, (kindOf_succ HX.out).1]
          rw [hkk] at HKC4
          have HW4 := Lib.hid hw4
          clear hout hol hw4 hki hkk HKC HPC
          obtain ⟨bd, od, rfl, hdc'⟩ := Sl.addr HD.out (by omega)
          have DC : Hid (∀ j, j < n + 1 → w4.cell? ⟨bd, od + j, none⟩ = some (.bool (dAt d j))) := fun j hj => by
            have h := hdc' j _ (boolc_at (by rw [HDL.out]; exact hj))
            exact (Below.cell G4.out (World.block_lt_of_cell? w _ h)).trans h
          clear hdc'
          have ck := DC.out k (by omega)
          cases ho : dAt out k
          all_goals
            rw [ho] at x0 HW4
            simp only [Bool.false_or, Bool.true_or] at HW4
            clear ho
            go_wp2_with fail
            rw [← HW4.out]
            refine HKC4.out.mono ?_
            rintro e w5 ⟨rfl, h5⟩
            obtain rfl : w4 = w5 := h5.symm
            clear HKC4 h5 x0 y0 hlg HW4
            obtain ⟨out1, ho1⟩ : ∃ o, o = out.set k (dAt out k || b) := ⟨_, rfl⟩
            rw [← ho1] at B4 HRN2
            have HO1 : Hid (out1.length = n + 1) := by show _ = _; rw [ho1, List.length_set, HOL.out]
            clear ho1
            by_cases h5 : x.k = 5
            · have hp2 : x.parts = [x.a, x.b] := by simp [Nd.parts, h5]
              rw [h5]
              have hla := HLN.out x.a (by rw [hp2]; simp)
              have hlb := HLN.out x.b (by rw [hp2]; simp)
              have hm2 : i2 = 2 := by rw [← HPL.out, hp2]; rfl
              subst hm2
              rw [hp2] at I4
              obtain ⟨b2, o2, rfl, hcc⟩ := Is.addr I4.out (by omega)
              have u0 : w4.cell? ⟨b2, o2, none⟩ = some (.int .i64 (x.a : Int)) := hcc 0 (by omega)
              have u1 : w4.cell? ⟨b2, o2 + 1, none⟩ = some (.int .i64 (x.b : Int)) := hcc 1 (by omega)
              have ca := DC.out x.a hla
              have H5 := Lib.hid h5
              clear hcc hp2 h5
              cases hdk : dAt d k with
              | false =>
                rw [hdk] at ck
                have HR3 : Hid (roundTo T d k = out1) := HRN2.out.trans (if_neg (by rw [hdk]; simp))
                clear hdk
                go_wp2_with fail
                refine ⟨⟨k + 1, by omega, by omega, by simp, ?_, G4.out⟩, by simp [Go.RowKit.intOf]; omega⟩
                rw [show k + 1 - 1 = k by omega, HR3.out]
                exact B4.out
              | true =>
                rw [hdk] at ck
                have HDK := Lib.hid hdk; clear hdk
                cases hda : dAt d x.a with
                | false =>
                  rw [hda] at ca
                  have HR3 : Hid (roundTo T d k = out1) := HRN2.out.trans (if_neg (by rw [hda]; simp))
                  clear hda
                  go_wp2_with fail
                  refine ⟨⟨k + 1, by omega, by omega, by simp, ?_, G4.out⟩, by simp [Go.RowKit.intOf]; omega⟩
                  rw [show k + 1 - 1 = k by omega, HR3.out]
                  exact B4.out
                | true =>
                  rw [hda] at ca
                  have HR3 : Hid (roundTo T d k = out1.set x.b true) := HRN2.out.trans (if_pos ⟨H5.out, HDK.out, hda⟩)
                  clear hda
                  have z0 : w4.cell? ⟨g, x.b, none⟩ = some (.bool (dAt out1 x.b)) := (B4.out.cell x.b).trans (at_left (boolc_at (by rw [HO1.out]; exact hlb)))
                  have y1 := B4.out.free x.b
                  have hl4 := B4.out.lt
                  have B6 : Hid (Blk (w4.setCell ⟨g, x.b, none⟩ (.bool true)) g 4 ((out1.set x.b true).map boolc ++ rest)) := by
                    show Blk _ _ _ _
                    rw [List.map_set, ← set_left _ _ _ _ (by rw [List.length_map, HO1.out]; exact hlb)]
                    exact B4.out.set x.b _
                  have G6 := Lib.hid (G4.out.setCell (p := ⟨g, x.b, none⟩) HG.out (.bool true))
                  go_wp2_with fail
                  refine ⟨⟨k + 1, by omega, by omega, by simp, ?_, G6.out⟩, by simp [Go.RowKit.intOf]; omega⟩
                  rw [show k + 1 - 1 = k by omega, HR3.out]
                  exact B6.out
            · have t5 : ((x.k : Int) == 5) = false := by rw [beq_eq_false_iff_ne]; omega
              have HR3 : Hid (roundTo T d k = out1) := HRN2.out.trans (if_neg (fun q => h5 q.1))
              clear h5
              go_wp2_with fail
              refine ⟨⟨k + 1, by omega, by omega, by simp, ?_, G4.out⟩, by simp [Go.RowKit.intOf]; omega⟩
              rw [show k + 1 - 1 = k by omega, HR3.out]
              exact B4.out
    · obtain rfl : k = n + 1 := by omega
      have t0 : decide (((n + 1 : Nat) : Int) ≤ (n : Int)) = false := decide_eq_false (by omega)
      have e0 : n + 1 - 1 = n := rfl
      have BO2 := BO.out
      rw [e0] at BO2
      have hln : (roundTo T d n).length = n + 1 := by rw [roundTo_len, HDL.out]
      have HOW := Lib.hid (BO2.closed (s := 1) (n := n + 1) G.out HG.out hnc hcm (by have := HLE.out; have h2 := HDL.out; simp at this ⊢; omega) (by simp [hln]))
      have HLN9 := Lib.hid hln
      clear e0 BO2 hln
      go_wp2_with fail
      go_ret
      obtain ⟨A9, c9, e9, s9⟩ := HOW.out.slice
      injection e9 with e91 e92 e93
      refine ⟨some ⟨g, 0, none⟩, cap, ?_, ?_, G.out⟩
      · unfold roundL; rw [HL.out, HLN9.out]; rfl
      · unfold roundL; rw [HL.out, HLN9.out, e91, e93]; exact s9
end Go.Proofs.Ythlnoaalhojphaa
