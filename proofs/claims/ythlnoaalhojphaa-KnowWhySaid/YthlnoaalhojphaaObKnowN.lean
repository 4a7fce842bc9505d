/- The reference's All and Opened. No condition. -/
import Derived.Test.YthlnoaalhojphaaObKnowM
import Derived.Outline
namespace Go.Proofs.Ythlnoaalhojphaa
open Go.RowKit
set_option linter.unusedVariables false
theorem startL_take (n : Nat) (l : List Int) (k : Nat) (hk : k < l.length) : startL n (l.take (k + 1)) = startOne n (startL n (l.take k)) (iAt l k) := by
  rw [List.take_succ_eq_append_getElem hk, startL_snoc, iAt_get hk]
theorem roundsL_succ (T : List Nd) (d : List Bool) (k : Nat) : roundsL T d (k + 1) = roundL T (roundsL T d k) := rfl
set_option maxRecDepth 100000 in
set_option maxHeartbeats 2000000 in
theorem refAll_any (A : Option Addr) (n c : Nat) (T : List Nd) (B : Option Addr) (m e : Nat) (l : List Int) (w : World) (h : RTb w A n c T) (hT : Parted T) (hK : Kinds T) (hn : n ≤ 1000) (hl : Is w B m e l) :
    Calls Try.prog 11 #[.slice A n c, .slice B m e] w (RetBls w (allL T l)) := by
  have hTl : T.length = n := h.1
  have HL := Lib.hid hTl
  have HH := Lib.hid h; have HI := Lib.hid hl; have HT := Lib.hid hT; have HK := Lib.hid hK
  have hc1 := h.cap; have hc2 := h.max
  have he1 := hl.cap; have he2 := hl.max
  have HLL := Lib.hid hl.len
  obtain ⟨n1, hn1⟩ : ∃ n1, n1 = n + 1 := ⟨_, rfl⟩
  have hmk : ∀ w, (Instr.makeSlice 34 (.int .i64 ((n : Int) + 1)) (.int .i64 ((n : Int) + 1))).run Try.prog w = .ok (.slice (some ⟨w.heap.size, 0, none⟩) n1 n1) (w.alloc (.cells (reps n1 (.bool false)).toArray 4)) := fun w => by
    have := run_mk tBools rfl n1 (by omega) w
    rwa [show ((n1 : Nat) : Int) = (n : Int) + 1 by omega] at this
  have HN1 := Lib.hid hn1
  clear h hl hT hK hTl hn1
  go_enter Try.func11, Try.ntmps11
  go_wp2_with fail
  clear hmk
  go_loopw [6] (fun i wr => ∃ k : Nat, k ≤ m ∧ i = .int .i64 k ∧ Blk wr w.heap.size 4 ((startL n (l.take k)).map boolc) ∧ Gr w wr) (fun i _ => m - (Go.RowKit.intOf i).toNat)
  case atStart =>
    refine ⟨0, Nat.zero_le _, rfl, ?_, Gr.alloc _ _⟩
    have h1 := Blk.new w 4 (reps n1 (.bool false)).toArray
    have e : (startL n (l.take 0)).map boolc = reps n1 (.bool false) := by
      rw [HN1.out]
      show (List.replicate (n + 1) false).map boolc = _
      rw [List.map_replicate]; rfl
    rw [e]; exact h1
  case round =>
    obtain ⟨k, hk, rfl, hb, hg⟩ := hrel
    have BK := Lib.hid hb; have G := Lib.hid hg; clear hb hg
    by_cases hlt : k < m
    · have t0 : decide ((k : Int) < (m : Int)) = true := decide_eq_true (by omega)
      obtain ⟨b, o, rfl, hcc⟩ := Is.addr (HI.out.mono G.out) (by omega)
      have c0 := hcc k hlt
      have HST := Lib.hid (startL_take n l k (by rw [HLL.out]; exact hlt))
      have hsl : (startL n (l.take k)).length = n + 1 := startL_len _ _
      clear hcc
      generalize iAt l k = z at *
      generalize startL n (l.take k) = d0 at *
      by_cases h1 : 1 ≤ z
      · have t1 : decide (1 ≤ z) = true := decide_eq_true h1
        by_cases h2 : z ≤ n
        · have t2 : decide (z ≤ (n : Int)) = true := decide_eq_true h2
          obtain ⟨q, rfl⟩ : ∃ q : Nat, z = (q : Int) := ⟨z.toNat, by omega⟩
          have hq : q < n + 1 := by omega
          have HS2 : Hid (startL n (l.take (k + 1)) = d0.set q true) := by
            show _ = _
            rw [HST.out]
            unfold startOne
            rw [if_pos ⟨h1, h2⟩]; rfl
          have z0 : wr.cell? ⟨w.heap.size, q, none⟩ = some (.bool (dAt d0 q)) := (BK.out.cell q).trans (boolc_at (by omega))
          have y0 := BK.out.free q
          have hlg := BK.out.lt
          have B2 : Hid (Blk (wr.setCell ⟨w.heap.size, q, none⟩ (.bool true)) w.heap.size 4 ((d0.set q true).map boolc)) := by
            show Blk _ _ _ _
            rw [List.map_set]
            exact BK.out.set q _
          have G2 := Lib.hid (G.out.setCell (p := ⟨w.heap.size, q, none⟩) (Nat.le_refl _) (.bool true))
          have hqn : (q : Int) < n1 := by have := HN1.out; omega
          clear h1 h2 hsl
          go_wp2_with fail
          refine ⟨⟨k + 1, by omega, by simp, ?_, G2.out⟩, by simp [Go.RowKit.intOf]; omega⟩
          rw [HS2.out]; exact B2.out
        · have t2 : decide (z ≤ (n : Int)) = false := decide_eq_false h2
          have HS2 : Hid (startL n (l.take (k + 1)) = d0) := by
            show _ = _
            rw [HST.out]
            unfold startOne
            rw [if_neg (fun q => h2 q.2)]
          clear h1 h2 hsl
          go_wp2_with fail
          refine ⟨⟨k + 1, by omega, by simp, ?_, G.out⟩, by simp [Go.RowKit.intOf]; omega⟩
          rw [HS2.out]; exact BK.out
      · have t1 : decide (1 ≤ z) = false := decide_eq_false h1
        have HS2 : Hid (startL n (l.take (k + 1)) = d0) := by
          show _ = _
          rw [HST.out]
          unfold startOne
          rw [if_neg (fun q => h1 q.1)]
        clear h1 hsl
        go_wp2_with fail
        refine ⟨⟨k + 1, by omega, by simp, ?_, G.out⟩, by simp [Go.RowKit.intOf]; omega⟩
        rw [HS2.out]; exact BK.out
    · obtain rfl : k = m := by omega
      have t0 : decide ((k : Int) < (k : Int)) = false := by simp
      have hBs : Bls wr (some ⟨w.heap.size, 0, none⟩) (n + 1) (n + 1) (startL n l) := by
        have h := BK.out
        rw [List.take_of_length_le (by rw [HLL.out]; exact Nat.le_refl _)] at h
        refine ⟨by simp [startL_len], Nat.le_refl _, by unfold maxLen; omega, fun _ => ⟨_, _, rfl, fun j u hu => ?_⟩⟩
        rw [Nat.zero_add, h.cell]; exact hu
      have BS := Lib.hid hBs; have GR := Lib.hid G.out
      obtain rfl : n1 = n + 1 := HN1.out
      have HSL : Hid ((startL n l).length = n + 1) := startL_len _ _
      clear hBs BK G
      go_wp2_with fail
      go_loopw [5, 7] (fun v i wr => ∃ (q : Nat) (A' : Option Addr) (c' : Nat), q ≤ 2 * n + 2 ∧ i = .int .i64 q ∧ v = .slice A' (n + 1) c' ∧ Bls wr A' (n + 1) c' (roundsL T (startL n l) q) ∧ Gr w wr) (fun _ i _ => 2 * n + 2 - (Go.RowKit.intOf i).toNat)
      case atStart => exact ⟨0, _, _, Nat.zero_le _, rfl, rfl, BS.out, GR.out⟩
      case round =>
        obtain ⟨q, A', c', hq, rfl, rfl, hbs, hg⟩ := hrel
        obtain ⟨wx, rfl⟩ : ∃ wx : World, wx = wr := ⟨_, rfl⟩
        have BS2 := Lib.hid hbs; have G := Lib.hid hg; clear hbs hg
        have hbc := BS2.out.cap; have hbm := BS2.out.max
        by_cases hlq : q < 2 * n + 2
        · have t3 : decide ((q : Int) ≤ 2 * (n : Int) + 1) = true := decide_eq_true (by omega)
          have HR := Lib.hid (refRound_any A n c T A' c' (roundsL T (startL n l) q) wx (HH.out.mono G.out) HT.out HK.out hn BS2.out)
          have HRL : Hid ((roundL T (roundsL T (startL n l) q)).length = n + 1) := by show _ = _; unfold roundL; rw [roundTo_len, roundsL_len, HSL.out]
          go_wp2_with fail
          refine HR.out.mono ?_
          rintro e w2 ⟨A2, c2, rfl, s2, g2⟩
          rw [HRL.out] at s2 ⊢
          have S2 := Lib.hid s2; have G2 := Lib.hid (G.out.trans g2); clear s2 g2
          go_wp2_with fail
          exact ⟨⟨q + 1, A2, c2, by omega, by simp, rfl, S2.out, G2.out⟩, by simp [Go.RowKit.intOf]; omega⟩
        · obtain rfl : q = 2 * n + 2 := by omega
          have t3 : decide (((2 * n + 2 : Nat) : Int) ≤ 2 * (n : Int) + 1) = false := decide_eq_false (by omega)
          have t4 : decide (2 * (n : Int) + 2 ≤ 2 * (n : Int) + 1) = false := decide_eq_false (by omega)
          have HRL : Hid ((roundsL T (startL n l) (2 * n + 2)).length = n + 1) := by show _ = _; rw [roundsL_len, HSL.out]
          go_wp2_with fail
          go_ret
          refine ⟨A', c', ?_, ?_, G.out⟩
          · unfold allL; rw [HL.out, HRL.out]; rfl
          · unfold allL; rw [HL.out, HRL.out]; exact BS2.out
theorem openB_zero (T : List Nd) (d : List Bool) : openB T d 0 = false := by unfold openB; rw [kindOf_zero]; simp
theorem openedTo_one (T : List Nd) (d : List Bool) : openedTo T d 1 = [] := by rw [openedTo_snoc, openB_zero]; rfl
def RetOwnI (w : World) (l : List Int) (e : Ending) (w' : World) : Prop := ∃ A c, e = .returned (.slice A l.length c) ∧ Is w' A l.length c l ∧ Gr w w'
set_option maxRecDepth 100000 in
set_option maxHeartbeats 2000000 in
theorem refOpened_any (A : Option Addr) (n c : Nat) (T : List Nd) (D : Option Addr) (dc : Nat) (d : List Bool) (w : World) (h : RTb w A n c T) (hT : Parted T) (hK : Kinds T) (hn : n ≤ 1000) (hd : Bls w D (n + 1) dc d) :
    Calls Try.prog 16 #[.slice A n c, .slice D (n + 1) dc] w (RetOwnI w (openedTo T d (n + 1))) := by
  have hTl : T.length = n := h.1
  have HL := Lib.hid hTl
  have HH := Lib.hid h; have HT := Lib.hid hT; have HK := Lib.hid hK
  have hc1 := h.cap; have hc2 := h.max
  have he1 := hd.cap; have he2 := hd.max
  have HDL : Hid (d.length = n + 1) := by show _ = _; have := hd.1; simpa using this
  obtain ⟨b, o, rfl, hcc⟩ := hd.addr (by omega)
  have HC := Lib.hid hcc
  clear h hd hT hK hTl hcc
  go_enter Try.func16, Try.ntmps16
  go_wp2_with fail
  go_loopw [5, 6] (fun v i wr => ∃ j : Nat, 1 ≤ j ∧ j ≤ n + 1 ∧ i = .int .i64 j ∧ Own w wr 3 1 v (openedTo T d j).length ((openedTo T d j).map i64c)) (fun _ i _ => n + 1 - (Go.RowKit.intOf i).toNat)
  case atStart => exact ⟨1, Nat.le_refl _, by omega, rfl, by rw [openedTo_one]; exact Own.nil _ _ _⟩
  case round =>
    obtain ⟨j, hj1, hjn, rfl, hown⟩ := hrel
    have OW := Lib.hid hown; clear hown
    have HSN := Lib.hid (openedTo_snoc T d j)
    by_cases hlt : j ≤ n
    · have t0 : decide ((j : Int) ≤ (n : Int)) = true := decide_eq_true (by omega)
      have hg : Gr w wr := OW.out.2
      have ci0 := HC.out j _ (boolc_at (by rw [HDL.out]; omega))
      have ci := (Below.cell hg (World.block_lt_of_cell? w _ ci0)).trans ci0
      have HG := Lib.hid hg
      have HKC := Lib.hid (refKind_any A n c T (j : Int) wr (HH.out.mono hg))
      have HPC := Lib.hid (refParts_any A n c T (j : Int) wr (HH.out.mono hg) HK.out)
      clear ci0 hg
      by_cases h5 : kindOf T (j : Int) = 5
      · obtain ⟨a, b', hpe, ha1, ha2, hb1, hb2, hjl⟩ := parts5 HT.out h5
        rw [h5] at HKC
        rw [hpe] at HPC
        have ca0 := HC.out a _ (boolc_at (by rw [HDL.out]; omega))
        have CA : Hid (∀ wq, Gr wr wq → wq.cell? ⟨b, o + a, none⟩ = some (.bool (dAt d a))) := fun wq hq => (Below.cell (HG.out.trans hq) (World.block_lt_of_cell? w _ ca0)).trans ca0
        have hlaN : a < n + 1 := by omega
        cases hd0 : dAt d j with
        | false =>
          rw [hd0] at ci
          have HO : Hid (openB T d j = false) := by show _ = _; unfold openB; rw [hd0]; rfl
          clear hd0 hpe ca0 hb1 hb2 h5
          go_wp2_with fail
          refine HKC.out.mono ?_
          rintro e w2 ⟨rfl, h2⟩
          obtain rfl : wr = w2 := h2.symm
          go_wp2_with fail
          refine ⟨⟨j + 1, by omega, by omega, by simp, ?_⟩, by simp [Go.RowKit.intOf]; omega⟩
          rw [HSN.out, HO.out]
          simpa using OW.out
        | true =>
          rw [hd0] at ci
          have HOB : Hid (openB T d j = dAt d a) := by show _ = _; unfold openB; rw [hd0, h5, hpe]; simp
          clear hd0 h5 hpe ca0 hb1 hb2
          go_wp2_with fail
          refine HKC.out.mono ?_
          rintro e w2 ⟨rfl, h2⟩
          obtain rfl : wr = w2 := h2.symm
          clear h2
          go_wp2_with fail
          refine HPC.out.mono ?_
          rintro e w3 ⟨A3, c3, rfl, i3, g3, _⟩
          have hc3 := i3.cap; have hm3 := i3.max
          obtain ⟨b3, o3, rfl, hc3'⟩ := Is.addr i3 (by simp)
          have u0 : w3.cell? ⟨b3, o3, none⟩ = some (.int .i64 (a : Int)) := hc3' 0 (by simp)
          have ca := CA.out w3 g3
          have G3 := Lib.hid g3
          clear i3 g3 hc3' ci
          simp only [List.map_cons, List.map_nil, List.length_cons, List.length_nil] at hc3 ⊢
          cases hda : dAt d a with
          | false =>
            rw [hda] at ca
            rw [hda] at HOB
            clear hda
            go_wp2_with fail
            refine ⟨⟨j + 1, by omega, by omega, by simp, ?_⟩, by simp [Go.RowKit.intOf]; omega⟩
            rw [HSN.out, HOB.out]
            simpa using OW.out.mono G3.out
          | true =>
            rw [hda] at ca
            rw [hda] at HOB
            clear hda
            have hol := openedTo_len T d j
            go_wp2_with (at_builtin; go_loud (refine wpList_pushAtG (n := (openedTo T d j).length) rfl _ _ 23 rfl tNums rfl (OW.out.mono G3.out) _ (by simp) #[_] rfl rfl (by intro u hu; simp at hu; subst hu; rfl) (by omega) ?_); intro v1 w5 own1 tn1)
            refine ⟨⟨j + 1, by omega, by omega, by simp, ?_⟩, by simp [Go.RowKit.intOf]; omega⟩
            rw [HSN.out, HOB.out]
            simpa [i64c] using own1
      · have HO : Hid (openB T d j = false) := by show _ = _; unfold openB; simp [h5]
        have t5 : ((kindOf T (j : Int) : Int) == 5) = false := by rw [beq_eq_false_iff_ne]; omega
        clear h5
        generalize kindOf T (j : Int) = q at HKC t5
        go_wp2_with fail
        refine HKC.out.mono ?_
        rintro e w2 ⟨rfl, h2⟩
        obtain rfl : wr = w2 := h2.symm
        go_wp2_with fail
        refine ⟨⟨j + 1, by omega, by omega, by simp, ?_⟩, by simp [Go.RowKit.intOf]; omega⟩
        rw [HSN.out, HO.out]
        simpa using OW.out
    · obtain rfl : j = n + 1 := by omega
      have t0 : decide (((n + 1 : Nat) : Int) ≤ (n : Int)) = false := decide_eq_false (by omega)
      obtain ⟨A9, c9, rfl, s9⟩ := OW.out.slice
      have S9 := Lib.hid s9; clear s9
      go_wp2_with fail
      go_ret
      exact ⟨A9, c9, rfl, S9.out, OW.out.2⟩
end Go.Proofs.Ythlnoaalhojphaa
