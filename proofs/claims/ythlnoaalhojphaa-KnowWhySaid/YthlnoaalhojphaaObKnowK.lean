/- Who knows terms: Opened. No condition. -/
import Derived.Test.YthlnoaalhojphaaObKnowJ
import Derived.Outline
namespace Go.Proofs.Ythlnoaalhojphaa
open Go.RowKit
set_option linter.unusedVariables false
def openB (T : List Nd) (d : List Bool) (id : Nat) : Bool := dAt d id && (decide (kindOf T (id : Int) = 5) && dAt d ((partsOf T (id : Int)).getD 0 0))
def openedTo (T : List Nd) (d : List Bool) (k : Nat) : List Int := ((List.range k).filter (openB T d)).map Int.ofNat
theorem openedTo_snoc (T : List Nd) (d : List Bool) (k : Nat) : openedTo T d (k + 1) = openedTo T d k ++ if openB T d k then [(k : Int)] else [] := by
  unfold openedTo
  rw [List.range_succ, List.filter_append, List.map_append]
  cases h : openB T d k <;> simp [h]
theorem openedTo_len (T : List Nd) (d : List Bool) (k : Nat) : (openedTo T d k).length ≤ k := by
  unfold openedTo
  rw [List.length_map]
  have := List.length_filter_le (openB T d) (List.range k)
  simpa using this
/-- A sealed one's first part. -/
theorem parts5 {T : List Nd} (hT : Parted T) {k : Nat} (h5 : kindOf T (k : Int) = 5) : ∃ a b : Nat, partsOf T (k : Int) = [a, b] ∧ 1 ≤ a ∧ a < k ∧ 1 ≤ b ∧ b < k ∧ k ≤ T.length := by
  cases k with
  | zero => rw [show ((0 : Nat) : Int) = (0 : Nat) from rfl, kindOf_zero] at h5; cases h5
  | succ i =>
    cases hx : T[i]? with
    | none =>
      unfold kindOf at h5
      have ho : outside T.length ((i + 1 : Nat) : Int) = true := by
        have : T.length ≤ i := by simpa using hx
        unfold outside; simp; omega
      rw [ho] at h5
      simp at h5
    | some x =>
      have hk := kindOf_succ hx
      rw [hk.1] at h5
      have hl := (List.getElem?_eq_some_iff.1 hx).1
      have hp := (hT i x hx).2
      have he : x.parts = [x.a, x.b] := by simp [Nd.parts, h5]
      rw [he] at hp
      have h1 := hp x.a (by simp)
      have h2 := hp x.b (by simp)
      exact ⟨x.a, x.b, hk.2.trans he, h1.1, by omega, h2.1, by omega, by omega⟩
def RetOpened (w0 w : World) (gk g bk N : Nat) (T : List Nd) (l : List Int) (e : Ending) (w' : World) : Prop := ∃ A c d vk vp vi, Tells T (InL l) d ∧ e = .returned (.slice A (openedTo T d (T.length + 1)).length c) ∧ Is w' A (openedTo T d (T.length + 1)).length c (openedTo T d (T.length + 1)) ∧ KnF w0 w' gk g bk N T l vk vp vi ∧ Tch (KS gk bk) w w'
set_option maxRecDepth 100000 in
set_option maxHeartbeats 2000000 in
theorem opened_any (w0 : World) (gk g bk N : Nat) (T : List Nd) (l : List Int) (vk vp vi : Value) (w : World) (h : KnF w0 w gk g bk N T l vk vp vi) (ht : KnT w0 g T l) :
    Calls Try.prog 15 #[.pointer (some ⟨gk, 0, none⟩)] w (RetOpened w0 w gk g bk N T l) := by
  have HT := Lib.hid ht
  have HA := Lib.hid (all_any w0 gk g bk N T l vk vp vi w h ht)
  have hn := ht.n
  clear h ht
  go_enter Try.func15, Try.ntmps15
  go_wp2_with fail
  refine HA.out.mono ?_
  rintro e w1 ⟨A, c, d, vk1, vp1, vi1, rfl, hs, htl, hk1, ht1⟩
  have hcap := hs.cap; have hmx := hs.max
  obtain ⟨b, o, rfl, hcc⟩ := hs.addr (by omega)
  have TL := Lib.hid htl; have K1 := Lib.hid hk1; have T1 := Lib.hid ht1; have HS := Lib.hid hs; have HC := Lib.hid hcc
  obtain ⟨n, hN⟩ : ∃ n, n = T.length + 1 := ⟨_, rfl⟩
  rw [← hN] at hcap ⊢
  have hn' : n ≤ 1001 := by omega
  have HN := Lib.hid hN
  clear htl hk1 ht1 hs hcc hN hn
  go_wp2_with fail
  go_loopw [2, 11] (fun v i wr => ∃ j : Nat, j ≤ n ∧ i = .int .i64 j ∧ Own w1 wr 3 1 v (openedTo T d j).length ((openedTo T d j).map i64c)) (fun _ i _ => n - (Go.RowKit.intOf i).toNat)
  case atStart => exact ⟨0, Nat.zero_le _, rfl, Own.nil _ _ _⟩
  case round =>
    obtain ⟨j, hjn, rfl, hown⟩ := hrel
    have OW := Lib.hid hown; clear hown
    have HSN := Lib.hid (openedTo_snoc T d j)
    by_cases hlt : j < n
    · have t0 : decide ((j : Int) < (n : Int)) = true := decide_eq_true (by omega)
      have hg : Gr w1 wr := OW.out.2
      have ci0 := HC.out j _ (boolc_at (by rw [TL.out.1, ← HN.out]; exact hlt))
      have ci := (Below.cell hg (World.block_lt_of_cell? w1 _ ci0)).trans ci0
      have c0 : wr.cell? ⟨gk, 0, none⟩ = some (.pointer (some ⟨g, 0, none⟩)) := ((hg.blk K1.out.blk).cell 0).trans rfl
      have HG := Lib.hid hg
      have HKC : Hid (∀ wq, Gr wr wq → Calls Try.prog 26 #[.pointer (some ⟨g, 0, none⟩), .int .i64 (j : Int)] wq fun e w' => e = .returned (.int .i64 (kindOf T (j : Int) : Int)) ∧ Gr wq w') := fun wq hq => kind_any g T (j : Int) wq (HT.out.t.mono (K1.out.gr (HG.out.trans hq)).bel) HT.out.k ⟨by omega, by omega⟩
      have HPC : Hid (∀ wq, Gr wr wq → Calls Try.prog 30 #[.pointer (some ⟨g, 0, none⟩), .int .i64 (j : Int)] wq fun e w' => RetInts wq ((partsOf T (j : Int)).map Int.ofNat) e w') := fun wq hq => parts_any g T (j : Int) wq (HT.out.t.mono (K1.out.gr (HG.out.trans hq)).bel) HT.out.k ⟨by omega, by omega⟩
      clear ci0 hg
      cases hd0 : dAt d j with
      | false =>
        rw [hd0] at ci
        have HO : Hid (openB T d j = false) := by show _ = _; unfold openB; rw [hd0]; rfl
        clear hd0
        go_wp2_with fail
        refine ⟨⟨j + 1, by omega, by simp, ?_⟩, by simp [Go.RowKit.intOf]; omega⟩
        rw [HSN.out, HO.out]
        simpa using OW.out
      | true =>
        rw [hd0] at ci
        by_cases h5 : kindOf T (j : Int) = 5
        · obtain ⟨a, b', hpe, ha1, ha2, hb1, hb2, hjl⟩ := parts5 HT.out.p h5
          rw [h5] at HKC
          rw [hpe] at HPC
          have HOB : Hid (openB T d j = dAt d a) := by show _ = _; unfold openB; rw [hd0, h5, hpe]; simp
          have ca0 := HC.out a _ (boolc_at (by rw [TL.out.1]; omega))
          have CA : Hid (∀ wq, Gr wr wq → wq.cell? ⟨b, o + a, none⟩ = some (.bool (dAt d a))) := fun wq hq => (Below.cell (HG.out.trans hq) (World.block_lt_of_cell? w1 _ ca0)).trans ca0
          have C0 : Hid (∀ wq, Gr wr wq → wq.cell? ⟨gk, 0, none⟩ = some (.pointer (some ⟨g, 0, none⟩))) := fun wq hq => ((hq.blk (HG.out.blk K1.out.blk)).cell 0).trans rfl
          have hlaN : a < n := by omega
          clear hd0 h5 hpe ca0 hb1 hb2
          go_wp2_with fail
          refine (HKC.out _ (Gr.refl _)).mono ?_
          rintro e w2 ⟨rfl, g2⟩
          have c02 := C0.out w2 g2
          have G2 := Lib.hid g2; clear g2
          go_wp2_with fail
          refine (HPC.out _ G2.out).mono ?_
          rintro e w3 ⟨A3, c3, rfl, i3, g3, _⟩
          have hc3 := i3.cap; have hm3 := i3.max
          obtain ⟨b3, o3, rfl, hc3'⟩ := Is.addr i3 (by simp)
          have u0 : w3.cell? ⟨b3, o3, none⟩ = some (.int .i64 (a : Int)) := hc3' 0 (by simp)
          have ca := CA.out w3 (G2.out.trans g3)
          have G3 := Lib.hid (G2.out.trans g3)
          clear i3 g3 hc3' c02 ci c0
          simp only [List.map_cons, List.map_nil, List.length_cons, List.length_nil] at hc3 ⊢
          cases hda : dAt d a with
          | false =>
            rw [hda] at ca
            rw [hda] at HOB
            clear hda
            go_wp2_with fail
            refine ⟨⟨j + 1, by omega, by simp, ?_⟩, by simp [Go.RowKit.intOf]; omega⟩
            rw [HSN.out, HOB.out]
            simpa using OW.out.mono G3.out
          | true =>
            rw [hda] at ca
            rw [hda] at HOB
            clear hda
            have hol := openedTo_len T d j
            go_wp2_with (at_builtin; go_loud (refine wpList_pushAtG (n := (openedTo T d j).length) rfl _ _ 23 rfl tNums rfl (OW.out.mono G3.out) _ (by simp) #[_] rfl rfl (by intro u hu; simp at hu; subst hu; rfl) (by omega) ?_); intro v1 w5 own1 tn1)
            refine ⟨⟨j + 1, by omega, by simp, ?_⟩, by simp [Go.RowKit.intOf]; omega⟩
            rw [HSN.out, HOB.out]
            simpa [i64c] using own1
        · have HO : Hid (openB T d j = false) := by show _ = _; unfold openB; simp [h5]
          have t5 : ((kindOf T (j : Int) : Int) == 5) = false := by rw [beq_eq_false_iff_ne]; omega
          clear hd0 h5
          generalize kindOf T (j : Int) = q at HKC t5
          go_wp2_with fail
          refine (HKC.out _ (Gr.refl _)).mono ?_
          rintro e w2 ⟨rfl, g2⟩
          have G2 := Lib.hid g2; clear g2
          go_wp2_with fail
          refine ⟨⟨j + 1, by omega, by simp, ?_⟩, by simp [Go.RowKit.intOf]; omega⟩
          rw [HSN.out, HO.out]
          simpa using OW.out.mono G2.out
    · obtain rfl : j = n := by omega
      have t0 : decide ((j : Int) < (j : Int)) = false := by simp
      obtain ⟨A9, c9, rfl, s9⟩ := OW.out.slice
      have S9 := Lib.hid s9; clear s9
      go_wp2_with fail
      go_ret
      refine ⟨A9, c9, d, vk1, vp1, vi1, TL.out, by rw [← HN.out]; rfl, by rw [← HN.out]; exact S9.out, K1.out.gr OW.out.2, T1.out.trans (Tch.gr OW.out.2)⟩
end Go.Proofs.Ythlnoaalhojphaa
