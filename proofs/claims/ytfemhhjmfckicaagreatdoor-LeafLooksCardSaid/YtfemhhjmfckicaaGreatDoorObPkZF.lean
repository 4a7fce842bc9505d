/- Own texts of this claim, one behind the other. No condition. -/
import Derived.Test.YtfemhhjmfckicaaGreatDoorObPkZE

/- leaf.plan.do: a name that is put. No condition. -/
namespace Go.Proofs.YtfemhhjmfckicaaGreatDoor
open Go.RowKit Go.Maps
set_option linter.unusedVariables false
set_option linter.unusedSimpArgs false
section
variable {w0 w : World} {P g mb n : Nat} {now : List (List UInt8)} {log : List TcV}
set_option maxRecDepth 100000 in
set_option maxHeartbeats 2000000 in
theorem do_put (h : PL w0 w P g mb n now log) (hn : n ≤ 1000) (hlog : log.length ≤ 1000) (s : List UInt8) (a : Option Addr) (m c : Nat) (v : List UInt8) (hv : Bs w a m c v) (hs : s.length ≤ 100000) (hT : U8 w0) (hr : rightL s = true) (hm : m ≤ 350) (i : Nat) (hi : i < n) (hf : findH now s = (i : Int)) :
    Calls Tryz.prog 52 #[.pointer (some ⟨P, 0, none⟩), .agg #[strc s, .slice a m c, .bool false]] w fun e w' => e = .returned (.int .i64 0) ∧ ∃ a' m' c', PL w0 w' P g mb n (now.set i s) (log ++ [⟨⟨i, s, v, false⟩, a', m', c'⟩]) := by
  have HP := Lib.hid (h.mono (Gr.alloc w (chO (strc s) a m c false)))
  have HV := Lib.hid (hv.mono (Gr.alloc w (chO (strc s) a m c false)))
  have H1 : Hid (Calls Tryz.prog 58 #[strc s] (w.alloc (chO (strc s) a m c false)) fun e w' => e = .returned (.bool true) ∧ Gr (w.alloc (chO (strc s) a m c false)) w') := by
    have k := right_any s _ hs (hT.mono HP.out.gr); rw [hr] at k; exact k
  have H2 : Hid (∀ wr, PL w0 wr P g mb n now log → Calls Tryz.prog 7 #[.slice (some ⟨g, 0, none⟩) n n, strc s] wr fun e w' => e = .returned (.int .i64 (i : Int)) ∧ w' = wr) := fun wr k => by
    have q := leafFind_any _ n n now s wr (k.ws (by unfold maxLen; omega)) (by omega); rw [hf] at q; exact q
  have HPUT := Lib.hid (fun wr (k : PL w0 wr P g mb n now log) => k.put i s)
  have HUPD : Hid (∀ wr wx A' m' c', PL w0 wr P g mb n (now.set i s) log → Bs wr A' m' c' v → (∀ b o, A' = some ⟨b, o, none⟩ → b ≠ g) → wr.grownBy wx (some mb) → wx.ownsMap Tryz.prog 3 Rv mb (log.length + 1) ((dOf (logE log)).put (.int .i64 (i : Int)) (.held (.agg #[.int .i64 (i : Int), strc s, .slice A' m' c', .bool false]))) → PL w0 wx P g mb n (now.set i s) (log ++ [⟨⟨i, s, v, false⟩, A', m', c'⟩])) := fun wr wx A' m' c' k1 k2 k3 k4 k5 => k1.upd ⟨⟨i, s, v, false⟩, A', m', c'⟩ k2 k3 k4 k5
  obtain ⟨sx, hsx⟩ : ∃ sx : ByteArray, strc s = .string sx := ⟨_, rfl⟩
  rw [hsx] at HP HV H1 H2 HPUT HUPD ⊢
  have HC := Lib.hid (fun (wr : World) (k : Gr (w.alloc (chO (.string sx) a m c false)) wr) => ch_cells k)
  have t1 : decide ((350 : Int) < (m : Int)) = false := decide_eq_false (by omega)
  have hkey : keyOf Tryz.prog 3 (.int .i64 (i : Int)) = some (.int .i64 (i : Int)) := keyOf_int_mk Tryz.underlying3 (wfI (by omega))
  clear h hsx hr hT hf hv 
  go_enter Tryz.func52, Tryz.ntmps52
  go_wp2_with fail
  refine H1.out.mono ?_
  rintro e w1 ⟨rfl, g1⟩
  have HP1 := Lib.hid (HP.out.mono g1)
  have G1 := Lib.hid g1
  obtain ⟨d0, d1, d2⟩ := HC.out _ g1
  clear g1
  obtain ⟨cp0, cp1⟩ := HP1.out.cells
  go_wp2_with fail
  have H2q := Lib.hid (fun q => H2.out (w1.drewN q) (HP1.out.mono (belowN (Below.refl _ _) q)))
  go_quiet ((go_at_call 7; exact Calls.quiet_of_same (H2q.out _)))
  have HP2 := Lib.hid (HP1.out.mono (belowN (Below.refl _ _) nq))
  clear cp0 cp1 d0 d1 d2
  obtain ⟨cp0, cp1⟩ := HP2.out.cells
  obtain ⟨d0, d1, d2⟩ := HC.out _ (belowN G1.out nq)
  have HG2 := Lib.hid (belowN G1.out nq)
  clear H2q
  obtain ⟨wb, hwb⟩ : ∃ wb, wb = w1.drewN nq := ⟨_, rfl⟩
  rw [← hwb] at HP2 cp0 cp1 d0 d1 d2 HG2 ⊢
  clear hwb
  go_upto_region 13 with fail
  refine wp_region_pre (by kernel_rfl) (fun w' => (w'.cell? ⟨P, 0, none⟩ = some (.slice (some ⟨g, 0, none⟩) n n) ∧ w'.cell? ⟨P, 1, none⟩ = some (.map (some mb))) ∧ w'.cell? ⟨w.heap.size, 0, none⟩ = some (.string sx) ∧ w'.cell? ⟨w.heap.size, 1, none⟩ = some (.slice a m c)) (fun i => i == 3 || i == 8 || i == 11 || i == 14 || i == 16) (fun _ => false) [0, 1, 2, 3, 4, 5, 6, 7, 8, 9, 10, 11, 12, 13, 14, 15, 16] 7 (by kernel_rfl) (by kernel_rfl) (by kernel_rfl) ⟨⟨cp0, cp1⟩, d0, d1⟩ ?_
  refine wpPre_e rfl rfl ?_
  apply Exists.intro
  refine ⟨fun wq hq => ?_, ?_⟩
  · clear hq
    unfold plainAt
    go_simp
    first | exact rfl | exact ⟨rfl, rfl⟩
  go_simp
  refine wpPre_e rfl rfl ?_
  apply Exists.intro
  refine ⟨fun wq hq => ?_, ?_⟩
  · clear hq
    unfold plainAt
    go_simp
    first | exact rfl | exact ⟨rfl, rfl⟩
  go_simp
  refine wpPre_e rfl rfl ?_
  apply Exists.intro
  refine ⟨fun wq hq => ?_, ?_⟩
  · clear hq
    unfold plainAt
    go_simp
    first | exact rfl | exact ⟨rfl, rfl⟩
  go_simp
  refine wpPre_e rfl rfl ?_
  apply Exists.intro
  refine ⟨fun wq hq => ?_, ?_⟩
  · replace hq := hq rfl
    obtain ⟨⟨z0, z1⟩, y0, y1⟩ := hq
    unfold plainAt
    go_simp
    first | exact rfl | exact ⟨rfl, rfl⟩
  go_simp
  refine wpPre_e rfl rfl ?_
  apply Exists.intro
  refine ⟨fun wq hq => ?_, ?_⟩
  · clear hq
    unfold plainAt
    go_simp
    first | exact rfl | exact ⟨rfl, rfl⟩
  go_simp
  refine wpPre_e rfl rfl ?_
  apply Exists.intro
  refine ⟨fun wq hq => ?_, ?_⟩
  · clear hq
    unfold plainAt
    go_simp
    first | exact rfl | exact ⟨rfl, rfl⟩
  go_simp
  refine wpPre_e rfl rfl ?_
  apply Exists.intro
  refine ⟨fun wq hq => ?_, ?_⟩
  · clear hq
    unfold plainAt
    go_simp
    first | exact rfl | exact ⟨rfl, rfl⟩
  go_simp
  refine wpPre_e rfl rfl ?_
  apply Exists.intro
  refine ⟨fun wq hq => ?_, ?_⟩
  · clear hq
    unfold plainAt
    go_simp
    first | exact rfl | exact ⟨rfl, rfl⟩
  go_simp
  refine wpPre_e rfl rfl ?_
  apply Exists.intro
  refine ⟨fun wq hq => ?_, ?_⟩
  · replace hq := hq rfl
    obtain ⟨⟨z0, z1⟩, y0, y1⟩ := hq
    unfold plainAt
    go_simp
    first | exact rfl | exact ⟨rfl, rfl⟩
  go_simp
  refine wpPre_e rfl rfl ?_
  apply Exists.intro
  refine ⟨fun wq hq => ?_, ?_⟩
  · clear hq
    unfold plainAt
    go_simp
    first | exact rfl | exact ⟨rfl, rfl⟩
  go_simp
  refine wpPre_e rfl rfl ?_
  apply Exists.intro
  refine ⟨fun wq hq => ?_, ?_⟩
  · clear hq
    unfold plainAt
    go_simp
    first | exact rfl | exact ⟨rfl, rfl⟩
  go_simp
  refine wpPre_e rfl rfl ?_
  apply Exists.intro
  refine ⟨fun wq hq => ?_, ?_⟩
  · replace hq := hq rfl
    obtain ⟨⟨z0, z1⟩, y0, y1⟩ := hq
    unfold plainAt
    go_simp
    first | exact rfl | exact ⟨rfl, rfl⟩
  go_simp
  refine wpPre_e rfl rfl ?_
  apply Exists.intro
  refine ⟨fun wq hq => ?_, ?_⟩
  · clear hq
    unfold plainAt
    go_simp
    first | exact rfl | exact ⟨rfl, rfl⟩
  go_simp
  refine wpPre_e rfl rfl ?_
  apply Exists.intro
  refine ⟨fun wq hq => ?_, ?_⟩
  · clear hq
    unfold plainAt
    go_simp
    first | exact rfl | exact ⟨rfl, rfl⟩
  go_simp
  refine wpPre_e rfl rfl ?_
  apply Exists.intro
  refine ⟨fun wq hq => ?_, ?_⟩
  · replace hq := hq rfl
    obtain ⟨⟨z0, z1⟩, y0, y1⟩ := hq
    unfold plainAt
    go_simp
    first | exact rfl | exact ⟨rfl, rfl⟩
  go_simp
  refine wpPre_e rfl rfl ?_
  apply Exists.intro
  refine ⟨fun wq hq => ?_, ?_⟩
  · clear hq
    unfold plainAt
    go_simp
    first | exact rfl | exact ⟨rfl, rfl⟩
  go_simp
  refine wpPre_e rfl rfl ?_
  apply Exists.intro
  refine ⟨fun wq hq => ?_, ?_⟩
  · replace hq := hq rfl
    obtain ⟨⟨z0, z1⟩, y0, y1⟩ := hq
    unfold plainAt
    go_simp
    first | exact rfl | exact ⟨rfl, rfl⟩
  go_simp
  refine wpPre_nil ?_
  clear cp0 cp1 d0 d1 d2
  have HP3 := Lib.hid (HP2.out.mono (Gr.drew _))
  have HV3 := Lib.hid ((HV.out.mono HG2.out).mono (Gr.drew _))
  have HG3 := Lib.hid (Gr.trans HG2.out (Gr.drew _))
  have HCL := Lib.hid (clone_any a m c v _ HV3.out (by omega))
  refine wpRest_one (i := 17) (by kernel_rfl) rfl rfl ?_
  intro K hK
  go_simp
  go_at_call 81
  refine HCL.out.mono ?_
  rintro e wc ⟨vc, rfl, oc⟩
  have HPc := Lib.hid (HP3.out.mono oc.below)
  have HCC := Lib.hid (And.intro HPc.out.cells (And.intro (HC.out wc (Gr.trans HG3.out oc.below)).1 (HC.out wc (Gr.trans HG3.out oc.below)).2.1))
  refine hK _ _ (fun _ => HCC.out) ?_
  clear hK HCL
  obtain ⟨A', c', rfl, sl⟩ := oc.slice
  have hAg : ∀ b o, A' = some ⟨b, o, none⟩ → b ≠ g := fun b o e1 e2 => by
    have h1 := oc.1.lt b (by rw [e1]; rfl)
    have h2 := HP3.out.bg.lt
    omega
  have HPd := Lib.hid (HPUT.out wc HPc.out)
  have hbc : Blk wc w.heap.size 42 [.string sx, .slice a m c, .bool false] := (Blk.new w 42 #[.string sx, .slice a m c, .bool false]).mono (Gr.trans HG3.out oc.below)
  have hng : w.heap.size ≠ g := fun e => by
    have h1 := HPc.out.bg
    unfold Blk at h1 hbc
    rw [← e, hbc] at h1
    injection h1 with h1
    injection h1 with _ h1
    revert h1
    decide
  have HCD := Lib.hid (And.intro HPd.out.cells (And.intro ((hbc.far (p := ⟨g, i, none⟩) hng (.string sx)).cell 0) ((hbc.far (p := ⟨g, i, none⟩) hng (.string sx)).cell 1)))
  have hbd := hbc.far (p := ⟨g, i, none⟩) hng (.string sx)
  have slD : Bs (wc.setCell ⟨g, i, none⟩ (.string sx)) A' _ c' v := Sl.tch sl (by decide) (Tch.set (S := fun b => b = g) ⟨g, i, none⟩ (.string sx) rfl) (fun _ b o e q => hAg b o e q)
  obtain ⟨v0, st, w5, hrun5, hg5, hsz5, hst⟩ := entry_store HPd.out.om keyedI Tryz.underlying75 (z := .agg #[.int .i64 0, .string ByteArray.empty, .slice none 0 0, .bool false]) (fun u => by kernel_rfl) (by unfold maxLen; omega) hkey
  obtain ⟨w6, hrun6, om6, hg6⟩ := hst w5 (.agg #[.int .i64 (i : Int), .string sx, .slice A' _ c', .bool false]) _ [] rfl rfl
  have HP6 := Lib.hid (HUPD.out _ _ A' _ c' HPd.out slD hAg (hg5.trans hg6) om6)
  have HC5 : Hid ((w5.cell? ⟨P, 0, none⟩ = some (.slice (some ⟨g, 0, none⟩) n n) ∧ w5.cell? ⟨P, 1, none⟩ = some (.map (some mb))) ∧ w5.cell? ⟨w.heap.size, 0, none⟩ = some (.string sx) ∧ w5.cell? ⟨w.heap.size, 1, none⟩ = some (.slice a m c)) := by
    have ht := Tch.grown (S := fun b => b = mb) hg5 (fun b e => by injection e with e; exact e.symm)
    obtain ⟨es, clock, hm1⟩ := ownsMap_map HPd.out.om
    have hnm : w.heap.size ≠ mb := fun e => by
      have h1 := hbd
      unfold Blk at h1
      rw [e, hm1] at h1
      cases h1
    have hb := HPd.out.bp.tch ht (fun e => HPd.out.mg.2 e.symm)
    have hb2 := hbd.tch ht hnm
    exact ⟨⟨hb.cell 0, hb.cell 1⟩, hb2.cell 0, hb2.cell 1⟩
  have HC6 : Hid (w6.cell? ⟨w.heap.size, 0, none⟩ = some (.string sx) ∧ w6.cell? ⟨w.heap.size, 1, none⟩ = some (.slice a m c)) := by
    have ht := Tch.grown (S := fun b => b = mb) (hg5.trans hg6) (fun b e => by injection e with e; exact e.symm)
    obtain ⟨es, clock, hm1⟩ := ownsMap_map HPd.out.om
    have hnm : w.heap.size ≠ mb := fun e => by
      have h1 := hbd
      unfold Blk at h1
      rw [e, hm1] at h1
      cases h1
    have hb2 := hbd.tch ht hnm
    exact ⟨hb2.cell 0, hb2.cell 1⟩
  have y0 := HPc.out.bg.free i
  have y1 : wc.cell? ⟨g, i, none⟩ = some (strc (now[i]'(by have := HPc.out.len; omega))) := by rw [HPc.out.bg.cell, List.getElem?_map, List.getElem?_eq_getElem (by have := HPc.out.len; omega)]; rfl
  clear hst om6 hg5 hg6 hsz5 hbc hbd hng slD sl oc hAg
  go_simp
  refine wpRest_two (i := 18) (j := 19) (by kernel_rfl) rfl rfl rfl rfl ?_ ?_
  · skip
    intro K hK
    go_simp
    refine hK _ _ (fun _ => HCC.out) ?_
    clear hK
    go_simp
    refine wpRest_one (i := 19) (by kernel_rfl) rfl rfl ?_
    intro K hK
    go_simp
    refine hK _ _ (fun _ => HCC.out) ?_
    clear hK
    go_simp
    refine wpRest_one (i := 20) (by kernel_rfl) rfl rfl ?_
    intro K hK
    go_simp
    refine hK _ _ (fun _ => HCD.out) ?_
    clear hK
    go_simp
    refine wpRest_one (i := 21) (by kernel_rfl) rfl rfl ?_
    intro K hK
    refine wp_mapEntry (w1 := w5) (v := .tuple #[v0, goInt st]) rfl (by exact hrun5) ?_
    refine hK _ _ (fun _ => HC5.out) ?_
    clear hK
    go_simp
    refine wpRest_one (i := 22) (by kernel_rfl) rfl rfl ?_
    intro K hK
    go_simp
    refine hK _ _ (fun _ => HC5.out) ?_
    clear hK
    go_simp
    refine wpRest_one (i := 23) (by kernel_rfl) rfl rfl ?_
    intro K hK
    refine wp_entryStore (w1 := w6) rfl (by exact hrun6) ?_
    refine hK _ _ (fun _ => ⟨HP6.out.cells, HC6.out⟩) ?_
    clear hK
    go_simp
    refine wpRest_nil (by kernel_rfl) ?_
    go_wp2_with fail
    go_ret
    exact ⟨rfl, _, _, _, HP6.out⟩
  · skip
    intro K hK
    go_simp
    refine hK _ _ (fun _ => HCC.out) ?_
    clear hK
    go_simp
    refine wpRest_two (i := 18) (j := 20) (by kernel_rfl) rfl rfl rfl rfl ?_ ?_
    · skip
      intro K hK
      go_simp
      refine hK _ _ (fun _ => HCC.out) ?_
      clear hK
      go_simp
      refine wpRest_one (i := 20) (by kernel_rfl) rfl rfl ?_
      intro K hK
      go_simp
      refine hK _ _ (fun _ => HCD.out) ?_
      clear hK
      go_simp
      refine wpRest_one (i := 21) (by kernel_rfl) rfl rfl ?_
      intro K hK
      refine wp_mapEntry (w1 := w5) (v := .tuple #[v0, goInt st]) rfl (by exact hrun5) ?_
      refine hK _ _ (fun _ => HC5.out) ?_
      clear hK
      go_simp
      refine wpRest_one (i := 22) (by kernel_rfl) rfl rfl ?_
      intro K hK
      go_simp
      refine hK _ _ (fun _ => HC5.out) ?_
      clear hK
      go_simp
      refine wpRest_one (i := 23) (by kernel_rfl) rfl rfl ?_
      intro K hK
      refine wp_entryStore (w1 := w6) rfl (by exact hrun6) ?_
      refine hK _ _ (fun _ => ⟨HP6.out.cells, HC6.out⟩) ?_
      clear hK
      go_simp
      refine wpRest_nil (by kernel_rfl) ?_
      go_wp2_with fail
      go_ret
      exact ⟨rfl, _, _, _, HP6.out⟩
    · skip
      intro K hK
      go_simp
      refine hK _ _ (fun _ => HCD.out) ?_
      clear hK
      go_simp
      refine wpRest_two (i := 18) (j := 21) (by kernel_rfl) rfl rfl rfl rfl ?_ ?_
      · skip
        intro K hK
        go_simp
        refine hK _ _ (fun _ => HCD.out) ?_
        clear hK
        go_simp
        refine wpRest_one (i := 21) (by kernel_rfl) rfl rfl ?_
        intro K hK
        refine wp_mapEntry (w1 := w5) (v := .tuple #[v0, goInt st]) rfl (by exact hrun5) ?_
        refine hK _ _ (fun _ => HC5.out) ?_
        clear hK
        go_simp
        refine wpRest_one (i := 22) (by kernel_rfl) rfl rfl ?_
        intro K hK
        go_simp
        refine hK _ _ (fun _ => HC5.out) ?_
        clear hK
        go_simp
        refine wpRest_one (i := 23) (by kernel_rfl) rfl rfl ?_
        intro K hK
        refine wp_entryStore (w1 := w6) rfl (by exact hrun6) ?_
        refine hK _ _ (fun _ => ⟨HP6.out.cells, HC6.out⟩) ?_
        clear hK
        go_simp
        refine wpRest_nil (by kernel_rfl) ?_
        go_wp2_with fail
        go_ret
        exact ⟨rfl, _, _, _, HP6.out⟩
      · skip
        intro K hK
        refine wp_mapEntry (w1 := w5) (v := .tuple #[v0, goInt st]) rfl (by exact hrun5) ?_
        refine hK _ _ (fun _ => HC5.out) ?_
        clear hK
        go_simp
        refine wpRest_two (i := 18) (j := 22) (by kernel_rfl) rfl rfl rfl rfl ?_ ?_
        · skip
          intro K hK
          go_simp
          refine hK _ _ (fun _ => HC5.out) ?_
          clear hK
          go_simp
          refine wpRest_one (i := 22) (by kernel_rfl) rfl rfl ?_
          intro K hK
          go_simp
          refine hK _ _ (fun _ => HC5.out) ?_
          clear hK
          go_simp
          refine wpRest_one (i := 23) (by kernel_rfl) rfl rfl ?_
          intro K hK
          refine wp_entryStore (w1 := w6) rfl (by exact hrun6) ?_
          refine hK _ _ (fun _ => ⟨HP6.out.cells, HC6.out⟩) ?_
          clear hK
          go_simp
          refine wpRest_nil (by kernel_rfl) ?_
          go_wp2_with fail
          go_ret
          exact ⟨rfl, _, _, _, HP6.out⟩
        · skip
          intro K hK
          go_simp
          refine hK _ _ (fun _ => HC5.out) ?_
          clear hK
          go_simp
          refine wpRest_one (i := 18) (by kernel_rfl) rfl rfl ?_
          intro K hK
          go_simp
          refine hK _ _ (fun _ => HC5.out) ?_
          clear hK
          go_simp
          refine wpRest_one (i := 23) (by kernel_rfl) rfl rfl ?_
          intro K hK
          refine wp_entryStore (w1 := w6) rfl (by exact hrun6) ?_
          refine hK _ _ (fun _ => ⟨HP6.out.cells, HC6.out⟩) ?_
          clear hK
          go_simp
          refine wpRest_nil (by kernel_rfl) ?_
          go_wp2_with fail
          go_ret
          exact ⟨rfl, _, _, _, HP6.out⟩
set_option maxRecDepth 100000 in
set_option maxHeartbeats 2000000 in
theorem do_new (h : PL w0 w P g mb n now log) (hn : n ≤ 1000) (hlog : log.length ≤ 1000) (s : List UInt8) (a : Option Addr) (m c : Nat) (v : List UInt8) (hv : Bs w a m c v) (hs : s.length ≤ 100000) (hT : U8 w0) (hr : rightL s = true) (hm : m ≤ 350) (i : Nat) (hi : i < n) (hf : findH now s = -1) (he : freeH now = (i : Int)) :
    Calls Tryz.prog 52 #[.pointer (some ⟨P, 0, none⟩), .agg #[strc s, .slice a m c, .bool false]] w fun e w' => e = .returned (.int .i64 0) ∧ ∃ a' m' c', PL w0 w' P g mb n (now.set i s) (log ++ [⟨⟨i, s, v, false⟩, a', m', c'⟩]) := by
  have HP := Lib.hid (h.mono (Gr.alloc w (chO (strc s) a m c false)))
  have HV := Lib.hid (hv.mono (Gr.alloc w (chO (strc s) a m c false)))
  have H1 : Hid (Calls Tryz.prog 58 #[strc s] (w.alloc (chO (strc s) a m c false)) fun e w' => e = .returned (.bool true) ∧ Gr (w.alloc (chO (strc s) a m c false)) w') := by
    have k := right_any s _ hs (hT.mono HP.out.gr); rw [hr] at k; exact k
  have H2 : Hid (∀ wr, PL w0 wr P g mb n now log → Calls Tryz.prog 7 #[.slice (some ⟨g, 0, none⟩) n n, strc s] wr fun e w' => e = .returned (.int .i64 (-1)) ∧ w' = wr) := fun wr k => by
    have q := leafFind_any _ n n now s wr (k.ws (by unfold maxLen; omega)) (by omega); rw [hf] at q; exact q
  have H3 : Hid (∀ wr, PL w0 wr P g mb n now log → Calls Tryz.prog 9 #[.slice (some ⟨g, 0, none⟩) n n] wr fun e w' => e = .returned (.int .i64 (i : Int)) ∧ w' = wr) := fun wr k => by
    have q := free_any _ n n now wr (k.ws (by unfold maxLen; omega)) (by omega); rw [he] at q; exact q
  have HPUT := Lib.hid (fun wr (k : PL w0 wr P g mb n now log) => k.put i s)
  have HUPD : Hid (∀ wr wx A' m' c', PL w0 wr P g mb n (now.set i s) log → Bs wr A' m' c' v → (∀ b o, A' = some ⟨b, o, none⟩ → b ≠ g) → wr.grownBy wx (some mb) → wx.ownsMap Tryz.prog 3 Rv mb (log.length + 1) ((dOf (logE log)).put (.int .i64 (i : Int)) (.held (.agg #[.int .i64 (i : Int), strc s, .slice A' m' c', .bool false]))) → PL w0 wx P g mb n (now.set i s) (log ++ [⟨⟨i, s, v, false⟩, A', m', c'⟩])) := fun wr wx A' m' c' k1 k2 k3 k4 k5 => k1.upd ⟨⟨i, s, v, false⟩, A', m', c'⟩ k2 k3 k4 k5
  obtain ⟨sx, hsx⟩ : ∃ sx : ByteArray, strc s = .string sx := ⟨_, rfl⟩
  rw [hsx] at HP HV H1 H2 HPUT HUPD ⊢
  have HC := Lib.hid (fun (wr : World) (k : Gr (w.alloc (chO (.string sx) a m c false)) wr) => ch_cells k)
  have t1 : decide ((350 : Int) < (m : Int)) = false := decide_eq_false (by omega)
  have hkey : keyOf Tryz.prog 3 (.int .i64 (i : Int)) = some (.int .i64 (i : Int)) := keyOf_int_mk Tryz.underlying3 (wfI (by omega))
  clear h hsx hr hT hf hv he
  go_enter Tryz.func52, Tryz.ntmps52
  go_wp2_with fail
  refine H1.out.mono ?_
  rintro e w1 ⟨rfl, g1⟩
  have HP1 := Lib.hid (HP.out.mono g1)
  have G1 := Lib.hid g1
  obtain ⟨d0, d1, d2⟩ := HC.out _ g1
  clear g1
  obtain ⟨cp0, cp1⟩ := HP1.out.cells
  go_wp2_with fail
  have H2q := Lib.hid (fun q => H2.out (w1.drewN q) (HP1.out.mono (belowN (Below.refl _ _) q)))
  go_quiet ((go_at_call 7; exact Calls.quiet_of_same (H2q.out _)))
  have HP2 := Lib.hid (HP1.out.mono (belowN (Below.refl _ _) nq))
  clear cp0 cp1 d0 d1 d2
  obtain ⟨cp0, cp1⟩ := HP2.out.cells
  obtain ⟨d0, d1, d2⟩ := HC.out _ (belowN G1.out nq)
  have HG2 := Lib.hid (belowN G1.out nq)
  clear H2q
  obtain ⟨wb, hwb⟩ : ∃ wb, wb = w1.drewN nq := ⟨_, rfl⟩
  rw [← hwb] at HP2 cp0 cp1 d0 d1 d2 HG2 ⊢
  clear hwb
  go_wp2_with fail
  refine (H3.out _ HP2.out).mono ?_
  rintro e w3 ⟨rfl, rfl⟩
  go_upto_region 13 with fail
  refine wp_region_pre (by kernel_rfl) (fun w' => (w'.cell? ⟨P, 0, none⟩ = some (.slice (some ⟨g, 0, none⟩) n n) ∧ w'.cell? ⟨P, 1, none⟩ = some (.map (some mb))) ∧ w'.cell? ⟨w.heap.size, 0, none⟩ = some (.string sx) ∧ w'.cell? ⟨w.heap.size, 1, none⟩ = some (.slice a m c)) (fun i => i == 3 || i == 8 || i == 11 || i == 14 || i == 16) (fun _ => false) [0, 1, 2, 3, 4, 5, 6, 7, 8, 9, 10, 11, 12, 13, 14, 15, 16] 7 (by kernel_rfl) (by kernel_rfl) (by kernel_rfl) ⟨⟨cp0, cp1⟩, d0, d1⟩ ?_
  refine wpPre_e rfl rfl ?_
  apply Exists.intro
  refine ⟨fun wq hq => ?_, ?_⟩
  · clear hq
    unfold plainAt
    go_simp
    first | exact rfl | exact ⟨rfl, rfl⟩
  go_simp
  refine wpPre_e rfl rfl ?_
  apply Exists.intro
  refine ⟨fun wq hq => ?_, ?_⟩
  · clear hq
    unfold plainAt
    go_simp
    first | exact rfl | exact ⟨rfl, rfl⟩
  go_simp
  refine wpPre_e rfl rfl ?_
  apply Exists.intro
  refine ⟨fun wq hq => ?_, ?_⟩
  · clear hq
    unfold plainAt
    go_simp
    first | exact rfl | exact ⟨rfl, rfl⟩
  go_simp
  refine wpPre_e rfl rfl ?_
  apply Exists.intro
  refine ⟨fun wq hq => ?_, ?_⟩
  · replace hq := hq rfl
    obtain ⟨⟨z0, z1⟩, y0, y1⟩ := hq
    unfold plainAt
    go_simp
    first | exact rfl | exact ⟨rfl, rfl⟩
  go_simp
  refine wpPre_e rfl rfl ?_
  apply Exists.intro
  refine ⟨fun wq hq => ?_, ?_⟩
  · clear hq
    unfold plainAt
    go_simp
    first | exact rfl | exact ⟨rfl, rfl⟩
  go_simp
  refine wpPre_e rfl rfl ?_
  apply Exists.intro
  refine ⟨fun wq hq => ?_, ?_⟩
  · clear hq
    unfold plainAt
    go_simp
    first | exact rfl | exact ⟨rfl, rfl⟩
  go_simp
  refine wpPre_e rfl rfl ?_
  apply Exists.intro
  refine ⟨fun wq hq => ?_, ?_⟩
  · clear hq
    unfold plainAt
    go_simp
    first | exact rfl | exact ⟨rfl, rfl⟩
  go_simp
  refine wpPre_e rfl rfl ?_
  apply Exists.intro
  refine ⟨fun wq hq => ?_, ?_⟩
  · clear hq
    unfold plainAt
    go_simp
    first | exact rfl | exact ⟨rfl, rfl⟩
  go_simp
  refine wpPre_e rfl rfl ?_
  apply Exists.intro
  refine ⟨fun wq hq => ?_, ?_⟩
  · replace hq := hq rfl
    obtain ⟨⟨z0, z1⟩, y0, y1⟩ := hq
    unfold plainAt
    go_simp
    first | exact rfl | exact ⟨rfl, rfl⟩
  go_simp
  refine wpPre_e rfl rfl ?_
  apply Exists.intro
  refine ⟨fun wq hq => ?_, ?_⟩
  · clear hq
    unfold plainAt
    go_simp
    first | exact rfl | exact ⟨rfl, rfl⟩
  go_simp
  refine wpPre_e rfl rfl ?_
  apply Exists.intro
  refine ⟨fun wq hq => ?_, ?_⟩
  · clear hq
    unfold plainAt
    go_simp
    first | exact rfl | exact ⟨rfl, rfl⟩
  go_simp
  refine wpPre_e rfl rfl ?_
  apply Exists.intro
  refine ⟨fun wq hq => ?_, ?_⟩
  · replace hq := hq rfl
    obtain ⟨⟨z0, z1⟩, y0, y1⟩ := hq
    unfold plainAt
    go_simp
    first | exact rfl | exact ⟨rfl, rfl⟩
  go_simp
  refine wpPre_e rfl rfl ?_
  apply Exists.intro
  refine ⟨fun wq hq => ?_, ?_⟩
  · clear hq
    unfold plainAt
    go_simp
    first | exact rfl | exact ⟨rfl, rfl⟩
  go_simp
  refine wpPre_e rfl rfl ?_
  apply Exists.intro
  refine ⟨fun wq hq => ?_, ?_⟩
  · clear hq
    unfold plainAt
    go_simp
    first | exact rfl | exact ⟨rfl, rfl⟩
  go_simp
  refine wpPre_e rfl rfl ?_
  apply Exists.intro
  refine ⟨fun wq hq => ?_, ?_⟩
  · replace hq := hq rfl
    obtain ⟨⟨z0, z1⟩, y0, y1⟩ := hq
    unfold plainAt
    go_simp
    first | exact rfl | exact ⟨rfl, rfl⟩
  go_simp
  refine wpPre_e rfl rfl ?_
  apply Exists.intro
  refine ⟨fun wq hq => ?_, ?_⟩
  · clear hq
    unfold plainAt
    go_simp
    first | exact rfl | exact ⟨rfl, rfl⟩
  go_simp
  refine wpPre_e rfl rfl ?_
  apply Exists.intro
  refine ⟨fun wq hq => ?_, ?_⟩
  · replace hq := hq rfl
    obtain ⟨⟨z0, z1⟩, y0, y1⟩ := hq
    unfold plainAt
    go_simp
    first | exact rfl | exact ⟨rfl, rfl⟩
  go_simp
  refine wpPre_nil ?_
  clear cp0 cp1 d0 d1 d2
  have HP3 := Lib.hid (HP2.out.mono (Gr.drew _))
  have HV3 := Lib.hid ((HV.out.mono HG2.out).mono (Gr.drew _))
  have HG3 := Lib.hid (Gr.trans HG2.out (Gr.drew _))
  have HCL := Lib.hid (clone_any a m c v _ HV3.out (by omega))
  refine wpRest_one (i := 17) (by kernel_rfl) rfl rfl ?_
  intro K hK
  go_simp
  go_at_call 81
  refine HCL.out.mono ?_
  rintro e wc ⟨vc, rfl, oc⟩
  have HPc := Lib.hid (HP3.out.mono oc.below)
  have HCC := Lib.hid (And.intro HPc.out.cells (And.intro (HC.out wc (Gr.trans HG3.out oc.below)).1 (HC.out wc (Gr.trans HG3.out oc.below)).2.1))
  refine hK _ _ (fun _ => HCC.out) ?_
  clear hK HCL
  obtain ⟨A', c', rfl, sl⟩ := oc.slice
  have hAg : ∀ b o, A' = some ⟨b, o, none⟩ → b ≠ g := fun b o e1 e2 => by
    have h1 := oc.1.lt b (by rw [e1]; rfl)
    have h2 := HP3.out.bg.lt
    omega
  have HPd := Lib.hid (HPUT.out wc HPc.out)
  have hbc : Blk wc w.heap.size 42 [.string sx, .slice a m c, .bool false] := (Blk.new w 42 #[.string sx, .slice a m c, .bool false]).mono (Gr.trans HG3.out oc.below)
  have hng : w.heap.size ≠ g := fun e => by
    have h1 := HPc.out.bg
    unfold Blk at h1 hbc
    rw [← e, hbc] at h1
    injection h1 with h1
    injection h1 with _ h1
    revert h1
    decide
  have HCD := Lib.hid (And.intro HPd.out.cells (And.intro ((hbc.far (p := ⟨g, i, none⟩) hng (.string sx)).cell 0) ((hbc.far (p := ⟨g, i, none⟩) hng (.string sx)).cell 1)))
  have hbd := hbc.far (p := ⟨g, i, none⟩) hng (.string sx)
  have slD : Bs (wc.setCell ⟨g, i, none⟩ (.string sx)) A' _ c' v := Sl.tch sl (by decide) (Tch.set (S := fun b => b = g) ⟨g, i, none⟩ (.string sx) rfl) (fun _ b o e q => hAg b o e q)
  obtain ⟨v0, st, w5, hrun5, hg5, hsz5, hst⟩ := entry_store HPd.out.om keyedI Tryz.underlying75 (z := .agg #[.int .i64 0, .string ByteArray.empty, .slice none 0 0, .bool false]) (fun u => by kernel_rfl) (by unfold maxLen; omega) hkey
  obtain ⟨w6, hrun6, om6, hg6⟩ := hst w5 (.agg #[.int .i64 (i : Int), .string sx, .slice A' _ c', .bool false]) _ [] rfl rfl
  have HP6 := Lib.hid (HUPD.out _ _ A' _ c' HPd.out slD hAg (hg5.trans hg6) om6)
  have HC5 : Hid ((w5.cell? ⟨P, 0, none⟩ = some (.slice (some ⟨g, 0, none⟩) n n) ∧ w5.cell? ⟨P, 1, none⟩ = some (.map (some mb))) ∧ w5.cell? ⟨w.heap.size, 0, none⟩ = some (.string sx) ∧ w5.cell? ⟨w.heap.size, 1, none⟩ = some (.slice a m c)) := by
    have ht := Tch.grown (S := fun b => b = mb) hg5 (fun b e => by injection e with e; exact e.symm)
    obtain ⟨es, clock, hm1⟩ := ownsMap_map HPd.out.om
    have hnm : w.heap.size ≠ mb := fun e => by
      have h1 := hbd
      unfold Blk at h1
      rw [e, hm1] at h1
      cases h1
    have hb := HPd.out.bp.tch ht (fun e => HPd.out.mg.2 e.symm)
    have hb2 := hbd.tch ht hnm
    exact ⟨⟨hb.cell 0, hb.cell 1⟩, hb2.cell 0, hb2.cell 1⟩
  have HC6 : Hid (w6.cell? ⟨w.heap.size, 0, none⟩ = some (.string sx) ∧ w6.cell? ⟨w.heap.size, 1, none⟩ = some (.slice a m c)) := by
    have ht := Tch.grown (S := fun b => b = mb) (hg5.trans hg6) (fun b e => by injection e with e; exact e.symm)
    obtain ⟨es, clock, hm1⟩ := ownsMap_map HPd.out.om
    have hnm : w.heap.size ≠ mb := fun e => by
      have h1 := hbd
      unfold Blk at h1
      rw [e, hm1] at h1
      cases h1
    have hb2 := hbd.tch ht hnm
    exact ⟨hb2.cell 0, hb2.cell 1⟩
  have y0 := HPc.out.bg.free i
  have y1 : wc.cell? ⟨g, i, none⟩ = some (strc (now[i]'(by have := HPc.out.len; omega))) := by rw [HPc.out.bg.cell, List.getElem?_map, List.getElem?_eq_getElem (by have := HPc.out.len; omega)]; rfl
  clear hst om6 hg5 hg6 hsz5 hbc hbd hng slD sl oc hAg
  go_simp
  refine wpRest_two (i := 18) (j := 19) (by kernel_rfl) rfl rfl rfl rfl ?_ ?_
  · skip
    intro K hK
    go_simp
    refine hK _ _ (fun _ => HCC.out) ?_
    clear hK
    go_simp
    refine wpRest_one (i := 19) (by kernel_rfl) rfl rfl ?_
    intro K hK
    go_simp
    refine hK _ _ (fun _ => HCC.out) ?_
    clear hK
    go_simp
    refine wpRest_one (i := 20) (by kernel_rfl) rfl rfl ?_
    intro K hK
    go_simp
    refine hK _ _ (fun _ => HCD.out) ?_
    clear hK
    go_simp
    refine wpRest_one (i := 21) (by kernel_rfl) rfl rfl ?_
    intro K hK
    refine wp_mapEntry (w1 := w5) (v := .tuple #[v0, goInt st]) rfl (by exact hrun5) ?_
    refine hK _ _ (fun _ => HC5.out) ?_
    clear hK
    go_simp
    refine wpRest_one (i := 22) (by kernel_rfl) rfl rfl ?_
    intro K hK
    go_simp
    refine hK _ _ (fun _ => HC5.out) ?_
    clear hK
    go_simp
    refine wpRest_one (i := 23) (by kernel_rfl) rfl rfl ?_
    intro K hK
    refine wp_entryStore (w1 := w6) rfl (by exact hrun6) ?_
    refine hK _ _ (fun _ => ⟨HP6.out.cells, HC6.out⟩) ?_
    clear hK
    go_simp
    refine wpRest_nil (by kernel_rfl) ?_
    go_wp2_with fail
    go_ret
    exact ⟨rfl, _, _, _, HP6.out⟩
  · skip
    intro K hK
    go_simp
    refine hK _ _ (fun _ => HCC.out) ?_
    clear hK
    go_simp
    refine wpRest_two (i := 18) (j := 20) (by kernel_rfl) rfl rfl rfl rfl ?_ ?_
    · skip
      intro K hK
      go_simp
      refine hK _ _ (fun _ => HCC.out) ?_
      clear hK
      go_simp
      refine wpRest_one (i := 20) (by kernel_rfl) rfl rfl ?_
      intro K hK
      go_simp
      refine hK _ _ (fun _ => HCD.out) ?_
      clear hK
      go_simp
      refine wpRest_one (i := 21) (by kernel_rfl) rfl rfl ?_
      intro K hK
      refine wp_mapEntry (w1 := w5) (v := .tuple #[v0, goInt st]) rfl (by exact hrun5) ?_
      refine hK _ _ (fun _ => HC5.out) ?_
      clear hK
      go_simp
      refine wpRest_one (i := 22) (by kernel_rfl) rfl rfl ?_
      intro K hK
      go_simp
      refine hK _ _ (fun _ => HC5.out) ?_
      clear hK
      go_simp
      refine wpRest_one (i := 23) (by kernel_rfl) rfl rfl ?_
      intro K hK
      refine wp_entryStore (w1 := w6) rfl (by exact hrun6) ?_
      refine hK _ _ (fun _ => ⟨HP6.out.cells, HC6.out⟩) ?_
      clear hK
      go_simp
      refine wpRest_nil (by kernel_rfl) ?_
      go_wp2_with fail
      go_ret
      exact ⟨rfl, _, _, _, HP6.out⟩
    · skip
      intro K hK
      go_simp
      refine hK _ _ (fun _ => HCD.out) ?_
      clear hK
      go_simp
      refine wpRest_two (i := 18) (j := 21) (by kernel_rfl) rfl rfl rfl rfl ?_ ?_
      · skip
        intro K hK
        go_simp
        refine hK _ _ (fun _ => HCD.out) ?_
        clear hK
        go_simp
        refine wpRest_one (i := 21) (by kernel_rfl) rfl rfl ?_
        intro K hK
        refine wp_mapEntry (w1 := w5) (v := .tuple #[v0, goInt st]) rfl (by exact hrun5) ?_
        refine hK _ _ (fun _ => HC5.out) ?_
        clear hK
        go_simp
        refine wpRest_one (i := 22) (by kernel_rfl) rfl rfl ?_
        intro K hK
        go_simp
        refine hK _ _ (fun _ => HC5.out) ?_
        clear hK
        go_simp
        refine wpRest_one (i := 23) (by kernel_rfl) rfl rfl ?_
        intro K hK
        refine wp_entryStore (w1 := w6) rfl (by exact hrun6) ?_
        refine hK _ _ (fun _ => ⟨HP6.out.cells, HC6.out⟩) ?_
        clear hK
        go_simp
        refine wpRest_nil (by kernel_rfl) ?_
        go_wp2_with fail
        go_ret
        exact ⟨rfl, _, _, _, HP6.out⟩
      · skip
        intro K hK
        refine wp_mapEntry (w1 := w5) (v := .tuple #[v0, goInt st]) rfl (by exact hrun5) ?_
        refine hK _ _ (fun _ => HC5.out) ?_
        clear hK
        go_simp
        refine wpRest_two (i := 18) (j := 22) (by kernel_rfl) rfl rfl rfl rfl ?_ ?_
        · skip
          intro K hK
          go_simp
          refine hK _ _ (fun _ => HC5.out) ?_
          clear hK
          go_simp
          refine wpRest_one (i := 22) (by kernel_rfl) rfl rfl ?_
          intro K hK
          go_simp
          refine hK _ _ (fun _ => HC5.out) ?_
          clear hK
          go_simp
          refine wpRest_one (i := 23) (by kernel_rfl) rfl rfl ?_
          intro K hK
          refine wp_entryStore (w1 := w6) rfl (by exact hrun6) ?_
          refine hK _ _ (fun _ => ⟨HP6.out.cells, HC6.out⟩) ?_
          clear hK
          go_simp
          refine wpRest_nil (by kernel_rfl) ?_
          go_wp2_with fail
          go_ret
          exact ⟨rfl, _, _, _, HP6.out⟩
        · skip
          intro K hK
          go_simp
          refine hK _ _ (fun _ => HC5.out) ?_
          clear hK
          go_simp
          refine wpRest_one (i := 18) (by kernel_rfl) rfl rfl ?_
          intro K hK
          go_simp
          refine hK _ _ (fun _ => HC5.out) ?_
          clear hK
          go_simp
          refine wpRest_one (i := 23) (by kernel_rfl) rfl rfl ?_
          intro K hK
          refine wp_entryStore (w1 := w6) rfl (by exact hrun6) ?_
          refine hK _ _ (fun _ => ⟨HP6.out.cells, HC6.out⟩) ?_
          clear hK
          go_simp
          refine wpRest_nil (by kernel_rfl) ?_
          go_wp2_with fail
          go_ret
          exact ⟨rfl, _, _, _, HP6.out⟩
end
end Go.Proofs.YtfemhhjmfckicaaGreatDoor
