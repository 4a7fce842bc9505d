/- Own texts of this claim, one behind the other. No condition. -/
import Derived.Test.YtadenlhnfkccaaaGreatDoorObPkD
import Derived.Test.YtadenlhnfkccaaaGreatDoorObPkF
import Derived.Test.YtadenlhnfkccaaaGreatDoorObPkI
import Derived.Test.YtadenlhnfkccaaaGreatDoorObPkJ
import Derived.Test.YtadenlhnfkccaaaGreatDoorObPkK
import Derived.Outline

/- Lines of scripts: Parse. No condition. -/
namespace Go.Proofs.YtadenlhnfkccaaaGreatDoor
open Go.RowKit
set_option linter.unusedVariables false
set_option linter.unusedSimpArgs false
theorem signsT_all : ∀ k s, s ∈ scrS k → SignT s.toNat := by
  intro k s h
  unfold SignT
  match k, h with
  | 2, h => simp [scrS] at h; subst h; decide
  | 3, h => simp [scrS] at h; rcases h with rfl | rfl | rfl <;> decide
  | 5, h => simp [scrS] at h; rcases h with rfl | rfl | rfl <;> decide
  | 7, h => simp [scrS] at h; rcases h with rfl | rfl | rfl <;> decide
  | 0, h => simp [scrS] at h
  | 1, h => simp [scrS] at h
  | 4, h => simp [scrS] at h
  | 6, h => simp [scrS] at h
  | k + 8, h => simp [scrS] at h
theorem scrS_len (k : Nat) : (scrS k).length ≤ 3 := by
  match k with
  | 0 | 1 | 2 | 3 | 4 | 5 | 6 | 7 => simp [scrS]
  | k + 8 => simp [scrS]
def lnV0 : LnV := ⟨ln0, none, 0, none, 0, none, 0⟩
theorem lnAt0 (w : World) : LnAt w lnV0 := ⟨Sl.nil _ _, Sl.nil _ _, Sl.nil _ _⟩
theorem lnNew0 (w : World) : LnNew w lnV0 := ⟨(fun b q e => by cases e), (fun b q e => by cases e), (fun b q e => by cases e)⟩
theorem sl_row {w : World} {A : Option Addr} {n c s : Nat} {xs cs0 : List Value} {g : Nat} {t : TypeId} (h : Sl w A n c s xs) (hs : 0 < s) (cs : Array Value) (hn : 0 < n → ∀ b o, A = some ⟨b, o, none⟩ → b ≠ g) : Sl (w.setRow g cs) A n c s xs :=
  Sl.tch h hs (S := fun q => q = g) ⟨below_row39 (Below.refl 0 w) (Nat.zero_le _) cs, fun b _ hb => by simp [World.setRow, Array.getElem?_modify, Ne.symm hb]⟩ hn
set_option maxRecDepth 100000 in
set_option maxHeartbeats 4000000 in
theorem scParse_any (l : List UInt8) (w : World) (hl : l.length ≤ 100000) (hM : MLen w) (hT : Pow10 w) : Calls Tryz.prog 10 #[strc l] w (RetLn w (parseT l)) := by
  have HPO : Hid (∀ wr, Gr w wr → Calls Tryz.prog 26 #[strc l] wr (RetOpN wr (parseO l))) := fun wr g => opParse_new l wr hl (hM.mono g) (hT.mono g)
  have HSP : Hid (∀ wr, Gr w wr → Calls Tryz.prog 27 #[strc l, .string ⟨#[32]⟩] wr (RetCut wr (cutL 32 l))) := fun wr g => split_any l wr hl (hM.mono g)
  have HFO : Hid (∀ wr : World, Calls Tryz.prog 28 #[] wr fun e w' => e = .returned (.agg scrCells) ∧ Gr wr w') := fun wr => scrForms_any wr
  have HO := Lib.hid scrOne
  obtain ⟨s, hs⟩ : ∃ s : ByteArray, strc l = .string s := ⟨_, rfl⟩
  rw [hs] at HSP HPO ⊢
  clear hs hM hT
  obtain ⟨r, hr⟩ : ∃ r, r = parseT l := ⟨_, rfl⟩
  rw [← hr]
  have HR := Lib.hid hr; clear hr
  go_enter Tryz.func10, Tryz.ntmps10
  go_wp2_with fail
  refine (HPO.out _ (Gr.alloc _ _)).mono ?_
  rintro e w0 ⟨Ao, mo, co, rfl, so, g0, hfr⟩
  have HFR : Hid (∀ b q, Ao = some ⟨b, q, none⟩ → w.heap.size ≤ b) := fun b q e => by have := hfr b q e; rw [World.size_alloc] at this; omega
  clear hfr
  have BR0 : Hid (Blk w0 w.heap.size 37 (LnV.arr lnV0).toList) := (Blk.new w 37 (LnV.arr lnV0)).mono g0
  have G0 : Hid (Gr w w0) := (Gr.alloc w _).trans g0
  obtain rfl : (parseO l).1.x.length = mo := by have := Sl.len so; simpa using this
  obtain ⟨po, hpo⟩ : ∃ po, po = parseO l := ⟨_, rfl⟩
  rw [← hpo] at so ⊢
  have HPP := Lib.hid hpo
  clear hpo HPO
  obtain ⟨o1, f1⟩ := po
  simp only at so ⊢
  have HYB := setRow_heap (w0.alloc (.cells #[.int .i64 0, .string ⟨#[]⟩, .string ⟨#[]⟩, .int .i64 0, .int .i64 0, .int .i64 0, .int .i64 0, .slice none 0 0] 24)) w0.heap.size _ (opC o1 Ao o1.x.length co) _ _ (heap_alloc_new w0 _)
  have GS0 : Gr w0 ((w0.alloc (.cells #[.int .i64 0, .string ⟨#[]⟩, .string ⟨#[]⟩, .int .i64 0, .int .i64 0, .int .i64 0, .int .i64 0, .slice none 0 0] 24)).setRow w0.heap.size (opC o1 Ao o1.x.length co)) := below_row39 ((Below.refl _ _).alloc (Nat.le_refl _) _) (Nat.le_refl _) _
  have GA := Lib.hid (G0.out.trans GS0)
  have SO := Lib.hid (Sl.gr so GS0)
  have BRA : Hid (Blk ((w0.alloc (.cells #[.int .i64 0, .string ⟨#[]⟩, .string ⟨#[]⟩, .int .i64 0, .int .i64 0, .int .i64 0, .int .i64 0, .slice none 0 0] 24)).setRow w0.heap.size (opC o1 Ao o1.x.length co)) w.heap.size 37 (LnV.arr lnV0).toList) := BR0.out.mono GS0
  have BY : Hid (Blk ((w0.alloc (.cells #[.int .i64 0, .string ⟨#[]⟩, .string ⟨#[]⟩, .int .i64 0, .int .i64 0, .int .i64 0, .int .i64 0, .slice none 0 0] 24)).setRow w0.heap.size (opC o1 Ao o1.x.length co)) w0.heap.size 24 (opC o1 Ao o1.x.length co).toList) := HYB
  clear HYB GS0 so g0
  by_cases hf : f1 = 0
  · have t18 : ((f1 : Int) == 0) = true := by rw [hf]; rfl
    have e0 := (BY.out.cell 0).trans (show _ = some (.int .i64 o1.k) from rfl)
    have e1 := (BY.out.cell 1).trans (show _ = some (strc o1.g) from rfl)
    have e2 := (BY.out.cell 2).trans (show _ = some (strc o1.i) from rfl)
    have e3 := (BY.out.cell 3).trans (show _ = some (.int .i64 o1.e) from rfl)
    have e4 := (BY.out.cell 4).trans (show _ = some (.int .i64 o1.s) from rfl)
    have e5 := (BY.out.cell 5).trans (show _ = some (.int .i64 o1.n) from rfl)
    have e6 := (BY.out.cell 6).trans (show _ = some (.int .i64 o1.v) from rfl)
    have e7 := (BY.out.cell 7).trans (show _ = some (.slice Ao o1.x.length co) from rfl)
    have HF : Hid (r = ({ ln0 with k := 1, o := o1 }, 0)) := by
      show _ = _
      rw [HR.out]
      unfold parseT
      rw [← HPP.out]
      exact if_pos hf
    have nA : ∀ b o, Ao = some ⟨b, o, none⟩ → 0 < o1.x.length → b ≠ w.heap.size := fun b o e h0 => Sl.not_blk SO.out (by decide) BRA.out (fun u hu x hx => by
      obtain ⟨z, hz, rfl⟩ := List.mem_map.1 (List.mem_of_getElem? hx)
      simp only [LnV.arr, LnV.cells, lnV0, List.mem_cons, List.not_mem_nil, or_false] at hu
      rcases hu with h | h | h | h | h | h | h | h | h | h | h | h | h | h | h | h | h <;> subst h <;> simp [u8c, strc]) h0 e
    have NA := Lib.hid nA
    clear hf nA
    go_wp2_with (first
      | (refine wpList_store_row rfl 24 (.tmp 4) (.tmp 16) rfl w0.heap.size (opC o1 Ao o1.x.length co) rfl rfl 24 #[.int .i64 0, .string ⟨#[]⟩, .string ⟨#[]⟩, .int .i64 0, .int .i64 0, .int .i64 0, .int .i64 0, .slice none 0 0] (by exact heap_alloc_new w0 _) opSize rfl (opOne _ _ _ _) ?_)
      | (refine wpList_store_row rfl 37 (.tmp 2) (.tmp 21) rfl w.heap.size (LnV.arr ⟨{ ln0 with k := 1, o := o1 }, Ao, co, none, 0, none, 0⟩) rfl rfl 37 (LnV.arr lnV0) BRA.out lnSize rfl (lnOne _) ?_))
    have HN := setRow_heap _ w.heap.size _ (LnV.arr ⟨{ ln0 with k := 1, o := o1 }, Ao, co, none, 0, none, 0⟩) _ _ BRA.out
    rw [HF.out]
    exact bodyPost_ret (results_ln Tryz.results10 _ _ w.heap.size _ _ rfl HN rfl) rfl ⟨⟨{ ln0 with k := 1, o := o1 }, Ao, co, none, 0, none, 0⟩, rfl, rfl, ⟨sl_row (cs0 := []) (t := 0) SO.out (by decide) _ (fun h0 b o e => NA.out b o e h0), Sl.nil _ _, Sl.nil _ _⟩, below_row39 GA.out (Nat.le_refl _) _, ⟨(fun b q e _ => HFR.out b q e), (fun b q e => by cases e), (fun b q e => by cases e)⟩⟩
  · have t18 : ((f1 : Int) == 0) = false := beq_eq_false_iff_ne.2 (by omega)
    have HPT : Hid (r = match lnOf l with
      | some d => (d, 0)
      | none => (ln0, 3)) := by
      show _ = _
      rw [HR.out]
      unfold parseT
      rw [← HPP.out]
      exact if_neg hf
    clear hf HR HPP BY SO BR0
    go_wp2_with (refine wpList_store_row rfl 24 (.tmp 4) (.tmp 16) rfl w0.heap.size (opC o1 Ao o1.x.length co) rfl rfl 24 #[.int .i64 0, .string ⟨#[]⟩, .string ⟨#[]⟩, .int .i64 0, .int .i64 0, .int .i64 0, .int .i64 0, .slice none 0 0] (by exact heap_alloc_new w0 _) opSize rfl (opOne _ _ _ _) ?_)
    generalize (w0.alloc (.cells #[.int .i64 0, .string ⟨#[]⟩, .string ⟨#[]⟩, .int .i64 0, .int .i64 0, .int .i64 0, .int .i64 0, .slice none 0 0] 24)).setRow w0.heap.size (opC o1 Ao o1.x.length co) = wa at *
    clear t18
    refine (HSP.out _ GA.out).mono ?_
    rintro e w1 ⟨b, o, c, rfl, s1, g1⟩
    have S1 := Lib.hid s1; have G1 := Lib.hid g1; clear s1 g1
    go_wp2_with fail
    refine (HFO.out _).mono ?_
    rintro e w2 ⟨rfl, g2⟩
    have G2 := Lib.hid g2; clear g2
    go_wp2_with (refine wpList_store_row rfl 72 (.tmp 7) (.tmp 24) rfl w2.heap.size scrCells rfl rfl 72 (reps 18 (.string ⟨#[]⟩)).toArray (by exact heap_alloc_new w2 _) scrSize rfl HO.out ?_)
    have G23 : Gr w2 ((w2.alloc (.cells (reps 18 (.string ⟨#[]⟩)).toArray 72)).setRow w2.heap.size scrCells) := below_row39 ((Below.refl _ _).alloc (Nat.le_refl _) _) (Nat.le_refl _) _
    have BF : Blk ((w2.alloc (.cells (reps 18 (.string ⟨#[]⟩)).toArray 72)).setRow w2.heap.size scrCells) w2.heap.size 72 scrCells.toList := setRow_heap _ w2.heap.size _ _ _ _ (heap_alloc_new w2 _)
    show Calls _ _ _ ((w2.alloc (.cells (reps 18 (.string ⟨#[]⟩)).toArray 72)).setRow w2.heap.size scrCells) _
    generalize (w2.alloc (.cells (reps 18 (.string ⟨#[]⟩)).toArray 72)).setRow w2.heap.size scrCells = w3 at *
    have gA : Gr w1 w3 := ((Gr.alloc w1 (.cells #[.slice (some ⟨b, o, none⟩) (cutL 32 l).length c] 68)).trans G2.out).trans G23
    have hv : w3.cell? ⟨w1.heap.size, 0, none⟩ = some (.slice (some ⟨b, o, none⟩) (cutL 32 l).length c) := by
      rw [((Blk.new w1 68 #[.slice (some ⟨b, o, none⟩) (cutL 32 l).length c]).mono (G2.out.trans G23)).cell]; rfl
    have GW : Hid (Gr w w3) := (GA.out.trans G1.out).trans gA
    have BR : Hid (Blk w3 w.heap.size 37 (LnV.arr lnV0).toList) := (BRA.out.mono G1.out).mono gA
    have S3 := Lib.hid (Sl.gr S1.out gA)
    have hne := List.length_pos_iff.2 (cut_ne 32 l)
    have hz : w3.cell? ⟨b, o, none⟩ = some (strc ((cutL 32 l).headD [])) := by
      obtain ⟨b', o', e, hc⟩ := Ws.addr S3.out hne
      injection e with e
      injection e with e1 e2
      subst e1 e2
      have := hc 0 hne
      rw [head_at hne]
      exact this
    have HIX := Lib.hid (scrIx_any w2.heap.size w1.heap.size b o (cutL 32 l).length c ((cutL 32 l).headD []) w3 BF hv hz hne)
    have HBF := Lib.hid BF
    have HV := Lib.hid hv
    have hsm := (cut_size 32 l).1
    have HPK : Hid (r = match (if scrK ((cutL 32 l).headD []) < 9 then tryT (scrK ((cutL 32 l).headD [])) (cutL 32 l) else none) with
      | some o => (o, 0)
      | none => (ln0, 3)) := HPT.out
    clear HPT
    have hwz : ∀ p ∈ cutL 32 l, p.length ≤ 100000 := fun p hp => Nat.le_trans ((cut_size 32 l).2 p hp) hl
    clear hz hv BF G23
    have HWZ := Lib.hid hwz; clear hwz
    generalize cutL 32 l = ws at *
    generalize hkz : scrK (ws.headD []) = K at *
    clear hkz G1 S1 G2 gA HSP HFO HO BRA GA
    by_cases hK : K < 9
    · rw [if_pos hK] at HIX HPK
      have hfl := scrS_len K
      have HSG := Lib.hid (signsT_all K)
      obtain ⟨y, hy⟩ : ∃ y : ByteArray, y = ⟨(scrS K).toArray⟩ := ⟨_, rfl⟩
      have hys : y.size = (scrS K).length := by rw [hy]; exact size_of' _
      have HAT := Lib.hid (at_of (scrS K) y hy)
      refine HIX.out.mono ?_
      rintro e w4 ⟨rfl, g4⟩
      have BR4 := Lib.hid (BR.out.mono g4)
      have GW4 := Lib.hid (GW.out.trans g4)
      have BF4 := Lib.hid (HBF.out.mono g4)
      have S4 := Lib.hid (Sl.gr S3.out g4)
      have hv4 : w4.cell? ⟨w1.heap.size, 0, none⟩ = some (.slice (some ⟨b, o, none⟩) ws.length c) := (g4.cell (p := ⟨w1.heap.size, 0, none⟩) (World.block_lt_of_cell? w3 _ HV.out)).trans HV.out
      have c1 : w4.cell? ⟨w2.heap.size, K * 2 + 1, none⟩ = some (.string y) := by
        rw [BF4.out.cell, Nat.mul_comm, scrCells_s K hK, hy]; rfl
      have tk : decide ((K : Int) < 0) = false := decide_eq_false (by omega)
      have hi : (K : Int) < 9 := by omega
      have hw : IntKind.i64.wrap (1 + (y.size : Int)) = 1 + y.size := by rw [IntKind.wrap_i64]; omega
      clear g4 hy HIX BR HBF S3 HV GW
      by_cases hlen : ws.length = 1 + y.size
      · have tl : ((ws.length : Int) != 1 + (y.size : Int)) = false := by rw [bne_eq_false_iff_eq]; omega
        have HF : Hid (r = match foldT { ln0 with k := (K : Int) } (scrS K) ws.tail with
          | some o => (o, 0)
          | none => (ln0, 3)) := by
          show _ = _
          rw [HPK.out]
          unfold tryT
          rw [if_pos (by omega)]
        clear HPK
        go_wp2_with fail
        go_quiet (fail)
        have g5 : Gr w4 (w4.drewN nq) := belowN (Gr.refl _) _
        have BR5 : Hid (Blk (w4.drewN nq) w.heap.size 37 (LnV.arr lnV0).toList) := BR4.out.mono g5
        have GW5 : Hid (Gr w (w4.drewN nq)) := GW4.out.trans g5
        have S5 := Lib.hid (Sl.gr S4.out g5)
        have c5 : (w4.drewN nq).cell? ⟨w2.heap.size, K * 2 + 1, none⟩ = some (.string y) := (g5.cell (p := ⟨w2.heap.size, K * 2 + 1, none⟩) (World.block_lt_of_cell? w4 _ c1)).trans c1
        have hv5 := (g5.cell (p := ⟨w1.heap.size, 0, none⟩) (World.block_lt_of_cell? w4 _ hv4)).trans hv4
        clear hv4 c1 BR4 GW4 S4 BF4 g5
        generalize w4.drewN nq = w5 at *
        have gC : Gr w5 (w5.alloc (.cells #[.int .i64 (K : Int), .int .i64 0, .string ⟨#[]⟩, .string ⟨#[]⟩, .int .i64 0, .int .i64 0, .int .i64 0, .int .i64 0, .slice none 0 0, .int .i64 0, .slice none 0 0, .int .i64 0, .int .i64 0, .string ⟨#[]⟩, .int .i64 0, .string ⟨#[]⟩, .slice none 0 0] 79)) := Gr.alloc w5 _
        have c6 : (w5.alloc (.cells #[.int .i64 (K : Int), .int .i64 0, .string ⟨#[]⟩, .string ⟨#[]⟩, .int .i64 0, .int .i64 0, .int .i64 0, .int .i64 0, .slice none 0 0, .int .i64 0, .slice none 0 0, .int .i64 0, .int .i64 0, .string ⟨#[]⟩, .int .i64 0, .string ⟨#[]⟩, .slice none 0 0] 79)).cell? ⟨w2.heap.size, K * 2 + 1, none⟩ = some (.string y) := (gC.cell (p := ⟨w2.heap.size, K * 2 + 1, none⟩) (World.block_lt_of_cell? w5 _ c5)).trans c5
        clear tl hw tk
        go_wp2_with fail
        obtain ⟨R, hRe⟩ : ∃ R, R = w5.heap.size := ⟨_, rfl⟩
        obtain ⟨wI, hwI⟩ : ∃ wI, wI = (w5.alloc (.cells #[.int .i64 (K : Int), .int .i64 0, .string ⟨#[]⟩, .string ⟨#[]⟩, .int .i64 0, .int .i64 0, .int .i64 0, .int .i64 0, .slice none 0 0, .int .i64 0, .slice none 0 0, .int .i64 0, .int .i64 0, .string ⟨#[]⟩, .int .i64 0, .string ⟨#[]⟩, .slice none 0 0] 79)).iter y 0 := ⟨_, rfl⟩
        have gD : Gr w5 wI := by rw [hwI]; exact gC.trans (Gr.alloc _ _)
        have hRB : Blk wI R 79 (LnV.cells ⟨{ ln0 with k := (K : Int) }, none, 0, none, 0, none, 0⟩) := by rw [hwI, hRe]; exact (Blk.new w5 79 #[.int .i64 (K : Int), .int .i64 0, .string ⟨#[]⟩, .string ⟨#[]⟩, .int .i64 0, .int .i64 0, .int .i64 0, .int .i64 0, .slice none 0 0, .int .i64 0, .slice none 0 0, .int .i64 0, .int .i64 0, .string ⟨#[]⟩, .int .i64 0, .string ⟨#[]⟩, .slice none 0 0]).mono (Gr.alloc _ _)
        have hIH : wI.heap[R + 1]? = some (.stringIter y 0) := by
          rw [hwI, hRe]
          have := heap_alloc_new (w5.alloc (.cells #[.int .i64 (K : Int), .int .i64 0, .string ⟨#[]⟩, .string ⟨#[]⟩, .int .i64 0, .int .i64 0, .int .i64 0, .int .i64 0, .slice none 0 0, .int .i64 0, .slice none 0 0, .int .i64 0, .int .i64 0, .string ⟨#[]⟩, .int .i64 0, .string ⟨#[]⟩, .slice none 0 0] 79)) (.stringIter y 0)
          rw [show (w5.alloc (.cells #[.int .i64 (K : Int), .int .i64 0, .string ⟨#[]⟩, .string ⟨#[]⟩, .int .i64 0, .int .i64 0, .int .i64 0, .int .i64 0, .slice none 0 0, .int .i64 0, .slice none 0 0, .int .i64 0, .int .i64 0, .string ⟨#[]⟩, .int .i64 0, .string ⟨#[]⟩, .slice none 0 0] 79)).heap.size = w5.heap.size + 1 by simp] at this
          exact this
        have SI := Lib.hid (Sl.gr S5.out gD)
        have hvI : wI.cell? ⟨w1.heap.size, 0, none⟩ = some _ := (gD.cell (p := ⟨w1.heap.size, 0, none⟩) (World.block_lt_of_cell? w5 _ hv5)).trans hv5
        have hVlt : w1.heap.size < w5.heap.size := World.block_lt_of_cell? w5 _ hv5
        have hblt : ∀ bb oo, (some ⟨b, o, none⟩ : Option Addr) = some ⟨bb, oo, none⟩ → bb < w5.heap.size := fun bb oo e => Sl.lt S5.out (by decide) (by omega) e
        have BRI := Lib.hid (BR5.out.mono gD)
        have hr0 : w.heap.size < w5.heap.size := BR5.out.lt
        have GWI := Lib.hid (GW5.out.trans gD)
        show Code.wp _ _ _ _ ((w5.alloc (.cells #[.int .i64 (K : Int), .int .i64 0, .string ⟨#[]⟩, .string ⟨#[]⟩, .int .i64 0, .int .i64 0, .int .i64 0, .int .i64 0, .slice none 0 0, .int .i64 0, .slice none 0 0, .int .i64 0, .int .i64 0, .string ⟨#[]⟩, .int .i64 0, .string ⟨#[]⟩, .slice none 0 0] 79)).iter y 0)
        rw [← hwI, ← hRe]
        rw [← hRe] at hVlt hblt hr0
        clear hwI gC gD c5 c6 hv5 S5 BR5 GW5 hRe
        have HRB := Lib.hid hRB; have HIH := Lib.hid hIH; have HVI := Lib.hid hvI; have HBLT := Lib.hid hblt
        clear hRB hIH hvI hblt
        go_loopw [11] (fun v wr => ∃ (k : Nat) (o' : LnD), k ≤ y.size ∧ foldT { ln0 with k := (K : Int) } (scrS K) ws.tail = foldT o' ((scrS K).drop k) (ws.tail.drop k) ∧ RsT wr R o' ∧ wr.heap[R + 1]? = some (.stringIter y k) ∧ Tch (fun q => q = R ∨ q = R + 1) wI wr) (fun _ wr => y.size - wr.iterPos (R + 1))
        case atStart => exact ⟨0, { ln0 with k := (K : Int) }, by omega, rfl, ⟨none, 0, none, 0, HRB.out, rfl, Sl.nil _ _, Sl.nil _ _, (fun b q e => by cases e), (fun b q e => by cases e)⟩, HIH.out, Tch.refl _⟩
        case round =>
          obtain ⟨k, o', hk, hfold, hrd, hit, ht⟩ := hrel
          have HFD := Lib.hid hfold; have HRD := Lib.hid hrd; have HT := Lib.hid ht
          clear hfold hrd ht
          by_cases hlt : k < y.size
          · have hka : k < (scrS K).length := by omega
            have hasc : ((y[k]'hlt).toNat : Int) = bAt (scrS K) k := HAT.out k hlt
            have hsg := HSG.out _ (List.getElem_mem hka)
            have hgk : (scrS K).getD k 0 = (scrS K)[k] := by simp [List.getD_eq_getElem?_getD, List.getElem?_eq_getElem hka]
            have hya : (y[k]'hlt).toNat = (scrS K)[k].toNat := by unfold bAt at hasc; rw [hgk] at hasc; omega
            have hnx : ∀ ty, (Instr.next (.pointer (some ⟨R + 1, 0, none⟩)) true ty).run Tryz.prog wr = .ok (.tuple #[.bool true, .int .i64 k, .int .i32 ((scrS K)[k].toNat : Int)]) (wr.iterAt (R + 1) y (k + 1)) := fun ty => by
              rw [Lib.run_next_ascii_at wr (R + 1) y k ty hit hlt (by rw [hya]; rcases hsg with h | h | h | h | h | h | h | h <;> omega), hya]
            have hws : k < ws.tail.length := by rw [List.length_tail]; omega
            have hwk : ws.tail[k] = ws[k + 1]'(by omega) := by rw [List.getElem_tail]
            obtain ⟨b', q', eb, hcw⟩ := Ws.addr (Sl.tch SI.out (by decide) HT.out (fun _ bb oo e => by have := HBLT.out bb oo e; omega)) (by omega)
            injection eb with eb
            injection eb with eb1 eb2
            subst eb1 eb2
            have cw := hcw (k + 1) (by omega)
            rw [← hwk] at cw
            clear hcw
            have cv := (World.cell?_of_block (w := wI) (a := ⟨w1.heap.size, 0, none⟩) (HT.out.keep w1.heap.size (World.block_lt_of_cell? wI _ HVI.out) (by omega))).trans HVI.out
            have TIT : Hid (Tch (fun q => q = R + 1) wr (wr.iterAt (R + 1) y (k + 1))) := Tch.iterAt wr (R + 1) y (k + 1)
            have hit2 := Lib.iterAt_heap wr (R + 1) y k (k + 1) hit
            have hRD2 := HRD.out.tch (k' := k + 1) hit (by omega)
            have hbR : ∀ bb oo, (some ⟨b, o, none⟩ : Option Addr) = some ⟨bb, oo, none⟩ → bb < R := HBLT.out
            have hbl := hbR b o rfl
            have cw2 : (wr.iterAt (R + 1) y (k + 1)).cell? ⟨b, o + (k + 1), none⟩ = some (.string ⟨ws.tail[k].toArray⟩) := (World.cell?_of_block (w := wr) (a := ⟨b, o + (k + 1), none⟩) (TIT.out.keep b (World.block_lt_of_cell? wr _ cw) (by omega))).trans cw
            have cv2 : (wr.iterAt (R + 1) y (k + 1)).cell? ⟨w1.heap.size, 0, none⟩ = some _ := (World.cell?_of_block (w := wr) (a := ⟨w1.heap.size, 0, none⟩) (TIT.out.keep w1.heap.size (World.block_lt_of_cell? wr _ cv) (by omega))).trans cv
            have HT2 : Hid (Tch (fun q => q = R ∨ q = R + 1) wI (wr.iterAt (R + 1) y (k + 1))) := HT.out.trans (TIT.out.mono (fun _ _ e => .inr e))
            have hwl : ws.tail[k].length ≤ 100000 := HWZ.out _ (List.mem_of_mem_tail (List.getElem_mem hws))
            have HRDC := Lib.hid (readT_any o' R (scrS K)[k].toNat ws.tail[k] (wr.iterAt (R + 1) y (k + 1)) hRD2 hwl hsg)
            have HFD2 : Hid (foldT { ln0 with k := (K : Int) } (scrS K) ws.tail = if okT (scrS K)[k].toNat ws.tail[k] = true then foldT (readT o' (scrS K)[k].toNat ws.tail[k]) ((scrS K).drop (k + 1)) (ws.tail.drop (k + 1)) else none) := by
              show _ = _
              rw [HFD.out, List.drop_eq_getElem_cons hka, List.drop_eq_getElem_cons hws]
              rfl
            have hit3 := Lib.hid hit2
            have hik : (k : Int) + 1 < ((1 + (scrS K).length : Nat) : Int) := by omega
            have hitk := Lib.hid hit
            clear hit hit2 hRD2 cw cv hasc hgk hya hsg hwk
            generalize ws.tail[k] = wd at *
            generalize (scrS K)[k].toNat = sg at *
            obtain ⟨wx, hwx⟩ : ∃ wx : ByteArray, strc wd = .string wx := ⟨_, rfl⟩
            rw [show Value.string ⟨wd.toArray⟩ = Value.string wx from hwx] at cw2
            rw [hwx] at HRDC
            clear hwx
            go_wp2_with fail
            refine HRDC.out.mono ?_
            rintro e w7 ⟨rfl, rd, t7⟩
            have TC := Lib.hid (HT2.out.trans (t7.mono (fun _ _ e => .inl e)))
            have hit7 : w7.heap[R + 1]? = some (.stringIter y (k + 1)) := (t7.keep (R + 1) (Array.getElem?_eq_some_iff.1 hit3.out).1 (fun e => by have e : R + 1 = R := e; omega)).trans hit3.out
            have RD7 := Lib.hid rd
            clear rd t7
            cases hb : okT sg wd with
            | true =>
              rw [hb] at HFD2
              have RD8 := Lib.hid (RD7.out hb)
              have HFD3 : Hid (foldT { ln0 with k := (K : Int) } (scrS K) ws.tail = foldT (readT o' sg wd) ((scrS K).drop (k + 1)) (ws.tail.drop (k + 1))) := HFD2.out
              clear hb
              go_wp2_with fail
              go_roundw
              case rel => exact ⟨k + 1, _, by omega, HFD3.out, RD8.out, hit7, TC.out⟩
              case measure =>
                rw [iterPos_of hit7, iterPos_of hitk.out]
                omega
            | false =>
              rw [hb] at HFD2
              have HF : Hid (r = (ln0, 3)) := by show _ = _; rw [HF.out, HFD2.out]; rfl
              have BR7 : Hid (Blk w7 w.heap.size 37 (LnV.arr lnV0).toList) := BRI.out.tch TC.out (fun e => by rcases e with e | e <;> omega)
              have GW7 : Hid (Gr w w7) := Tch.below GWI.out TC.out GWI.out.size (fun q e => by rcases e with e | e <;> omega)
              clear hb
              go_wp2_with (refine wpList_store_row rfl 37 (.tmp 2) (.tmp 66) rfl w.heap.size (LnV.arr lnV0) rfl rfl 37 (LnV.arr lnV0) BR7.out lnSize rfl (lnOne _) ?_)
              have HN := setRow_heap w7 w.heap.size _ (LnV.arr lnV0) _ _ BR7.out
              have G6 : Gr w (w7.setRow w.heap.size (LnV.arr lnV0)) := below_row39 GW7.out (Nat.le_refl _) _
              rw [HF.out]
              exact bodyPost_ret (results_ln Tryz.results10 _ _ w.heap.size _ _ rfl HN rfl) rfl ⟨lnV0, rfl, rfl, lnAt0 _, G6, lnNew0 _⟩
          · have hke : k = y.size := by omega
            have HF : Hid (r = (o', 0)) := by
              show _ = _
              rw [HF.out, HFD.out, List.drop_of_length_le (show (scrS K).length ≤ k by omega)]
              rfl
            have hnx : ∀ ty, (Instr.next (.pointer (some ⟨R + 1, 0, none⟩)) true ty).run Tryz.prog wr = .ok (.tuple #[.bool false]) wr := fun ty => Lib.run_next_end_at wr (R + 1) y k ty hit hlt
            obtain ⟨B', q', C', c', hb, hx, hp, hbb, nB, nC⟩ := HRD.out
            have HB : Hid (Blk wr R 79 (LnV.arr ⟨o', none, 0, B', q', C', c'⟩).toList) := hb
            have HP := Lib.hid hp; have HBB := Lib.hid hbb; have HXO := Lib.hid hx; have NB := Lib.hid nB; have NC := Lib.hid nC
            have BR7 : Hid (Blk wr w.heap.size 37 (LnV.arr lnV0).toList) := BRI.out.tch HT.out (fun e => by rcases e with e | e <;> omega)
            have GW7 : Hid (Gr w wr) := Tch.below GWI.out HT.out GWI.out.size (fun q e => by rcases e with e | e <;> omega)
            clear hb hx hp hbb nB nC hit HRD
            go_wp2_with (first
              | (refine wpList_load_row rfl 37 (.tmp 69) rfl R rfl 79 (LnV.arr ⟨o', none, 0, B', q', C', c'⟩) (0, 0) _ HB.out Tryz.underlying37 rfl lnSize ?_)
              | (refine wpList_store_row rfl 37 (.tmp 2) (.tmp 70) rfl w.heap.size (LnV.arr ⟨o', none, 0, B', q', C', c'⟩) rfl rfl 37 (LnV.arr lnV0) BR7.out lnSize rfl (lnOne _) ?_))
            have HN := setRow_heap wr w.heap.size _ (LnV.arr ⟨o', none, 0, B', q', C', c'⟩) _ _ BR7.out
            have G8 : Gr w (wr.setRow w.heap.size (LnV.arr ⟨o', none, 0, B', q', C', c'⟩)) := below_row39 GW7.out (Nat.le_refl _) _
            rw [HF.out]
            refine bodyPost_ret (results_ln Tryz.results10 _ _ w.heap.size _ _ rfl HN rfl) rfl ⟨⟨o', none, 0, B', q', C', c'⟩, rfl, rfl, ⟨?_, ?_, ?_⟩, G8, ⟨(fun b q e => by cases e), (fun b q e h0 => by have := NB.out b q e h0; omega), (fun b q e h0 => by have := NC.out b q e h0; omega)⟩⟩
            · show Bs _ none o'.o.x.length 0 o'.o.x
              rw [HXO.out]
              exact Sl.nil _ _
            · exact sl_row (cs0 := []) (t := 0) HP.out (by decide) _ (fun h0 b o e => by have := NB.out b o e h0; omega)
            · exact sl_row (cs0 := []) (t := 0) HBB.out (by decide) _ (fun h0 b o e => by have := NC.out b o e h0; omega)
      · have tl : ((ws.length : Int) != 1 + (y.size : Int)) = true := by rw [bne_iff_ne]; omega
        have HF : Hid (r = (ln0, 3)) := by
          show _ = _
          rw [HPK.out]
          unfold tryT
          rw [if_neg (by omega)]
        clear HPK
        go_wp2_with fail
        go_quiet (fail)
        have BR5 : Hid (Blk (w4.drewN nq) w.heap.size 37 (LnV.arr lnV0).toList) := BR4.out.mono (belowN (Gr.refl _) _)
        have GW5 : Hid (Gr w (w4.drewN nq)) := GW4.out.trans (belowN (Gr.refl _) _)
        clear hv4 c1
        generalize w4.drewN nq = w5 at *
        go_wp2_with (refine wpList_store_row rfl 37 (.tmp 2) (.tmp 41) rfl w.heap.size (LnV.arr lnV0) rfl rfl 37 (LnV.arr lnV0) BR5.out lnSize rfl (lnOne _) ?_)
        have HN := setRow_heap w5 w.heap.size _ (LnV.arr lnV0) _ _ BR5.out
        have G6 : Gr w (w5.setRow w.heap.size (LnV.arr lnV0)) := below_row39 GW5.out (Nat.le_refl _) _
        rw [HF.out]
        exact bodyPost_ret (results_ln Tryz.results10 _ _ w.heap.size _ _ rfl HN rfl) rfl ⟨lnV0, rfl, rfl, lnAt0 _, G6, lnNew0 _⟩
    · rw [if_neg hK] at HIX HPK
      have HF : Hid (r = (ln0, 3)) := HPK.out
      clear HPK
      refine HIX.out.mono ?_
      rintro e w4 ⟨rfl, g4⟩
      have BR4 := Lib.hid (BR.out.mono g4)
      have GW4 := Lib.hid (GW.out.trans g4)
      clear g4
      go_wp2_with fail
      go_quiet (fail)
      have BR5 : Hid (Blk (w4.drewN nq) w.heap.size 37 (LnV.arr lnV0).toList) := BR4.out.mono (belowN (Gr.refl _) _)
      have GW5 : Hid (Gr w (w4.drewN nq)) := GW4.out.trans (belowN (Gr.refl _) _)
      generalize w4.drewN nq = w5 at *
      go_wp2_with (refine wpList_store_row rfl 37 (.tmp 2) (.tmp 41) rfl w.heap.size (LnV.arr lnV0) rfl rfl 37 (LnV.arr lnV0) BR5.out lnSize rfl (lnOne _) ?_)
      have HN := setRow_heap w5 w.heap.size _ (LnV.arr lnV0) _ _ BR5.out
      have G6 : Gr w (w5.setRow w.heap.size (LnV.arr lnV0)) := below_row39 GW5.out (Nat.le_refl _) _
      rw [HF.out]
      exact bodyPost_ret (results_ln Tryz.results10 _ _ w.heap.size _ _ rfl HN rfl) rfl ⟨lnV0, rfl, rfl, lnAt0 _, G6, lnNew0 _⟩
end Go.Proofs.YtadenlhnfkccaaaGreatDoor

/- Lines of scripts: the same line. No condition. -/
namespace Go.Proofs.YtadenlhnfkccaaaGreatDoor
open Go.RowKit
set_option linter.unusedVariables false
set_option linter.unusedSimpArgs false
theorem eqInts_any (A B : Option Addr) (n m c d : Nat) (a b : List Int) (w : World) (ha : Is w A n c a) (hb : Is w B m d b) :
    Calls Tryz.prog 41 #[.slice A n c, .slice B m d] w fun e w' => e = .returned (.bool (a == b)) ∧ Gr w w' := by
  have hla := ha.len
  have hlb := hb.len
  have hma := ha.max; have hca := ha.cap
  have hmb := hb.max; have hcb := hb.cap
  by_cases hnm : n = m
  · by_cases h0 : n = 0
    · subst h0
      have h := Tryz.slices_Equal_int_empty A B c m d w (by omega)
      refine h.mono ?_
      rintro e w' ⟨rfl, rfl⟩
      obtain rfl : a = [] := List.eq_nil_of_length_eq_zero hla
      obtain rfl : b = [] := List.eq_nil_of_length_eq_zero (by omega)
      exact ⟨by rw [decide_eq_true hnm.symm]; rfl, Gr.refl _⟩
    · obtain ⟨b1, o1, rfl, hc1⟩ := ha.addr (by omega)
      obtain ⟨b2, o2, rfl, hc2⟩ := hb.addr (by omega)
      have h := Tryz.slices_Equal_int b1 o1 n c b2 o2 m d a b w (by omega) (by omega) (by omega) (by omega)
        (fun j hj => by rw [hc1 j (by omega)]; simp [iAt, List.getD_eq_getElem?_getD])
        (fun j hj => by rw [hc2 j (by omega)]; simp [iAt, List.getD_eq_getElem?_getD])
      rw [List.take_of_length_le (by omega), List.take_of_length_le (by omega)] at h
      refine h.mono ?_
      rintro e w' ⟨rfl, q, rfl⟩
      exact ⟨rfl, belowN (Gr.refl _) q⟩
  · have h := Tryz.slices_Equal_int_lens A B n c m d w hnm
    refine h.mono ?_
    rintro e w' ⟨rfl, rfl⟩
    exact ⟨by rw [beq_false_of_ne (fun e => hnm (by rw [← hla, ← hlb, e]))], Gr.refl _⟩
set_option maxRecDepth 100000 in
set_option maxHeartbeats 2000000 in
theorem alike_raw (k1 e1 s1 n1 v1 k2 e2 s2 n2 v2 : Int) (g1 i1 g2 i2 : ByteArray) (A1 A2 : Option Addr) (m1 c1 m2 c2 : Nat) (x y : List UInt8) (w : World) (ha : Bs w A1 m1 c1 x) (hb : Bs w A2 m2 c2 y) :
    Calls Tryz.prog 40 #[.agg #[.int .i64 k1, .string g1, .string i1, .int .i64 e1, .int .i64 s1, .int .i64 n1, .int .i64 v1, .slice A1 m1 c1], .agg #[.int .i64 k2, .string g2, .string i2, .int .i64 e2, .int .i64 s2, .int .i64 n2, .int .i64 v2, .slice A2 m2 c2]] w fun e w' => e = .returned (.bool ((k1 == k2) && (g1.toList == g2.toList) && (i1.toList == i2.toList) && (e1 == e2) && (s1 == s2) && (n1 == n2) && (v1 == v2) && x == y)) ∧ Gr w w' := by
  have HSM : Hid (∀ wr, Gr w wr → Calls Tryz.prog 42 #[.slice A1 m1 c1, .slice A2 m2 c2] wr fun e w' => e = .returned (.bool (x == y)) ∧ Gr wr w') := fun wr g => (same_any A1 A2 m1 m2 c1 c2 x y wr (ha.mono g) (hb.mono g)).mono fun e w' h => ⟨h.1, by rw [h.2]; exact Gr.refl _⟩
  have G0 : Hid (Gr w ((w.alloc (.cells #[.int .i64 k1, .string g1, .string i1, .int .i64 e1, .int .i64 s1, .int .i64 n1, .int .i64 v1, .slice A1 m1 c1] 24)).alloc (.cells #[.int .i64 k2, .string g2, .string i2, .int .i64 e2, .int .i64 s2, .int .i64 n2, .int .i64 v2, .slice A2 m2 c2] 24))) := (Gr.alloc w _).trans (Gr.alloc _ _)
  clear ha hb
  go_enter Tryz.func40, Tryz.ntmps40
  go_wp2_with fail
  refine (HSM.out _ G0.out).mono ?_
  rintro e w2 ⟨rfl, gg⟩
  have BX : Hid (Blk w2 w.heap.size 24 #[.int .i64 k1, .string g1, .string i1, .int .i64 e1, .int .i64 s1, .int .i64 n1, .int .i64 v1, .slice A1 m1 c1].toList) := ((Blk.new w 24 #[.int .i64 k1, .string g1, .string i1, .int .i64 e1, .int .i64 s1, .int .i64 n1, .int .i64 v1, .slice A1 m1 c1]).alloc _).mono gg
  have BY : Hid (Blk w2 (w.heap.size + 1) 24 #[.int .i64 k2, .string g2, .string i2, .int .i64 e2, .int .i64 s2, .int .i64 n2, .int .i64 v2, .slice A2 m2 c2].toList) := by
    have := Blk.new (w.alloc (.cells #[.int .i64 k1, .string g1, .string i1, .int .i64 e1, .int .i64 s1, .int .i64 n1, .int .i64 v1, .slice A1 m1 c1] 24)) 24 #[.int .i64 k2, .string g2, .string i2, .int .i64 e2, .int .i64 s2, .int .i64 n2, .int .i64 v2, .slice A2 m2 c2]
    rw [World.size_alloc] at this
    exact this.mono gg
  have G2 := Lib.hid (G0.out.trans gg)
  clear gg
  have a0 : w2.cell? ⟨w.heap.size, 0, none⟩ = some (.int .i64 k1) := (BX.out.cell 0).trans rfl
  have b0 : w2.cell? ⟨w.heap.size + 1, 0, none⟩ = some (.int .i64 k2) := (BY.out.cell 0).trans rfl
  have a1 : w2.cell? ⟨w.heap.size, 1, none⟩ = some (.string g1) := (BX.out.cell 1).trans rfl
  have b1 : w2.cell? ⟨w.heap.size + 1, 1, none⟩ = some (.string g2) := (BY.out.cell 1).trans rfl
  have a2 : w2.cell? ⟨w.heap.size, 2, none⟩ = some (.string i1) := (BX.out.cell 2).trans rfl
  have b2 : w2.cell? ⟨w.heap.size + 1, 2, none⟩ = some (.string i2) := (BY.out.cell 2).trans rfl
  have a3 : w2.cell? ⟨w.heap.size, 3, none⟩ = some (.int .i64 e1) := (BX.out.cell 3).trans rfl
  have b3 : w2.cell? ⟨w.heap.size + 1, 3, none⟩ = some (.int .i64 e2) := (BY.out.cell 3).trans rfl
  have a4 : w2.cell? ⟨w.heap.size, 4, none⟩ = some (.int .i64 s1) := (BX.out.cell 4).trans rfl
  have b4 : w2.cell? ⟨w.heap.size + 1, 4, none⟩ = some (.int .i64 s2) := (BY.out.cell 4).trans rfl
  have a5 : w2.cell? ⟨w.heap.size, 5, none⟩ = some (.int .i64 n1) := (BX.out.cell 5).trans rfl
  have b5 : w2.cell? ⟨w.heap.size + 1, 5, none⟩ = some (.int .i64 n2) := (BY.out.cell 5).trans rfl
  have a6 : w2.cell? ⟨w.heap.size, 6, none⟩ = some (.int .i64 v1) := (BX.out.cell 6).trans rfl
  have b6 : w2.cell? ⟨w.heap.size + 1, 6, none⟩ = some (.int .i64 v2) := (BY.out.cell 6).trans rfl
  cases ts : (x == y) with
  | false =>
    go_wp2_with fail
    go_ret
    exact ⟨by rw [ts]; simp, G2.out⟩
  | true =>
  cases t0 : (k1 == k2) with
  | false =>
    go_wp2_with fail
    go_ret
    exact ⟨by rw [t0]; simp, G2.out⟩
  | true =>
  cases t1 : (g1.toList == g2.toList) with
  | false =>
    go_wp2_with fail
    go_ret
    exact ⟨by rw [t1]; simp, G2.out⟩
  | true =>
  cases t2 : (i1.toList == i2.toList) with
  | false =>
    go_wp2_with fail
    go_ret
    exact ⟨by rw [t2]; simp, G2.out⟩
  | true =>
  cases t3 : (e1 == e2) with
  | false =>
    go_wp2_with fail
    go_ret
    exact ⟨by rw [t3]; simp, G2.out⟩
  | true =>
  cases t4 : (s1 == s2) with
  | false =>
    go_wp2_with fail
    go_ret
    exact ⟨by rw [t4]; simp, G2.out⟩
  | true =>
  cases t5 : (n1 == n2) with
  | false =>
    go_wp2_with fail
    go_ret
    exact ⟨by rw [t5]; simp, G2.out⟩
  | true =>
  cases t6 : (v1 == v2) with
  | false =>
    go_wp2_with fail
    go_ret
    exact ⟨by rw [t6]; simp, G2.out⟩
  | true =>
  go_wp2_with fail
  go_ret
  exact ⟨by rw [ts, t0, t1, t2, t3, t4, t5, t6]; rfl, G2.out⟩
theorem alike_any (o1 o2 : OpD) (A1 A2 : Option Addr) (m1 c1 m2 c2 : Nat) (w : World) (ha : Bs w A1 m1 c1 o1.x) (hb : Bs w A2 m2 c2 o2.x) :
    Calls Tryz.prog 40 #[opV o1 A1 m1 c1, opV o2 A2 m2 c2] w fun e w' => e = .returned (.bool (sameO o1 o2)) ∧ Gr w w' := by
  have h := alike_raw o1.k o1.e o1.s o1.n o1.v o2.k o2.e o2.s o2.n o2.v ⟨o1.g.toArray⟩ ⟨o1.i.toArray⟩ ⟨o2.g.toArray⟩ ⟨o2.i.toArray⟩ A1 A2 m1 c1 m2 c2 o1.x o2.x w ha hb
  simp only [ByteArray.toList_eq] at h
  exact h
set_option maxRecDepth 100000 in
set_option maxHeartbeats 4000000 in
theorem scSame_any (x y : LnV) (w : World) (hx : LnAt w x) (hy : LnAt w y) : Calls Tryz.prog 14 #[.agg x.arr, .agg y.arr] w fun e w' => e = .returned (.bool (sameT x.d y.d)) ∧ Gr w w' := by
  have G0 : Hid (Gr w ((w.alloc (.cells x.arr 37)).alloc (.cells y.arr 37))) := (Gr.alloc w _).trans (Gr.alloc _ _)
  have HX : Hid (∀ wq, Gr ((w.alloc (.cells x.arr 37)).alloc (.cells y.arr 37)) wq → ∀ (i : Nat) (v : Value), x.cells[i]? = some v → wq.cell? ⟨w.heap.size, i, none⟩ = some v) := fun wq g i v h => ((((Blk.new w 37 x.arr).alloc _).mono g).cell i).trans h
  have HY : Hid (∀ wq, Gr ((w.alloc (.cells x.arr 37)).alloc (.cells y.arr 37)) wq → ∀ (i : Nat) (v : Value), y.cells[i]? = some v → wq.cell? ⟨w.heap.size + 1, i, none⟩ = some v) := fun wq g i v h => by
    have hB := Blk.new (w.alloc (.cells x.arr 37)) 37 y.arr
    rw [World.size_alloc] at hB
    exact ((hB.mono g).cell i).trans h
  have HAL : Hid (∀ wq, Gr w wq → Calls Tryz.prog 40 #[opV x.d.o x.A x.d.o.x.length x.c, opV y.d.o y.A y.d.o.x.length y.c] wq fun e w' => e = .returned (.bool (sameO x.d.o y.d.o)) ∧ Gr wq w') := fun wq g => alike_any _ _ _ _ _ _ _ _ wq (hx.o.mono g) (hy.o.mono g)
  have HEQ : Hid (∀ wq, Gr w wq → Calls Tryz.prog 41 #[.slice x.B x.d.p.length x.q, .slice y.B y.d.p.length y.q] wq fun e w' => e = .returned (.bool (x.d.p == y.d.p)) ∧ Gr wq w') := fun wq g => eqInts_any _ _ _ _ _ _ _ _ wq (hx.p.mono g) (hy.p.mono g)
  have HSM : Hid (∀ wq, Gr w wq → Calls Tryz.prog 42 #[.slice x.C x.d.b.length x.s, .slice y.C y.d.b.length y.s] wq fun e w' => e = .returned (.bool (x.d.b == y.d.b)) ∧ Gr wq w') := fun wq g => (same_any _ _ _ _ _ _ _ _ wq (hx.b.mono g) (hy.b.mono g)).mono fun e w' h => ⟨h.1, by rw [h.2]; exact Gr.refl _⟩
  obtain ⟨g1, hg1⟩ : ∃ g : ByteArray, g = ⟨x.d.g.toArray⟩ := ⟨_, rfl⟩
  obtain ⟨i1, hi1⟩ : ∃ g : ByteArray, g = ⟨x.d.i.toArray⟩ := ⟨_, rfl⟩
  obtain ⟨g2, hg2⟩ : ∃ g : ByteArray, g = ⟨y.d.g.toArray⟩ := ⟨_, rfl⟩
  obtain ⟨i2, hi2⟩ : ∃ g : ByteArray, g = ⟨y.d.i.toArray⟩ := ⟨_, rfl⟩
  have HE : Hid (sameT x.d y.d = (x.d.k == y.d.k && sameO x.d.o y.d.o && x.d.n == y.d.n && x.d.p == y.d.p && x.d.t == y.d.t && x.d.a == y.d.a && (g1.toList == g2.toList && x.d.e == y.d.e && i1.toList == i2.toList) && x.d.b == y.d.b)) := by
    show _ = _
    rw [hg1, hi1, hg2, hi2]
    simp only [ByteArray.toList_eq]
    rfl
  have VG1 : Hid (strc x.d.g = .string g1) := by show _ = _; rw [hg1]; rfl
  have VI1 : Hid (strc x.d.i = .string i1) := by show _ = _; rw [hi1]; rfl
  have VG2 : Hid (strc y.d.g = .string g2) := by show _ = _; rw [hg2]; rfl
  have VI2 : Hid (strc y.d.i = .string i2) := by show _ = _; rw [hi2]; rfl
  clear hg1 hi1 hg2 hi2 hx hy
  have x0 := HX.out _ (Gr.refl _) 0 _ rfl
  have y0 := HY.out _ (Gr.refl _) 0 _ rfl
  go_enter Tryz.func14, Tryz.ntmps14
  cases t0 : (x.d.k == y.d.k) with
  | false =>
    go_wp2_with fail
    go_ret
    exact ⟨by rw [HE.out, t0]; rfl, G0.out⟩
  | true =>
  have x1 := HX.out _ (Gr.refl _) 1 _ rfl
  have y1 := HY.out _ (Gr.refl _) 1 _ rfl
  have x2 := HX.out _ (Gr.refl _) 2 _ rfl
  have y2 := HY.out _ (Gr.refl _) 2 _ rfl
  have x3 := HX.out _ (Gr.refl _) 3 _ rfl
  have y3 := HY.out _ (Gr.refl _) 3 _ rfl
  have x4 := HX.out _ (Gr.refl _) 4 _ rfl
  have y4 := HY.out _ (Gr.refl _) 4 _ rfl
  have x5 := HX.out _ (Gr.refl _) 5 _ rfl
  have y5 := HY.out _ (Gr.refl _) 5 _ rfl
  have x6 := HX.out _ (Gr.refl _) 6 _ rfl
  have y6 := HY.out _ (Gr.refl _) 6 _ rfl
  have x7 := HX.out _ (Gr.refl _) 7 _ rfl
  have y7 := HY.out _ (Gr.refl _) 7 _ rfl
  have x8 := HX.out _ (Gr.refl _) 8 _ rfl
  have y8 := HY.out _ (Gr.refl _) 8 _ rfl
  go_wp2_with fail
  refine (HAL.out _ G0.out).mono ?_
  rintro e w2 ⟨rfl, g⟩
  have GX2 := Lib.hid g
  clear g x0 x1 x2 x3 x4 x5 x6 x7 x8 y0 y1 y2 y3 y4 y5 y6 y7 y8
  cases t1 : sameO x.d.o y.d.o with
  | false =>
    go_wp2_with fail
    go_ret
    exact ⟨by rw [HE.out, t1, Bool.and_false]; rfl, G0.out.trans GX2.out⟩
  | true =>
  have x9 := HX.out _ GX2.out 9 _ rfl
  have y9 := HY.out _ GX2.out 9 _ rfl
  have x10 := HX.out _ GX2.out 10 _ rfl
  have y10 := HY.out _ GX2.out 10 _ rfl
  cases t2 : (x.d.n == y.d.n) with
  | false =>
    go_wp2_with fail
    go_ret
    exact ⟨by rw [HE.out, t2, Bool.and_false]; rfl, G0.out.trans GX2.out⟩
  | true =>
  go_wp2_with fail
  refine (HEQ.out _ (G0.out.trans GX2.out)).mono ?_
  rintro e w3 ⟨rfl, g⟩
  have GX3 := Lib.hid (GX2.out.trans g)
  clear g x9 x10 y9 y10
  cases t3 : (x.d.p == y.d.p) with
  | false =>
    go_wp2_with fail
    go_ret
    exact ⟨by rw [HE.out, t3, Bool.and_false]; rfl, G0.out.trans GX3.out⟩
  | true =>
  have x11 := HX.out _ GX3.out 11 _ rfl
  have y11 := HY.out _ GX3.out 11 _ rfl
  have x12 := HX.out _ GX3.out 12 _ rfl
  have y12 := HY.out _ GX3.out 12 _ rfl
  have x13 := HX.out _ GX3.out 13 _ rfl
  have y13 := HY.out _ GX3.out 13 _ rfl
  have x14 := HX.out _ GX3.out 14 _ rfl
  have y14 := HY.out _ GX3.out 14 _ rfl
  have x15 := HX.out _ GX3.out 15 _ rfl
  have y15 := HY.out _ GX3.out 15 _ rfl
  have x16 := HX.out _ GX3.out 16 _ rfl
  have y16 := HY.out _ GX3.out 16 _ rfl
  rw [VG1.out] at x13
  rw [VG2.out] at y13
  rw [VI1.out] at x15
  rw [VI2.out] at y15
  cases t4 : (x.d.t == y.d.t) with
  | false =>
    go_wp2_with fail
    go_ret
    exact ⟨by rw [HE.out, t4, Bool.and_false]; rfl, G0.out.trans GX3.out⟩
  | true =>
  cases t5 : (x.d.a == y.d.a) with
  | false =>
    go_wp2_with fail
    go_ret
    exact ⟨by rw [HE.out, t5, Bool.and_false]; rfl, G0.out.trans GX3.out⟩
  | true =>
  by_cases hg : g1.toList = g2.toList
  · by_cases he : x.d.e = y.d.e
    · by_cases hi : i1.toList = i2.toList
      · have HE7 : Hid (sameT x.d y.d = (x.d.b == y.d.b)) := by
          show _ = _
          rw [HE.out, t0, t1, t2, t3, t4, t5, hg, he, hi]
          simp
        go_wp2_with fail
        refine (HSM.out _ (G0.out.trans GX3.out)).mono ?_
        rintro e w4 ⟨rfl, g⟩
        have GX4 := Lib.hid (GX3.out.trans g)
        clear g
        go_wp2_with fail
        go_ret
        exact ⟨by rw [HE7.out]; rfl, G0.out.trans GX4.out⟩
      · have HE7 : Hid (sameT x.d y.d = false) := by
          show _ = _
          rw [HE.out, beq_false_of_ne hi]
          simp
        go_wp2_with fail
        go_ret
        exact ⟨by rw [HE7.out]; rfl, G0.out.trans GX3.out⟩
    · have HE7 : Hid (sameT x.d y.d = false) := by
        show _ = _
        rw [HE.out, beq_false_of_ne he]
        simp
      go_wp2_with fail
      go_ret
      exact ⟨by rw [HE7.out]; rfl, G0.out.trans GX3.out⟩
  · have HE7 : Hid (sameT x.d y.d = false) := by
      show _ = _
      rw [HE.out, beq_false_of_ne hg]
      simp
    go_wp2_with fail
    go_ret
    exact ⟨by rw [HE7.out]; rfl, G0.out.trans GX3.out⟩
end Go.Proofs.YtadenlhnfkccaaaGreatDoor

/- Lines of scripts: a line's words. No condition. -/
namespace Go.Proofs.YtadenlhnfkccaaaGreatDoor
open Go.RowKit
set_option linter.unusedVariables false
set_option linter.unusedSimpArgs false
set_option maxRecDepth 100000 in
theorem word_110 (x : LnV) (w : World) (hT : Pow10 w) (h0 : -9223372036854775808 ≤ x.d.n) (h1 : x.d.n ≤ 9223372036854775807) :
    Calls Tryz.prog 47 #[.agg x.arr, .int .i32 110] w fun e w' => e = .returned (strc (printL x.d.n)) ∧ Gr w w' := by
  have G0 : Hid (Gr w (w.alloc (.cells x.arr 37))) := Gr.alloc _ _
  have c0 : (w.alloc (.cells x.arr 37)).cell? ⟨w.heap.size, 9, none⟩ = some (.int .i64 x.d.n) := ((Blk.new w 37 x.arr).cell 9).trans rfl
  have HP := Lib.hid (print_any x.d.n _ h0 h1 (hT.mono G0.out))
  clear hT h0 h1
  go_enter Tryz.func47, Tryz.ntmps47
  go_wp2_with fail
  refine HP.out.mono ?_
  rintro e w2 ⟨rfl, g⟩
  have G2 := Lib.hid (G0.out.trans g)
  clear g
  go_wp2_with fail
  go_ret
  exact ⟨rfl, G2.out⟩
set_option maxRecDepth 100000 in
theorem word_116 (x : LnV) (w : World) (hT : Pow10 w) (h0 : -9223372036854775808 ≤ x.d.t) (h1 : x.d.t ≤ 9223372036854775807) :
    Calls Tryz.prog 47 #[.agg x.arr, .int .i32 116] w fun e w' => e = .returned (strc (printL x.d.t)) ∧ Gr w w' := by
  have G0 : Hid (Gr w (w.alloc (.cells x.arr 37))) := Gr.alloc _ _
  have c0 : (w.alloc (.cells x.arr 37)).cell? ⟨w.heap.size, 11, none⟩ = some (.int .i64 x.d.t) := ((Blk.new w 37 x.arr).cell 11).trans rfl
  have HP := Lib.hid (print_any x.d.t _ h0 h1 (hT.mono G0.out))
  clear hT h0 h1
  go_enter Tryz.func47, Tryz.ntmps47
  go_wp2_with fail
  refine HP.out.mono ?_
  rintro e w2 ⟨rfl, g⟩
  have G2 := Lib.hid (G0.out.trans g)
  clear g
  go_wp2_with fail
  go_ret
  exact ⟨rfl, G2.out⟩
set_option maxRecDepth 100000 in
theorem word_97 (x : LnV) (w : World) (hT : Pow10 w) (h0 : -9223372036854775808 ≤ x.d.a) (h1 : x.d.a ≤ 9223372036854775807) :
    Calls Tryz.prog 47 #[.agg x.arr, .int .i32 97] w fun e w' => e = .returned (strc (printL x.d.a)) ∧ Gr w w' := by
  have G0 : Hid (Gr w (w.alloc (.cells x.arr 37))) := Gr.alloc _ _
  have c0 : (w.alloc (.cells x.arr 37)).cell? ⟨w.heap.size, 12, none⟩ = some (.int .i64 x.d.a) := ((Blk.new w 37 x.arr).cell 12).trans rfl
  have HP := Lib.hid (print_any x.d.a _ h0 h1 (hT.mono G0.out))
  clear hT h0 h1
  go_enter Tryz.func47, Tryz.ntmps47
  go_wp2_with fail
  refine HP.out.mono ?_
  rintro e w2 ⟨rfl, g⟩
  have G2 := Lib.hid (G0.out.trans g)
  clear g
  go_wp2_with fail
  go_ret
  exact ⟨rfl, G2.out⟩
set_option maxRecDepth 100000 in
theorem word_101 (x : LnV) (w : World) (hT : Pow10 w) (h0 : -9223372036854775808 ≤ x.d.e) (h1 : x.d.e ≤ 9223372036854775807) :
    Calls Tryz.prog 47 #[.agg x.arr, .int .i32 101] w fun e w' => e = .returned (strc (printL x.d.e)) ∧ Gr w w' := by
  have G0 : Hid (Gr w (w.alloc (.cells x.arr 37))) := Gr.alloc _ _
  have c0 : (w.alloc (.cells x.arr 37)).cell? ⟨w.heap.size, 14, none⟩ = some (.int .i64 x.d.e) := ((Blk.new w 37 x.arr).cell 14).trans rfl
  have HP := Lib.hid (print_any x.d.e _ h0 h1 (hT.mono G0.out))
  clear hT h0 h1
  go_enter Tryz.func47, Tryz.ntmps47
  go_wp2_with fail
  refine HP.out.mono ?_
  rintro e w2 ⟨rfl, g⟩
  have G2 := Lib.hid (G0.out.trans g)
  clear g
  go_wp2_with fail
  go_ret
  exact ⟨rfl, G2.out⟩
set_option maxRecDepth 100000 in
theorem word_103 (x : LnV) (w : World) :
    Calls Tryz.prog 47 #[.agg x.arr, .int .i32 103] w fun e w' => e = .returned (strc x.d.g) ∧ Gr w w' := by
  have G0 : Hid (Gr w (w.alloc (.cells x.arr 37))) := Gr.alloc _ _
  have c0 : (w.alloc (.cells x.arr 37)).cell? ⟨w.heap.size, 13, none⟩ = some (strc x.d.g) := ((Blk.new w 37 x.arr).cell 13).trans rfl
  go_enter Tryz.func47, Tryz.ntmps47
  go_wp2_with fail
  go_ret
  exact ⟨rfl, G0.out⟩
set_option maxRecDepth 100000 in
theorem word_105 (x : LnV) (w : World) :
    Calls Tryz.prog 47 #[.agg x.arr, .int .i32 105] w fun e w' => e = .returned (strc x.d.i) ∧ Gr w w' := by
  have G0 : Hid (Gr w (w.alloc (.cells x.arr 37))) := Gr.alloc _ _
  have c0 : (w.alloc (.cells x.arr 37)).cell? ⟨w.heap.size, 15, none⟩ = some (strc x.d.i) := ((Blk.new w 37 x.arr).cell 15).trans rfl
  go_enter Tryz.func47, Tryz.ntmps47
  go_wp2_with fail
  go_ret
  exact ⟨rfl, G0.out⟩
set_option maxRecDepth 100000 in
theorem word_120 (x : LnV) (w : World) (hb : Bs w x.C x.d.b.length x.s x.d.b) (hl : x.d.b.length ≤ 100000) :
    Calls Tryz.prog 47 #[.agg x.arr, .int .i32 120] w fun e w' => e = .returned (strc (hexP x.d.b)) ∧ Gr w w' := by
  have G0 : Hid (Gr w (w.alloc (.cells x.arr 37))) := Gr.alloc _ _
  have c0 : (w.alloc (.cells x.arr 37)).cell? ⟨w.heap.size, 16, none⟩ = some (.slice x.C x.d.b.length x.s) := ((Blk.new w 37 x.arr).cell 16).trans rfl
  have HP := Lib.hid (hexPrint_any x.C x.d.b.length x.s x.d.b _ (hb.mono G0.out) hl)
  clear hb
  go_enter Tryz.func47, Tryz.ntmps47
  go_wp2_with fail
  refine HP.out.mono ?_
  rintro e w2 ⟨rfl, g⟩
  have G2 := Lib.hid (G0.out.trans g)
  clear g
  go_wp2_with fail
  go_ret
  exact ⟨rfl, G2.out⟩
theorem keepT_snoc (p : List Int) (k : Nat) (h : k < p.length) : (p.take (k + 1)).flatMap printL = (p.take k).flatMap printL ++ printL p[k] := by
  rw [List.take_succ_eq_append_getElem h, List.flatMap_append]; simp
theorem printL_bd {n : Int} (h : n ≤ 9223372036854775807) : (printL n).length ≤ 20 := by
  by_cases h0 : n < 0
  · unfold printL; rw [if_pos h0]; simp
  · obtain ⟨u, rfl⟩ := Int.eq_ofNat_of_zero_le (show 0 ≤ n by omega)
    have e : printL (u : Int) = Lib.decDigits u := by unfold printL; rw [if_neg (by omega)]; rfl
    rw [e]
    obtain ⟨_, i2, i3, _, i5, _⟩ := dec_back u
    rcases Nat.lt_or_ge 20 (Lib.decDigits u).length with h | h
    · by_cases hu : 1 ≤ u
      · have h2 := i5 hu
        have h3 : 10 ^ 20 ≤ 10 ^ ((Lib.decDigits u).length - 1) := Nat.pow_le_pow_right (by decide) (by omega)
        have h4 : (10 : Nat) ^ 20 = 100000000000000000000 := by decide
        omega
      · rw [dec_small u (by omega)] at h; simp at h
    · exact h
theorem flat_len (p : List Int) (hr : ∀ n ∈ p, n ≤ 9223372036854775807) : (p.flatMap printL).length ≤ p.length * 20 := by
  induction p with
  | nil => simp
  | cons n p ih =>
    have h1 := printL_bd (hr n List.mem_cons_self)
    have h2 := ih fun x hx => hr x (List.mem_cons_of_mem _ hx)
    simp only [List.flatMap_cons, List.length_append, List.length_cons]
    omega
set_option maxRecDepth 100000 in
set_option maxHeartbeats 2000000 in
theorem word_107 (x : LnV) (w : World) (hp : Is w x.B x.d.p.length x.q x.d.p) (hl : x.d.p.length ≤ 1000) (hT : Pow10 w) (hr : ∀ n ∈ x.d.p, -9223372036854775808 ≤ n ∧ n ≤ 9223372036854775807) :
    Calls Tryz.prog 47 #[.agg x.arr, .int .i32 107] w fun e w' => e = .returned (strc (keepT x.d.p)) ∧ Gr w w' := by
  have G0 : Hid (Gr w (w.alloc (.cells x.arr 37))) := Gr.alloc _ _
  have c0 : (w.alloc (.cells x.arr 37)).cell? ⟨w.heap.size, 10, none⟩ = some (.slice x.B x.d.p.length x.q) := ((Blk.new w 37 x.arr).cell 10).trans rfl
  have HPR : Hid (∀ (n : Int) wr, Gr w wr → n ∈ x.d.p → Calls Tryz.prog 73 #[.int .i64 n] wr fun e w' => e = .returned (strc (printL n)) ∧ Gr wr w') := fun n wr g h => print_any n wr (hr n h).1 (hr n h).2 (hT.mono g)
  have HBD := Lib.hid (fun k => Nat.le_trans (flat_len (x.d.p.take k) (fun n hn => (hr n (List.mem_of_mem_take hn)).2)) (Nat.mul_le_mul_right 20 (show (x.d.p.take k).length ≤ x.d.p.length by rw [List.length_take]; omega)))
  have HPZ := Lib.hid (fun n hn => printL_bd (hr n hn).2)
  have HP := Lib.hid hp
  have hmax := hp.max
  have hcap := hp.cap
  clear hp hT hr
  generalize x.d.p = p at *
  generalize x.B = XB at *
  go_enter Tryz.func47, Tryz.ntmps47
  by_cases h0 : p = []
  · subst h0
    go_wp2_with fail
    go_ret
    exact ⟨rfl, G0.out⟩
  · have hpos := List.length_pos_iff.2 h0
    have t0 : ((p.length : Int) == 0) = false := beq_eq_false_iff_ne.2 (by omega)
    have HF : Hid (keepT p = p.flatMap printL) := if_neg h0
    rw [HF.out]
    clear h0
    go_wp2_with fail
    go_loopw [5, 52] (fun v i wr => ∃ (k : Nat) (t : ByteArray), k ≤ p.length ∧ i = .int .i64 k ∧ v = .string t ∧ t = ⟨((p.take k).flatMap printL).toArray⟩ ∧ Gr w wr) (fun _ i _ => p.length - (intOf i).toNat)
    case atStart => exact ⟨0, ⟨#[]⟩, Nat.zero_le _, rfl, rfl, rfl, G0.out⟩
    case round =>
      obtain ⟨k, t, hk, rfl, rfl, ht, g⟩ := hrel
      have HT := Lib.hid ht; have G := Lib.hid g
      have htz : t.size = ((p.take k).flatMap printL).length := by rw [ht]; exact size_of' _
      have hbd := HBD.out k
      clear ht g
      by_cases hlt : k < p.length
      · obtain ⟨bn, on, rfl, hc⟩ := Is.addr (HP.out.mono G.out) hpos
        have ck := hc k hlt
        have hia : iAt p k = p[k] := by simp [iAt, List.getElem?_eq_getElem hlt]
        rw [hia] at ck
        have HPC := Lib.hid (HPR.out p[k] wr G.out (List.getElem_mem hlt))
        have hpz := HPZ.out p[k] (List.getElem_mem hlt)
        have HSN := Lib.hid (keepT_snoc p k hlt)
        clear hc hia
        generalize p[k] = n at *
        obtain ⟨fx, hfx⟩ : ∃ fx : ByteArray, fx = ⟨(printL n).toArray⟩ := ⟨_, rfl⟩
        have hfz : fx.size = (printL n).length := by rw [hfx]; exact size_of' _
        rw [show strc (printL n) = .string fx by rw [hfx]; rfl] at HPC
        have HX2 : Hid (t ++ fx = ⟨((p.take (k + 1)).flatMap printL).toArray⟩) := by
          show _ = _
          rw [HSN.out, HT.out, hfx]
          apply ByteArray.ext
          simp
        have l1 : ¬ 9223372036854775807 < t.size + fx.size := by omega
        clear hfx hfz htz hbd hpz
        go_wp2_with fail
        refine HPC.out.mono ?_
        rintro e w2 ⟨rfl, g2⟩
        have G2 := Lib.hid (G.out.trans g2)
        clear g2 ck
        go_wp2_with fail
        refine ⟨⟨k + 1, t ++ fx, by omega, by first | trivial | go_num, rfl, HX2.out, G2.out⟩, ?_⟩
        show p.length - ((k : Int) + 1).toNat < p.length - (k : Int).toNat
        omega
      · obtain rfl : k = p.length := by omega
        have HT2 : Hid (Value.string t = strc (p.flatMap printL)) := by
          show _ = _
          rw [HT.out, List.take_of_length_le (Nat.le_refl _)]; rfl
        go_wp2_with fail
        go_ret
        exact ⟨by rw [← HT2.out]; rfl, G.out⟩
/-! ### all signs -/
structure LnOk (d : LnD) : Prop where
  n : -9223372036854775808 ≤ d.n ∧ d.n ≤ 9223372036854775807
  t : -9223372036854775808 ≤ d.t ∧ d.t ≤ 9223372036854775807
  a : -9223372036854775808 ≤ d.a ∧ d.a ≤ 9223372036854775807
  e : -9223372036854775808 ≤ d.e ∧ d.e ≤ 9223372036854775807
  p : ∀ n ∈ d.p, -9223372036854775808 ≤ n ∧ n ≤ 9223372036854775807
  pl : d.p.length ≤ 100
  gl : d.g.length ≤ 1000
  il : d.i.length ≤ 1000
  bl : d.b.length ≤ 1000
theorem wordT_any (x : LnV) (s : Nat) (w : World) (ho : LnOk x.d) (hx : LnAt w x) (hT : Pow10 w) (hs : s = 110 ∨ s = 116 ∨ s = 97 ∨ s = 101 ∨ s = 107 ∨ s = 103 ∨ s = 105 ∨ s = 120) :
    Calls Tryz.prog 47 #[.agg x.arr, .int .i32 (s : Int)] w fun e w' => e = .returned (strc (wordS x.d s)) ∧ Gr w w' := by
  rcases hs with rfl | rfl | rfl | rfl | rfl | rfl | rfl | rfl
  · exact word_110 x w hT ho.n.1 ho.n.2
  · exact word_116 x w hT ho.t.1 ho.t.2
  · exact word_97 x w hT ho.a.1 ho.a.2
  · exact word_101 x w hT ho.e.1 ho.e.2
  · exact word_107 x w hx.p (by have := ho.pl; omega) hT ho.p
  · exact word_103 x w
  · exact word_105 x w
  · exact word_120 x w hx.b (by have := ho.bl; omega)
theorem wordS_len {d : LnD} (ho : LnOk d) (s : Nat) : (wordS d s).length ≤ 3000 := by
  unfold wordS
  split
  · have := printL_bd ho.n.2; omega
  · split
    · have := printL_bd ho.t.2; omega
    · split
      · have := printL_bd ho.a.2; omega
      · split
        · have := printL_bd ho.e.2; omega
        · split
          · have := ho.gl; omega
          · split
            · have := ho.il; omega
            · split
              · have := ho.bl; rw [hexP_len]; omega
              · unfold keepT
                split
                · simp
                · have := flat_len d.p (fun n hn => (ho.p n hn).2)
                  have := ho.pl
                  omega
end Go.Proofs.YtadenlhnfkccaaaGreatDoor

/- ObOqC, ObOqD: one text. No condition. -/
/- Operations as lines: Tell. No condition. -/
namespace Go.Proofs.YtadenlhnfkccaaaGreatDoor
open Go.RowKit
set_option linter.unusedVariables false
set_option linter.unusedSimpArgs false
theorem str_nil {p : List UInt8} : (⟨p.toArray⟩ : ByteArray) = ⟨#[]⟩ ↔ p = [] := by
  constructor
  · intro h
    have := congrArg (fun x : ByteArray => x.data.toList) h
    simpa using this
  · rintro rfl; rfl
theorem join_any39 (ps : List (List UInt8)) (A : Option Addr) (n c : Nat) (w : World) (s : Ws w A n c ps) (hl : ps.length = n) (h0 : 0 < n) (hN : n ≤ 140737488355328) (hlen : (Lib.join ps [32]).length ≤ 140737488355328) :
    Calls Tryz.prog 48 #[.slice A n c, .string ⟨#[32]⟩] w fun e w' => e = .returned (strc (Lib.join ps [32])) ∧ Gr w w' := by
  have hcap := s.cap
  obtain ⟨bk, ok, rfl, hcl⟩ := Ws.addr (ps := ps) s h0
  have hxs2 : (ps.map fun p => (⟨p.toArray⟩ : ByteArray)).map (·.data.toList) = ps := by rw [List.map_map]; exact List.map_id'' (fun p => rfl) _
  have h := Tryz.strings_Join bk ok c (ps.map fun p => (⟨p.toArray⟩ : ByteArray)) ⟨#[32]⟩ w (fun j x hx => by
    rw [List.getElem?_map] at hx
    obtain ⟨p, hp, rfl⟩ := Option.map_eq_some_iff.1 hx
    obtain ⟨hj, rfl⟩ := List.getElem?_eq_some_iff.1 hp
    exact hcl j hj) (World.block_lt_of_cell? w _ (hcl 0 (by omega))) (by rw [List.length_map, hl]; exact hN) (by rw [List.length_map, hl]; exact hcap) (by rw [hxs2]; exact hlen)
  rw [hxs2, List.length_map, hl] at h
  exact h
theorem wordL_len (k : Nat) : (wordL k).length ≤ 7 := by
  rcases Nat.lt_or_ge k 15 with h | h
  · rcases show k = 0 ∨ k = 1 ∨ k = 2 ∨ k = 3 ∨ k = 4 ∨ k = 5 ∨ k = 6 ∨ k = 7 ∨ k = 8 ∨ k = 9 ∨ k = 10 ∨ k = 11 ∨ k = 12 ∨ k = 13 ∨ k = 14 by omega with rfl | rfl | rfl | rfl | rfl | rfl | rfl | rfl | rfl | rfl | rfl | rfl | rfl | rfl | rfl <;> decide +kernel
  · rw [wordL_out h]; decide
theorem wordT_len (f : Int) : (wordT f).length ≤ 7 := by
  unfold wordT
  split
  · decide
  · exact wordL_len _
theorem joinL_len (c : UInt8) (B : Nat) : ∀ ps : List (List UInt8), (∀ p ∈ ps, p.length ≤ B) → (Lib.join ps [c]).length ≤ ps.length * (B + 1)
  | [], _ => by simp [Lib.join]
  | p :: r, h => by
    rw [Lib.join_cons]
    have h1 := h p List.mem_cons_self
    have h2 : ∀ r : List (List UInt8), (∀ p ∈ r, p.length ≤ B) → (Lib.joinTail [c] r).length ≤ r.length * (B + 1) := by
      intro r
      induction r with
      | nil => intro _; simp [Lib.joinTail]
      | cons q r ih =>
        intro hq
        have i1 := ih fun x hx => hq x (List.mem_cons_of_mem _ hx)
        have i2 := hq q List.mem_cons_self
        simp only [Lib.joinTail, List.map_cons, List.flatten_cons, List.length_append, List.length_cons, List.length_nil, Nat.add_mul] at i1 ⊢
        omega
    have h3 := h2 r fun x hx => h x (List.mem_cons_of_mem _ hx)
    simp only [List.length_append, List.length_cons, Nat.add_mul] at h3 ⊢
    omega
theorem tellA_len (a : AnD) (hb : a.b.length ≤ 10000) (hn : a.n.length ≤ 10000) (ht : a.t.length ≤ 10000) : (Lib.join (tellA a) [32]).length ≤ 300000000 ∧ (tellA a).length ≤ 10003 := by
  have h1 := joinL_len 32 20001 (tellA a) (by
    intro p hp
    unfold tellA tellW at hp
    rcases List.mem_append.1 hp with hp | hp
    · rcases List.mem_append.1 hp with hp | hp
      · rcases List.mem_cons.1 hp with rfl | hp
        · have := wordT_len a.f; omega
        · obtain ⟨n, _, rfl⟩ := List.mem_map.1 hp
          have := countT_len n; omega
      · split at hp
        · simp at hp
        · simp only [List.mem_singleton] at hp
          subst hp
          simp only [List.length_cons, hexP_len]; omega
    · split at hp
      · simp at hp
      · simp only [List.mem_singleton] at hp
        subst hp
        simp only [List.length_cons]; omega)
  have h2 : (tellA a).length ≤ 10003 := by
    unfold tellA tellW
    simp only [List.length_append, List.length_cons, List.length_map]
    split <;> split <;> simp <;> omega
  exact ⟨by have := Nat.mul_le_mul_right 20002 h2; omega, h2⟩
end Go.Proofs.YtadenlhnfkccaaaGreatDoor
/- Operations as lines: the chapter's example; is an answer small? No condition. -/
namespace Go.Proofs.YtadenlhnfkccaaaGreatDoor
open Go.RowKit
set_option linter.unusedVariables false
set_option linter.unusedSimpArgs false
def look0 : OpD := ⟨9, [97], [], 0, 0, 0, 0, []⟩
theorem parse_look : parseO [108, 111, 111, 107, 32, 97] = (look0, 0) := by kernel_rfl
def an321 : AnD := ⟨0, [], [3, 2, 1], []⟩
theorem tell_321 : tellL an321 = [111, 107, 32, 51, 32, 50, 32, 49] := by decide +kernel
end Go.Proofs.YtadenlhnfkccaaaGreatDoor

/- Lines of scripts: what a line's text would be. No condition. -/
namespace Go.Proofs.YtadenlhnfkccaaaGreatDoor
open Go.RowKit
set_option linter.unusedVariables false
set_option linter.unusedSimpArgs false
def OpLt (o : OpD) : Prop := OpOk o ∧ o.g.length ≤ 1000 ∧ o.i.length ≤ 1000
theorem signsW : ∀ k s, s ∈ scrS k → s.toNat = 110 ∨ s.toNat = 116 ∨ s.toNat = 97 ∨ s.toNat = 101 ∨ s.toNat = 107 ∨ s.toNat = 103 ∨ s.toNat = 105 ∨ s.toNat = 120 := by
  intro k s h
  match k, h with
  | 2, h => simp [scrS] at h; subst h; decide
  | 3, h => simp [scrS] at h; rcases h with rfl | rfl | rfl <;> decide
  | 5, h => simp [scrS] at h; rcases h with rfl | rfl | rfl <;> decide
  | 7, h => simp [scrS] at h; rcases h with rfl | rfl | rfl <;> decide
  | 0, h => simp [scrS] at h
  | 1, h => simp [scrS] at h
  | 4, h => simp [scrS] at h
  | 6, h => simp [scrS] at h
  | k + 8, h => simp [scrS] at h
theorem scrS_lenW (k : Nat) : (scrS k).length ≤ 3 := by
  match k with
  | 0 | 1 | 2 | 3 | 4 | 5 | 6 | 7 => simp [scrS]
  | k + 8 => simp [scrS]
theorem scrW_len (k : Nat) : (scrW k).length ≤ 6 := by
  match k with
  | 0 | 1 | 2 | 3 | 4 | 5 | 6 | 7 | 8 => simp [scrW]
  | k + 9 => simp [scrW]
def textW (d : LnD) (K : Nat) : List (List UInt8) := scrW K :: (scrS K).map fun s => wordS d s.toNat
theorem textW_len {d : LnD} (ho : LnOk d) (K : Nat) : (Lib.join (textW d K) [32]).length ≤ 20000 := by
  have h1 := joinL_len 32 3000 (textW d K) (by
    intro p hp
    rcases List.mem_cons.1 hp with rfl | hp
    · have := scrW_len K; omega
    · obtain ⟨s, _, rfl⟩ := List.mem_map.1 hp
      exact wordS_len ho s.toNat)
  have h2 : (textW d K).length ≤ 4 := by
    have := scrS_lenW K
    simp only [textW, List.length_cons, List.length_map]; omega
  have := Nat.mul_le_mul_right 3001 h2
  omega
theorem printO_lenS {o : OpD} (hg : o.g.length ≤ 1000) (hi : o.i.length ≤ 1000) : (printO o).1.length ≤ 5000 := by
  rw [printO_eq]
  split
  · have := lineTo_len o hg hi _ (Nat.le_refl (formS (formOf o)).length)
    have h4 := formS_len (formOf o)
    have h5 : (formS (formOf o)).length * 1001 ≤ 4 * 1001 := Nat.mul_le_mul_right _ h4
    show (lineTo _ _ _).length ≤ _
    omega
  · exact Nat.zero_le _
set_option maxRecDepth 100000 in
set_option maxHeartbeats 4000000 in
theorem text_any (x : LnV) (w : World) (ho : LnOk x.d) (hop : OpLt x.d.o) (hx : LnAt w x) (hT : Pow10 w) (hM : MLen w) :
    Calls Tryz.prog 24 #[.agg x.arr] w fun e w' => e = .returned (strc (textT x.d)) ∧ Gr w w' := by
  have HC : Hid (∀ wq, Gr (w.alloc (.cells x.arr 37)) wq → ∀ (i : Nat) (v : Value), x.cells[i]? = some v → wq.cell? ⟨w.heap.size, i, none⟩ = some v) := fun wq g i v h => (((Blk.new w 37 x.arr).mono g).cell i).trans h
  have G0 : Hid (Gr w (w.alloc (.cells x.arr 37))) := Gr.alloc w _
  have HFO : Hid (∀ wr : World, Calls Tryz.prog 28 #[] wr fun e w' => e = .returned (.agg scrCells) ∧ Gr wr w') := fun wr => scrForms_any wr
  have HO := Lib.hid scrOne
  by_cases h1 : x.d.k = 1
  · have t1 : (x.d.k == 1) = true := beq_iff_eq.2 h1
    have HF : Hid (textT x.d = (printO x.d.o).1) := if_pos h1
    have HPR := Lib.hid (opPrint_any x.d.o x.A x.d.o.x.length x.c _ hop.1 hop.2.1 hop.2.2 (hx.o.mono G0.out) (hT.mono G0.out) (hM.mono G0.out))
    rw [HF.out]
    clear h1 hx hT hM hop
    have c0 := HC.out _ (Gr.refl _) 0 _ rfl
    have c1 := HC.out _ (Gr.refl _) 1 _ rfl
    have c2 := HC.out _ (Gr.refl _) 2 _ rfl
    have c3 := HC.out _ (Gr.refl _) 3 _ rfl
    have c4 := HC.out _ (Gr.refl _) 4 _ rfl
    have c5 := HC.out _ (Gr.refl _) 5 _ rfl
    have c6 := HC.out _ (Gr.refl _) 6 _ rfl
    have c7 := HC.out _ (Gr.refl _) 7 _ rfl
    have c8 := HC.out _ (Gr.refl _) 8 _ rfl
    have c9 := HC.out _ (Gr.refl _) 9 _ rfl
    have c10 := HC.out _ (Gr.refl _) 10 _ rfl
    have c11 := HC.out _ (Gr.refl _) 11 _ rfl
    have c12 := HC.out _ (Gr.refl _) 12 _ rfl
    have c13 := HC.out _ (Gr.refl _) 13 _ rfl
    have c14 := HC.out _ (Gr.refl _) 14 _ rfl
    have c15 := HC.out _ (Gr.refl _) 15 _ rfl
    have c16 := HC.out _ (Gr.refl _) 16 _ rfl
    go_enter Tryz.func24, Tryz.ntmps24
    go_wp2_with fail
    refine HPR.out.mono ?_
    rintro e w2 ⟨rfl, g⟩
    have G2 := Lib.hid (G0.out.trans g)
    clear g
    go_wp2_with fail
    go_ret
    exact ⟨rfl, G2.out⟩
  · have t1 : (x.d.k == 1) = false := beq_eq_false_iff_ne.2 h1
    by_cases hk : 0 ≤ x.d.k ∧ x.d.k < 9
    · obtain ⟨K, hke⟩ : ∃ K : Nat, x.d.k = (K : Int) := ⟨x.d.k.toNat, by omega⟩
      have hK : K < 9 := by omega
      have HTT : Hid (textT x.d = Lib.join (textW x.d K) [32]) := by
        show _ = _
        unfold textT
        rw [if_neg h1, if_pos hk, hke]
        rfl
      rw [HTT.out]
      have HWD : Hid (∀ (s : UInt8) wr, s ∈ scrS K → Gr w wr → Calls Tryz.prog 47 #[.agg x.arr, .int .i32 (s.toNat : Int)] wr fun e w' => e = .returned (strc (wordS x.d s.toNat)) ∧ Gr wr w') := fun s wr hs g => wordT_any x s.toNat wr ho (hx.gr g) (hT.mono g) (signsW K s hs)
      have HLN := Lib.hid (textW_len ho K)
      have hf4 := scrS_lenW K
      have HSG := Lib.hid (signsW K)
      obtain ⟨xw, hxx⟩ : ∃ xw : ByteArray, xw = ⟨(scrW K).toArray⟩ := ⟨_, rfl⟩
      obtain ⟨y, hy⟩ : ∃ y : ByteArray, y = ⟨(scrS K).toArray⟩ := ⟨_, rfl⟩
      have hys : y.size = (scrS K).length := by rw [hy]; exact size_of' _
      have HAT := Lib.hid (at_of (scrS K) y hy)
      have hxs : strc (scrW K) = .string xw := by rw [hxx]; rfl
      have hyS : strc (scrS K) = .string y := by rw [hy]; rfl
      clear hxx hy hx hT hM hop ho
      have c0 := HC.out _ (Gr.refl _) 0 _ rfl
      have c1 := HC.out _ (Gr.refl _) 1 _ rfl
      have c2 := HC.out _ (Gr.refl _) 2 _ rfl
      have c3 := HC.out _ (Gr.refl _) 3 _ rfl
      have c4 := HC.out _ (Gr.refl _) 4 _ rfl
      have c5 := HC.out _ (Gr.refl _) 5 _ rfl
      have c6 := HC.out _ (Gr.refl _) 6 _ rfl
      have c7 := HC.out _ (Gr.refl _) 7 _ rfl
      have c8 := HC.out _ (Gr.refl _) 8 _ rfl
      have c9 := HC.out _ (Gr.refl _) 9 _ rfl
      have c10 := HC.out _ (Gr.refl _) 10 _ rfl
      have c11 := HC.out _ (Gr.refl _) 11 _ rfl
      have c12 := HC.out _ (Gr.refl _) 12 _ rfl
      have c13 := HC.out _ (Gr.refl _) 13 _ rfl
      have c14 := HC.out _ (Gr.refl _) 14 _ rfl
      have c15 := HC.out _ (Gr.refl _) 15 _ rfl
      have c16 := HC.out _ (Gr.refl _) 16 _ rfl
      go_enter Tryz.func24, Tryz.ntmps24
      go_wp2_with fail
      refine (HFO.out _).mono ?_
      rintro e w2 ⟨rfl, g2⟩
      clear c0 c1 c2 c3 c4 c5 c6 c7 c8 c9 c10 c11 c12 c13 c14 c15 c16
      have G23 : Gr w2 ((w2.alloc (.cells #[.string ⟨#[]⟩, .string ⟨#[]⟩, .string ⟨#[]⟩, .string ⟨#[]⟩, .string ⟨#[]⟩, .string ⟨#[]⟩, .string ⟨#[]⟩, .string ⟨#[]⟩, .string ⟨#[]⟩, .string ⟨#[]⟩, .string ⟨#[]⟩, .string ⟨#[]⟩, .string ⟨#[]⟩, .string ⟨#[]⟩, .string ⟨#[]⟩, .string ⟨#[]⟩, .string ⟨#[]⟩, .string ⟨#[]⟩] 72)).setRow w2.heap.size scrCells) := below_row39 ((Below.refl _ _).alloc (Nat.le_refl _) _) (Nat.le_refl _) _
      have BF : Blk ((w2.alloc (.cells #[.string ⟨#[]⟩, .string ⟨#[]⟩, .string ⟨#[]⟩, .string ⟨#[]⟩, .string ⟨#[]⟩, .string ⟨#[]⟩, .string ⟨#[]⟩, .string ⟨#[]⟩, .string ⟨#[]⟩, .string ⟨#[]⟩, .string ⟨#[]⟩, .string ⟨#[]⟩, .string ⟨#[]⟩, .string ⟨#[]⟩, .string ⟨#[]⟩, .string ⟨#[]⟩, .string ⟨#[]⟩, .string ⟨#[]⟩] 72)).setRow w2.heap.size scrCells) w2.heap.size 72 scrCells.toList := setRow_heap _ w2.heap.size _ _ _ _ (heap_alloc_new w2 _)
      have GS := Lib.hid (g2.trans G23)
      have GB : Gr ((w2.alloc (.cells #[.string ⟨#[]⟩, .string ⟨#[]⟩, .string ⟨#[]⟩, .string ⟨#[]⟩, .string ⟨#[]⟩, .string ⟨#[]⟩, .string ⟨#[]⟩, .string ⟨#[]⟩, .string ⟨#[]⟩, .string ⟨#[]⟩, .string ⟨#[]⟩, .string ⟨#[]⟩, .string ⟨#[]⟩, .string ⟨#[]⟩, .string ⟨#[]⟩, .string ⟨#[]⟩, .string ⟨#[]⟩, .string ⟨#[]⟩] 72)).setRow w2.heap.size scrCells) (((w2.alloc (.cells #[.string ⟨#[]⟩, .string ⟨#[]⟩, .string ⟨#[]⟩, .string ⟨#[]⟩, .string ⟨#[]⟩, .string ⟨#[]⟩, .string ⟨#[]⟩, .string ⟨#[]⟩, .string ⟨#[]⟩, .string ⟨#[]⟩, .string ⟨#[]⟩, .string ⟨#[]⟩, .string ⟨#[]⟩, .string ⟨#[]⟩, .string ⟨#[]⟩, .string ⟨#[]⟩, .string ⟨#[]⟩, .string ⟨#[]⟩] 72)).setRow w2.heap.size scrCells).alloc (.cells #[.string xw] 9)) := Gr.alloc _ _
      have d0 : ((w2.alloc (.cells #[.string ⟨#[]⟩, .string ⟨#[]⟩, .string ⟨#[]⟩, .string ⟨#[]⟩, .string ⟨#[]⟩, .string ⟨#[]⟩, .string ⟨#[]⟩, .string ⟨#[]⟩, .string ⟨#[]⟩, .string ⟨#[]⟩, .string ⟨#[]⟩, .string ⟨#[]⟩, .string ⟨#[]⟩, .string ⟨#[]⟩, .string ⟨#[]⟩, .string ⟨#[]⟩, .string ⟨#[]⟩, .string ⟨#[]⟩] 72)).setRow w2.heap.size scrCells).cell? ⟨w.heap.size, 0, none⟩ = some (.int .i64 (K : Int)) := by rw [← hke]; exact HC.out _ GS.out 0 _ rfl
      have cw : ((w2.alloc (.cells #[.string ⟨#[]⟩, .string ⟨#[]⟩, .string ⟨#[]⟩, .string ⟨#[]⟩, .string ⟨#[]⟩, .string ⟨#[]⟩, .string ⟨#[]⟩, .string ⟨#[]⟩, .string ⟨#[]⟩, .string ⟨#[]⟩, .string ⟨#[]⟩, .string ⟨#[]⟩, .string ⟨#[]⟩, .string ⟨#[]⟩, .string ⟨#[]⟩, .string ⟨#[]⟩, .string ⟨#[]⟩, .string ⟨#[]⟩] 72)).setRow w2.heap.size scrCells).cell? ⟨w2.heap.size, K * 2, none⟩ = some (.string xw) := by
        rw [BF.cell, Nat.mul_comm, scrCells_w K hK, hxs]
      have d0' : (((w2.alloc (.cells #[.string ⟨#[]⟩, .string ⟨#[]⟩, .string ⟨#[]⟩, .string ⟨#[]⟩, .string ⟨#[]⟩, .string ⟨#[]⟩, .string ⟨#[]⟩, .string ⟨#[]⟩, .string ⟨#[]⟩, .string ⟨#[]⟩, .string ⟨#[]⟩, .string ⟨#[]⟩, .string ⟨#[]⟩, .string ⟨#[]⟩, .string ⟨#[]⟩, .string ⟨#[]⟩, .string ⟨#[]⟩, .string ⟨#[]⟩] 72)).setRow w2.heap.size scrCells).alloc (.cells #[.string xw] 9)).cell? ⟨w.heap.size, 0, none⟩ = some (.int .i64 (K : Int)) := by rw [← hke]; exact HC.out _ (GS.out.trans GB) 0 _ rfl
      have cs' : (((w2.alloc (.cells #[.string ⟨#[]⟩, .string ⟨#[]⟩, .string ⟨#[]⟩, .string ⟨#[]⟩, .string ⟨#[]⟩, .string ⟨#[]⟩, .string ⟨#[]⟩, .string ⟨#[]⟩, .string ⟨#[]⟩, .string ⟨#[]⟩, .string ⟨#[]⟩, .string ⟨#[]⟩, .string ⟨#[]⟩, .string ⟨#[]⟩, .string ⟨#[]⟩, .string ⟨#[]⟩, .string ⟨#[]⟩, .string ⟨#[]⟩] 72)).setRow w2.heap.size scrCells).alloc (.cells #[.string xw] 9)).cell? ⟨w2.heap.size, K * 2 + 1, none⟩ = some (.string y) := by
        rw [(BF.mono GB).cell, Nat.mul_comm, scrCells_s K hK, hyS]
      have t1 : decide ((K : Int) < 0) = false := decide_eq_false (by omega)
      have t2 : decide ((K : Int) ≥ 9) = false := decide_eq_false (by omega)
      have hi9 : (K : Int) < 9 := by omega
      clear hk g2
      go_wp2_with (refine wpList_store_row rfl 72 (.tmp 5) (.tmp 19) rfl w2.heap.size scrCells rfl rfl 72 (reps 18 (.string ⟨#[]⟩)).toArray (by exact heap_alloc_new w2 _) scrSize rfl HO.out ?_)
      obtain ⟨w3, hw3⟩ : ∃ w3, w3 = ((w2.alloc (.cells #[.string ⟨#[]⟩, .string ⟨#[]⟩, .string ⟨#[]⟩, .string ⟨#[]⟩, .string ⟨#[]⟩, .string ⟨#[]⟩, .string ⟨#[]⟩, .string ⟨#[]⟩, .string ⟨#[]⟩, .string ⟨#[]⟩, .string ⟨#[]⟩, .string ⟨#[]⟩, .string ⟨#[]⟩, .string ⟨#[]⟩, .string ⟨#[]⟩, .string ⟨#[]⟩, .string ⟨#[]⟩, .string ⟨#[]⟩] 72)).setRow w2.heap.size scrCells) := ⟨_, rfl⟩
      rw [← hw3] at GS ⊢
      have hs3 : w3.heap.size = w2.heap.size + 1 := by rw [hw3]; simp [World.setRow]
      clear d0 cw d0' cs' GB BF G23 hw3
      have O0 : Hid (Own w3 ((w3.alloc (.cells #[.string xw] 9)).iter y 0) 9 1 (.slice (some ⟨w3.heap.size, 0, none⟩) 1 1) 1 [.string xw]) := by
        have := (Blk.new w3 9 #[.string xw]).own (w0 := w3) (size := 1) (n := 1) (Nat.le_refl _) (Gr.alloc w3 _) rfl (by decide)
        exact Own.alloc this (.stringIter y 0)
      rw [hs3] at O0
      have hIH : ((w3.alloc (.cells #[.string xw] 9)).iter y 0).heap[w3.heap.size + 1]? = some (.stringIter y 0) := by
        have := heap_alloc_new (w3.alloc (.cells #[.string xw] 9)) (.stringIter y 0)
        rw [show (w3.alloc (.cells #[.string xw] 9)).heap.size = w3.heap.size + 1 by simp] at this
        exact this
      rw [hs3] at hIH
      have HIH := Lib.hid hIH; clear hIH
      have HS3 := Lib.hid hs3; clear hs3
      clear t1 t2 hi9
      go_loopw [6] (fun v wr => ∃ j : Nat, j ≤ y.size ∧ Own w3 wr 9 1 v (j + 1) ((scrW K :: ((scrS K).take j).map fun s => wordS x.d s.toNat).map strc) ∧ wr.heap[w2.heap.size + 1 + 1]? = some (.stringIter y j)) (fun _ wr => y.size - wr.iterPos (w2.heap.size + 1 + 1))
      case atStart => exact ⟨0, by omega, by simpa [hxs] using O0.out, HIH.out⟩
      case round =>
        obtain ⟨j, hj, ow, hit⟩ := hrel
        have OW := Lib.hid ow; clear ow
        by_cases hlt : j < y.size
        · have hja : j < (scrS K).length := by omega
          have hsg := HSG.out _ (List.getElem_mem hja)
          have hya : (y[j]'hlt).toNat = (scrS K)[j].toNat := by
            have h1 := HAT.out j hlt
            unfold bAt at h1
            rw [show (scrS K).getD j 0 = (scrS K)[j] by simp [List.getD_eq_getElem?_getD, List.getElem?_eq_getElem hja]] at h1
            omega
          have hnx : ∀ ty, (Instr.next (.pointer (some ⟨w2.heap.size + 1 + 1, 0, none⟩)) true ty).run Tryz.prog wr = .ok (.tuple #[.bool true, .int .i64 j, .int .i32 ((scrS K)[j].toNat : Int)]) (wr.iterAt (w2.heap.size + 1 + 1) y (j + 1)) := fun ty => by
            rw [Lib.run_next_ascii_at wr (w2.heap.size + 1 + 1) y j ty hit hlt (by rw [hya]; rcases hsg with h | h | h | h | h | h | h | h <;> omega), hya]
          have OI : Hid (Own w3 (wr.iterAt (w2.heap.size + 1 + 1) y (j + 1)) 9 1 u6 (j + 1) ((scrW K :: ((scrS K).take j).map fun s => wordS x.d s.toNat).map strc)) := Own.tch OW.out (Tch.iterAt wr (w2.heap.size + 1 + 1) y (j + 1)) (fun b e => by have e : b = w2.heap.size + 1 + 1 := e; have := HS3.out; omega) (fun b e h => Own.not_iter OW.out hit e h)
          have hit2 := Lib.iterAt_heap wr (w2.heap.size + 1 + 1) y j (j + 1) hit
          have GXI : Gr (w.alloc (.cells x.arr 37)) (wr.iterAt (w2.heap.size + 1 + 1) y (j + 1)) := Below.trans GS.out (OI.out.below.mono GS.out.size)
          have BX : Hid (Blk (wr.iterAt (w2.heap.size + 1 + 1) y (j + 1)) w.heap.size 37 x.arr.toList) := (Blk.new w 37 x.arr).mono GXI
          have GWI := Lib.hid (G0.out.trans GXI)
          have HFC := Lib.hid (HWD.out (scrS K)[j] _ (List.getElem_mem hja) GWI.out)
          have hst : Hid ((scrW K :: ((scrS K).take (j + 1)).map fun s => wordS x.d s.toNat).map strc = (scrW K :: ((scrS K).take j).map fun s => wordS x.d s.toNat).map strc ++ [strc (wordS x.d (scrS K)[j].toNat)]) := by
            show _ = _
            rw [List.take_succ_eq_append_getElem hja, List.map_append, ← List.cons_append, List.map_append]
            rfl
          have HI2 := Lib.hid hit2; have HI1 := Lib.hid hit
          clear hit hit2 hya hsg GXI
          generalize (scrS K)[j].toNat = sg at *
          obtain ⟨fx, hfx⟩ : ∃ fx : ByteArray, strc (wordS x.d sg) = .string fx := ⟨_, rfl⟩
          rw [hfx] at HFC hst
          clear hfx
          go_wp2_with (refine wpList_load_row rfl 37 (.tmp 1) rfl w.heap.size rfl 37 x.arr (0, 0) _ BX.out Tryz.underlying37 rfl lnSize ?_)
          refine HFC.out.mono ?_
          rintro e w6 ⟨rfl, g6⟩
          have O6 := Lib.hid (OI.out.mono g6)
          have HI6 := Lib.hid ((g6.block _ (Array.getElem?_eq_some_iff.1 HI2.out).1).trans HI2.out)
          clear g6
          go_wp2_with (at_builtin; go_loud (refine wpList_pushG rfl (.tmp 43) (.tmp 47) 68 rfl tWords rfl O6.out #[.string fx] rfl rfl (by intro u hu; simp at hu; subst hu; rfl) (by omega) ?_); intro v1 wn o1 kp)
          have hI7 : wn.heap[w2.heap.size + 1 + 1]? = some (.stringIter y (j + 1)) := by
            have h1 : (w6.alloc (.cells #[.string fx] 9)).heap[w2.heap.size + 1 + 1]? = some (.stringIter y (j + 1)) := by
              exact ((Gr.alloc w6 (.cells #[.string fx] 9)).block _ (Array.getElem?_eq_some_iff.1 HI6.out).1).trans HI6.out
            rw [kp.1 _ (Array.getElem?_eq_some_iff.1 h1).1 (fun e => Own.not_iter O6.out HI6.out e rfl)]
            exact h1
          have OE : Hid (Own w3 wn 9 1 v1 (j + 1 + 1) ((scrW K :: ((scrS K).take (j + 1)).map fun s => wordS x.d s.toNat).map strc)) := by
            show Own _ _ _ _ _ _ _
            rw [hst.out]
            exact o1
          refine ⟨⟨j + 1, by omega, OE.out, hI7⟩, ?_⟩
          rw [iterPos_of hI7, iterPos_of HI1.out]
          omega
        · have hje : j = (scrS K).length := by omega
          subst hje
          have hnx : ∀ ty, (Instr.next (.pointer (some ⟨w2.heap.size + 1 + 1, 0, none⟩)) true ty).run Tryz.prog wr = .ok (.tuple #[.bool false]) wr := fun ty => Lib.run_next_end_at wr (w2.heap.size + 1 + 1) y _ ty hit hlt
          have OF : Hid (Own w3 wr 9 1 u6 ((scrS K).length + 1) ((textW x.d K).map strc)) := by
            show Own _ _ _ _ _ _ _
            have := OW.out
            rw [List.take_length] at this
            exact this
          have GX3 : Hid (Gr (w.alloc (.cells x.arr 37)) wr) := (Below.trans GS.out (OF.out.below.mono GS.out.size))
          obtain ⟨A5, c5, rfl, s5⟩ := OF.out.slice
          have HJ := Lib.hid (join_any39 (textW x.d K) A5 ((scrS K).length + 1) c5 wr s5 (by simp [textW]) (by omega) (by omega) (by have := HLN.out; omega))
          clear s5 hit
          go_wp2_with fail
          refine HJ.out.mono ?_
          rintro e w8 ⟨rfl, g8⟩
          have G8 := Lib.hid (G0.out.trans (GX3.out.trans g8)); clear g8
          go_wp2_with fail
          go_ret
          exact ⟨rfl, G8.out⟩
    · have HF : Hid (textT x.d = []) := by show _ = _; unfold textT; rw [if_neg h1, if_neg hk]
      rw [HF.out]
      clear h1 hx hT hM hop
      have c0 := HC.out _ (Gr.refl _) 0 _ rfl
      have c1 := HC.out _ (Gr.refl _) 1 _ rfl
      have c2 := HC.out _ (Gr.refl _) 2 _ rfl
      have c3 := HC.out _ (Gr.refl _) 3 _ rfl
      have c4 := HC.out _ (Gr.refl _) 4 _ rfl
      have c5 := HC.out _ (Gr.refl _) 5 _ rfl
      have c6 := HC.out _ (Gr.refl _) 6 _ rfl
      have c7 := HC.out _ (Gr.refl _) 7 _ rfl
      have c8 := HC.out _ (Gr.refl _) 8 _ rfl
      have c9 := HC.out _ (Gr.refl _) 9 _ rfl
      have c10 := HC.out _ (Gr.refl _) 10 _ rfl
      have c11 := HC.out _ (Gr.refl _) 11 _ rfl
      have c12 := HC.out _ (Gr.refl _) 12 _ rfl
      have c13 := HC.out _ (Gr.refl _) 13 _ rfl
      have c14 := HC.out _ (Gr.refl _) 14 _ rfl
      have c15 := HC.out _ (Gr.refl _) 15 _ rfl
      have c16 := HC.out _ (Gr.refl _) 16 _ rfl
      by_cases hneg : x.d.k < 0
      · have t2 : decide (x.d.k < 0) = true := decide_eq_true hneg
        go_enter Tryz.func24, Tryz.ntmps24
        go_wp2_with fail
        refine (HFO.out _).mono ?_
        rintro e w2 ⟨rfl, g2⟩
        have GS := g2.trans (below_row39 ((Below.refl _ _).alloc (Nat.le_refl _) _) (Nat.le_refl _) _ : Gr w2 ((w2.alloc (.cells #[.string ⟨#[]⟩, .string ⟨#[]⟩, .string ⟨#[]⟩, .string ⟨#[]⟩, .string ⟨#[]⟩, .string ⟨#[]⟩, .string ⟨#[]⟩, .string ⟨#[]⟩, .string ⟨#[]⟩, .string ⟨#[]⟩, .string ⟨#[]⟩, .string ⟨#[]⟩, .string ⟨#[]⟩, .string ⟨#[]⟩, .string ⟨#[]⟩, .string ⟨#[]⟩, .string ⟨#[]⟩, .string ⟨#[]⟩] 72)).setRow w2.heap.size scrCells))
        have d0 := HC.out _ GS 0 _ rfl
        have GE := Lib.hid (G0.out.trans GS)
        clear g2 GS hneg hk
        go_wp2_with (refine wpList_store_row rfl 72 (.tmp 5) (.tmp 19) rfl w2.heap.size scrCells rfl rfl 72 (reps 18 (.string ⟨#[]⟩)).toArray (by exact heap_alloc_new w2 _) scrSize rfl HO.out ?_)
        go_ret
        exact ⟨rfl, GE.out⟩
      · have t2 : decide (x.d.k < 0) = false := decide_eq_false hneg
        have t3 : decide (x.d.k ≥ 9) = true := decide_eq_true (by omega)
        go_enter Tryz.func24, Tryz.ntmps24
        go_wp2_with fail
        refine (HFO.out _).mono ?_
        rintro e w2 ⟨rfl, g2⟩
        have GS := g2.trans (below_row39 ((Below.refl _ _).alloc (Nat.le_refl _) _) (Nat.le_refl _) _ : Gr w2 ((w2.alloc (.cells #[.string ⟨#[]⟩, .string ⟨#[]⟩, .string ⟨#[]⟩, .string ⟨#[]⟩, .string ⟨#[]⟩, .string ⟨#[]⟩, .string ⟨#[]⟩, .string ⟨#[]⟩, .string ⟨#[]⟩, .string ⟨#[]⟩, .string ⟨#[]⟩, .string ⟨#[]⟩, .string ⟨#[]⟩, .string ⟨#[]⟩, .string ⟨#[]⟩, .string ⟨#[]⟩, .string ⟨#[]⟩, .string ⟨#[]⟩] 72)).setRow w2.heap.size scrCells))
        have d0 := HC.out _ GS 0 _ rfl
        have GE := Lib.hid (G0.out.trans GS)
        clear g2 GS hneg hk
        go_wp2_with (refine wpList_store_row rfl 72 (.tmp 5) (.tmp 19) rfl w2.heap.size scrCells rfl rfl 72 (reps 18 (.string ⟨#[]⟩)).toArray (by exact heap_alloc_new w2 _) scrSize rfl HO.out ?_)
        go_ret
        exact ⟨rfl, GE.out⟩
end Go.Proofs.YtadenlhnfkccaaaGreatDoor
