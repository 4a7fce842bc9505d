/- Own texts of this claim, one behind the other. No condition. -/
import Derived.Test.YtadenlhnfkccaaaGreatDoorObPkM
import Derived.Test.YtadenlhnfkccaaaGreatDoorObPkN
import Derived.Test.YtadenlhnfkccaaaGreatDoorObPkO
import Derived.Test.YtadenlhnfkccaaaGreatDoorObPkP
import Derived.Outline

/- Lines of scripts: the reference's Parse, the lines of four words. No condition. -/
namespace Go.Proofs.YtadenlhnfkccaaaGreatDoor
open Go.RowKit
set_option linter.unusedVariables false
set_option linter.unusedSimpArgs false
theorem PrSt.word {w W : World} {T A n c o : Nat} {ws : List (List UInt8)} (h : PrSt w W T A n c o ws) {j : Nat} {x : List UInt8} (hx : ws[j]? = some x) : W.cell? ⟨A, o + j, none⟩ = some (strc x) := by
  obtain ⟨hj, e⟩ := List.getElem?_eq_some_iff.1 hx
  have := h.at j hj
  rw [e] at this
  exact this
theorem gr_cell {w W : World} (g : Gr w W) {b o : Nat} {v : Value} (h : w.cell? ⟨b, o, none⟩ = some v) : W.cell? ⟨b, o, none⟩ = some v := (Below.cell g (p := ⟨b, o, none⟩) (World.block_lt_of_cell? w _ h)).trans h
theorem four {ps : List (List UInt8)} (h : ps.length = 4) : ∃ a b c d, ps = [a, b, c, d] := by
  match ps, h with
  | [a, b, c, d], _ => exact ⟨a, b, c, d, rfl⟩
theorem is_two {w : World} {B : Option Addr} {m q : Nat} {x y : Int} (h : Is w B m q [x, y]) : ∃ b o, B = some ⟨b, o, none⟩ ∧ m = 2 ∧ w.cell? ⟨b, o, none⟩ = some (.int .i64 x) ∧ w.cell? ⟨b, o + 1, none⟩ = some (.int .i64 y) := by
  have hm : m = 2 := (Is.len h).symm
  subst hm
  obtain ⟨b, o, e, hc⟩ := Is.addr h (by omega)
  have c0 := hc 0 (by omega)
  have c1 := hc 1 (by omega)
  exact ⟨b, o, e, rfl, c0, c1⟩
theorem is_one {w : World} {B : Option Addr} {m q : Nat} {x : Int} (h : Is w B m q [x]) : ∃ b o, B = some ⟨b, o, none⟩ ∧ m = 1 ∧ w.cell? ⟨b, o, none⟩ = some (.int .i64 x) := by
  have hm : m = 1 := (Is.len h).symm
  subst hm
  obtain ⟨b, o, e, hc⟩ := Is.addr h (by omega)
  have c0 := hc 0 (by omega)
  exact ⟨b, o, e, rfl, c0⟩
set_option maxRecDepth 100000 in
set_option maxHeartbeats 2000000 in
theorem refParse41_3 (l : List UInt8) (w : World) (hl : l.length ≤ 100000) (ho : (parseO l).2 ≠ 0) (hk : (cutL 32 l).headD [] = scrW 3) : Calls Tryz.prog 11 #[strc l] w (RetLnR w (parseT l)) := by
  have HPO : Hid (∀ wr, Calls Tryz.prog 32 #[strc l] wr (RetOpN wr (parseO l))) := fun wr => refOpParse_new l wr hl
  have HSP : Hid (∀ wr, Calls Tryz.prog 33 #[strc l] wr (RetWs wr (cutL 32 l))) := fun wr => split41_any l wr hl
  obtain ⟨s, hs⟩ : ∃ s : ByteArray, strc l = .string s := ⟨_, rfl⟩
  rw [hs] at HSP HPO ⊢
  clear hs
  obtain ⟨r, hr⟩ : ∃ r, r = parseT l := ⟨_, rfl⟩
  rw [← hr]
  have HR := Lib.hid hr; clear hr
  go_enter Tryz.func11, Tryz.ntmps11
  go_wp2_with fail
  refine (HPO.out _).mono ?_
  rintro e w0 ⟨Ao, mo, co, rfl, so, g0, hfr⟩
  have HFRO : Hid (∀ b q, Ao = some ⟨b, q, none⟩ → w.heap.size ≤ b) := fun b q e => by have := hfr b q e; rw [World.size_alloc] at this; omega
  clear hfr
  have BR0 : Hid (Blk w0 w.heap.size 29 z17.toList) := (Blk.new w 29 z17).mono g0
  have G0 : Hid (Gr w w0) := (Gr.alloc w _).trans g0
  obtain rfl : (parseO l).1.x.length = mo := by have := Sl.len so; simpa using this
  obtain ⟨po, hpo⟩ : ∃ po, po = parseO l := ⟨_, rfl⟩
  rw [← hpo] at so ⊢
  have HPP := Lib.hid hpo
  clear hpo HPO
  obtain ⟨o1, f1⟩ := po
  simp only at so ⊢
  have HYB := setRow_heap (w0.alloc (.cells #[.int .i64 0, .string ⟨#[]⟩, .string ⟨#[]⟩, .int .i64 0, .int .i64 0, .int .i64 0, .int .i64 0, .slice none 0 0] 24)) w0.heap.size _ (opC o1 Ao o1.x.length co) _ _ (heap_alloc_new w0 _)
  have GS0 : Gr w0 ((w0.alloc (.cells #[.int .i64 0, .string ⟨#[]⟩, .string ⟨#[]⟩, .int .i64 0, .int .i64 0, .int .i64 0, .int .i64 0, .slice none 0 0] 24)).setRow w0.heap.size (opC o1 Ao o1.x.length co)) := below_row39 ((Below.refl _ _).alloc (Nat.le_refl _) _) (Nat.le_refl _) _
  have GA := Lib.hid (G0.out.trans GS0)
  have SO := Lib.hid (Sl.gr so GS0)
  have BRA : Hid (Blk ((w0.alloc (.cells #[.int .i64 0, .string ⟨#[]⟩, .string ⟨#[]⟩, .int .i64 0, .int .i64 0, .int .i64 0, .int .i64 0, .slice none 0 0] 24)).setRow w0.heap.size (opC o1 Ao o1.x.length co)) w.heap.size 29 z17.toList) := BR0.out.mono GS0
  have BY : Hid (Blk ((w0.alloc (.cells #[.int .i64 0, .string ⟨#[]⟩, .string ⟨#[]⟩, .int .i64 0, .int .i64 0, .int .i64 0, .int .i64 0, .slice none 0 0] 24)).setRow w0.heap.size (opC o1 Ao o1.x.length co)) w0.heap.size 24 (opC o1 Ao o1.x.length co).toList) := HYB
  clear HYB GS0 so g0
  have HNO : Hid ((parseO l).2 ≠ 0) := ho
  have t18 : ((f1 : Int) == 0) = false := beq_eq_false_iff_ne.2 (by have h := HPP.out; rw [← h] at ho; have ho : f1 ≠ 0 := ho; omega)
  clear BY SO BR0 HPP ho
  go_wp2_with (refine wpList_store_row rfl 24 (.tmp 4) (.tmp 25) rfl w0.heap.size (opC o1 Ao o1.x.length co) rfl rfl 24 #[.int .i64 0, .string ⟨#[]⟩, .string ⟨#[]⟩, .int .i64 0, .int .i64 0, .int .i64 0, .int .i64 0, .slice none 0 0] (by exact heap_alloc_new w0 _) opSize rfl (opOne _ _ _ _) ?_)
  refine (HSP.out _).mono ?_
  rintro e w2 hret
  obtain ⟨A, n, c, o, rfl, hws, g2⟩ := wordsOf _ l hret
  have GS2 : Gr w2 ((w2.alloc (.cells z17 29)).setRow w2.heap.size z17) := below_row39 ((Below.refl _ _).alloc (Nat.le_refl _) _) (Nat.le_refl _) _
  have HEB := setRow_heap (w2.alloc (.cells z17 29)) w2.heap.size _ z17 _ _ (heap_alloc_new w2 _)
  have PS : PrSt w ((w2.alloc (.cells z17 29)).setRow w2.heap.size z17) w2.heap.size A n c o (cutL 32 l) := ⟨GA.out.trans (g2.trans GS2), (BRA.out.mono g2).mono GS2, HEB, Nat.lt_of_lt_of_le BRA.out.lt g2.size, Sl.gr hws GS2⟩
  have PSH := Lib.hid PS
  clear hret HSP GS2 HEB hws g2 GA BRA G0 PS
  obtain ⟨W, hW⟩ : ∃ W, W = (w2.alloc (.cells z17 29)).setRow w2.heap.size z17 := ⟨_, rfl⟩
  obtain ⟨T, hT⟩ : ∃ T, T = w2.heap.size := ⟨_, rfl⟩
  rw [← hW, ← hT] at PSH
  have HW := Lib.hid hW; have HT := Lib.hid hT
  clear hW hT
  go_upto_region 6 with (refine wpList_store_row rfl 29 (.tmp 7) (.tmp 33) rfl w2.heap.size z17 rfl rfl 29 z17 (by exact heap_alloc_new w2 _) refLnSize rfl z17_one ?_)
  show Code.wp _ _ _ _ ((w2.alloc (.cells z17 29)).setRow w2.heap.size z17)
  rw [← HW.out, ← HT.out]
  clear HW HT
  have hlen := PSH.out.ws.len
  have hpos : 0 < (cutL 32 l).length := List.length_pos_iff.2 (cut_ne 32 l)
  have c0 := PSH.out.at 0 hpos
  have hw0 := head_atS hpos
  rw [hw0] at c0
  obtain ⟨sx, hsx⟩ : ∃ sx : ByteArray, sx = ⟨((cutL 32 l).headD []).toArray⟩ := ⟨_, rfl⟩
  have hsl : sx.toList = (cutL 32 l).headD [] := by rw [hsx, ByteArray.toList_eq]
  rw [show strc ((cutL 32 l).headD []) = .string sx by rw [hsx]; rfl] at c0
  rw [Nat.add_zero] at c0
  have HSL := Lib.hid hsl
  have hn0 : (0 : Int) < (n : Int) := by omega
  have hncap := Sl.cap PSH.out.ws
  have hnmax := Sl.max PSH.out.ws
  have HLEN := Lib.hid hlen
  clear hsx hw0 hpos hsl hlen
  have hsk : sx.toList = scrW 3 := HSL.out.trans hk
  have tk2 : (sx.toList == ([97, 114, 109] : List UInt8)) = false := by rw [hsk]; rfl
  have tk3 : (sx.toList == ([99, 114, 97, 115, 104] : List UInt8)) = true := by rw [hsk]; rfl
  have tk4 : (sx.toList == ([111, 112, 101, 110] : List UInt8)) = false := by rw [hsk]; rfl
  have tk5 : (sx.toList == ([108, 111, 103] : List UInt8)) = false := by rw [hsk]; rfl
  have tk6 : (sx.toList == ([115, 101, 116, 116, 108, 101] : List UInt8)) = false := by rw [hsk]; rfl
  have tk7 : (sx.toList == ([115, 112, 111, 105, 108] : List UInt8)) = false := by rw [hsk]; rfl
  have tk8 : (sx.toList == ([108, 105, 115, 116] : List UInt8)) = false := by rw [hsk]; rfl
  have HK := Lib.hid hk
  clear hk hsk
  by_cases h4 : n = 4
  · subst h4
    obtain ⟨wa, wb, wc, wd, hab⟩ := four HLEN.out
    have hka : wa = scrW 3 := by have h := HK.out; rw [hab] at h; exact h
    have HPT := Lib.hid (HR.out.trans (parseT_3 HNO.out hab hka))
    have hww : ∀ x ∈ cutL 32 l, x.length ≤ 100000 := cut_words hl fun x hx => hx
    have c1 := PSH.out.word (j := 1) (x := wb) (by rw [hab]; rfl)
    obtain ⟨sb, hsb⟩ : ∃ sb : ByteArray, strc wb = .string sb := ⟨_, rfl⟩
    rw [hsb] at c1
    have HKP : Hid (∀ wr, Calls Tryz.prog 35 #[.string sb] wr (RetKeep wr wb)) := fun wr => by
      rw [← hsb]
      exact refKeep41_any wb wr (hww wb (by rw [hab]; simp))
    have HNM : Hid (∀ wr, Gr W wr → Calls Tryz.prog 34 #[.slice (some ⟨A, o + 2, none⟩) 2 (c - 2)] wr (RetNums wr [wc, wd])) := fun wr g => by
      have h := Ws.part (lo := 2) (m := 2) PSH.out.ws (by omega)
      rw [hab] at h
      exact numbers41_any _ _ _ [wc, wd] wr (Sl.gr h g) (by omega) (fun x hx => hww x (by
        rw [hab]
        simp only [List.mem_cons, List.not_mem_nil, or_false] at hx ⊢
        rcases hx with h | h
        · exact .inr (.inr (.inl h))
        · exact .inr (.inr (.inr h))))
    have hcf : ¬ c - 2 = 0 := by omega
    clear hab hka hsb hww
    go_wp2_with fail
    refine (HKP.out _).mono ?_
    rintro e wx ⟨B, m, q, p, rfl, hp, hpk, gx, hfr⟩
    have GXX := Lib.hid gx
    have PSX := Lib.hid (PSH.out.gr gx)
    have HPP := Lib.hid hp; have HPK := Lib.hid hpk; have HFR := Lib.hid hfr
    clear gx hp hpk hfr
    go_wp2_with fail
    refine (HNM.out _ GXX.out).mono ?_
    rintro e wy ⟨B2, m2, q2, p2, rfl, hp2, hpn, gy⟩
    have PSY := Lib.hid (PSX.out.gr gy)
    have HPY := Lib.hid (Sl.gr HPP.out gy)
    have HP2 := Lib.hid hp2; have HPN := Lib.hid hpn
    clear gy hp2 hpn
    cases nb : numsB [wc, wd] with
    | false =>
      have HF : Hid (r = (ln0, 3)) := by have h := HPT.out; rw [nb, Bool.and_false] at h; exact h
      clear nb
      go_wp2_with (first
        | (refine wpList_load_row rfl 29 (.tmp 7) rfl T rfl 29 z17 (0, 0) _ (PSY).out.e Tryz.underlying29 rfl refLnSize ?_)
        | (refine wpList_store_row rfl 29 (.tmp 2) (.tmp 182) rfl w.heap.size z17 rfl rfl 29 z17 (PSY).out.r refLnSize rfl z17_one ?_))
      obtain ⟨hn, gn⟩ := (PSY).out.done z17
      rw [HF.out]
      exact bodyPost_ret (results_lnR Tryz.results11 _ _ w.heap.size _ _ rfl hn rfl) rfl ⟨lnV0, rfl, rfl, lnAt0 _, gn, lnNew0 _⟩
    | true =>
      cases kb : keepB wb with
      | false =>
        have HF : Hid (r = (ln0, 3)) := by have h := HPT.out; rw [kb, Bool.false_and] at h; exact h
        clear nb kb
        go_wp2_with (first
          | (refine wpList_load_row rfl 29 (.tmp 7) rfl T rfl 29 z17 (0, 0) _ (PSY).out.e Tryz.underlying29 rfl refLnSize ?_)
          | (refine wpList_store_row rfl 29 (.tmp 2) (.tmp 182) rfl w.heap.size z17 rfl rfl 29 z17 (PSY).out.r refLnSize rfl z17_one ?_))
        obtain ⟨hn, gn⟩ := (PSY).out.done z17
        rw [HF.out]
        exact bodyPost_ret (results_lnR Tryz.results11 _ _ w.heap.size _ _ rfl hn rfl) rfl ⟨lnV0, rfl, rfl, lnAt0 _, gn, lnNew0 _⟩
      | true =>
        have HF : Hid (r = ({ ln0 with k := 3, p := keepL wb, t := parseN wc 1073741824, a := parseN wd 1073741824 }, 0)) := by have h := HPT.out; rw [kb, nb] at h; exact h
        have hq : Is wy B2 m2 q2 [parseN wc 1073741824, parseN wd 1073741824] := by have h := HP2.out; rw [HPN.out nb] at h; exact h
        obtain ⟨b', o', rfl, rfl, x0, x1⟩ := is_two hq
        have hpe : p = keepL wb := HPK.out kb
        subst hpe
        obtain rfl : (keepL wb).length = m := Is.len HPY.out
        clear nb kb hq HPT HP2 HPN HPK
        obtain ⟨pc, hpc⟩ : ∃ pn, pn = parseN wc 1073741824 := ⟨_, rfl⟩
        obtain ⟨pd, hpd⟩ : ∃ pn, pn = parseN wd 1073741824 := ⟨_, rfl⟩
        rw [← hpc, ← hpd] at HF
        rw [← hpc] at x0
        rw [← hpd] at x1
        clear hpc hpd
        have PSD := Lib.hid (PSY.out.gr (Gr.drew _))
        have HPD := Lib.hid (Sl.gr HPY.out (Gr.drew wy))
        have X0 : Hid (∀ wq, Gr wy.drew wq → wq.cell? ⟨b', o', none⟩ = some (.int .i64 pc)) := fun wq g => gr_cell ((Gr.drew wy).trans g) x0
        have X1 : Hid (∀ wq, Gr wy.drew wq → wq.cell? ⟨b', o' + 1, none⟩ = some (.int .i64 pd)) := fun wq g => gr_cell ((Gr.drew wy).trans g) x1
        clear x0 x1
        obtain ⟨kp, hkp⟩ : ∃ kp, kp = keepL wb := ⟨_, rfl⟩
        rw [← hkp] at HF HPD ⊢
        have HKP2 := Lib.hid hkp; clear hkp
        go_upto_region 27 with fail
        refine wp_region_grow (by kernel_rfl) [0, 0, 2, 6, 0, 16, 48, 127, 255, 511] [.p 0, .p 1, .p 2, .p 4, .p 5, .q 3, .q 6, .p 7, .s 8, .p 9] (by kernel_rfl) (trivial) ?_
        refine wpG_pe rfl rfl ?_
        apply Exists.intro
        refine ⟨fun wq => ?_, ?_⟩
        · unfold plainAt
          go_simp
          first | exact rfl | exact ⟨rfl, rfl⟩
        go_simp
        refine wpG_pe rfl rfl ?_
        apply Exists.intro
        refine ⟨fun wq => ?_, ?_⟩
        · unfold plainAt
          go_simp
          first | exact rfl | exact ⟨rfl, rfl⟩
        go_simp
        refine wpG_pe rfl rfl ?_
        apply Exists.intro
        refine ⟨fun wq => ?_, ?_⟩
        · unfold plainAt
          go_simp
          first | exact rfl | exact ⟨rfl, rfl⟩
        go_simp
        refine wpG_pe rfl rfl ?_
        apply Exists.intro
        refine ⟨fun wq => ?_, ?_⟩
        · unfold plainAt
          go_simp
          first | exact rfl | exact ⟨rfl, rfl⟩
        go_simp
        refine wpG_pe rfl rfl ?_
        apply Exists.intro
        refine ⟨fun wq => ?_, ?_⟩
        · unfold plainAt
          go_simp
          first | exact rfl | exact ⟨rfl, rfl⟩
        go_simp
        refine wpG_qe rfl rfl ?_
        apply Exists.intro
        refine ⟨fun wq hq => ?_, ?_⟩
        · have d0 := X0.out wq hq
          unfold plainAt
          go_simp
          first | exact rfl | exact ⟨rfl, rfl⟩
        go_simp
        refine wpG_qe rfl rfl ?_
        apply Exists.intro
        refine ⟨fun wq hq => ?_, ?_⟩
        · have d1 := X1.out wq hq
          unfold plainAt
          go_simp
          first | exact rfl | exact ⟨rfl, rfl⟩
        go_simp
        refine wpG_pe rfl rfl ?_
        apply Exists.intro
        refine ⟨fun wq => ?_, ?_⟩
        · unfold plainAt
          go_simp
          first | exact rfl | exact ⟨rfl, rfl⟩
        go_simp
        refine wpG_s rfl rfl ?_
        intro ws gs K hK
        have PSZ := Lib.hid ((PSD).out.gr gs)
        refine wp_store_row 29 (.tmp 2) (.tmp 102) rfl w.heap.size (LnV.arr ⟨{ ln0 with k := 3, p := kp, t := pc, a := pd }, none, 0, B, q, none, 0⟩) rfl rfl 29 z17 PSZ.out.r refLnSize rfl (lnOne _) ?_
        refine hK _ _ ?_
        clear hK
        obtain ⟨hn, gn⟩ := PSZ.out.done (LnV.arr ⟨{ ln0 with k := 3, p := kp, t := pc, a := pd }, none, 0, B, q, none, 0⟩)
        have HNN := Lib.hid hn
        have GNN := Lib.hid gn
        obtain ⟨wt, hwt⟩ : ∃ wt, wt = ws.setRow w.heap.size (LnV.arr ⟨{ ln0 with k := 3, p := kp, t := pc, a := pd }, none, 0, B, q, none, 0⟩) := ⟨_, rfl⟩
        rw [← hwt] at HNN GNN
        go_simp
        rw [← hwt]
        have HWT := Lib.hid hwt
        clear hwt hn gn
        refine wpG_pe rfl rfl ?_
        apply Exists.intro
        refine ⟨fun wq => ?_, ?_⟩
        · unfold plainAt
          go_simp
          first | exact rfl | exact ⟨rfl, rfl⟩
        go_simp
        refine wpG_nil ?_
        intro we ge
        have HNE : we.heap[w.heap.size]? = some (.cells (LnV.arr ⟨{ ln0 with k := 3, p := kp, t := pc, a := pd }, none, 0, B, q, none, 0⟩) 29 (0, 0)) := (Below.block ge _ (Array.getElem?_eq_some_iff.1 HNN.out).1).trans HNN.out
        have GEE : Gr w we := GNN.out.trans ge
        go_wp2_with fail
        rw [HF.out]
        exact bodyPost_ret (results_lnR Tryz.results11 _ _ w.heap.size _ _ rfl HNE rfl) rfl ⟨⟨{ ln0 with k := 3, p := kp, t := pc, a := pd }, none, 0, B, q, none, 0⟩, rfl, rfl, ⟨Sl.nil _ _, (by
          have h1 := sl_row (cs0 := []) (t := 0) (Sl.gr HPD.out gs) (by decide) (g := w.heap.size) (LnV.arr ⟨{ ln0 with k := 3, p := kp, t := pc, a := pd }, none, 0, B, q, none, 0⟩) (fun _ b o e => by
            have h1 := HFR.out b o e
            have h2 := PSH.out.r.lt
            omega)
          rw [← HWT.out] at h1
          exact Sl.gr h1 ge), Sl.nil _ _⟩, GEE, ⟨(fun b q e => by cases e), (fun b q e _ => by have h1 := HFR.out b q e; have h2 := PSH.out.r.lt; omega), (fun b q e => by cases e)⟩⟩
  · have t1 : ((n : Int) != 4) = true := bne_iff_ne.2 (by omega)
    have HF : Hid (r = (ln0, 3)) := HR.out.trans (parseT_n HNO.out HK.out (by omega) (by rw [HLEN.out]; exact h4))
    clear h4
    go_wp2_with (first
      | (refine wpList_load_row rfl 29 (.tmp 7) rfl T rfl 29 z17 (0, 0) _ (PSH).out.e Tryz.underlying29 rfl refLnSize ?_)
      | (refine wpList_store_row rfl 29 (.tmp 2) (.tmp 77) rfl w.heap.size z17 rfl rfl 29 z17 (PSH).out.r refLnSize rfl z17_one ?_))
    obtain ⟨hn, gn⟩ := (PSH).out.done z17
    rw [HF.out]
    exact bodyPost_ret (results_lnR Tryz.results11 _ _ w.heap.size _ _ rfl hn rfl) rfl ⟨lnV0, rfl, rfl, lnAt0 _, gn, lnNew0 _⟩
end Go.Proofs.YtadenlhnfkccaaaGreatDoor

/- Lines of scripts: the reference's Parse, logs and spoils; all lines. No condition. -/
namespace Go.Proofs.YtadenlhnfkccaaaGreatDoor
open Go.RowKit
set_option linter.unusedVariables false
set_option linter.unusedSimpArgs false
set_option maxRecDepth 100000 in
set_option maxHeartbeats 2000000 in
theorem refParse41_5 (l : List UInt8) (w : World) (hl : l.length ≤ 100000) (ho : (parseO l).2 ≠ 0) (hk : (cutL 32 l).headD [] = scrW 5) : Calls Tryz.prog 11 #[strc l] w (RetLnR w (parseT l)) := by
  have HPO : Hid (∀ wr, Calls Tryz.prog 32 #[strc l] wr (RetOpN wr (parseO l))) := fun wr => refOpParse_new l wr hl
  have HSP : Hid (∀ wr, Calls Tryz.prog 33 #[strc l] wr (RetWs wr (cutL 32 l))) := fun wr => split41_any l wr hl
  obtain ⟨s, hs⟩ : ∃ s : ByteArray, strc l = .string s := ⟨_, rfl⟩
  rw [hs] at HSP HPO ⊢
  clear hs
  obtain ⟨r, hr⟩ : ∃ r, r = parseT l := ⟨_, rfl⟩
  rw [← hr]
  have HR := Lib.hid hr; clear hr
  go_enter Tryz.func11, Tryz.ntmps11
  go_wp2_with fail
  refine (HPO.out _).mono ?_
  rintro e w0 ⟨Ao, mo, co, rfl, so, g0, hfr⟩
  have HFRO : Hid (∀ b q, Ao = some ⟨b, q, none⟩ → w.heap.size ≤ b) := fun b q e => by have := hfr b q e; rw [World.size_alloc] at this; omega
  clear hfr
  have BR0 : Hid (Blk w0 w.heap.size 29 z17.toList) := (Blk.new w 29 z17).mono g0
  have G0 : Hid (Gr w w0) := (Gr.alloc w _).trans g0
  obtain rfl : (parseO l).1.x.length = mo := by have := Sl.len so; simpa using this
  obtain ⟨po, hpo⟩ : ∃ po, po = parseO l := ⟨_, rfl⟩
  rw [← hpo] at so ⊢
  have HPP := Lib.hid hpo
  clear hpo HPO
  obtain ⟨o1, f1⟩ := po
  simp only at so ⊢
  have HYB := setRow_heap (w0.alloc (.cells #[.int .i64 0, .string ⟨#[]⟩, .string ⟨#[]⟩, .int .i64 0, .int .i64 0, .int .i64 0, .int .i64 0, .slice none 0 0] 24)) w0.heap.size _ (opC o1 Ao o1.x.length co) _ _ (heap_alloc_new w0 _)
  have GS0 : Gr w0 ((w0.alloc (.cells #[.int .i64 0, .string ⟨#[]⟩, .string ⟨#[]⟩, .int .i64 0, .int .i64 0, .int .i64 0, .int .i64 0, .slice none 0 0] 24)).setRow w0.heap.size (opC o1 Ao o1.x.length co)) := below_row39 ((Below.refl _ _).alloc (Nat.le_refl _) _) (Nat.le_refl _) _
  have GA := Lib.hid (G0.out.trans GS0)
  have SO := Lib.hid (Sl.gr so GS0)
  have BRA : Hid (Blk ((w0.alloc (.cells #[.int .i64 0, .string ⟨#[]⟩, .string ⟨#[]⟩, .int .i64 0, .int .i64 0, .int .i64 0, .int .i64 0, .slice none 0 0] 24)).setRow w0.heap.size (opC o1 Ao o1.x.length co)) w.heap.size 29 z17.toList) := BR0.out.mono GS0
  have BY : Hid (Blk ((w0.alloc (.cells #[.int .i64 0, .string ⟨#[]⟩, .string ⟨#[]⟩, .int .i64 0, .int .i64 0, .int .i64 0, .int .i64 0, .slice none 0 0] 24)).setRow w0.heap.size (opC o1 Ao o1.x.length co)) w0.heap.size 24 (opC o1 Ao o1.x.length co).toList) := HYB
  clear HYB GS0 so g0
  have HNO : Hid ((parseO l).2 ≠ 0) := ho
  have t18 : ((f1 : Int) == 0) = false := beq_eq_false_iff_ne.2 (by have h := HPP.out; rw [← h] at ho; have ho : f1 ≠ 0 := ho; omega)
  clear BY SO BR0 HPP ho
  go_wp2_with (refine wpList_store_row rfl 24 (.tmp 4) (.tmp 25) rfl w0.heap.size (opC o1 Ao o1.x.length co) rfl rfl 24 #[.int .i64 0, .string ⟨#[]⟩, .string ⟨#[]⟩, .int .i64 0, .int .i64 0, .int .i64 0, .int .i64 0, .slice none 0 0] (by exact heap_alloc_new w0 _) opSize rfl (opOne _ _ _ _) ?_)
  refine (HSP.out _).mono ?_
  rintro e w2 hret
  obtain ⟨A, n, c, o, rfl, hws, g2⟩ := wordsOf _ l hret
  have GS2 : Gr w2 ((w2.alloc (.cells z17 29)).setRow w2.heap.size z17) := below_row39 ((Below.refl _ _).alloc (Nat.le_refl _) _) (Nat.le_refl _) _
  have HEB := setRow_heap (w2.alloc (.cells z17 29)) w2.heap.size _ z17 _ _ (heap_alloc_new w2 _)
  have PS : PrSt w ((w2.alloc (.cells z17 29)).setRow w2.heap.size z17) w2.heap.size A n c o (cutL 32 l) := ⟨GA.out.trans (g2.trans GS2), (BRA.out.mono g2).mono GS2, HEB, Nat.lt_of_lt_of_le BRA.out.lt g2.size, Sl.gr hws GS2⟩
  have PSH := Lib.hid PS
  clear hret HSP GS2 HEB hws g2 GA BRA G0 PS
  obtain ⟨W, hW⟩ : ∃ W, W = (w2.alloc (.cells z17 29)).setRow w2.heap.size z17 := ⟨_, rfl⟩
  obtain ⟨T, hT⟩ : ∃ T, T = w2.heap.size := ⟨_, rfl⟩
  rw [← hW, ← hT] at PSH
  have HW := Lib.hid hW; have HT := Lib.hid hT
  clear hW hT
  go_upto_region 6 with (refine wpList_store_row rfl 29 (.tmp 7) (.tmp 33) rfl w2.heap.size z17 rfl rfl 29 z17 (by exact heap_alloc_new w2 _) refLnSize rfl z17_one ?_)
  show Code.wp _ _ _ _ ((w2.alloc (.cells z17 29)).setRow w2.heap.size z17)
  rw [← HW.out, ← HT.out]
  clear HW HT
  have hlen := PSH.out.ws.len
  have hpos : 0 < (cutL 32 l).length := List.length_pos_iff.2 (cut_ne 32 l)
  have c0 := PSH.out.at 0 hpos
  have hw0 := head_atS hpos
  rw [hw0] at c0
  obtain ⟨sx, hsx⟩ : ∃ sx : ByteArray, sx = ⟨((cutL 32 l).headD []).toArray⟩ := ⟨_, rfl⟩
  have hsl : sx.toList = (cutL 32 l).headD [] := by rw [hsx, ByteArray.toList_eq]
  rw [show strc ((cutL 32 l).headD []) = .string sx by rw [hsx]; rfl] at c0
  rw [Nat.add_zero] at c0
  have HSL := Lib.hid hsl
  have hn0 : (0 : Int) < (n : Int) := by omega
  have hncap := Sl.cap PSH.out.ws
  have hnmax := Sl.max PSH.out.ws
  have HLEN := Lib.hid hlen
  clear hsx hw0 hpos hsl hlen
  have hsk : sx.toList = scrW 5 := HSL.out.trans hk
  have tk2 : (sx.toList == ([97, 114, 109] : List UInt8)) = false := by rw [hsk]; rfl
  have tk3 : (sx.toList == ([99, 114, 97, 115, 104] : List UInt8)) = false := by rw [hsk]; rfl
  have tk4 : (sx.toList == ([111, 112, 101, 110] : List UInt8)) = false := by rw [hsk]; rfl
  have tk5 : (sx.toList == ([108, 111, 103] : List UInt8)) = true := by rw [hsk]; rfl
  have tk6 : (sx.toList == ([115, 101, 116, 116, 108, 101] : List UInt8)) = false := by rw [hsk]; rfl
  have tk7 : (sx.toList == ([115, 112, 111, 105, 108] : List UInt8)) = false := by rw [hsk]; rfl
  have tk8 : (sx.toList == ([108, 105, 115, 116] : List UInt8)) = false := by rw [hsk]; rfl
  have HK := Lib.hid hk
  clear hk hsk
  by_cases h4 : n = 4
  · subst h4
    obtain ⟨wa, wb, wc, wd, hab⟩ := four HLEN.out
    have hka : wa = scrW 5 := by have h := HK.out; rw [hab] at h; exact h
    have HPT := Lib.hid (HR.out.trans (parseT_5 HNO.out hab hka))
    have hww : ∀ x ∈ cutL 32 l, x.length ≤ 100000 := cut_words hl fun x hx => hx
    have C1 : Hid (∀ wq, Gr W wq → wq.cell? ⟨A, o + 1, none⟩ = some (.string ⟨wb.toArray⟩)) := fun wq g => gr_cell g (PSH.out.word (j := 1) (x := wb) (by rw [hab]; rfl))
    have C3 : Hid (∀ wq, Gr W wq → wq.cell? ⟨A, o + 3, none⟩ = some (.string ⟨wd.toArray⟩)) := fun wq g => gr_cell g (PSH.out.word (j := 3) (x := wd) (by rw [hab]; rfl))
    have HPB : Hid (∀ wr, Calls Tryz.prog 36 #[.string ⟨wb.toArray⟩] wr fun e w' => e = .returned (.bool (partL wb)) ∧ Gr wr w') := fun wr => refPart_any wb wr (hww wb (by rw [hab]; simp))
    have HPD : Hid (∀ wr, Calls Tryz.prog 36 #[.string ⟨wd.toArray⟩] wr fun e w' => e = .returned (.bool (partL wd)) ∧ Gr wr w') := fun wr => refPart_any wd wr (hww wd (by rw [hab]; simp))
    have HNM : Hid (∀ wr, Gr W wr → Calls Tryz.prog 34 #[.slice (some ⟨A, o + 2, none⟩) 1 (c - 2)] wr (RetNums wr [wc])) := fun wr g => by
      have h := Ws.part (lo := 2) (m := 1) PSH.out.ws (by omega)
      rw [hab] at h
      exact numbers41_any _ _ _ [wc] wr (Sl.gr h g) (by omega) (fun x hx => hww x (by
        rw [hab]
        simp only [List.mem_cons, List.not_mem_nil, or_false] at hx ⊢
        exact .inr (.inr (.inl hx))))
    have hcf : ¬ c - 2 = 0 := by omega
    have hc3 : (3 : Int) ≤ (c : Int) := by omega
    clear hab hka hww
    go_wp2_with fail
    refine (HNM.out _ (Gr.refl _)).mono ?_
    rintro e wy ⟨B2, m2, q2, p2, rfl, hp2, hpn, gy⟩
    have GY := Lib.hid gy
    have PSY := Lib.hid (PSH.out.gr gy)
    have HP2 := Lib.hid hp2; have HPN := Lib.hid hpn
    clear gy hp2 hpn
    have y1 := C1.out _ GY.out
    cases nb : numsB [wc] with
    | false =>
      have HF : Hid (r = (ln0, 3)) := by have h := HPT.out; rw [nb, Bool.false_and, Bool.false_and] at h; exact h
      clear nb
      go_wp2_with (first
        | (refine wpList_load_row rfl 29 (.tmp 7) rfl T rfl 29 z17 (0, 0) _ (PSY).out.e Tryz.underlying29 rfl refLnSize ?_)
        | (refine wpList_store_row rfl 29 (.tmp 2) (.tmp 182) rfl w.heap.size z17 rfl rfl 29 z17 (PSY).out.r refLnSize rfl z17_one ?_))
      obtain ⟨hn, gn⟩ := (PSY).out.done z17
      rw [HF.out]
      exact bodyPost_ret (results_lnR Tryz.results11 _ _ w.heap.size _ _ rfl hn rfl) rfl ⟨lnV0, rfl, rfl, lnAt0 _, gn, lnNew0 _⟩
    | true =>
      go_wp2_with fail
      refine (HPB.out _).mono ?_
      rintro e wz ⟨rfl, gz⟩
      have GZ := Lib.hid (GY.out.trans gz)
      have PSZ0 := Lib.hid (PSY.out.gr gz)
      have HP3 := Lib.hid (Sl.gr HP2.out gz)
      clear gz y1
      have z3 := C3.out _ GZ.out
      cases pb : partL wb with
      | false =>
        have HF : Hid (r = (ln0, 3)) := by have h := HPT.out; rw [pb, Bool.and_false, Bool.false_and] at h; exact h
        clear nb pb
        go_wp2_with (first
          | (refine wpList_load_row rfl 29 (.tmp 7) rfl T rfl 29 z17 (0, 0) _ (PSZ0).out.e Tryz.underlying29 rfl refLnSize ?_)
          | (refine wpList_store_row rfl 29 (.tmp 2) (.tmp 182) rfl w.heap.size z17 rfl rfl 29 z17 (PSZ0).out.r refLnSize rfl z17_one ?_))
        obtain ⟨hn, gn⟩ := (PSZ0).out.done z17
        rw [HF.out]
        exact bodyPost_ret (results_lnR Tryz.results11 _ _ w.heap.size _ _ rfl hn rfl) rfl ⟨lnV0, rfl, rfl, lnAt0 _, gn, lnNew0 _⟩
      | true =>
        go_wp2_with fail
        refine (HPD.out _).mono ?_
        rintro e wv ⟨rfl, gv⟩
        have GV := Lib.hid (GZ.out.trans gv)
        have PSV := Lib.hid (PSZ0.out.gr gv)
        have HP4 := Lib.hid (Sl.gr HP3.out gv)
        clear gv z3
        cases pd : partL wd with
        | false =>
          have HF : Hid (r = (ln0, 3)) := by have h := HPT.out; rw [pd, Bool.and_false] at h; exact h
          clear nb pb pd
          go_wp2_with (first
            | (refine wpList_load_row rfl 29 (.tmp 7) rfl T rfl 29 z17 (0, 0) _ (PSV).out.e Tryz.underlying29 rfl refLnSize ?_)
            | (refine wpList_store_row rfl 29 (.tmp 2) (.tmp 182) rfl w.heap.size z17 rfl rfl 29 z17 (PSV).out.r refLnSize rfl z17_one ?_))
          obtain ⟨hn, gn⟩ := (PSV).out.done z17
          rw [HF.out]
          exact bodyPost_ret (results_lnR Tryz.results11 _ _ w.heap.size _ _ rfl hn rfl) rfl ⟨lnV0, rfl, rfl, lnAt0 _, gn, lnNew0 _⟩
        | true =>
          have HF : Hid (r = ({ ln0 with k := 5, g := wb, e := parseN wc 1073741824, i := wd }, 0)) := by have h := HPT.out; rw [nb, pb, pd] at h; exact h
          have hq : Is wv B2 m2 q2 [parseN wc 1073741824] := by have h := HP4.out; rw [HPN.out nb] at h; exact h
          obtain ⟨b', o', rfl, rfl, x0⟩ := is_one hq
          clear nb pb pd hq HPT HP2 HP3 HP4 HPN
          obtain ⟨pc, hpc⟩ : ∃ pn, pn = parseN wc 1073741824 := ⟨_, rfl⟩
          rw [← hpc] at HF x0
          clear hpc
          have PSD := Lib.hid (PSV.out.gr (Gr.drew _))
          have X0 : Hid (∀ wq, Gr wv.drew wq → wq.cell? ⟨b', o', none⟩ = some (.int .i64 pc)) := fun wq g => gr_cell ((Gr.drew wv).trans g) x0
          have Y1 : Hid (∀ wq, Gr wv.drew wq → wq.cell? ⟨A, o + 1, none⟩ = some (.string ⟨wb.toArray⟩)) := fun wq g => C1.out wq (GV.out.trans ((Gr.drew wv).trans g))
          have Y3 : Hid (∀ wq, Gr wv.drew wq → wq.cell? ⟨A, o + 3, none⟩ = some (.string ⟨wd.toArray⟩)) := fun wq g => C3.out wq (GV.out.trans ((Gr.drew wv).trans g))
          clear x0
          go_upto_region 33 with fail
          refine wp_region_grow (by kernel_rfl) [0, 1, 3, 0, 8, 24, 0, 64, 192, 511, 1023, 2047, 4095] [.p 0, .p 1, .p 3, .p 4, .p 6, .p 7, .q 2, .q 5, .q 8, .p 9, .p 10, .s 11, .p 12] (by kernel_rfl) (trivial) ?_
          refine wpG_pe rfl rfl ?_
          apply Exists.intro
          refine ⟨fun wq => ?_, ?_⟩
          · unfold plainAt
            go_simp
            first | exact rfl | exact ⟨rfl, rfl⟩
          go_simp
          refine wpG_pe rfl rfl ?_
          apply Exists.intro
          refine ⟨fun wq => ?_, ?_⟩
          · unfold plainAt
            go_simp
            first | exact rfl | exact ⟨rfl, rfl⟩
          go_simp
          refine wpG_pe rfl rfl ?_
          apply Exists.intro
          refine ⟨fun wq => ?_, ?_⟩
          · unfold plainAt
            go_simp
            first | exact rfl | exact ⟨rfl, rfl⟩
          go_simp
          refine wpG_pe rfl rfl ?_
          apply Exists.intro
          refine ⟨fun wq => ?_, ?_⟩
          · unfold plainAt
            go_simp
            first | exact rfl | exact ⟨rfl, rfl⟩
          go_simp
          refine wpG_pe rfl rfl ?_
          apply Exists.intro
          refine ⟨fun wq => ?_, ?_⟩
          · unfold plainAt
            go_simp
            first | exact rfl | exact ⟨rfl, rfl⟩
          go_simp
          refine wpG_pe rfl rfl ?_
          apply Exists.intro
          refine ⟨fun wq => ?_, ?_⟩
          · unfold plainAt
            go_simp
            first | exact rfl | exact ⟨rfl, rfl⟩
          go_simp
          refine wpG_qe rfl rfl ?_
          apply Exists.intro
          refine ⟨fun wq hq => ?_, ?_⟩
          · have d1 := Y1.out wq hq
            unfold plainAt
            go_simp
            first | exact rfl | exact ⟨rfl, rfl⟩
          go_simp
          refine wpG_qe rfl rfl ?_
          apply Exists.intro
          refine ⟨fun wq hq => ?_, ?_⟩
          · have d0 := X0.out wq hq
            unfold plainAt
            go_simp
            first | exact rfl | exact ⟨rfl, rfl⟩
          go_simp
          refine wpG_qe rfl rfl ?_
          apply Exists.intro
          refine ⟨fun wq hq => ?_, ?_⟩
          · have d3 := Y3.out wq hq
            unfold plainAt
            go_simp
            first | exact rfl | exact ⟨rfl, rfl⟩
          go_simp
          refine wpG_pe rfl rfl ?_
          apply Exists.intro
          refine ⟨fun wq => ?_, ?_⟩
          · unfold plainAt
            go_simp
            first | exact rfl | exact ⟨rfl, rfl⟩
          go_simp
          refine wpG_pe rfl rfl ?_
          apply Exists.intro
          refine ⟨fun wq => ?_, ?_⟩
          · unfold plainAt
            go_simp
            first | exact rfl | exact ⟨rfl, rfl⟩
          go_simp
          refine wpG_s rfl rfl ?_
          intro ws gs K hK
          have PSZ := Lib.hid ((PSD).out.gr gs)
          refine wp_store_row 29 (.tmp 2) (.tmp 138) rfl w.heap.size (LnV.arr ⟨{ ln0 with k := 5, g := wb, e := pc, i := wd }, none, 0, none, 0, none, 0⟩) rfl rfl 29 z17 PSZ.out.r refLnSize rfl (lnOne _) ?_
          refine hK _ _ ?_
          clear hK
          obtain ⟨hn, gn⟩ := PSZ.out.done (LnV.arr ⟨{ ln0 with k := 5, g := wb, e := pc, i := wd }, none, 0, none, 0, none, 0⟩)
          have HNN := Lib.hid hn
          have GNN := Lib.hid gn
          obtain ⟨wt, hwt⟩ : ∃ wt, wt = ws.setRow w.heap.size (LnV.arr ⟨{ ln0 with k := 5, g := wb, e := pc, i := wd }, none, 0, none, 0, none, 0⟩) := ⟨_, rfl⟩
          rw [← hwt] at HNN GNN
          go_simp
          rw [← hwt]
          have HWT := Lib.hid hwt
          clear hwt hn gn
          refine wpG_pe rfl rfl ?_
          apply Exists.intro
          refine ⟨fun wq => ?_, ?_⟩
          · unfold plainAt
            go_simp
            first | exact rfl | exact ⟨rfl, rfl⟩
          go_simp
          refine wpG_nil ?_
          intro we ge
          have HNE : we.heap[w.heap.size]? = some (.cells (LnV.arr ⟨{ ln0 with k := 5, g := wb, e := pc, i := wd }, none, 0, none, 0, none, 0⟩) 29 (0, 0)) := (Below.block ge _ (Array.getElem?_eq_some_iff.1 HNN.out).1).trans HNN.out
          have GEE : Gr w we := GNN.out.trans ge
          go_wp2_with fail
          rw [HF.out]
          exact bodyPost_ret (results_lnR Tryz.results11 _ _ w.heap.size _ _ rfl HNE rfl) rfl ⟨⟨{ ln0 with k := 5, g := wb, e := pc, i := wd }, none, 0, none, 0, none, 0⟩, rfl, rfl, ⟨Sl.nil _ _, Sl.nil _ _, Sl.nil _ _⟩, GEE, ⟨(fun b q e => by cases e), (fun b q e => by cases e), (fun b q e => by cases e)⟩⟩
  · have t1 : ((n : Int) != 4) = true := bne_iff_ne.2 (by omega)
    have HF : Hid (r = (ln0, 3)) := HR.out.trans (parseT_n HNO.out HK.out (by omega) (by rw [HLEN.out]; exact h4))
    clear h4
    go_wp2_with (first
      | (refine wpList_load_row rfl 29 (.tmp 7) rfl T rfl 29 z17 (0, 0) _ (PSH).out.e Tryz.underlying29 rfl refLnSize ?_)
      | (refine wpList_store_row rfl 29 (.tmp 2) (.tmp 108) rfl w.heap.size z17 rfl rfl 29 z17 (PSH).out.r refLnSize rfl z17_one ?_))
    obtain ⟨hn, gn⟩ := (PSH).out.done z17
    rw [HF.out]
    exact bodyPost_ret (results_lnR Tryz.results11 _ _ w.heap.size _ _ rfl hn rfl) rfl ⟨lnV0, rfl, rfl, lnAt0 _, gn, lnNew0 _⟩
set_option maxRecDepth 100000 in
set_option maxHeartbeats 2000000 in
theorem refParse41_7 (l : List UInt8) (w : World) (hl : l.length ≤ 100000) (ho : (parseO l).2 ≠ 0) (hk : (cutL 32 l).headD [] = scrW 7) : Calls Tryz.prog 11 #[strc l] w (RetLnR w (parseT l)) := by
  have HPO : Hid (∀ wr, Calls Tryz.prog 32 #[strc l] wr (RetOpN wr (parseO l))) := fun wr => refOpParse_new l wr hl
  have HSP : Hid (∀ wr, Calls Tryz.prog 33 #[strc l] wr (RetWs wr (cutL 32 l))) := fun wr => split41_any l wr hl
  obtain ⟨s, hs⟩ : ∃ s : ByteArray, strc l = .string s := ⟨_, rfl⟩
  rw [hs] at HSP HPO ⊢
  clear hs
  obtain ⟨r, hr⟩ : ∃ r, r = parseT l := ⟨_, rfl⟩
  rw [← hr]
  have HR := Lib.hid hr; clear hr
  go_enter Tryz.func11, Tryz.ntmps11
  go_wp2_with fail
  refine (HPO.out _).mono ?_
  rintro e w0 ⟨Ao, mo, co, rfl, so, g0, hfr⟩
  have HFRO : Hid (∀ b q, Ao = some ⟨b, q, none⟩ → w.heap.size ≤ b) := fun b q e => by have := hfr b q e; rw [World.size_alloc] at this; omega
  clear hfr
  have BR0 : Hid (Blk w0 w.heap.size 29 z17.toList) := (Blk.new w 29 z17).mono g0
  have G0 : Hid (Gr w w0) := (Gr.alloc w _).trans g0
  obtain rfl : (parseO l).1.x.length = mo := by have := Sl.len so; simpa using this
  obtain ⟨po, hpo⟩ : ∃ po, po = parseO l := ⟨_, rfl⟩
  rw [← hpo] at so ⊢
  have HPP := Lib.hid hpo
  clear hpo HPO
  obtain ⟨o1, f1⟩ := po
  simp only at so ⊢
  have HYB := setRow_heap (w0.alloc (.cells #[.int .i64 0, .string ⟨#[]⟩, .string ⟨#[]⟩, .int .i64 0, .int .i64 0, .int .i64 0, .int .i64 0, .slice none 0 0] 24)) w0.heap.size _ (opC o1 Ao o1.x.length co) _ _ (heap_alloc_new w0 _)
  have GS0 : Gr w0 ((w0.alloc (.cells #[.int .i64 0, .string ⟨#[]⟩, .string ⟨#[]⟩, .int .i64 0, .int .i64 0, .int .i64 0, .int .i64 0, .slice none 0 0] 24)).setRow w0.heap.size (opC o1 Ao o1.x.length co)) := below_row39 ((Below.refl _ _).alloc (Nat.le_refl _) _) (Nat.le_refl _) _
  have GA := Lib.hid (G0.out.trans GS0)
  have SO := Lib.hid (Sl.gr so GS0)
  have BRA : Hid (Blk ((w0.alloc (.cells #[.int .i64 0, .string ⟨#[]⟩, .string ⟨#[]⟩, .int .i64 0, .int .i64 0, .int .i64 0, .int .i64 0, .slice none 0 0] 24)).setRow w0.heap.size (opC o1 Ao o1.x.length co)) w.heap.size 29 z17.toList) := BR0.out.mono GS0
  have BY : Hid (Blk ((w0.alloc (.cells #[.int .i64 0, .string ⟨#[]⟩, .string ⟨#[]⟩, .int .i64 0, .int .i64 0, .int .i64 0, .int .i64 0, .slice none 0 0] 24)).setRow w0.heap.size (opC o1 Ao o1.x.length co)) w0.heap.size 24 (opC o1 Ao o1.x.length co).toList) := HYB
  clear HYB GS0 so g0
  have HNO : Hid ((parseO l).2 ≠ 0) := ho
  have t18 : ((f1 : Int) == 0) = false := beq_eq_false_iff_ne.2 (by have h := HPP.out; rw [← h] at ho; have ho : f1 ≠ 0 := ho; omega)
  clear BY SO BR0 HPP ho
  go_wp2_with (refine wpList_store_row rfl 24 (.tmp 4) (.tmp 25) rfl w0.heap.size (opC o1 Ao o1.x.length co) rfl rfl 24 #[.int .i64 0, .string ⟨#[]⟩, .string ⟨#[]⟩, .int .i64 0, .int .i64 0, .int .i64 0, .int .i64 0, .slice none 0 0] (by exact heap_alloc_new w0 _) opSize rfl (opOne _ _ _ _) ?_)
  refine (HSP.out _).mono ?_
  rintro e w2 hret
  obtain ⟨A, n, c, o, rfl, hws, g2⟩ := wordsOf _ l hret
  have GS2 : Gr w2 ((w2.alloc (.cells z17 29)).setRow w2.heap.size z17) := below_row39 ((Below.refl _ _).alloc (Nat.le_refl _) _) (Nat.le_refl _) _
  have HEB := setRow_heap (w2.alloc (.cells z17 29)) w2.heap.size _ z17 _ _ (heap_alloc_new w2 _)
  have PS : PrSt w ((w2.alloc (.cells z17 29)).setRow w2.heap.size z17) w2.heap.size A n c o (cutL 32 l) := ⟨GA.out.trans (g2.trans GS2), (BRA.out.mono g2).mono GS2, HEB, Nat.lt_of_lt_of_le BRA.out.lt g2.size, Sl.gr hws GS2⟩
  have PSH := Lib.hid PS
  clear hret HSP GS2 HEB hws g2 GA BRA G0 PS
  obtain ⟨W, hW⟩ : ∃ W, W = (w2.alloc (.cells z17 29)).setRow w2.heap.size z17 := ⟨_, rfl⟩
  obtain ⟨T, hT⟩ : ∃ T, T = w2.heap.size := ⟨_, rfl⟩
  rw [← hW, ← hT] at PSH
  have HW := Lib.hid hW; have HT := Lib.hid hT
  clear hW hT
  go_upto_region 6 with (refine wpList_store_row rfl 29 (.tmp 7) (.tmp 33) rfl w2.heap.size z17 rfl rfl 29 z17 (by exact heap_alloc_new w2 _) refLnSize rfl z17_one ?_)
  show Code.wp _ _ _ _ ((w2.alloc (.cells z17 29)).setRow w2.heap.size z17)
  rw [← HW.out, ← HT.out]
  clear HW HT
  have hlen := PSH.out.ws.len
  have hpos : 0 < (cutL 32 l).length := List.length_pos_iff.2 (cut_ne 32 l)
  have c0 := PSH.out.at 0 hpos
  have hw0 := head_atS hpos
  rw [hw0] at c0
  obtain ⟨sx, hsx⟩ : ∃ sx : ByteArray, sx = ⟨((cutL 32 l).headD []).toArray⟩ := ⟨_, rfl⟩
  have hsl : sx.toList = (cutL 32 l).headD [] := by rw [hsx, ByteArray.toList_eq]
  rw [show strc ((cutL 32 l).headD []) = .string sx by rw [hsx]; rfl] at c0
  rw [Nat.add_zero] at c0
  have HSL := Lib.hid hsl
  have hn0 : (0 : Int) < (n : Int) := by omega
  have hncap := Sl.cap PSH.out.ws
  have hnmax := Sl.max PSH.out.ws
  have HLEN := Lib.hid hlen
  clear hsx hw0 hpos hsl hlen
  have hsk : sx.toList = scrW 7 := HSL.out.trans hk
  have tk2 : (sx.toList == ([97, 114, 109] : List UInt8)) = false := by rw [hsk]; rfl
  have tk3 : (sx.toList == ([99, 114, 97, 115, 104] : List UInt8)) = false := by rw [hsk]; rfl
  have tk4 : (sx.toList == ([111, 112, 101, 110] : List UInt8)) = false := by rw [hsk]; rfl
  have tk5 : (sx.toList == ([108, 111, 103] : List UInt8)) = false := by rw [hsk]; rfl
  have tk6 : (sx.toList == ([115, 101, 116, 116, 108, 101] : List UInt8)) = false := by rw [hsk]; rfl
  have tk7 : (sx.toList == ([115, 112, 111, 105, 108] : List UInt8)) = true := by rw [hsk]; rfl
  have tk8 : (sx.toList == ([108, 105, 115, 116] : List UInt8)) = false := by rw [hsk]; rfl
  have HK := Lib.hid hk
  clear hk hsk
  by_cases h4 : n = 4
  · subst h4
    obtain ⟨wa, wb, wc, wd, hab⟩ := four HLEN.out
    have hka : wa = scrW 7 := by have h := HK.out; rw [hab] at h; exact h
    have HPT := Lib.hid (HR.out.trans (parseT_7 HNO.out hab hka))
    have hww : ∀ x ∈ cutL 32 l, x.length ≤ 100000 := cut_words hl fun x hx => hx
    have C3 : Hid (∀ wq, Gr W wq → wq.cell? ⟨A, o + 3, none⟩ = some (strc wd)) := fun wq g => gr_cell g (PSH.out.word (j := 3) (x := wd) (by rw [hab]; rfl))
    have HHX : Hid (∀ wr, Calls Tryz.prog 37 #[strc wd] wr (RetHex wr (hexR wd))) := fun wr => refHexParse_any wd wr (hww wd (by rw [hab]; simp))
    have HNM : Hid (∀ wr, Gr W wr → Calls Tryz.prog 34 #[.slice (some ⟨A, o + 1, none⟩) 2 (c - 1)] wr (RetNums wr [wb, wc])) := fun wr g => by
      have h := Ws.part (lo := 1) (m := 2) PSH.out.ws (by omega)
      rw [hab] at h
      exact numbers41_any _ _ _ [wb, wc] wr (Sl.gr h g) (by omega) (fun x hx => hww x (by
        rw [hab]
        simp only [List.mem_cons, List.not_mem_nil, or_false] at hx ⊢
        rcases hx with h | h
        · exact .inr (.inl h)
        · exact .inr (.inr (.inl h))))
    have hcf : ¬ c - 1 = 0 := by omega
    have hc3 : (3 : Int) ≤ (c : Int) := by omega
    clear hab hka hww
    go_wp2_with fail
    refine (HNM.out _ (Gr.refl _)).mono ?_
    rintro e wy ⟨B2, m2, q2, p2, rfl, hp2, hpn, gy⟩
    have GY := Lib.hid gy
    have PSY := Lib.hid (PSH.out.gr gy)
    have HP2 := Lib.hid hp2; have HPN := Lib.hid hpn
    clear gy hp2 hpn
    have y3 := C3.out _ GY.out
    go_wp2_with fail
    refine (HHX.out _).mono ?_
    rintro e wz ⟨v, rfl, own⟩
    obtain ⟨A3, c3, rfl, sl3⟩ := own.slice
    have HFR3 : Hid (∀ b q, A3 = some ⟨b, q, none⟩ → wy.heap.size ≤ b) := fun b q e => (World.ownsRow.lt own.1 b (by rw [e]; rfl)).1
    have gz : Gr wy wz := own.below
    have PSZ0 := Lib.hid (PSY.out.gr gz)
    have HP3 := Lib.hid (Sl.gr HP2.out gz)
    have SL3 : Hid (Bs wz A3 (hexR wd).1.length c3 (hexR wd).1) := sl3
    have HXB : Hid (hexB wd = ((hexR wd).2.2 == 0 && decide (0 < (hexR wd).1.length) && decide ((hexR wd).1.length ≤ 512))) := rfl
    clear own sl3 gz y3
    obtain ⟨hx, hhx⟩ : ∃ hx, hx = hexR wd := ⟨_, rfl⟩
    rw [← hhx] at SL3 HXB HPT ⊢
    clear hhx HHX
    obtain ⟨xb, xa, xf⟩ := hx
    simp only at HXB ⊢
    have SL3 : Hid (Bs wz A3 xb.length c3 xb) := SL3.out
    cases nb : numsB [wb, wc] with
    | false =>
      have HF : Hid (r = (ln0, 3)) := by have h := HPT.out; rw [nb, Bool.false_and] at h; exact h
      clear nb
      go_wp2_with (first
        | (refine wpList_load_row rfl 29 (.tmp 7) rfl T rfl 29 z17 (0, 0) _ (PSZ0).out.e Tryz.underlying29 rfl refLnSize ?_)
        | (refine wpList_store_row rfl 29 (.tmp 2) (.tmp 182) rfl w.heap.size z17 rfl rfl 29 z17 (PSZ0).out.r refLnSize rfl z17_one ?_))
      obtain ⟨hn, gn⟩ := (PSZ0).out.done z17
      rw [HF.out]
      exact bodyPost_ret (results_lnR Tryz.results11 _ _ w.heap.size _ _ rfl hn rfl) rfl ⟨lnV0, rfl, rfl, lnAt0 _, gn, lnNew0 _⟩
    | true =>
      by_cases hf : xf = 0
      · have tf : ((xf : Int) == 0) = true := by rw [hf]; rfl
        by_cases hb1 : 1 ≤ xb.length
        · have tb : decide ((1 : Int) ≤ (xb.length : Int)) = true := decide_eq_true (by omega)
          by_cases hb2 : xb.length ≤ 512
          · have tc : decide ((xb.length : Int) ≤ 512) = true := decide_eq_true (by omega)
            have HF : Hid (r = ({ ln0 with k := 7, n := parseN wb 1073741824, a := parseN wc 1073741824, b := xb }, 0)) := by
              have h := HPT.out
              rw [nb, HXB.out, hf, decide_eq_true (show 0 < xb.length by omega), decide_eq_true hb2] at h
              exact h
            have hq : Is wz B2 m2 q2 [parseN wb 1073741824, parseN wc 1073741824] := by have h := HP3.out; rw [HPN.out nb] at h; exact h
            obtain ⟨b', o', rfl, rfl, x0, x1⟩ := is_two hq
            clear nb hf hb1 hb2 hq HPT HP2 HP3 HPN HXB
            obtain ⟨pc, hpc⟩ : ∃ pn, pn = parseN wb 1073741824 := ⟨_, rfl⟩
            obtain ⟨pd, hpd⟩ : ∃ pn, pn = parseN wc 1073741824 := ⟨_, rfl⟩
            rw [← hpc, ← hpd] at HF
            rw [← hpc] at x0
            rw [← hpd] at x1
            clear hpc hpd
            have PSD := Lib.hid (PSZ0.out.gr (Gr.drew _))
            have SLD := Lib.hid (Sl.gr SL3.out (Gr.drew wz))
            have X0 : Hid (∀ wq, Gr wz.drew wq → wq.cell? ⟨b', o', none⟩ = some (.int .i64 pc)) := fun wq g => gr_cell ((Gr.drew wz).trans g) x0
            have X1 : Hid (∀ wq, Gr wz.drew wq → wq.cell? ⟨b', o' + 1, none⟩ = some (.int .i64 pd)) := fun wq g => gr_cell ((Gr.drew wz).trans g) x1
            have NA : Hid (∀ b o, A3 = some ⟨b, o, none⟩ → 0 < xb.length → b ≠ w.heap.size) := fun b o e h0 => Sl.not_blk SL3.out (by decide) PSZ0.out.r (fun u hu x hx => by
              obtain ⟨z, hz, rfl⟩ := List.mem_map.1 (List.mem_of_getElem? hx)
              simp only [z17, List.mem_cons, List.not_mem_nil, or_false] at hu
              rcases hu with h | h | h | h | h | h | h | h | h | h | h | h | h | h | h | h | h <;> subst h <;> simp [u8c, strc]) h0 e
            clear x0 x1
            go_upto_region 40 with fail
            refine wp_region_grow (by kernel_rfl) [0, 1, 3, 0, 8, 24, 0, 127, 255, 511] [.p 0, .p 1, .p 3, .p 4, .p 6, .q 2, .q 5, .p 7, .s 8, .p 9] (by kernel_rfl) (trivial) ?_
            refine wpG_pe rfl rfl ?_
            apply Exists.intro
            refine ⟨fun wq => ?_, ?_⟩
            · unfold plainAt
              go_simp
              first | exact rfl | exact ⟨rfl, rfl⟩
            go_simp
            refine wpG_pe rfl rfl ?_
            apply Exists.intro
            refine ⟨fun wq => ?_, ?_⟩
            · unfold plainAt
              go_simp
              first | exact rfl | exact ⟨rfl, rfl⟩
            go_simp
            refine wpG_pe rfl rfl ?_
            apply Exists.intro
            refine ⟨fun wq => ?_, ?_⟩
            · unfold plainAt
              go_simp
              first | exact rfl | exact ⟨rfl, rfl⟩
            go_simp
            refine wpG_pe rfl rfl ?_
            apply Exists.intro
            refine ⟨fun wq => ?_, ?_⟩
            · unfold plainAt
              go_simp
              first | exact rfl | exact ⟨rfl, rfl⟩
            go_simp
            refine wpG_pe rfl rfl ?_
            apply Exists.intro
            refine ⟨fun wq => ?_, ?_⟩
            · unfold plainAt
              go_simp
              first | exact rfl | exact ⟨rfl, rfl⟩
            go_simp
            refine wpG_qe rfl rfl ?_
            apply Exists.intro
            refine ⟨fun wq hq => ?_, ?_⟩
            · have d0 := X0.out wq hq
              unfold plainAt
              go_simp
              first | exact rfl | exact ⟨rfl, rfl⟩
            go_simp
            refine wpG_qe rfl rfl ?_
            apply Exists.intro
            refine ⟨fun wq hq => ?_, ?_⟩
            · have d1 := X1.out wq hq
              unfold plainAt
              go_simp
              first | exact rfl | exact ⟨rfl, rfl⟩
            go_simp
            refine wpG_pe rfl rfl ?_
            apply Exists.intro
            refine ⟨fun wq => ?_, ?_⟩
            · unfold plainAt
              go_simp
              first | exact rfl | exact ⟨rfl, rfl⟩
            go_simp
            refine wpG_s rfl rfl ?_
            intro ws gs K hK
            have PSZ := Lib.hid ((PSD).out.gr gs)
            refine wp_store_row 29 (.tmp 2) (.tmp 181) rfl w.heap.size (LnV.arr ⟨{ ln0 with k := 7, n := pc, a := pd, b := xb }, none, 0, none, 0, A3, c3⟩) rfl rfl 29 z17 PSZ.out.r refLnSize rfl (lnOne _) ?_
            refine hK _ _ ?_
            clear hK
            obtain ⟨hn, gn⟩ := PSZ.out.done (LnV.arr ⟨{ ln0 with k := 7, n := pc, a := pd, b := xb }, none, 0, none, 0, A3, c3⟩)
            have HNN := Lib.hid hn
            have GNN := Lib.hid gn
            obtain ⟨wt, hwt⟩ : ∃ wt, wt = ws.setRow w.heap.size (LnV.arr ⟨{ ln0 with k := 7, n := pc, a := pd, b := xb }, none, 0, none, 0, A3, c3⟩) := ⟨_, rfl⟩
            rw [← hwt] at HNN GNN
            go_simp
            rw [← hwt]
            have HWT := Lib.hid hwt
            clear hwt hn gn
            refine wpG_pe rfl rfl ?_
            apply Exists.intro
            refine ⟨fun wq => ?_, ?_⟩
            · unfold plainAt
              go_simp
              first | exact rfl | exact ⟨rfl, rfl⟩
            go_simp
            refine wpG_nil ?_
            intro we ge
            have HNE : we.heap[w.heap.size]? = some (.cells (LnV.arr ⟨{ ln0 with k := 7, n := pc, a := pd, b := xb }, none, 0, none, 0, A3, c3⟩) 29 (0, 0)) := (Below.block ge _ (Array.getElem?_eq_some_iff.1 HNN.out).1).trans HNN.out
            have GEE : Gr w we := GNN.out.trans ge
            go_wp2_with fail
            rw [HF.out]
            exact bodyPost_ret (results_lnR Tryz.results11 _ _ w.heap.size _ _ rfl HNE rfl) rfl ⟨⟨{ ln0 with k := 7, n := pc, a := pd, b := xb }, none, 0, none, 0, A3, c3⟩, rfl, rfl, ⟨Sl.nil _ _, Sl.nil _ _, (by
              have h1 := sl_row (cs0 := []) (t := 0) (Sl.gr SLD.out gs) (by decide) (g := w.heap.size) (LnV.arr ⟨{ ln0 with k := 7, n := pc, a := pd, b := xb }, none, 0, none, 0, A3, c3⟩) (fun h0 b o e => NA.out b o e h0)
              rw [← HWT.out] at h1
              exact Sl.gr h1 ge)⟩, GEE, ⟨(fun b q e => by cases e), (fun b q e => by cases e), (fun b q e _ => by have h1 := HFR3.out b q e; have h2 := PSY.out.r.lt; omega)⟩⟩
          · have tc : decide ((xb.length : Int) ≤ 512) = false := decide_eq_false (by omega)
            have HF : Hid (r = (ln0, 3)) := by have h := HPT.out; rw [HXB.out, decide_eq_false hb2, Bool.and_false, Bool.and_false] at h; exact h
            clear nb hf hb1 hb2
            go_wp2_with (first
              | (refine wpList_load_row rfl 29 (.tmp 7) rfl T rfl 29 z17 (0, 0) _ (PSZ0).out.e Tryz.underlying29 rfl refLnSize ?_)
              | (refine wpList_store_row rfl 29 (.tmp 2) (.tmp 182) rfl w.heap.size z17 rfl rfl 29 z17 (PSZ0).out.r refLnSize rfl z17_one ?_))
            obtain ⟨hn, gn⟩ := (PSZ0).out.done z17
            rw [HF.out]
            exact bodyPost_ret (results_lnR Tryz.results11 _ _ w.heap.size _ _ rfl hn rfl) rfl ⟨lnV0, rfl, rfl, lnAt0 _, gn, lnNew0 _⟩
        · have tb : decide ((1 : Int) ≤ (xb.length : Int)) = false := decide_eq_false (by omega)
          have HF : Hid (r = (ln0, 3)) := by have h := HPT.out; rw [HXB.out, decide_eq_false (show ¬ 0 < xb.length by omega), Bool.and_false, Bool.false_and, Bool.and_false] at h; exact h
          clear nb hf hb1
          go_wp2_with (first
            | (refine wpList_load_row rfl 29 (.tmp 7) rfl T rfl 29 z17 (0, 0) _ (PSZ0).out.e Tryz.underlying29 rfl refLnSize ?_)
            | (refine wpList_store_row rfl 29 (.tmp 2) (.tmp 182) rfl w.heap.size z17 rfl rfl 29 z17 (PSZ0).out.r refLnSize rfl z17_one ?_))
          obtain ⟨hn, gn⟩ := (PSZ0).out.done z17
          rw [HF.out]
          exact bodyPost_ret (results_lnR Tryz.results11 _ _ w.heap.size _ _ rfl hn rfl) rfl ⟨lnV0, rfl, rfl, lnAt0 _, gn, lnNew0 _⟩
      · have tf : ((xf : Int) == 0) = false := beq_eq_false_iff_ne.2 (by omega)
        have HF : Hid (r = (ln0, 3)) := by have h := HPT.out; rw [HXB.out, beq_false_of_ne hf, Bool.false_and, Bool.false_and, Bool.and_false] at h; exact h
        clear nb hf
        go_wp2_with (first
          | (refine wpList_load_row rfl 29 (.tmp 7) rfl T rfl 29 z17 (0, 0) _ (PSZ0).out.e Tryz.underlying29 rfl refLnSize ?_)
          | (refine wpList_store_row rfl 29 (.tmp 2) (.tmp 182) rfl w.heap.size z17 rfl rfl 29 z17 (PSZ0).out.r refLnSize rfl z17_one ?_))
        obtain ⟨hn, gn⟩ := (PSZ0).out.done z17
        rw [HF.out]
        exact bodyPost_ret (results_lnR Tryz.results11 _ _ w.heap.size _ _ rfl hn rfl) rfl ⟨lnV0, rfl, rfl, lnAt0 _, gn, lnNew0 _⟩
  · have t1 : ((n : Int) != 4) = true := bne_iff_ne.2 (by omega)
    have HF : Hid (r = (ln0, 3)) := HR.out.trans (parseT_n HNO.out HK.out (by omega) (by rw [HLEN.out]; exact h4))
    clear h4
    go_wp2_with (first
      | (refine wpList_load_row rfl 29 (.tmp 7) rfl T rfl 29 z17 (0, 0) _ (PSH).out.e Tryz.underlying29 rfl refLnSize ?_)
      | (refine wpList_store_row rfl 29 (.tmp 2) (.tmp 144) rfl w.heap.size z17 rfl rfl 29 z17 (PSH).out.r refLnSize rfl z17_one ?_))
    obtain ⟨hn, gn⟩ := (PSH).out.done z17
    rw [HF.out]
    exact bodyPost_ret (results_lnR Tryz.results11 _ _ w.heap.size _ _ rfl hn rfl) rfl ⟨lnV0, rfl, rfl, lnAt0 _, gn, lnNew0 _⟩
theorem refParse41_any (l : List UInt8) (w : World) (hl : l.length ≤ 100000) : Calls Tryz.prog 11 #[strc l] w (RetLnR w (parseT l)) := by
  by_cases ho : (parseO l).2 = 0
  · exact refParse41_op l w hl ho
  by_cases h2 : (cutL 32 l).headD [] = scrW 2
  · exact refParse41_2 l w hl ho h2
  by_cases h3 : (cutL 32 l).headD [] = scrW 3
  · exact refParse41_3 l w hl ho h3
  by_cases h4 : (cutL 32 l).headD [] = scrW 4
  · exact refParse41_4 l w hl ho h4
  by_cases h5 : (cutL 32 l).headD [] = scrW 5
  · exact refParse41_5 l w hl ho h5
  by_cases h6 : (cutL 32 l).headD [] = scrW 6
  · exact refParse41_6 l w hl ho h6
  by_cases h7 : (cutL 32 l).headD [] = scrW 7
  · exact refParse41_7 l w hl ho h7
  by_cases h8 : (cutL 32 l).headD [] = scrW 8
  · exact refParse41_8 l w hl ho h8
  refine refParse41_out l w hl ho ?_
  intro k hk1 hk8
  rcases show k = 2 ∨ k = 3 ∨ k = 4 ∨ k = 5 ∨ k = 6 ∨ k = 7 ∨ k = 8 by omega with rfl | rfl | rfl | rfl | rfl | rfl | rfl
  · exact h2
  · exact h3
  · exact h4
  · exact h5
  · exact h6
  · exact h7
  · exact h8
end Go.Proofs.YtadenlhnfkccaaaGreatDoor

/- Lines of scripts: the reference's Print; scripts read and written. No condition. -/
namespace Go.Proofs.YtadenlhnfkccaaaGreatDoor
open Go.RowKit
set_option linter.unusedVariables false
set_option linter.unusedSimpArgs false
set_option maxRecDepth 100000 in
set_option maxHeartbeats 4000000 in
theorem refPrint41_any (x : LnV) (w : World) (ho : LnOk x.d) (hop : OpLt x.d.o) (hx : LnAt w x) :
    Calls Tryz.prog 9 #[.agg x.arr] w fun e w' => e = .returned (.tuple #[strc (printT x.d).1, .int .i64 ((printT x.d).2 : Int)]) ∧ Gr w w' := by
  have HB : Hid (∀ wq, Gr (w.alloc (.cells x.arr 29)) wq → Blk wq w.heap.size 29 x.arr.toList) := fun wq g => (Blk.new w 29 x.arr).mono g
  have G0 : Hid (Gr w (w.alloc (.cells x.arr 29))) := Gr.alloc w _
  have HTX := Lib.hid (refText41_any x _ ho hop (hx.gr G0.out))
  have HPA : Hid (∀ wr, Calls Tryz.prog 11 #[strc (textT x.d)] wr (RetLnR wr (parseT (textT x.d)))) := fun wr => refParse41_any _ wr (by have := textT_len ho hop; omega)
  have HSM : Hid (∀ y wr, Gr w wr → LnAt wr y → Calls Tryz.prog 12 #[.agg x.arr, .agg y.arr] wr fun e w' => e = .returned (.bool (sameT x.d y.d)) ∧ Gr wr w') := fun y wr g h => refSame41_any x y wr (hx.gr g) h
  have HR : Hid (printT x.d = if (parseT (textT x.d)).2 = 0 ∧ sameT x.d (parseT (textT x.d)).1 = true then (textT x.d, 0) else ([], 2)) := rfl
  obtain ⟨r, hr⟩ : ∃ r, r = printT x.d := ⟨_, rfl⟩
  rw [← hr] at HR ⊢
  obtain ⟨tx, htx⟩ : ∃ tx : ByteArray, strc (textT x.d) = .string tx := ⟨_, rfl⟩
  rw [htx] at HTX HPA
  have HV := Lib.hid htx
  generalize parseT (textT x.d) = p at *
  clear hx hop ho hr htx
  obtain ⟨pd, pf⟩ := p
  simp only at HR
  go_enter Tryz.func9, Tryz.ntmps9
  have B0 := HB.out _ (Gr.refl _)
  have BB0 := Lib.hid B0
  clear B0
  go_wp2_with (refine wpList_load_row rfl 29 (.tmp 1) rfl w.heap.size rfl 29 x.arr (0, 0) _ BB0.out Tryz.underlying29 rfl refLnSize ?_)
  refine HTX.out.mono ?_
  rintro e w1 ⟨rfl, g1⟩
  have G1 := Lib.hid g1
  clear g1
  go_wp2_with fail
  refine (HPA.out _).mono ?_
  rintro e w2 ⟨y, rfl, hyd, hya, g2, _⟩
  subst hyd
  have HYB := setRow_heap (w2.alloc (.cells z17 29)) w2.heap.size _ y.arr _ _ (heap_alloc_new w2 _)
  have GS0 : Gr w2 ((w2.alloc (.cells z17 29)).setRow w2.heap.size y.arr) := below_row39 ((Below.refl _ _).alloc (Nat.le_refl _) _) (Nat.le_refl _) _
  have GX := Lib.hid (G1.out.trans (g2.trans GS0))
  have AY := Lib.hid (hya.gr GS0)
  have BY : Hid (Blk ((w2.alloc (.cells z17 29)).setRow w2.heap.size y.arr) w2.heap.size 29 y.arr.toList) := HYB
  have BX := Lib.hid (HB.out _ GX.out)
  have HSC := Lib.hid (HSM.out y _ (G0.out.trans GX.out) AY.out)
  clear HYB GS0 g2 hya
  by_cases hf : pf = 0
  · have tf : ((pf : Int) != 0) = false := by rw [hf]; rfl
    cases hs : sameT x.d y.d with
    | true =>
      have HF : Hid (r = (textT x.d, 0)) := by show _ = _; rw [HR.out, if_pos ⟨hf, hs⟩]
      rw [hs] at HSC
      clear hf hs
      go_wp2_with (first
        | (refine wpList_store_row rfl 29 (.tmp 5) (.tmp 12) rfl w2.heap.size y.arr rfl rfl 29 z17 (by exact heap_alloc_new w2 _) refLnSize rfl (lnOne _) ?_)
        | (refine wpList_load_rowG rfl 29 (.tmp 1) rfl w.heap.size rfl 29 x.arr (0, 0) _ BX.out Tryz.underlying29 rfl refLnSize ?_)
        | (refine wpList_load_rowG rfl 29 (.tmp 5) rfl w2.heap.size rfl 29 y.arr (0, 0) _ BY.out Tryz.underlying29 rfl refLnSize ?_))
      refine HSC.out.mono ?_
      rintro e w3 ⟨rfl, g3⟩
      have G3 := Lib.hid (G0.out.trans (GX.out.trans g3))
      clear g3
      go_wp2_with fail
      go_ret2
      exact ⟨by rw [HF.out]; simp only; rw [HV.out]; rfl, G3.out⟩
    | false =>
      have HF : Hid (r = ([], 2)) := by show _ = _; rw [HR.out, if_neg (by simp [hs])]
      rw [hs] at HSC
      clear hf hs
      go_wp2_with (first
        | (refine wpList_store_row rfl 29 (.tmp 5) (.tmp 12) rfl w2.heap.size y.arr rfl rfl 29 z17 (by exact heap_alloc_new w2 _) refLnSize rfl (lnOne _) ?_)
        | (refine wpList_load_rowG rfl 29 (.tmp 1) rfl w.heap.size rfl 29 x.arr (0, 0) _ BX.out Tryz.underlying29 rfl refLnSize ?_)
        | (refine wpList_load_rowG rfl 29 (.tmp 5) rfl w2.heap.size rfl 29 y.arr (0, 0) _ BY.out Tryz.underlying29 rfl refLnSize ?_))
      refine HSC.out.mono ?_
      rintro e w3 ⟨rfl, g3⟩
      have G3 := Lib.hid (G0.out.trans (GX.out.trans g3))
      clear g3
      go_wp2_with fail
      go_ret2
      exact ⟨by rw [HF.out]; rfl, G3.out⟩
  · have tf : ((pf : Int) != 0) = true := bne_iff_ne.2 (by omega)
    have HF : Hid (r = ([], 2)) := by show _ = _; rw [HR.out, if_neg (by simp [hf])]
    have G3 := Lib.hid (G0.out.trans GX.out)
    clear hf
    go_wp2_with (refine wpList_store_row rfl 29 (.tmp 5) (.tmp 12) rfl w2.heap.size y.arr rfl rfl 29 z17 (by exact heap_alloc_new w2 _) refLnSize rfl (lnOne _) ?_)
    go_ret2
    exact ⟨by rw [HF.out]; rfl, G3.out⟩
set_option maxRecDepth 100000 in
set_option maxHeartbeats 4000000 in
theorem refWrite41_any (A : Option Addr) (n c : Nat) (L : List LnV) (w : World) (hL : Lns w A n c L) (hn : n ≤ 3000) (hok : ∀ x ∈ L, LnOk x.d ∧ OpLt x.d.o) :
    Calls Tryz.prog 16 #[.slice A n c] w fun e w' => e = .returned (.tuple #[strc (writeT (L.map LnV.d)).1, .int .i64 ((writeT (L.map LnV.d)).2 : Int)]) ∧ Gr w w' := by
  obtain ⟨r, hr⟩ : ∃ r, r = writeT (L.map LnV.d) := ⟨_, rfl⟩
  rw [← hr]
  have HR := Lib.hid hr
  have HPR : Hid (∀ x ∈ L, ∀ wr, Gr w wr → Calls Tryz.prog 9 #[.agg x.arr] wr fun e w' => e = .returned (.tuple #[strc (printT x.d).1, .int .i64 ((printT x.d).2 : Int)]) ∧ Gr wr w') := fun x hx wr g => refPrint41_any x wr (hok x hx).1 (hok x hx).2 ((hL.gr g).2.2 x hx)
  have HLL : Hid (∀ k, (writeS ((L.map LnV.d).take k)).length ≤ n * 20001) := fun k => by
    refine Nat.le_trans (writeS_len (fun d hd => ?_)) (Nat.mul_le_mul_right _ ?_)
    · obtain ⟨x, hx, rfl⟩ := List.mem_map.1 (List.mem_of_mem_take hd)
      exact hok x hx
    · rw [List.length_take, List.length_map, hL.1]; omega
  have HPL : Hid (∀ x ∈ L, (printT x.d).1.length ≤ 20000) := fun x hx => printT_len (hok x hx).1 (hok x hx).2
  have HLN := Lib.hid hL
  have hmax := hL.2.1.max
  have hcap := hL.2.1.cap
  have hln := hL.1
  clear hL hok hr
  go_enter Tryz.func16, Tryz.ntmps16
  go_wp2_with fail
  go_loopw [4, 5] (fun v i wr => ∃ (k : Nat) (t : ByteArray), k ≤ n ∧ i = .int .i64 k ∧ v = .string t ∧ t = ⟨(writeS ((L.map LnV.d).take k)).toArray⟩ ∧ Gr w wr ∧ ((L.map LnV.d).take k).all (fun d => (printT d).2 == 0) = true) (fun _ i _ => n - (intOf i).toNat)
  case atStart => exact ⟨0, ⟨#[]⟩, Nat.zero_le _, rfl, rfl, by simp [writeS], Gr.refl _, rfl⟩
  case round =>
    obtain ⟨k, t, hk, rfl, rfl, ht, g, ha⟩ := hrel
    have HTT := Lib.hid ht; have HA := Lib.hid ha; have GW := Lib.hid g
    have hts : t.size = (writeS ((L.map LnV.d).take k)).length := by rw [ht]; exact size_of' _
    clear ht ha g
    by_cases hlt : k < n
    · obtain ⟨b, o, rfl, hc⟩ := (HLN.out.gr GW.out).at (by omega)
      have hkl : k < L.length := by omega
      have hkd : k < (L.map LnV.d).length := by rw [List.length_map]; omega
      have hde : (L.map LnV.d)[k] = (L[k]).d := by simp
      have HRG := Lib.hid (hc k hkl)
      have HSN := Lib.hid (writeS_snoc hkd)
      have HAL : Hid (((L.map LnV.d).take (k + 1)).all (fun d => (printT d).2 == 0) = (((L.map LnV.d).take k).all (fun d => (printT d).2 == 0) && ((printT (L[k]).d).2 == 0))) := by
        show _ = _
        rw [List.take_succ_eq_append_getElem hkd, List.all_append, hde]; simp
      have HBAD : Hid (((printT (L[k]).d).2 == 0) = false → r = ([], 2)) := fun h => by
        rw [HR.out]
        unfold writeT
        rw [if_neg]
        intro hall
        have := List.all_eq_true.1 hall _ (List.getElem_mem hkd)
        rw [hde, h] at this
        cases this
      have HPC := HPR.out (L[k]) (List.getElem_mem hkl)
      have hpl := HPL.out (L[k]) (List.getElem_mem hkl)
      have hll := HLL.out k
      have hfc := printT_f (L[k]).d
      rw [hde] at HSN
      clear hc hde
      generalize L[k] = x at *
      have HPD := Lib.hid (HPC wr GW.out)
      obtain ⟨pl, hpe⟩ : ∃ pl, pl = printT x.d := ⟨_, rfl⟩
      rw [← hpe] at HPD HSN HAL HBAD hpl hfc
      obtain ⟨pt, pf⟩ := pl
      simp only at HPD HSN HAL HBAD hpl hfc
      obtain ⟨s, hs⟩ : ∃ s : ByteArray, s = ⟨pt.toArray⟩ := ⟨_, rfl⟩
      have hsz : s.size = pt.length := by rw [hs]; exact size_of' _
      rw [show strc pt = .string s by rw [hs]; rfl] at HPD
      have HX2 : Hid (t ++ s ++ ⟨#[10]⟩ = ⟨(writeS ((L.map LnV.d).take (k + 1))).toArray⟩) := by
        show _ = _
        rw [HSN.out, HTT.out, hs]
        apply ByteArray.ext
        simp
      have hnn : n * 20001 ≤ 3000 * 20001 := Nat.mul_le_mul_right _ hn
      have l1 : ¬ 9223372036854775807 < t.size + s.size := by omega
      have l2 : ¬ 9223372036854775807 < t.size + s.size + 1 := by omega
      clear hpe hs hsz HPC hll hts hnn hpl
      by_cases hf : pf = 0
      · have tf : ((pf : Int) != 0) = false := by rw [hf]; rfl
        have HA2 : Hid (((L.map LnV.d).take (k + 1)).all (fun d => (printT d).2 == 0) = true) := by show _ = _; rw [HAL.out, HA.out, hf]; rfl
        clear hf hfc
        go_wp2_with (refine wpList_load_mid rfl 29 (.tmp 17) rfl b (o + k * 17) rfl x.cells _ HRG.out Tryz.underlying29 rfl refLnSize ?_)
        refine HPD.out.mono ?_
        rintro e w2 ⟨rfl, g2⟩
        have G2 := Lib.hid (GW.out.trans g2)
        clear g2
        go_wp2_with fail
        refine ⟨⟨k + 1, _, by omega, by first | trivial | go_num, rfl, HX2.out, G2.out, HA2.out⟩, ?_⟩
        show n - ((k : Int) + 1).toNat < n - (k : Int).toNat
        omega
      · have tf : ((pf : Int) != 0) = true := bne_iff_ne.2 (by omega)
        have HF := Lib.hid (HBAD.out (beq_false_of_ne hf))
        clear hf hfc
        go_wp2_with (refine wpList_load_mid rfl 29 (.tmp 17) rfl b (o + k * 17) rfl x.cells _ HRG.out Tryz.underlying29 rfl refLnSize ?_)
        refine HPD.out.mono ?_
        rintro e w2 ⟨rfl, g2⟩
        have G2 := Lib.hid (GW.out.trans g2)
        clear g2
        go_wp2_with fail
        go_ret2
        exact ⟨by rw [HF.out]; rfl, G2.out⟩
    · obtain rfl : k = n := by omega
      have htk : (L.map LnV.d).take k = L.map LnV.d := List.take_of_length_le (by rw [List.length_map]; omega)
      rw [htk] at HTT HA
      have HF : Hid (r = (writeS (L.map LnV.d), 0)) := by show _ = _; rw [HR.out]; unfold writeT; rw [if_pos HA.out]
      have HV : Hid (Value.string t = strc (writeS (L.map LnV.d))) := str_of HTT.out
      clear htk hts
      go_wp2_with fail
      go_ret2
      exact ⟨by rw [HF.out]; simp only; rw [← HV.out]; rfl, GW.out⟩
end Go.Proofs.YtadenlhnfkccaaaGreatDoor

/- Scripts: the reference's Read. No condition. -/
namespace Go.Proofs.YtadenlhnfkccaaaGreatDoor
open Go.RowKit
set_option linter.unusedVariables false
set_option linter.unusedSimpArgs false
structure OutR (w W : World) (v : Value) (L : List LnV) : Prop where
  own : Own w W 29 17 v L.length (L.flatMap LnV.cells)
  at_ : ∀ x ∈ L, LnAt W x
  apart : ∀ x ∈ L, ∀ b, RowIn x b → v.ownBlock ≠ some b
theorem OutR.gr {w W W' : World} {v : Value} {L : List LnV} (h : OutR w W v L) (g : Gr W W') : OutR w W' v L := ⟨h.own.mono g, fun x hx => (h.at_ x hx).gr g, h.apart⟩
theorem OutR.push {w W1 W3 w5 : World} {v v' : Value} {L : List LnV} {y : LnV} (out : OutR w W1 v L) (g13 : Gr W1 W3) (ya : LnAt W3 y) (yn : LnNew W1 y)
    (o : Own w w5 29 17 v' (L.length + 1) (L.flatMap LnV.cells ++ y.cells)) (kp : Kept (W3.alloc (.cells y.arr 29)) w5 v v') : OutR w w5 v' (L ++ [y]) := by
  have out3 := out.gr g13
  have oa := out3.own.alloc (.cells y.arr 29)
  have T := Tch.kept kp o oa.2
  have hsz : (W3.alloc (.cells y.arr 29)).heap.size = W3.heap.size + 1 := World.size_alloc _ _
  have hvlt : ∀ b, v.ownBlock = some b → b < W1.heap.size := fun b hb => (World.ownsRow.lt out.own.1 b hb).2
  have hrow : ∀ x ∈ L, ∀ b, RowIn x b → b < W3.heap.size := fun x hx b hb => by
    obtain ⟨q, u, hu⟩ := (out3.at_ x hx).cell hb
    exact World.block_lt_of_cell? W3 _ hu
  have hrowy : ∀ b, RowIn y b → b < W3.heap.size := fun b hb => by
    obtain ⟨q, u, hu⟩ := ya.cell hb
    exact World.block_lt_of_cell? W3 _ hu
  have hyN : ∀ b, RowIn y b → W1.heap.size ≤ b := fun b hb => yn.row hb
  have hown' : ∀ b, v'.ownBlock = some b → v.ownBlock = some b ∨ W3.heap.size ≤ b := fun b hb => by
    rcases kp.2.2 with h | h
    · left; rw [← h]; exact hb
    · right
      rw [h, hsz] at hb
      have := Option.some.inj hb
      omega
  refine ⟨?_, ?_, ?_⟩
  · rw [List.length_append, List.flatMap_append]
    simpa using o
  · intro x hx
    rcases List.mem_append.1 hx with hx | hx
    · exact ((out3.at_ x hx).gr (Gr.alloc W3 _)).tch T (fun b hb => out.apart x hx b hb)
    · simp only [List.mem_singleton] at hx
      subst hx
      exact (ya.gr (Gr.alloc W3 _)).tch T (fun b hb e => by have := hvlt b e; have := hyN b hb; omega)
  · intro x hx b hb e
    rcases List.mem_append.1 hx with hx | hx
    · rcases hown' b e with h | h
      · exact out.apart x hx b hb h
      · have := hrow x hx b hb; omega
    · simp only [List.mem_singleton] at hx
      subst hx
      rcases hown' b e with h | h
      · have := hvlt b h; have := hyN b hb; omega
      · have := hrowy b hb; omega
theorem cut_piece {l : List UInt8} {fr k : Nat} (h1 : fr ≤ k) (hk : k ≤ l.length) (hno : ∀ j, fr ≤ j → j < k → l[j]? ≠ some 10) (hb : l[k]? = some 10 ∨ k = l.length) :
    cutL 10 (l.drop fr) = (l.drop fr).take (k - fr) :: (if k = l.length then [] else cutL 10 (l.drop (k + 1))) := by
  by_cases hl : k = l.length
  · rw [if_pos hl]
    have ht : (l.drop fr).take (k - fr) = l.drop fr := List.take_of_length_le (by rw [List.length_drop]; omega)
    rw [ht]
    refine cut_none 10 _ fun b hb e => ?_
    subst e
    obtain ⟨j, hj, he⟩ := List.getElem_of_mem hb
    rw [List.getElem_drop] at he
    rw [List.length_drop] at hj
    exact hno (fr + j) (by omega) (by omega) (by rw [List.getElem?_eq_getElem (by omega), he])
  · rw [if_neg hl]
    have hb' : l[k]? = some 10 := hb.resolve_right hl
    rw [cut_cut 10 (l.drop fr) (k - fr) (by rw [List.getElem?_drop, show fr + (k - fr) = k by omega]; exact hb') (fun j hj => by rw [List.getElem?_drop]; exact hno (fr + j) (by omega) (by omega)), List.drop_drop, show fr + (k - fr + 1) = k + 1 by omega]
theorem mid_text (l : List UInt8) (s : ByteArray) (hs : s = ⟨l.toArray⟩) (fr k : Nat) : s.extract fr k = ⟨((l.drop fr).take (k - fr)).toArray⟩ := by
  subst hs
  apply ByteArray.ext
  simp [ByteArray.data_extract, List.extract_eq_take_drop]
def RetRsR (w : World) (r : List LnD × Nat × Nat) (e : Ending) (w' : World) : Prop := ∃ A n c L, e = .returned (.tuple #[.slice A n c, .int .i64 (r.2.1 : Int), .int .i64 (r.2.2 : Int)]) ∧ Lns w' A n c L ∧ L.map LnV.d = r.1 ∧ Gr w w'
/-- Between two rounds: up to k, the last piece begun at fr. -/
def RdAt (l : List UInt8) (k fr : Nat) (P : List (List UInt8)) : Prop := (k ≤ l.length ∧ fr ≤ k ∧ P ++ cutL 10 (l.drop fr) = cutL 10 l ∧ ∀ j, fr ≤ j → j < k → l[j]? ≠ some 10) ∨ (k = l.length + 1 ∧ P = cutL 10 l)
theorem rdAt_step {l : List UInt8} {k fr : Nat} {P : List (List UInt8)} (hk : k ≤ l.length) (h1 : fr ≤ k) (hP : P ++ cutL 10 (l.drop fr) = cutL 10 l) (hno : ∀ j, fr ≤ j → j < k → l[j]? ≠ some 10) (hb : l[k]? = some 10 ∨ k = l.length) :
    RdAt l (k + 1) (k + 1) (P ++ [(l.drop fr).take (k - fr)]) ∧ ∃ rest, (P ++ [(l.drop fr).take (k - fr)]) ++ rest = cutL 10 l := by
  have hc := cut_piece h1 hk hno hb
  rw [hc] at hP
  by_cases hl : k = l.length
  · rw [if_pos hl] at hP
    exact ⟨.inr ⟨by omega, hP⟩, [], by rw [List.append_nil]; exact hP⟩
  · rw [if_neg hl] at hP
    have hP' : P ++ [(l.drop fr).take (k - fr)] ++ cutL 10 (l.drop (k + 1)) = cutL 10 l := by rw [List.append_assoc]; exact hP
    exact ⟨.inl ⟨by omega, Nat.le_refl _, hP', fun j h2 h3 => by omega⟩, _, hP'⟩
set_option maxRecDepth 100000 in
set_option maxHeartbeats 4000000 in
theorem refRead41_any (l : List UInt8) (w : World) (hl : l.length ≤ 100000) : Calls Tryz.prog 18 #[strc l] w (RetRsR w (readS l)) := by
  obtain ⟨s, hs⟩ : ∃ s : ByteArray, s = ⟨l.toArray⟩ := ⟨_, rfl⟩
  have hsz : s.size = l.length := by rw [hs]; exact size_of' l
  have HAT := Lib.hid (at_of l s hs)
  have HMT := Lib.hid (mid_text l s hs)
  have hss : strc l = .string s := by rw [hs]; rfl
  rw [hss]
  have HSZ := Lib.hid hsz
  have HPA : Hid (∀ (x : List UInt8) wr, x.length ≤ 100000 → Calls Tryz.prog 11 #[strc x] wr (RetLnR wr (parseT x))) := fun x wr h => refParse41_any x wr h
  have hsl : s.size ≤ 100000 := by omega
  clear hs hss hsz
  go_enter Tryz.func18, Tryz.ntmps18
  go_wp2_with fail
  go_loopw [5, 6, 7, 8] (fun v f nm i wr => ∃ (k fr : Nat) (P : List (List UInt8)) (L : List LnV), i = .int .i64 k ∧ f = .int .i64 fr ∧ nm = .int .i64 (P.length : Int) ∧ k ≤ s.size + 1 ∧ fr ≤ s.size + 1 ∧ P.length ≤ k ∧ OutR w wr v L ∧ L.map LnV.d = P.foldl eatP [] ∧ P.all pieceOk = true ∧ RdAt l k fr P) (fun _ _ _ i _ => s.size + 1 - (intOf i).toNat)
  case atStart => exact ⟨0, 0, [], [], rfl, rfl, rfl, Nat.zero_le _, Nat.zero_le _, Nat.le_refl _, ⟨Own.nil _ _ _, (fun x hx => by cases hx), (fun x hx => by cases hx)⟩, rfl, rfl, .inl ⟨Nat.zero_le _, Nat.le_refl _, rfl, fun j h1 h2 => by omega⟩⟩
  case round =>
    obtain ⟨k, fr, P, L, rfl, rfl, rfl, hk, hfr, hpk, out, hm, hok, hat⟩ := hrel
    have OUT := Lib.hid out; have HMM := Lib.hid hm; have HOK := Lib.hid hok; have HRA := Lib.hid hat
    obtain ⟨A1, c1, rfl, sl1⟩ := out.own.slice
    have SL1 := Lib.hid sl1
    have GW : Hid (Gr w wr) := out.own.below
    have hLl : L.length ≤ P.length := by
      have h1 := congrArg List.length hm
      have h2 := fold_len P []
      rw [List.length_map] at h1
      simp at h2
      omega
    have HLL2 := Lib.hid hLl
    clear out hm hok hat sl1 hLl
    by_cases hlt : k ≤ s.size
    · have tk : decide ((k : Int) ≤ (s.size : Int)) = true := decide_eq_true (by omega)
      obtain ⟨hkl, hfk, hP, hno⟩ := (show RdAt l k fr P from HRA.out).resolve_right (fun h => by have := HSZ.out; omega)
      have HNO := Lib.hid hno; have HPP := Lib.hid hP
      clear hno hP
      by_cases hcont : k < s.size ∧ l[k]? ≠ some 10
      · have hks : k < s.size := hcont.1
        have hkll : k < l.length := by have := HSZ.out; omega
        have hne : l[k] ≠ 10 := fun e => hcont.2 (by rw [List.getElem?_eq_getElem hkll, e])
        have hsc : ((s[k]'hks).toNat : Int) = (l[k].toNat : Int) := by
          rw [HAT.out k hks]
          unfold bAt
          rw [List.getD_eq_getElem?_getD, List.getElem?_eq_getElem hkll]; rfl
        have t10 : (((s[k]'hks).toNat : Int) != 10) = true := bne_iff_ne.2 fun e => hne (UInt8.toNat_inj.1 (by show l[k].toNat = 10; omega))
        have HNX : Hid (RdAt l (k + 1) fr P) := .inl ⟨by omega, by omega, HPP.out, fun j h1 h2 => by
          rcases Nat.lt_or_ge j k with h | h
          · exact HNO.out j h1 h
          · have : j = k := by omega
            rw [this]; exact hcont.2⟩
        have hk2 : (k : Int) < (s.size : Int) := by omega
        clear hsc hne hcont
        go_wp2_with fail
        refine ⟨⟨k + 1, fr, P, L, by first | trivial | go_num, rfl, rfl, by omega, by omega, by omega, OUT.out, HMM.out, HOK.out, HNX.out⟩, ?_⟩
        show s.size + 1 - ((k : Int) + 1).toNat < s.size + 1 - (k : Int).toNat
        omega
      · have hb : l[k]? = some 10 ∨ k = l.length := by
          by_cases h : k < s.size
          · left
            by_cases h2 : l[k]? = some 10
            · exact h2
            · exact absurd ⟨h, h2⟩ hcont
          · right
            have := HSZ.out
            omega
        obtain ⟨hst, hrest⟩ := rdAt_step hkl hfk HPP.out HNO.out hb
        have HST := Lib.hid hst
        have HRS : Hid (∃ rest, (P ++ [(l.drop fr).take (k - fr)]) ++ rest = cutL 10 l) := hrest
        have hxl : ((l.drop fr).take (k - fr)).length = k - fr := by rw [List.length_take, List.length_drop]; omega
        have hpl : (P ++ [(l.drop fr).take (k - fr)]).length = P.length + 1 := by simp
        have wp : IntKind.i64.wrap ((P.length : Int) + 1) = (P.length : Int) + 1 := by rw [IntKind.wrap_i64]; omega
        have wk : IntKind.i64.wrap ((k : Int) + 1) = (k : Int) + 1 := by rw [IntKind.wrap_i64]; omega
        have HMT2 : Hid (s.extract fr k = ⟨((l.drop fr).take (k - fr)).toArray⟩) := HMT.out fr k
        generalize (l.drop fr).take (k - fr) = x at *
        have HT10 : Hid (∀ h : k < s.size, (((s[k]'h).toNat : Int) != 10) = false) := fun h => by
          have hkll : k < l.length := by have := HSZ.out; omega
          have h10 : l[k] = 10 := by
            rcases hb with h2 | h2
            · rw [List.getElem?_eq_getElem hkll] at h2; exact Option.some.inj h2
            · omega
          have hsc : ((s[k]'h).toNat : Int) = (l[k].toNat : Int) := by
            rw [HAT.out k h]
            unfold bAt
            rw [List.getD_eq_getElem?_getD, List.getElem?_eq_getElem hkll]; rfl
          rw [hsc, h10]; rfl
        have HPL := Lib.hid hpl
        have hr1 : (fr : Int) ≤ (k : Int) := by omega
        have hr2 : (k : Int) ≤ (s.size : Int) := by omega
        by_cases hx0 : fr = k
        · subst hx0
          have tgt : decide ((fr : Int) < (fr : Int)) = false := decide_eq_false (by omega)
          have hxe : x = [] := List.length_eq_zero_iff.1 (by omega)
          have HOK2 : Hid ((P ++ [x]).all pieceOk = true) := by show _ = _; rw [List.all_append, HOK.out, hxe]; rfl
          have HFF : Hid ((P ++ [x]).foldl eatP [] = P.foldl eatP []) := by show _ = _; rw [List.foldl_append, hxe]; rfl
          clear hxe hb hcont hst hrest hxl hpl
          by_cases hks : fr < s.size
          · have t10 := HT10.out hks
            have hk2 : (fr : Int) < (s.size : Int) := by omega
            have td : decide ((fr : Int) < (s.size : Int)) = true := decide_eq_true (by omega)
            go_wp2_with fail
            refine ⟨⟨fr + 1, fr + 1, P ++ [x], L, by first | trivial | go_num, by first | trivial | go_num, by rw [HPL.out]; first | rfl | go_num, by omega, by omega, by rw [HPL.out]; omega, OUT.out, HMM.out.trans HFF.out.symm, HOK2.out, HST.out⟩, ?_⟩
            show s.size + 1 - ((fr : Int) + 1).toNat < s.size + 1 - (fr : Int).toNat
            omega
          · have td : decide ((fr : Int) < (s.size : Int)) = false := decide_eq_false (by omega)
            go_wp2_with fail
            refine ⟨⟨fr + 1, fr + 1, P ++ [x], L, by first | trivial | go_num, by first | trivial | go_num, by rw [HPL.out]; first | rfl | go_num, by omega, by omega, by rw [HPL.out]; omega, OUT.out, HMM.out.trans HFF.out.symm, HOK2.out, HST.out⟩, ?_⟩
            show s.size + 1 - ((fr : Int) + 1).toNat < s.size + 1 - (fr : Int).toNat
            omega
        · have tgt : decide ((fr : Int) < (k : Int)) = true := decide_eq_true (by omega)
          have hxn : x ≠ [] := fun e => by rw [e] at hxl; simp at hxl; omega
          have HPC : Hid (∀ wr, Calls Tryz.prog 11 #[.string (s.extract fr k)] wr (RetLnR wr (parseT x))) := fun wr => by
            rw [HMT2.out]
            exact HPA.out x wr (by omega)
          have HOKX : Hid (pieceOk x = ((parseT x).2 == 0)) := by show _ = _; simp [pieceOk, hxn]
          have HFF : Hid ((P ++ [x]).foldl eatP [] = P.foldl eatP [] ++ [(parseT x).1]) := by show _ = _; rw [List.foldl_append]; simp [eatP, hxn]
          have HBAD : Hid (pieceOk x = false → readS l = ([], P.length + 1, 3)) := fun h => by
            obtain ⟨rest, hr⟩ := HRS.out
            exact readS_bad hr HOK.out h
          clear hxn hb hcont hst hrest hxl hpl
          generalize parseT x = px at *
          obtain ⟨pd, pf⟩ := px
          by_cases hks : k < s.size
          · have t10 := HT10.out hks
            have hk2 : (k : Int) < (s.size : Int) := by omega
            have td : decide ((k : Int) < (s.size : Int)) = true := decide_eq_true (by omega)
            go_wp2_with fail
            refine (HPC.out _).mono ?_
            rintro e w2 ⟨y, rfl, hyd, hya, g2, hyn⟩
            have hyd : y.d = pd := hyd
            subst hyd
            have GS0 : Gr w2 ((w2.alloc (.cells z17 29)).setRow w2.heap.size y.arr) := below_row39 ((Below.refl _ _).alloc (Nat.le_refl _) _) (Nat.le_refl _) _
            have BY : Hid (Blk ((w2.alloc (.cells z17 29)).setRow w2.heap.size y.arr) w2.heap.size 29 y.arr.toList) := setRow_heap (w2.alloc (.cells z17 29)) w2.heap.size _ y.arr _ _ (heap_alloc_new w2 _)
            have G13 := Lib.hid (g2.trans GS0)
            have YA := Lib.hid (hya.gr GS0)
            have YN := Lib.hid hyn
            clear g2 GS0 hya hyn
            by_cases hf : pf = 0
            · have tf : ((pf : Int) != 0) = false := by rw [hf]; rfl
              have HOK2 : Hid ((P ++ [x]).all pieceOk = true) := by show _ = _; rw [List.all_append, HOK.out, List.all_cons, HOKX.out, hf]; rfl
              have OW3 : Hid (Own w ((w2.alloc (.cells z17 29)).setRow w2.heap.size y.arr) 29 17 (.slice A1 L.length c1) L.length (L.flatMap LnV.cells)) := (OUT.out.gr G13.out).own
              have hroom : (L.length + 1) * 216 ≤ 140737488355328 := by have := HLL2.out; omega
              clear hf
              go_wp2_with (first
                | (refine wpList_store_row rfl 29 (.tmp 9) (.tmp 38) rfl w2.heap.size y.arr rfl rfl 29 z17 (by exact heap_alloc_new w2 _) refLnSize rfl (lnOne _) ?_)
                | (refine wpList_load_row rfl 29 (.tmp 9) rfl w2.heap.size rfl 29 y.arr (0, 0) _ BY.out Tryz.underlying29 rfl refLnSize ?_)
                | (refine wpList_build1 rfl 48 29 (.tmp 44) rfl y.arr rfl Tryz.underlying48 refLnSize (by kernel_rfl) (by rw [LnV.sz]; omega) (by rw [LnV.sz]; omega) ?_)
                | (at_builtin; go_loud (refine wpList_pushG rfl (.tmp 43) (.tmp 45) 48 rfl tLinesR rfl OW3.out y.arr rfl rfl y.one hroom ?_); intro v5 w5 o5 k5; have P5 := Lib.hid (OutR.push OUT.out G13.out YA.out YN.out o5 k5); obtain ⟨A5, c5, rfl, _⟩ := o5.slice; clear o5 k5))
              refine ⟨⟨k + 1, k + 1, P ++ [x], L ++ [y], by first | trivial | go_num, by first | trivial | go_num, by rw [HPL.out]; first | rfl | go_num, by omega, by omega, by rw [HPL.out]; omega, P5.out, by rw [List.map_append, HMM.out, HFF.out]; rfl, HOK2.out, HST.out⟩, ?_⟩
              show s.size + 1 - ((k : Int) + 1).toNat < s.size + 1 - (k : Int).toNat
              omega
            · have tf : ((pf : Int) != 0) = true := bne_iff_ne.2 (by omega)
              have HF := Lib.hid (HBAD.out (by rw [HOKX.out]; exact beq_false_of_ne hf))
              have G3 := Lib.hid (GW.out.trans G13.out)
              clear hf
              go_wp2_with (refine wpList_store_row rfl 29 (.tmp 9) (.tmp 38) rfl w2.heap.size y.arr rfl rfl 29 z17 (by exact heap_alloc_new w2 _) refLnSize rfl (lnOne _) ?_)
              go_ret3
              exact ⟨none, 0, 0, [], by rw [HF.out]; rfl, ⟨rfl, Sl.nil _ _, fun x hx => by cases hx⟩, by rw [HF.out]; rfl, G3.out⟩
          · have td : decide ((k : Int) < (s.size : Int)) = false := decide_eq_false (by omega)
            go_wp2_with fail
            refine (HPC.out _).mono ?_
            rintro e w2 ⟨y, rfl, hyd, hya, g2, hyn⟩
            have hyd : y.d = pd := hyd
            subst hyd
            have GS0 : Gr w2 ((w2.alloc (.cells z17 29)).setRow w2.heap.size y.arr) := below_row39 ((Below.refl _ _).alloc (Nat.le_refl _) _) (Nat.le_refl _) _
            have BY : Hid (Blk ((w2.alloc (.cells z17 29)).setRow w2.heap.size y.arr) w2.heap.size 29 y.arr.toList) := setRow_heap (w2.alloc (.cells z17 29)) w2.heap.size _ y.arr _ _ (heap_alloc_new w2 _)
            have G13 := Lib.hid (g2.trans GS0)
            have YA := Lib.hid (hya.gr GS0)
            have YN := Lib.hid hyn
            clear g2 GS0 hya hyn
            by_cases hf : pf = 0
            · have tf : ((pf : Int) != 0) = false := by rw [hf]; rfl
              have HOK2 : Hid ((P ++ [x]).all pieceOk = true) := by show _ = _; rw [List.all_append, HOK.out, List.all_cons, HOKX.out, hf]; rfl
              have OW3 : Hid (Own w ((w2.alloc (.cells z17 29)).setRow w2.heap.size y.arr) 29 17 (.slice A1 L.length c1) L.length (L.flatMap LnV.cells)) := (OUT.out.gr G13.out).own
              have hroom : (L.length + 1) * 216 ≤ 140737488355328 := by have := HLL2.out; omega
              clear hf
              go_wp2_with (first
                | (refine wpList_store_row rfl 29 (.tmp 9) (.tmp 38) rfl w2.heap.size y.arr rfl rfl 29 z17 (by exact heap_alloc_new w2 _) refLnSize rfl (lnOne _) ?_)
                | (refine wpList_load_row rfl 29 (.tmp 9) rfl w2.heap.size rfl 29 y.arr (0, 0) _ BY.out Tryz.underlying29 rfl refLnSize ?_)
                | (refine wpList_build1 rfl 48 29 (.tmp 44) rfl y.arr rfl Tryz.underlying48 refLnSize (by kernel_rfl) (by rw [LnV.sz]; omega) (by rw [LnV.sz]; omega) ?_)
                | (at_builtin; go_loud (refine wpList_pushG rfl (.tmp 43) (.tmp 45) 48 rfl tLinesR rfl OW3.out y.arr rfl rfl y.one hroom ?_); intro v5 w5 o5 k5; have P5 := Lib.hid (OutR.push OUT.out G13.out YA.out YN.out o5 k5); obtain ⟨A5, c5, rfl, _⟩ := o5.slice; clear o5 k5))
              refine ⟨⟨k + 1, k + 1, P ++ [x], L ++ [y], by first | trivial | go_num, by first | trivial | go_num, by rw [HPL.out]; first | rfl | go_num, by omega, by omega, by rw [HPL.out]; omega, P5.out, by rw [List.map_append, HMM.out, HFF.out]; rfl, HOK2.out, HST.out⟩, ?_⟩
              show s.size + 1 - ((k : Int) + 1).toNat < s.size + 1 - (k : Int).toNat
              omega
            · have tf : ((pf : Int) != 0) = true := bne_iff_ne.2 (by omega)
              have HF := Lib.hid (HBAD.out (by rw [HOKX.out]; exact beq_false_of_ne hf))
              have G3 := Lib.hid (GW.out.trans G13.out)
              clear hf
              go_wp2_with (refine wpList_store_row rfl 29 (.tmp 9) (.tmp 38) rfl w2.heap.size y.arr rfl rfl 29 z17 (by exact heap_alloc_new w2 _) refLnSize rfl (lnOne _) ?_)
              go_ret3
              exact ⟨none, 0, 0, [], by rw [HF.out]; rfl, ⟨rfl, Sl.nil _ _, fun x hx => by cases hx⟩, by rw [HF.out]; rfl, G3.out⟩
    · have tk : decide ((k : Int) ≤ (s.size : Int)) = false := decide_eq_false (by omega)
      have hP : P = cutL 10 l := ((show RdAt l k fr P from HRA.out).resolve_left (fun h => by have := HSZ.out; omega)).2
      have HF : Hid (readS l = ((cutL 10 l).foldl eatP [], 0, 0)) := readS_good (by rw [← hP]; exact HOK.out)
      have HML : Hid (L.map LnV.d = (cutL 10 l).foldl eatP []) := by show _ = _; rw [HMM.out, hP]
      clear hP
      go_wp2_with fail
      go_ret3
      exact ⟨A1, L.length, c1, L, by rw [HF.out]; rfl, ⟨rfl, SL1.out, OUT.out.at_⟩, by rw [HF.out]; exact HML.out, GW.out⟩
end Go.Proofs.YtadenlhnfkccaaaGreatDoor
