/- Own texts, one behind the other. No condition. -/
import Derived.Test.YtdkmlmbehlooiaaGreatDoorObPkAP
set_option linter.unusedVariables false
set_option linter.unusedSimpArgs false
namespace Go.Proofs.YtdkmlmbehlooiaaGreatDoor
section
open Go.RowKit
def decR (S : List (List UInt8)) (place : Nat) (b : List UInt8) : Sec × Nat := match decS S place b with
 | .inl k => (sec0, k)
 | .inr x => (x, 0)
theorem readS_len {b : List UInt8} {x : Sec} (hb : b.length = 512) (h : readS b = some x) : x.life < 18446744073709551616 ∧ x.gen < 18446744073709551616 ∧ x.body.length ≤ 479 := by
 unfold readS at h
 split at h
 · cases h
 · next hn =>
   injection h with h
   subst h
   refine ⟨?_, ?_, ?_⟩
   · have := getL_lt ((b.drop 3).take 8); rw [List.length_take, List.length_drop, hb] at this; simpa using this
   · have := getL_lt ((b.drop 15).take 8); rw [List.length_take, List.length_drop, hb] at this; simpa using this
   · show (List.take _ _).length ≤ 479
     rw [List.length_take]; omega
section
variable {w0 w w' : World} {L : Pl} {m : Mc} {n : Nat}
set_option maxRecDepth 100000 in
set_option maxHeartbeats 4000000 in
theorem MSt.decode (h : MSt w0 L m w) (ho : m.Ok n) (hn : n ≤ 900) (place : Nat) (A : Option Addr) (c : Nat) (b : List UInt8) (hb : Bs w A 512 c b) :
 Calls Tryz.prog 138 #[.pointer (some ⟨L.p, 0, none⟩), .int .i64 (place : Int), .slice A 512 c] w fun e w' => ∃ A' c', e = .returned (.tuple #[secV (decR m.S place b).1 A' c', .int .i64 ((decR m.S place b).2 : Int)]) ∧ Own w w' 5 1 (.slice A' (decR m.S place b).1.body.length c') (decR m.S place b).1.body.length ((decR m.S place b).1.body.map u8c) := by
 have hl : b.length = 512 := hb.len
 obtain ⟨bb, oo, rfl, _⟩ := Sl.addr hb (by decide)
 have hcap := Sl.cap hb
 have G0 : Hid (Gr w (w.alloc (.cells #[.int .i64 0, .int .u64 0, .int .i64 0, .int .u64 0, .slice none 0 0] 129))) := Gr.alloc _ _
 have K0 : Hid (Blk (w.alloc (.cells #[.int .i64 0, .int .u64 0, .int .i64 0, .int .u64 0, .slice none 0 0] 129)) w.heap.size 129 [.int .i64 0, .int .u64 0, .int .i64 0, .int .u64 0, .slice none 0 0]) := Blk.new w 129 _
 have HIB := Lib.hid (isBlank_any _ _ _ b _ (hb.mono G0.out))
 have HRD := Lib.hid (fun wr (g : Gr w wr) => read_any _ c b wr (hb.mono g))
 have HH := Lib.hid h; have HO := Lib.hid ho; have HB := Lib.hid hb
 obtain ⟨R, hR⟩ : ∃ R, R = decR m.S place b := ⟨_, rfl⟩
 rw [← hR]
 have HRR := Lib.hid hR
 clear h ho hR hb
 go_enter Tryz.func138, Tryz.ntmps138
 go_wp2_with fail
 refine (secNone_any L.p _).mono ?_
 rintro e w1 ⟨rfl, h1⟩
 subst h1
 go_wp2_with fail
 refine HIB.out.mono ?_
 rintro e w1 ⟨rfl, g1⟩
 have K1 := Lib.hid (K0.out.mono g1)
 have G1 := Lib.hid (G0.out.trans g1)
 clear g1
 by_cases hbl : b = blankL
 · have t1 : (b == blankL) = true := beq_iff_eq.2 hbl
   have hr : R = (sec0, 7) := by rw [HRR.out]; unfold decR decS; rw [if_pos hbl]
   subst hr
   rw [t1]
   clear t1 hbl
   go_wp2_with (refine wpList_store_row rfl 129 (.tmp 6) (.tmp 22) rfl w.heap.size (secC sec0 none 0) rfl rfl 129 (secC sec0 none 0) K1.out secSize rfl (secOne5 _ _ _) ?_)
   have HN := setRow_heap w1 w.heap.size _ (secC sec0 none 0) _ _ K1.out
   exact bodyPost_ret (results_sec Tryz.results138 _ _ w.heap.size _ _ rfl HN rfl) rfl ⟨none, 0, rfl, Own.nil' (bRb G1.out (Nat.le_refl _) _) _ _⟩
 have t1 : (b == blankL) = false := beq_eq_false_iff_ne.2 hbl
 rw [t1]
 have HBL := Lib.hid hbl
 clear t1 hbl
 go_wp2_with fail
 refine (HRD.out w1 G1.out).mono ?_
 rintro e w2 ⟨x, A2, c2, rfl, hx, o2⟩
 have G2 := Lib.hid (G1.out.trans o2.below)
 have K2 := Lib.hid (K1.out.mono o2.below)
 have O2 := Lib.hid (o2.base G1.out)
 have HX := Lib.hid hx
 clear o2 hx
 unfold secV
 go_upto_region 8 with fail
 obtain ⟨w3, hw3⟩ : ∃ w3, w3 = w2.alloc (.cells #[.int .i64 (x.kind : Int), .int .u64 (x.life : Int), .int .i64 (x.seq : Int), .int .u64 (x.gen : Int), .slice A2 x.body.length c2] 129) := ⟨_, rfl⟩
 have K3 : Hid (Blk w3 w2.heap.size 129 [.int .i64 (x.kind : Int), .int .u64 (x.life : Int), .int .i64 (x.seq : Int), .int .u64 (x.gen : Int), .slice A2 x.body.length c2]) := by rw [hw3]; exact Blk.new w2 129 _
 have G23 : Hid (Gr w2 w3) := by rw [hw3]; exact Gr.alloc _ _
 have G3 : Hid (Gr w w3) := G2.out.trans G23.out
 have K13 : Hid (Blk w3 w.heap.size 129 [.int .i64 0, .int .u64 0, .int .i64 0, .int .u64 0, .slice none 0 0]) := K2.out.mono G23.out
 have O3 := Lib.hid (O2.out.mono G23.out)
 rw [← hw3]
 clear hw3
 obtain ⟨A8, hA8, hrun8⟩ := run_from tBytes (some ⟨bb, oo, none⟩) 512 c 504 (by omega) hcap
 have hrun5 : ∀ W : World, (Instr.slice 36 (.slice (some ⟨bb, oo, none⟩) 512 c) none (some (.int .i64 504)) none).run Tryz.prog W = .ok (.slice (some ⟨bb, oo, none⟩) 504 c) W := fun W => run_upto tBytes (some ⟨bb, oo, none⟩) 512 c 504 (by omega) W
 have hrun6 : ∀ W : World, (Instr.slice 36 (.slice (some ⟨bb, oo, none⟩) 512 c) (some (.int .i64 504)) none none).run Tryz.prog W = .ok (.slice A8 8 (c - 504)) W := fun W => hrun8 W
 have HT5 : Hid (∀ wr, Gr w wr → Bs wr (some ⟨bb, oo, none⟩) 504 c (b.take 504)) := fun wr g => by
  have := (HB.out.mono g).upto (k := 504) (by omega)
  rwa [← List.map_take] at this
 have HT8 : Hid (∀ wr, Gr w wr → Bs wr A8 8 (c - 504) (b.drop 504)) := fun wr g => by
  have := Sl.from (HB.out.mono g) (k := 504) (by omega) (A' := A8) (fun hlt b o e => by have := hA8 hlt b o e; rwa [Nat.mul_one] at this)
  rwa [← List.map_drop] at this
 have HCK : Hid (∀ wr, Gr w wr → Calls Tryz.prog 206 #[.pointer (some ⟨L.p, 0, none⟩), .slice (some ⟨bb, oo, none⟩) 504 c, .slice A8 8 (c - 504)] wr fun e w' => e = .returned (.bool (checkS m.S (b.take 504) (b.drop 504))) ∧ Gr wr w') := fun wr g => (HH.out.mono g).check HO.out hn _ _ _ _ _ _ _ _ (HT5.out wr g) (HT8.out wr g)
 clear hA8 hrun8
 obtain ⟨q, hq⟩ : ∃ q, q = (readS b).isSome := ⟨_, rfl⟩
 rw [← hq]
 have HR := Lib.hid (fun wr => secRight_any place x A2 c2 wr)
 unfold secV at HR
 cases q
 · have HRW : Hid (R = (sec0, 11)) := by
    show _ = _
    rw [HRR.out]
    unfold decR decS
    rw [if_neg HBL.out]
    have : readS b = none := by cases hh : readS b with
     | none => rfl
     | some _ => rw [hh] at hq; cases hq
    rw [this]
   clear hq
   have GX : Hid (Gr w3 w3.drew) := Gr.drew _
   refine wrG (by kernel_rfl) [0, 1, 3, 7, 7, 31, 63, 127, 255, 511, 511, 2047, 511, 4607, 16383, 32767, 65535, 131071, 262143, 262143, 786431, 262143, 2359295, 8388607, 16777215, 33554431] [.p 0, .p 1, .p 2, .p 3, .q 4, .c 5, .p 6, .p 7, .p 8, .p 9, .p 12, .p 13, .q 10, .c 11, .c 14, .p 15, .p 16, .p 17, .p 18, .p 19, .p 20, .p 21, .p 22, .c 23, .p 24, .p 25] (by kernel_rfl) (trivial) ?_
   iterate 3
    refine wPe rfl rfl ?_
    apply Exists.intro
    refine ⟨fun wq => ?_, ?_⟩
    · unfold pLa
      go_simp
      first | exact rfl | exact ⟨rfl, rfl⟩
    go_simp
   first | refine wGp rfl rfl ?_ | refine wGq rfl rfl ?_ | refine wGc rfl rfl ?_
   go_simp
   first | refine wGp rfl rfl ?_ | refine wGq rfl rfl ?_ | refine wGc rfl rfl ?_
   go_simp
   first | refine wGp rfl rfl ?_ | refine wGq rfl rfl ?_ | refine wGc rfl rfl ?_
   go_simp
   first | refine wGp rfl rfl ?_ | refine wGq rfl rfl ?_ | refine wGc rfl rfl ?_
   go_simp
   iterate 2
    refine wPe rfl rfl ?_
    apply Exists.intro
    refine ⟨fun wq => ?_, ?_⟩
    · unfold pLa
      go_simp
      first | exact rfl | exact ⟨rfl, rfl⟩
    go_simp
   first | refine wGp rfl rfl ?_ | refine wGq rfl rfl ?_ | refine wGc rfl rfl ?_
   go_simp
   first | refine wGp rfl rfl ?_ | refine wGq rfl rfl ?_ | refine wGc rfl rfl ?_
   go_simp
   first | refine wGp rfl rfl ?_ | refine wGq rfl rfl ?_ | refine wGc rfl rfl ?_
   go_simp
   first | refine wGp rfl rfl ?_ | refine wGq rfl rfl ?_ | refine wGc rfl rfl ?_
   go_simp
   first | refine wGp rfl rfl ?_ | refine wGq rfl rfl ?_ | refine wGc rfl rfl ?_
   go_simp
   first | refine wGp rfl rfl ?_ | refine wGq rfl rfl ?_ | refine wGc rfl rfl ?_
   go_simp
   first | refine wGp rfl rfl ?_ | refine wGq rfl rfl ?_ | refine wGc rfl rfl ?_
   go_simp
   iterate 2
    refine wPe rfl rfl ?_
    apply Exists.intro
    refine ⟨fun wq => ?_, ?_⟩
    · unfold pLa
      go_simp
      first | exact rfl | exact ⟨rfl, rfl⟩
    go_simp
   first | refine wGp rfl rfl ?_ | refine wGq rfl rfl ?_ | refine wGc rfl rfl ?_
   go_simp
   first | refine wGp rfl rfl ?_ | refine wGq rfl rfl ?_ | refine wGc rfl rfl ?_
   go_simp
   first | refine wGp rfl rfl ?_ | refine wGq rfl rfl ?_ | refine wGc rfl rfl ?_
   go_simp
   first | refine wGp rfl rfl ?_ | refine wGq rfl rfl ?_ | refine wGc rfl rfl ?_
   go_simp
   first | refine wGp rfl rfl ?_ | refine wGq rfl rfl ?_ | refine wGc rfl rfl ?_
   go_simp
   first | refine wGp rfl rfl ?_ | refine wGq rfl rfl ?_ | refine wGc rfl rfl ?_
   go_simp
   first | refine wGp rfl rfl ?_ | refine wGq rfl rfl ?_ | refine wGc rfl rfl ?_
   go_simp
   refine wPe rfl rfl ?_
   apply Exists.intro
   refine ⟨fun wq => ?_, ?_⟩
   · unfold pLa
     go_simp
     first | exact rfl | exact ⟨rfl, rfl⟩
   go_simp
   refine wNi ?_
   intro w12 g12
   have K12 := Lib.hid (K13.out.mono ((GX).out.trans g12))
   have G12 := Lib.hid (G3.out.trans ((GX).out.trans g12))
   have hr : R = (sec0, 11) := HRW.out
   subst hr
   clear g12
   go_wp2_with (refine wpList_store_row rfl 129 (.tmp 6) (.tmp 54) rfl w.heap.size (secC sec0 none 0) rfl rfl 129 (secC sec0 none 0) K12.out secSize rfl (secOne5 _ _ _) ?_)
   have HN := setRow_heap w12 w.heap.size _ (secC sec0 none 0) _ _ K12.out
   exact bodyPost_ret (results_sec Tryz.results138 _ _ w.heap.size _ _ rfl HN rfl) rfl ⟨none, 0, rfl, Own.nil' (bRb G12.out (Nat.le_refl _) _) _ _⟩
 have hsx : readS b = some x := by
  cases hh : readS b with
  | none => rw [hh] at hq; cases hq
  | some y => have := HX.out; rw [hh] at this; rw [this]; rfl
 clear hq
 obtain ⟨hx1, hx2, hx3⟩ := readS_len hl hsx
 have HSX := Lib.hid hsx
 clear hsx
 by_cases hr : x.right place = true
 · rw [Sec.why_zero.2 hr] at HR
   have HRT := Lib.hid hr
   unfold Sec.right at hr
   simp only [Bool.and_eq_true, decide_eq_true_eq] at hr
   obtain ⟨⟨⟨⟨r1, r2⟩, r3⟩, r4⟩, r5⟩ := hr
   have HWR : Hid (∀ wr, Gr w3 wr → Calls Tryz.prog 153 #[.int .i64 (place : Int), secV x A2 c2] wr fun e w' => ∃ A' c', e = .returned (.slice A' 504 c') ∧ Own wr w' 5 1 (.slice A' 504 c') 504 ((secL place x).map u8c)) := fun wr g => by
    obtain ⟨_, _, hv, s⟩ := (O3.out.mono g).slice
    injection hv with e1 _ e2
    subst e1 e2
    exact written_any place x _ _ wr s r5 r3 r2 r4 hx1 hx2
   unfold secV at HWR
   clear r1 r2 r3 r4 r5 hx1 hx2 hx3
   obtain ⟨v, hv⟩ : ∃ v, v = (secL place x == b.take 504) := ⟨_, rfl⟩
   obtain ⟨u, hu⟩ : ∃ u, u = checkS m.S (b.take 504) (b.drop 504) := ⟨_, rfl⟩
   rw [← hu] at HCK
   have HF : Hid (R = if v = true ∧ u = true then (x, 0) else (sec0, 11)) := by
    show _ = _
    rw [HRR.out, hv, hu]
    unfold decR decS
    rw [if_neg HBL.out, HSX.out]
    simp only [HRT.out, true_and, beq_iff_eq]
    by_cases hz : secL place x = List.take 504 b ∧ checkS m.S (List.take 504 b) (List.drop 504 b) = true
    · rw [if_pos hz, if_pos hz]
    · rw [if_neg hz, if_neg hz]
   have HSA : Hid (∀ (A7 : Option Addr) (c7 : Nat) (wr : World), Bs wr A7 504 c7 (secL place x) → Bs wr (some ⟨bb, oo, none⟩) 504 c (b.take 504) → Calls Tryz.prog 105 #[.slice A7 504 c7, .slice (some ⟨bb, oo, none⟩) 504 c] wr fun e w' => e = .returned (.bool v) ∧ wr = w') := fun A7 c7 wr s1 s2 => by rw [hv]; exact same_any _ _ _ _ _ _ _ _ wr s1 s2
   clear hv hu
   refine wrG (by kernel_rfl) [0, 1, 3, 7, 7, 31, 63, 127, 255, 511, 511, 2047, 511, 4607, 16383, 32767, 65535, 131071, 262143, 262143, 786431, 262143, 2359295, 8388607, 16777215, 33554431] [.p 0, .p 1, .p 2, .p 3, .q 4, .c 5, .p 6, .p 7, .p 8, .p 9, .p 12, .p 13, .q 10, .c 11, .c 14, .p 15, .p 16, .p 17, .p 18, .p 19, .p 20, .p 21, .p 22, .c 23, .p 24, .p 25] (by kernel_rfl) (trivial) ?_
   iterate 4
    refine wPe rfl rfl ?_
    apply Exists.intro
    refine ⟨fun wq => ?_, ?_⟩
    · unfold pLa
      go_simp
      first | exact rfl | exact ⟨rfl, rfl⟩
    go_simp
   refine wQe rfl rfl ?_
   apply Exists.intro
   refine ⟨fun wq hq => ?_, ?_⟩
   · have k0 := (K3.out.mono ((Gr.drew _).trans hq)).cell 0; have k1 := (K3.out.mono ((Gr.drew _).trans hq)).cell 1; have k2 := (K3.out.mono ((Gr.drew _).trans hq)).cell 2; have k3 := (K3.out.mono ((Gr.drew _).trans hq)).cell 3; have k4 := (K3.out.mono ((Gr.drew _).trans hq)).cell 4
     unfold pLa
     go_simp
     first | exact rfl | exact ⟨rfl, rfl⟩
   go_simp
   refine wpG_c rfl rfl ?_
   intro w4 g4 K hK
   go_simp
   go_at_call 152
   refine (HR.out w4).mono ?_
   rintro e wn ⟨rfl, g5⟩
   refine hK _ _ g5 ?_; have G5 := Lib.hid (((Gr.drew w3).trans g4).trans g5); clear g4 g5 hK
   go_simp
   iterate 6
    refine wPe rfl rfl ?_
    apply Exists.intro
    refine ⟨fun wq => ?_, ?_⟩
    · unfold pLa
      go_simp
      first | exact rfl | exact ⟨rfl, rfl⟩
    go_simp
   refine wQe rfl rfl ?_
   apply Exists.intro
   refine ⟨fun wq hq => ?_, ?_⟩
   · have k0 := (K3.out.mono (G5.out.trans hq)).cell 0; have k1 := (K3.out.mono (G5.out.trans hq)).cell 1; have k2 := (K3.out.mono (G5.out.trans hq)).cell 2; have k3 := (K3.out.mono (G5.out.trans hq)).cell 3; have k4 := (K3.out.mono (G5.out.trans hq)).cell 4
     unfold pLa
     go_simp
     first | exact rfl | exact ⟨rfl, rfl⟩
   go_simp
   refine wpG_c rfl rfl ?_
   intro w6 g6 K hK
   go_simp
   go_at_call 153
   refine (HWR.out w6 (G5.out.trans g6)).mono ?_
   rintro e wn ⟨A7, c7, rfl, o7⟩
   refine hK _ _ o7.below ?_; obtain ⟨_, _, hv7, s7⟩ := o7.slice; injection hv7 with e1 _ e2; subst e1 e2; have S7 : Hid (Bs wn A7 504 c7 (secL place x)) := s7; have G7 := Lib.hid ((G5.out.trans g6).trans o7.below); clear g6 o7 s7 hK
   go_simp
   refine wpG_c rfl rfl ?_
   intro w8 g8 K hK
   go_simp
   go_at_call 105
   refine ((HSA.out A7 c7 w8 (S7.out.mono g8) (HT5.out w8 (G3.out.trans (G7.out.trans g8))))).mono ?_
   rintro e wn ⟨rfl, h9⟩
   subst h9; refine hK _ _ (Gr.refl _) ?_; have G9 := Lib.hid (G7.out.trans g8); clear g8 hK
   go_simp
   iterate 3
    refine wPe rfl rfl ?_
    apply Exists.intro
    refine ⟨fun wq => ?_, ?_⟩
    · unfold pLa
      go_simp
      first | exact rfl | exact ⟨rfl, rfl⟩
    go_simp
   cases v
   · have HRW : Hid (R = (sec0, 11)) := by show _ = _; rw [HF.out]; rfl
     first | refine wGp rfl rfl ?_ | refine wGq rfl rfl ?_ | refine wGc rfl rfl ?_
     go_simp
     first | refine wGp rfl rfl ?_ | refine wGq rfl rfl ?_ | refine wGc rfl rfl ?_
     go_simp
     first | refine wGp rfl rfl ?_ | refine wGq rfl rfl ?_ | refine wGc rfl rfl ?_
     go_simp
     first | refine wGp rfl rfl ?_ | refine wGq rfl rfl ?_ | refine wGc rfl rfl ?_
     go_simp
     first | refine wGp rfl rfl ?_ | refine wGq rfl rfl ?_ | refine wGc rfl rfl ?_
     go_simp
     first | refine wGp rfl rfl ?_ | refine wGq rfl rfl ?_ | refine wGc rfl rfl ?_
     go_simp
     first | refine wGp rfl rfl ?_ | refine wGq rfl rfl ?_ | refine wGc rfl rfl ?_
     go_simp
     refine wPe rfl rfl ?_
     apply Exists.intro
     refine ⟨fun wq => ?_, ?_⟩
     · unfold pLa
       go_simp
       first | exact rfl | exact ⟨rfl, rfl⟩
     go_simp
     refine wNi ?_
     intro w12 g12
     have K12 := Lib.hid (K13.out.mono ((G9).out.trans g12))
     have G12 := Lib.hid (G3.out.trans ((G9).out.trans g12))
     have hr : R = (sec0, 11) := HRW.out
     subst hr
     clear g12
     go_wp2_with (refine wpList_store_row rfl 129 (.tmp 6) (.tmp 54) rfl w.heap.size (secC sec0 none 0) rfl rfl 129 (secC sec0 none 0) K12.out secSize rfl (secOne5 _ _ _) ?_)
     have HN := setRow_heap w12 w.heap.size _ (secC sec0 none 0) _ _ K12.out
     exact bodyPost_ret (results_sec Tryz.results138 _ _ w.heap.size _ _ rfl HN rfl) rfl ⟨none, 0, rfl, Own.nil' (bRb G12.out (Nat.le_refl _) _) _ _⟩
   ·
    iterate 5
     refine wPe rfl rfl ?_
     apply Exists.intro
     refine ⟨fun wq => ?_, ?_⟩
     · unfold pLa
       go_simp
       first | exact rfl | exact ⟨rfl, rfl⟩
     go_simp
    refine wpG_c rfl rfl ?_
    intro w10 g10 K hK
    go_simp
    go_at_call 206
    refine (HCK.out w10 (G3.out.trans (G9.out.trans g10))).mono ?_
    rintro e wn ⟨rfl, g11⟩
    refine hK _ _ g11 ?_; have G11 := Lib.hid ((G9.out.trans g10).trans g11); clear g10 g11 hK
    go_simp
    iterate 2
     refine wPe rfl rfl ?_
     apply Exists.intro
     refine ⟨fun wq => ?_, ?_⟩
     · unfold pLa
       go_simp
       first | exact rfl | exact ⟨rfl, rfl⟩
     go_simp
    cases u
    · have HRW : Hid (R = (sec0, 11)) := by show _ = _; rw [HF.out]; rfl
      refine wNi ?_
      intro w12 g12
      have K12 := Lib.hid (K13.out.mono ((G11).out.trans g12))
      have G12 := Lib.hid (G3.out.trans ((G11).out.trans g12))
      have hr : R = (sec0, 11) := HRW.out
      subst hr
      clear g12
      go_wp2_with (refine wpList_store_row rfl 129 (.tmp 6) (.tmp 54) rfl w.heap.size (secC sec0 none 0) rfl rfl 129 (secC sec0 none 0) K12.out secSize rfl (secOne5 _ _ _) ?_)
      have HN := setRow_heap w12 w.heap.size _ (secC sec0 none 0) _ _ K12.out
      exact bodyPost_ret (results_sec Tryz.results138 _ _ w.heap.size _ _ rfl HN rfl) rfl ⟨none, 0, rfl, Own.nil' (bRb G12.out (Nat.le_refl _) _) _ _⟩
    · have hr : R = (x, 0) := by rw [HF.out]; rfl
      subst hr
      refine wNi ?_
      intro w12 g12
      have K12 := Lib.hid (K13.out.mono (G11.out.trans g12))
      have L12 := Lib.hid (K3.out.mono (G11.out.trans g12))
      have O12 := Lib.hid (O3.out.mono (G11.out.trans g12))
      clear g12
      have k0 := L12.out.cell 0
      have k1 := L12.out.cell 1
      have k2 := L12.out.cell 2
      have k3 := L12.out.cell 3
      have k4 := L12.out.cell 4
      go_wp2_with (refine wpList_store_row rfl 129 (.tmp 6) (.tmp 55) rfl w.heap.size (secC x A2 c2) rfl rfl 129 (secC sec0 none 0) K12.out secSize rfl (secOne5 _ _ _) ?_)
      have HN := setRow_heap w12 w.heap.size _ (secC x A2 c2) _ _ K12.out
      have T9 := Tch.row (S := fun b => b = w.heap.size) (w := w12) (g := w.heap.size) rfl (secC x A2 c2)
      have O13 := O12.out.tch T9 (fun b e => by rw [e]; exact Nat.le_refl _) (fun b q e => by
       obtain ⟨cs, z⟩ := O12.out.blk_at q
       rw [e] at z
       exact absurd (bTy z K12.out) (by decide))
      exact bodyPost_ret (results_sec Tryz.results138 _ _ w.heap.size _ _ rfl HN rfl) rfl ⟨A2, c2, rfl, O13⟩
 · have hw : x.why place ≠ 0 := fun e => hr (Sec.why_zero.1 e)
   obtain ⟨q, hq⟩ : ∃ q, q = x.why place := ⟨_, rfl⟩
   rw [← hq] at HR hw
   have t : (q != 0) = true := by rw [bne_iff_ne]; exact hw
   have HRW : Hid (R = (sec0, 11)) := by
    show _ = _
    rw [HRR.out]
    unfold decR decS
    rw [if_neg HBL.out, HSX.out]
    have hr' : x.right place = false := by simpa using hr
    simp only [hr', Bool.false_eq_true, false_and, if_false]
   clear hq hw hr
   refine wrG (by kernel_rfl) [0, 1, 3, 7, 7, 31, 63, 127, 255, 511, 511, 2047, 511, 4607, 16383, 32767, 65535, 131071, 262143, 262143, 786431, 262143, 2359295, 8388607, 16777215, 33554431] [.p 0, .p 1, .p 2, .p 3, .q 4, .c 5, .p 6, .p 7, .p 8, .p 9, .p 12, .p 13, .q 10, .c 11, .c 14, .p 15, .p 16, .p 17, .p 18, .p 19, .p 20, .p 21, .p 22, .c 23, .p 24, .p 25] (by kernel_rfl) (trivial) ?_
   iterate 4
    refine wPe rfl rfl ?_
    apply Exists.intro
    refine ⟨fun wq => ?_, ?_⟩
    · unfold pLa
      go_simp
      first | exact rfl | exact ⟨rfl, rfl⟩
    go_simp
   refine wQe rfl rfl ?_
   apply Exists.intro
   refine ⟨fun wq hq => ?_, ?_⟩
   · have k0 := (K3.out.mono ((Gr.drew _).trans hq)).cell 0; have k1 := (K3.out.mono ((Gr.drew _).trans hq)).cell 1; have k2 := (K3.out.mono ((Gr.drew _).trans hq)).cell 2; have k3 := (K3.out.mono ((Gr.drew _).trans hq)).cell 3; have k4 := (K3.out.mono ((Gr.drew _).trans hq)).cell 4
     unfold pLa
     go_simp
     first | exact rfl | exact ⟨rfl, rfl⟩
   go_simp
   refine wpG_c rfl rfl ?_
   intro w4 g4 K hK
   go_simp
   go_at_call 152
   refine (HR.out w4).mono ?_
   rintro e wn ⟨rfl, g5⟩
   refine hK _ _ g5 ?_; have G5 := Lib.hid (((Gr.drew w3).trans g4).trans g5); clear g4 g5 hK
   go_simp
   iterate 3
    refine wPe rfl rfl ?_
    apply Exists.intro
    refine ⟨fun wq => ?_, ?_⟩
    · unfold pLa
      go_simp
      first | exact rfl | exact ⟨rfl, rfl⟩
    go_simp
   first | refine wGp rfl rfl ?_ | refine wGq rfl rfl ?_ | refine wGc rfl rfl ?_
   go_simp
   first | refine wGp rfl rfl ?_ | refine wGq rfl rfl ?_ | refine wGc rfl rfl ?_
   go_simp
   first | refine wGp rfl rfl ?_ | refine wGq rfl rfl ?_ | refine wGc rfl rfl ?_
   go_simp
   first | refine wGp rfl rfl ?_ | refine wGq rfl rfl ?_ | refine wGc rfl rfl ?_
   go_simp
   first | refine wGp rfl rfl ?_ | refine wGq rfl rfl ?_ | refine wGc rfl rfl ?_
   go_simp
   first | refine wGp rfl rfl ?_ | refine wGq rfl rfl ?_ | refine wGc rfl rfl ?_
   go_simp
   first | refine wGp rfl rfl ?_ | refine wGq rfl rfl ?_ | refine wGc rfl rfl ?_
   go_simp
   iterate 2
    refine wPe rfl rfl ?_
    apply Exists.intro
    refine ⟨fun wq => ?_, ?_⟩
    · unfold pLa
      go_simp
      first | exact rfl | exact ⟨rfl, rfl⟩
    go_simp
   first | refine wGp rfl rfl ?_ | refine wGq rfl rfl ?_ | refine wGc rfl rfl ?_
   go_simp
   first | refine wGp rfl rfl ?_ | refine wGq rfl rfl ?_ | refine wGc rfl rfl ?_
   go_simp
   first | refine wGp rfl rfl ?_ | refine wGq rfl rfl ?_ | refine wGc rfl rfl ?_
   go_simp
   first | refine wGp rfl rfl ?_ | refine wGq rfl rfl ?_ | refine wGc rfl rfl ?_
   go_simp
   first | refine wGp rfl rfl ?_ | refine wGq rfl rfl ?_ | refine wGc rfl rfl ?_
   go_simp
   first | refine wGp rfl rfl ?_ | refine wGq rfl rfl ?_ | refine wGc rfl rfl ?_
   go_simp
   first | refine wGp rfl rfl ?_ | refine wGq rfl rfl ?_ | refine wGc rfl rfl ?_
   go_simp
   refine wPe rfl rfl ?_
   apply Exists.intro
   refine ⟨fun wq => ?_, ?_⟩
   · unfold pLa
     go_simp
     first | exact rfl | exact ⟨rfl, rfl⟩
   go_simp
   refine wNi ?_
   intro w12 g12
   have K12 := Lib.hid (K13.out.mono ((G5).out.trans g12))
   have G12 := Lib.hid (G3.out.trans ((G5).out.trans g12))
   have hr : R = (sec0, 11) := HRW.out
   subst hr
   clear g12
   go_wp2_with (refine wpList_store_row rfl 129 (.tmp 6) (.tmp 54) rfl w.heap.size (secC sec0 none 0) rfl rfl 129 (secC sec0 none 0) K12.out secSize rfl (secOne5 _ _ _) ?_)
   have HN := setRow_heap w12 w.heap.size _ (secC sec0 none 0) _ _ K12.out
   exact bodyPost_ret (results_sec Tryz.results138 _ _ w.heap.size _ _ rfl HN rfl) rfl ⟨none, 0, rfl, Own.nil' (bRb G12.out (Nat.le_refl _) _) _ _⟩
end
end
section
def okAD (a d : Int) : Bool := decide (2 ≤ a ∧ a ≤ 4 ∧ 1 ≤ d ∧ d ≤ 3)
def leastI (a d : Int) : Int := if okAD a d then d + 2 else 0
def rightB (a d l : Int) : Bool := okAD a d && decide (d + 2 ≤ l) && decide (l ≤ 64)
def ndN (a : Nat) : Nat → Nat
 | 0 => 0
 | d + 1 => ndN a d + a ^ d
def nodesI (a d l : Int) : Int := if rightB a d l then (ndN a.toNat d.toNat : Int) else 0
def leavesI (a d l : Int) : Int := if rightB a d l then ((a.toNat ^ d.toNat : Nat) : Int) else 0
theorem rightB_ok {a d l : Int} (h : rightB a d l = true) : ∃ x y : Nat, a = x ∧ d = y ∧ 2 ≤ x ∧ x ≤ 4 ∧ 1 ≤ y ∧ y ≤ 3 := by
 unfold rightB okAD at h
 simp at h
 exact ⟨a.toNat, d.toNat, by omega, by omega, by omega, by omega, by omega, by omega⟩
theorem pow_le64 {x k : Nat} (h : x ≤ 4) (hk : k ≤ 3) : x ^ k ≤ 64 := Nat.le_trans (Nat.pow_le_pow_left h k) (Nat.le_trans (Nat.pow_le_pow_right (by decide) hk) (by decide))
theorem ndN_le {x : Nat} (h : x ≤ 4) : ∀ k, k ≤ 3 → ndN x k ≤ 64 * k
 | 0, _ => Nat.le_refl _
 | k + 1, hk => by
  have := ndN_le h k (by omega)
  have := pow_le64 h (show k ≤ 3 by omega)
  unfold ndN; omega
end
end Go.Proofs.YtdkmlmbehlooiaaGreatDoor
