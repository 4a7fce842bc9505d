/- The reference's Has and Least. No condition. -/
import Derived.Test.YthlnoaalhojphaaObKnowW
import Derived.Test.YthlnoaalhojphaaObPre
import Derived.Outline
import Derived.Lib.AppendZerosOnto
import Derived.Lib.LazyBuf
import Derived.Lib.Walk
import Derived.Deep.DeepMust
namespace Go.Proofs.Ythlnoaalhojphaa
open Go.RowKit
set_option linter.unusedVariables false
theorem refHas16_any (A B : Option Addr) (n c m d : Nat) (l ws : List Int) (w : World) (h : Is w A n c l) (hw : Is w B m d ws) (hs : ∀ z ∈ ws, z ∈ l) :
    Calls Try.prog 18 #[.slice A n c, .slice B m d] w fun e w' => e = .returned (.bool true) ∧ w = w' := by
  have hcap := hw.cap; have hmax := hw.max
  have HL := Lib.hid hw.len; have HW := Lib.hid hw; have HS := Lib.hid hs
  have HH := Lib.hid (fun x => refHas_any A n c l x w h)
  clear h hw hs
  go_enter Try.func18, Try.ntmps18
  go_wp2_with fail
  go_loop [5] (fun i => ∃ k : Nat, k ≤ m ∧ i = .int .i64 k) (fun i => m - (Go.RowKit.intOf i).toNat)
  case atStart => exact ⟨0, Nat.zero_le _, rfl⟩
  case round =>
    obtain ⟨k, hk, rfl⟩ := hrel
    by_cases hlt : k < m
    · obtain ⟨b, o, rfl, hcc⟩ := Is.addr HW.out (by omega)
      have c0 := hcc k hlt
      have hin := HS.out (iAt ws k) (iAt_mem (by rw [HL.out]; exact hlt))
      have HX := Lib.hid (HH.out (iAt ws k))
      clear hcc
      generalize iAt ws k = z at *
      have t0 : decide ((k : Int) < (m : Int)) = true := decide_eq_true (by omega)
      have hc : l.contains z = true := by rw [List.contains_iff_mem]; exact hin
      rw [hc] at HX
      clear hin hc
      go_wp2_with fail
      refine HX.out.mono ?_
      rintro e w1 ⟨rfl, rfl⟩
      go_wp2_with fail
      exact ⟨⟨k + 1, by omega, by simp⟩, by simp [Go.RowKit.intOf]; omega⟩
    · obtain rfl : k = m := by omega
      have t0 : decide ((k : Int) < (k : Int)) = false := by simp
      go_wp2_with fail
      go_ret
      exact ⟨rfl, rfl⟩
theorem run_fromK {P : Program} {t e : TypeId} {z : Value} {size bytes : Nat} (ht : ElemT P t e z size bytes) (A : Option Addr) (n c k : Nat) (hk : k ≤ n) (hc : n ≤ c) :
    ∃ A', (k < n → ∀ b o, A = some ⟨b, o, none⟩ → A' = some ⟨b, o + k * size, none⟩) ∧ ∀ w : World, (Instr.slice t (.slice A n c) (some (.int .i64 (k : Int))) none none).run P w = .ok (.slice A' (n - k) (c - k)) w := by
  obtain ⟨i, hi, hz, hsz, hby⟩ := info_parts ht.info
  have hu : P.underlying t = some (.slice (P.elem t)) := by
    have := ht.und
    simp [Program.elem, this]
  have he : P.elem t = e := by simp [Program.elem, ht.und]
  refine ⟨if c = k then A else A.map (·.add (k * size)), fun hlt b o hA => ?_, fun w => ?_⟩
  · rw [if_neg (by omega), hA]
    simp only [Option.map_some]
    rw [add_flat]
  · rw [run_slice_l w t A n c hu .i64 k (by omega) (by omega)]
    simp [sizeOf, typeInfo, he, hi, Result.andThen, sliced, hsz]

theorem wins {ws : List Int} (hp : ws.Pairwise (· < ·)) {i : Nat} (hi : i < ws.length) : ∀ y ∈ ws.take i ++ ws.drop (i + 1), y ∈ But ws (iAt ws i) := fun y hy => by
  rw [iAt_get hi, but_mem]
  rcases List.mem_append.1 hy with q | q
  · obtain ⟨k, hk, e⟩ := List.mem_iff_getElem.1 q
    rw [List.length_take] at hk
    rw [List.getElem_take] at e
    have := List.pairwise_iff_getElem.1 hp k i (by omega) hi (by omega)
    exact ⟨List.mem_of_mem_take q, by omega⟩
  · obtain ⟨k, hk, e⟩ := List.mem_iff_getElem.1 q
    rw [List.length_drop] at hk
    rw [List.getElem_drop] at e
    have := List.pairwise_iff_getElem.1 hp i (i + 1 + k) hi (by omega) (by omega)
    exact ⟨List.mem_of_mem_drop q, by omega⟩
set_option maxRecDepth 100000 in
set_option maxHeartbeats 2000000 in
theorem refLeast_any (A B : Option Addr) (n c m d : Nat) (T : List Nd) (ws l : List Int) (k : Nat) (w : World) (h : RTb w A n c T) (hT : Parted T) (hK : Kinds T) (hn : n ≤ 1000) (hw : Is w B m d ws) (hm : m ≤ 1000) (hk : k ≤ n) (hy : WhyOk T l k ws) :
    Calls Try.prog 19 #[.slice A n c, .slice B m d, .int .i64 (k : Int)] w fun e w' => e = .returned (.bool true) ∧ Gr w w' := by
  obtain ⟨hy1, hy2, hy3, hy4⟩ := hy
  have HTl := Lib.hid h.1
  have HH := Lib.hid h; have HW := Lib.hid hw; have HT := Lib.hid hT; have HK := Lib.hid hK
  have HL := Lib.hid hw.len
  have hcap := hw.cap; have hmax := hw.max
  have HA := Lib.hid (refAll_any A n c T B m d ws w h hT hK hn hw)
  have HTE := Lib.hid (allL_tells hT ws)
  have HDT : Hid (dAt (allL T ws) k = true) := ((allL_tells hT ws).2 k).2 hy3
  have HNO : Hid (∀ i, i < ws.length → dAt (allL T (ws.take i ++ ws.drop (i + 1))) k = false) := fun i hi => by
    cases hq : dAt (allL T (ws.take i ++ ws.drop (i + 1))) k with
    | false => rfl
    | true =>
      have hd := ((allL_tells hT (ws.take i ++ ws.drop (i + 1))).2 k).1 hq
      exact absurd (hd.mono (fun y hy => wins hy1 hi _ hy)) (hy4 _ (iAt_mem hi))
  have HUP : Hid (∀ i, i + 1 < ws.length → iAt ws i < iAt ws (i + 1)) := fun i hi => by
    rw [iAt_get (show i < ws.length by omega), iAt_get hi]
    exact List.pairwise_iff_getElem.1 hy1 i (i + 1) (by omega) hi (by omega)
  have HNN : Hid (∀ i, i < m → ∃ A', (i + 1 < m → ∀ b o, B = some ⟨b, o, none⟩ → A' = some ⟨b, o + (i + 1), none⟩) ∧ ∀ w : World, (Instr.slice 23 (.slice B m d) (some (.int .i64 ((i : Int) + 1))) none none).run Try.prog w = .ok (.slice A' (m - (i + 1)) (d - (i + 1))) w) := fun i hi => by
    obtain ⟨A', h1, h2⟩ := run_fromK (P := Try.prog) tNums B m d (i + 1) (by omega) hcap
    exact ⟨A', fun q b o e => by have := h1 q b o e; rwa [Nat.mul_one] at this, h2⟩
  clear h hw hT hK hy1 hy2 hy3 hy4
  go_enter Try.func19, Try.ntmps19
  go_wp2_with fail
  refine HA.out.mono ?_
  rintro e w1 ⟨D, dc, rfl, s1, g1⟩
  have hlen : (allL T ws).length = n + 1 := by rw [HTE.out.1, HTl.out]
  rw [hlen] at s1 ⊢
  have hdc := s1.cap; have hdm := s1.max
  obtain ⟨b1, o1, rfl, hc1⟩ := s1.addr (by omega)
  have ck := hc1 k _ (boolc_at (by omega))
  rw [HDT.out] at ck
  have hki : (k : Int) < (n : Int) + 1 := by omega
  have G1 := Lib.hid g1
  clear s1 g1 hc1 hlen
  go_wp2_with fail
  go_loopw [7] (fun i wr => ∃ i' : Nat, i' ≤ m ∧ i = .int .i64 i' ∧ Gr w wr) (fun i _ => m - (Go.RowKit.intOf i).toNat)
  case atStart => exact ⟨0, Nat.zero_le _, rfl, G1.out⟩
  case round =>
    obtain ⟨i, him, rfl, hg⟩ := hrel
    have G := Lib.hid hg; clear hg ck
    by_cases hlt : i < m
    · have t0 : decide ((i : Int) < (m : Int)) = true := decide_eq_true (by omega)
      have hil : i < ws.length := by rw [HL.out]; exact hlt
      have HNI := Lib.hid (HNO.out i hil)
      obtain ⟨A', hA', hrun⟩ := HNN.out i hlt
      have hI := HW.out.mono G.out
      have HU : Hid (Is wr B i d (ws.take i)) := by
        have := Sl.upto hI (show i ≤ m by omega)
        rw [← List.map_take] at this
        exact this
      have HV : Hid (Is wr A' (m - (i + 1)) (d - (i + 1)) (ws.drop (i + 1))) := by
        have := Sl.from hI (show i + 1 ≤ m by omega) (fun q b o e => hA' q b o e)
        rw [← List.map_drop] at this
        exact this
      obtain ⟨b, o, rfl, hcc⟩ := Is.addr hI (by omega)
      have CI : Hid (∀ wq, Gr wr wq → wq.cell? ⟨b, o + i, none⟩ = some (.int .i64 (iAt ws i))) := fun wq hq => (Below.cell hq (World.block_lt_of_cell? wr _ (hcc i hlt))).trans (hcc i hlt)
      have CP : Hid (∀ i', i = i' + 1 → ∀ wq, Gr wr wq → wq.cell? ⟨b, o + i', none⟩ = some (.int .i64 (iAt ws i'))) := fun i' e wq hq => (Below.cell hq (World.block_lt_of_cell? wr _ (hcc i' (by omega)))).trans (hcc i' (by omega))
      clear hI hcc hA' hil
      have hidd : i ≤ d := by omega
      have hwi : IntKind.i64.wrap ((i : Int) + 1) = (i : Int) + 1 := IntWalk.i64_in _ (by omega)
      go_upto_region 6 with fail
      refine wp_region_pre (by kernel_rfl) (fun _ => True) (fun _ => false) (fun _ => false) [1, 2, 3, 5, 6, 7, 8] 4 (by kernel_rfl) (by kernel_rfl) (by kernel_rfl) trivial ?_
      refine wpPre_e rfl rfl ?_
      apply Exists.intro
      refine ⟨fun wq hq => ?_, ?_⟩
      · clear hq
        unfold plainAt
        go_simp
        first | exact rfl | exact ⟨rfl, rfl⟩
      go_simp
      refine wpPre_e rfl rfl ?_
      apply Exists.intro
      refine ⟨fun wq hq => ?_, ?_⟩
      · clear hq
        unfold plainAt
        go_simp
        first | exact rfl | exact ⟨rfl, rfl⟩
      go_simp
      refine wpPre_e rfl rfl ?_
      apply Exists.intro
      refine ⟨fun wq hq => ?_, ?_⟩
      · clear hq
        unfold plainAt
        go_simp
        first | exact rfl | exact ⟨rfl, rfl⟩
      go_simp
      refine wpPre_e rfl rfl ?_
      apply Exists.intro
      refine ⟨fun wq hq => ?_, ?_⟩
      · clear hq
        unfold plainAt
        go_simp
        first | exact rfl | exact ⟨rfl, rfl⟩
      go_simp
      refine wpPre_e rfl rfl ?_
      apply Exists.intro
      refine ⟨fun wq hq => ?_, ?_⟩
      · clear hq
        unfold plainAt
        go_simp
        first | exact rfl | exact ⟨rfl, rfl⟩
      go_simp
      refine wpPre_e rfl rfl ?_
      apply Exists.intro
      refine ⟨fun wq hq => ?_, ?_⟩
      · clear hq
        unfold plainAt
        go_simp
        first | exact rfl | exact ⟨rfl, rfl⟩
      go_simp
      refine wpPre_e rfl rfl ?_
      apply Exists.intro
      refine ⟨fun wq hq => ?_, ?_⟩
      · clear hq
        unfold plainAt
        go_simp
        first | exact rfl | exact ⟨rfl, rfl⟩
      go_simp
      refine wpPre_nil ?_
      clear hrun hwi
      have HLT : Hid ((ws.take i).length = i) := by show _ = _; rw [List.length_take, HL.out]; omega
      have HB0 : Hid (∀ w : World, Own w (w.alloc (.cells #[] 3)) 3 1 (.slice (some ⟨w.heap.size, 0, none⟩) 0 0) 0 []) := fun w =>
        (Blk.new w 3 #[]).own (Nat.le_refl _) ((Below.refl _ _).alloc (Nat.le_refl _) _) rfl (Nat.zero_le _)
      refine wpRest_one (i := 0) (by kernel_rfl) rfl rfl ?_
      intro K hK
      go_simp
      refine hK _ _ (fun _ => trivial) ?_
      clear hK
      go_simp
      refine wpRest_one (i := 4) (by kernel_rfl) rfl rfl ?_
      intro K hK0
      refine wp_cat (.tmp 22) (.tmp 25) 23 rfl tNums rfl (HB0.out wr.drew) rfl (HU.out.mono ((Gr.drew _).trans (Gr.alloc _ _))) (one_nums _) (by omega) ?_
      intro v2 w2 own2
      refine hK0 _ _ (fun _ => trivial) ?_
      clear hK0
      have O2 := Lib.hid own2; clear own2
      go_simp
      refine wpRest_one (i := 9) (by kernel_rfl) rfl rfl ?_
      intro K hK0
      refine wp_cat (.tmp 26) (.tmp 30) 23 rfl tNums rfl O2.out rfl (HV.out.mono ((Gr.drew _).trans O2.out.2)) (one_nums _) (by omega) ?_
      intro v3 w3 own3
      refine hK0 _ _ (fun _ => trivial) ?_
      clear hK0
      have O3 : Hid (Own wr.drew w3 3 1 v3 (0 + i + (m - (i + 1))) ((ws.take i ++ ws.drop (i + 1)).map i64c)) := by
        show Own _ _ _ _ _ _ _
        rw [List.map_append, ← List.nil_append ((ws.take i).map i64c)]
        exact own3
      clear own3
      go_simp
      refine wpRest_one (i := 10) (by kernel_rfl) rfl rfl ?_
      intro K hK
      go_simp
      refine hK _ _ (fun _ => trivial) ?_
      clear hK
      go_simp
      refine wpRest_nil (by kernel_rfl) ?_
      obtain ⟨A3, c3, rfl, s3⟩ := O3.out.slice
      have G3 := Lib.hid ((Gr.drew wr).trans O3.out.2)
      obtain ⟨q, hq⟩ : ∃ q, q = 0 + i + (m - (i + 1)) := ⟨_, rfl⟩
      rw [← hq] at s3 ⊢
      have HAll : Hid (∀ wq, Gr w3 wq → Calls Try.prog 11 #[.slice A n c, .slice A3 q c3] wq (RetBls wq (allL T (ws.take i ++ ws.drop (i + 1))))) := fun wq hg => refAll_any A n c T A3 q c3 (ws.take i ++ ws.drop (i + 1)) wq (HH.out.mono ((G.out.trans G3.out).trans hg)) HT.out HK.out hn (s3.mono hg)
      clear s3
      clear hq
      have HAL : Hid ((allL T (ws.take i ++ ws.drop (i + 1))).length = n + 1) := by show _ = _; rw [(allL_tells HT.out _).1, HTl.out]
      go_wp2_with fail
      cases i with
      | zero =>
        refine wp_region_grow (by kernel_rfl) [0, 0, 3, 0, 15, 31, 63, 127, 255, 511, 1023, 1023, 4095, 8191, 1023, 1023, 33791, 115711, 246783, 524287, 1048575, 2097151] [.p 0, .p 1, .p 3, .c 2, .p 4, .q 5, .p 6, .p 7, .p 8, .p 9, .p 10, .p 11, .p 12, .p 14, .p 15, .p 16, .p 17, .q 13, .q 18, .p 19, .p 20, .p 21] (by kernel_rfl) (trivial) ?_
        refine wpG_pe rfl rfl ?_
        apply Exists.intro
        refine ⟨fun wq => ?_, ?_⟩
        · unfold plainAt
          go_simp
          first | exact rfl | exact ⟨rfl, rfl⟩
        go_simp
        refine wpG_pe rfl rfl ?_
        apply Exists.intro
        refine ⟨fun wq => ?_, ?_⟩
        · unfold plainAt
          go_simp
          first | exact rfl | exact ⟨rfl, rfl⟩
        go_simp
        refine wpG_pe rfl rfl ?_
        apply Exists.intro
        refine ⟨fun wq => ?_, ?_⟩
        · unfold plainAt
          go_simp
          first | exact rfl | exact ⟨rfl, rfl⟩
        go_simp
        refine wpG_c rfl rfl ?_
        intro w4 g4 K hK
        go_simp
        go_at_call 11
        refine (HAll.out w4 ((Gr.drew _).trans g4)).mono ?_
        rintro e wn ⟨D5, d5, rfl, s5, g5⟩
        refine hK _ _ g5 ?_; rw [HAL.out] at s5 ⊢; have hd51 := s5.cap; have hd52 := s5.max; obtain ⟨b5, o5, rfl, hc5⟩ := s5.addr (by omega); have c5' := hc5 k _ (boolc_at (by rw [HAL.out]; omega)); rw [HNI.out] at c5'; have C5 := Lib.hid c5'; have G5 := Lib.hid (((G3.out.trans (Gr.drew _)).trans g4).trans g5); clear g4 g5 s5 hK hc5 c5'
        go_simp
        refine wpG_pe rfl rfl ?_
        apply Exists.intro
        refine ⟨fun wq => ?_, ?_⟩
        · unfold plainAt
          go_simp
          first | exact rfl | exact ⟨rfl, rfl⟩
        go_simp
        refine wpG_qe rfl rfl ?_
        apply Exists.intro
        refine ⟨fun wq hq => ?_, ?_⟩
        · have c5 := (Below.cell hq (World.block_lt_of_cell? _ _ C5.out)).trans C5.out
          unfold plainAt
          go_simp
          first | exact rfl | exact ⟨rfl, rfl⟩
        go_simp
        refine wpG_pe rfl rfl ?_
        apply Exists.intro
        refine ⟨fun wq => ?_, ?_⟩
        · unfold plainAt
          go_simp
          first | exact rfl | exact ⟨rfl, rfl⟩
        go_simp
        refine wpG_pe rfl rfl ?_
        apply Exists.intro
        refine ⟨fun wq => ?_, ?_⟩
        · unfold plainAt
          go_simp
          first | exact rfl | exact ⟨rfl, rfl⟩
        go_simp
        refine wpG_pe rfl rfl ?_
        apply Exists.intro
        refine ⟨fun wq => ?_, ?_⟩
        · unfold plainAt
          go_simp
          first | exact rfl | exact ⟨rfl, rfl⟩
        go_simp
        refine wpG_pe rfl rfl ?_
        apply Exists.intro
        refine ⟨fun wq => ?_, ?_⟩
        · unfold plainAt
          go_simp
          first | exact rfl | exact ⟨rfl, rfl⟩
        go_simp
        first | refine wpG_skip_p rfl rfl ?_ | refine wpG_skip_q rfl rfl ?_ | refine wpG_skip_c rfl rfl ?_
        go_simp
        first | refine wpG_skip_p rfl rfl ?_ | refine wpG_skip_q rfl rfl ?_ | refine wpG_skip_c rfl rfl ?_
        go_simp
        first | refine wpG_skip_p rfl rfl ?_ | refine wpG_skip_q rfl rfl ?_ | refine wpG_skip_c rfl rfl ?_
        go_simp
        first | refine wpG_skip_p rfl rfl ?_ | refine wpG_skip_q rfl rfl ?_ | refine wpG_skip_c rfl rfl ?_
        go_simp
        first | refine wpG_skip_p rfl rfl ?_ | refine wpG_skip_q rfl rfl ?_ | refine wpG_skip_c rfl rfl ?_
        go_simp
        first | refine wpG_skip_p rfl rfl ?_ | refine wpG_skip_q rfl rfl ?_ | refine wpG_skip_c rfl rfl ?_
        go_simp
        first | refine wpG_skip_p rfl rfl ?_ | refine wpG_skip_q rfl rfl ?_ | refine wpG_skip_c rfl rfl ?_
        go_simp
        first | refine wpG_skip_p rfl rfl ?_ | refine wpG_skip_q rfl rfl ?_ | refine wpG_skip_c rfl rfl ?_
        go_simp
        first | refine wpG_skip_p rfl rfl ?_ | refine wpG_skip_q rfl rfl ?_ | refine wpG_skip_c rfl rfl ?_
        go_simp
        first | refine wpG_skip_p rfl rfl ?_ | refine wpG_skip_q rfl rfl ?_ | refine wpG_skip_c rfl rfl ?_
        go_simp
        refine wpG_pe rfl rfl ?_
        apply Exists.intro
        refine ⟨fun wq => ?_, ?_⟩
        · unfold plainAt
          go_simp
          first | exact rfl | exact ⟨rfl, rfl⟩
        go_simp
        refine wpG_pe rfl rfl ?_
        apply Exists.intro
        refine ⟨fun wq => ?_, ?_⟩
        · unfold plainAt
          go_simp
          first | exact rfl | exact ⟨rfl, rfl⟩
        go_simp
        refine wpG_nil ?_
        intro w7 g7
        have G7 := Lib.hid ((G.out.trans G5.out).trans g7); clear g7
        go_wp2_with fail
        refine ⟨⟨1, by omega, by simp, G7.out⟩, by simp [Go.RowKit.intOf]; omega⟩
      | succ i =>
        have tle : decide (iAt ws (i + 1) ≤ iAt ws i) = false := decide_eq_false (by have := HUP.out i (by rw [HL.out]; exact hlt); omega)
        have tg : decide (0 < (i : Int) + 1) = true := decide_eq_true (by omega)
        have hw1 : IntKind.i64.wrap ((i : Int) + 1 - 1) = (i : Int) := by rw [IntWalk.i64_in _ (by omega)]; omega
        have hw2 : IntKind.i64.wrap (i : Int) = (i : Int) := IntWalk.i64_in _ (by omega)
        have CQ := Lib.hid (CP.out i rfl)
        have hb1 : i + 1 < m := hlt
        have hb2 : i < m := by omega
        have hb3 : (i : Int) + 1 < (m : Int) := by omega
        have hb4 : (0 : Int) ≤ (i : Int) + 1 := by omega
        have hb5 : (i : Int) < (m : Int) := by omega
        have hb6 : (0 : Int) ≤ (i : Int) := by omega
        generalize iAt ws (i + 1) = z1 at *
        generalize iAt ws i = z0 at *
        refine wp_region_grow (by kernel_rfl) [0, 0, 3, 0, 15, 31, 63, 127, 255, 511, 1023, 1023, 4095, 8191, 1023, 1023, 33791, 115711, 246783, 524287, 1048575, 2097151] [.p 0, .p 1, .p 3, .c 2, .p 4, .q 5, .p 6, .p 7, .p 8, .p 9, .p 10, .p 11, .p 12, .p 14, .p 15, .p 16, .p 17, .q 13, .q 18, .p 19, .p 20, .p 21] (by kernel_rfl) (trivial) ?_
        refine wpG_pe rfl rfl ?_
        apply Exists.intro
        refine ⟨fun wq => ?_, ?_⟩
        · unfold plainAt
          go_simp
          first | exact rfl | exact ⟨rfl, rfl⟩
        go_simp
        refine wpG_pe rfl rfl ?_
        apply Exists.intro
        refine ⟨fun wq => ?_, ?_⟩
        · unfold plainAt
          go_simp
          first | exact rfl | exact ⟨rfl, rfl⟩
        go_simp
        refine wpG_pe rfl rfl ?_
        apply Exists.intro
        refine ⟨fun wq => ?_, ?_⟩
        · unfold plainAt
          go_simp
          first | exact rfl | exact ⟨rfl, rfl⟩
        go_simp
        refine wpG_c rfl rfl ?_
        intro w4 g4 K hK
        go_simp
        go_at_call 11
        refine (HAll.out w4 ((Gr.drew _).trans g4)).mono ?_
        rintro e wn ⟨D5, d5, rfl, s5, g5⟩
        refine hK _ _ g5 ?_; rw [HAL.out] at s5 ⊢; have hd51 := s5.cap; have hd52 := s5.max; obtain ⟨b5, o5, rfl, hc5⟩ := s5.addr (by omega); have c5' := hc5 k _ (boolc_at (by rw [HAL.out]; omega)); rw [HNI.out] at c5'; have C5 := Lib.hid c5'; have G5 := Lib.hid (((G3.out.trans (Gr.drew _)).trans g4).trans g5); clear g4 g5 s5 hK hc5 c5'
        go_simp
        refine wpG_pe rfl rfl ?_
        apply Exists.intro
        refine ⟨fun wq => ?_, ?_⟩
        · unfold plainAt
          go_simp
          first | exact rfl | exact ⟨rfl, rfl⟩
        go_simp
        refine wpG_qe rfl rfl ?_
        apply Exists.intro
        refine ⟨fun wq hq => ?_, ?_⟩
        · have c5 := (Below.cell hq (World.block_lt_of_cell? _ _ C5.out)).trans C5.out
          unfold plainAt
          go_simp
          first | exact rfl | exact ⟨rfl, rfl⟩
        go_simp
        refine wpG_pe rfl rfl ?_
        apply Exists.intro
        refine ⟨fun wq => ?_, ?_⟩
        · unfold plainAt
          go_simp
          first | exact rfl | exact ⟨rfl, rfl⟩
        go_simp
        refine wpG_pe rfl rfl ?_
        apply Exists.intro
        refine ⟨fun wq => ?_, ?_⟩
        · unfold plainAt
          go_simp
          first | exact rfl | exact ⟨rfl, rfl⟩
        go_simp
        refine wpG_pe rfl rfl ?_
        apply Exists.intro
        refine ⟨fun wq => ?_, ?_⟩
        · unfold plainAt
          go_simp
          first | exact rfl | exact ⟨rfl, rfl⟩
        go_simp
        refine wpG_pe rfl rfl ?_
        apply Exists.intro
        refine ⟨fun wq => ?_, ?_⟩
        · unfold plainAt
          go_simp
          first | exact rfl | exact ⟨rfl, rfl⟩
        go_simp
        refine wpG_pe rfl rfl ?_
        apply Exists.intro
        refine ⟨fun wq => ?_, ?_⟩
        · unfold plainAt
          go_simp
          first | exact rfl | exact ⟨rfl, rfl⟩
        go_simp
        refine wpG_pe rfl rfl ?_
        apply Exists.intro
        refine ⟨fun wq => ?_, ?_⟩
        · unfold plainAt
          go_simp
          first | exact rfl | exact ⟨rfl, rfl⟩
        go_simp
        refine wpG_pe rfl rfl ?_
        apply Exists.intro
        refine ⟨fun wq => ?_, ?_⟩
        · unfold plainAt
          go_simp
          first | exact rfl | exact ⟨rfl, rfl⟩
        go_simp
        refine wpG_pe rfl rfl ?_
        apply Exists.intro
        refine ⟨fun wq => ?_, ?_⟩
        · unfold plainAt
          go_simp
          first | exact rfl | exact ⟨rfl, rfl⟩
        go_simp
        refine wpG_pe rfl rfl ?_
        apply Exists.intro
        refine ⟨fun wq => ?_, ?_⟩
        · unfold plainAt
          go_simp
          first | exact rfl | exact ⟨rfl, rfl⟩
        go_simp
        refine wpG_pe rfl rfl ?_
        apply Exists.intro
        refine ⟨fun wq => ?_, ?_⟩
        · unfold plainAt
          go_simp
          first | exact rfl | exact ⟨rfl, rfl⟩
        go_simp
        refine wpG_pe rfl rfl ?_
        apply Exists.intro
        refine ⟨fun wq => ?_, ?_⟩
        · unfold plainAt
          go_simp
          first | exact rfl | exact ⟨rfl, rfl⟩
        go_simp
        refine wpG_qe rfl rfl ?_
        apply Exists.intro
        refine ⟨fun wq hq => ?_, ?_⟩
        · have c6 := CI.out wq (G5.out.trans hq)
          unfold plainAt
          go_simp
          first | exact rfl | exact ⟨rfl, rfl⟩
        go_simp
        refine wpG_qe rfl rfl ?_
        apply Exists.intro
        refine ⟨fun wq hq => ?_, ?_⟩
        · have c6 := CQ.out wq (G5.out.trans hq)
          unfold plainAt
          go_simp
          first | exact rfl | exact ⟨rfl, rfl⟩
        go_simp
        refine wpG_pe rfl rfl ?_
        apply Exists.intro
        refine ⟨fun wq => ?_, ?_⟩
        · unfold plainAt
          go_simp
          first | exact rfl | exact ⟨rfl, rfl⟩
        go_simp
        refine wpG_pe rfl rfl ?_
        apply Exists.intro
        refine ⟨fun wq => ?_, ?_⟩
        · unfold plainAt
          go_simp
          first | exact rfl | exact ⟨rfl, rfl⟩
        go_simp
        refine wpG_pe rfl rfl ?_
        apply Exists.intro
        refine ⟨fun wq => ?_, ?_⟩
        · unfold plainAt
          go_simp
          first | exact rfl | exact ⟨rfl, rfl⟩
        go_simp
        refine wpG_nil ?_
        intro w7 g7
        have G7 := Lib.hid ((G.out.trans G5.out).trans g7); clear g7
        go_wp2_with fail
        refine ⟨⟨i + 1 + 1, by omega, by simp, G7.out⟩, by simp [Go.RowKit.intOf]; omega⟩
    · obtain rfl : i = m := by omega
      have t0 : decide ((i : Int) < (i : Int)) = false := by simp
      go_wp2_with fail
      go_ret
      exact ⟨rfl, G.out⟩
end Go.Proofs.Ythlnoaalhojphaa
