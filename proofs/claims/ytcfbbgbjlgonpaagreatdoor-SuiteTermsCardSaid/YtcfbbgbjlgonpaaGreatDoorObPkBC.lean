/- Own texts of this claim, one behind the other. No condition. -/
import Derived.Test.YtcfbbgbjlgonpaaGreatDoorObPkAZ
import Derived.Test.YtcfbbgbjlgonpaaGreatDoorObPkBB

/- The reference of layer 17, of terms: Find. No condition. -/
namespace Go.Proofs.YtcfbbgbjlgonpaaGreatDoor
open Go.RowKit
set_option linter.unusedVariables false
set_option linter.unusedSimpArgs false
theorem find_cells (T : List Nd) (b : List UInt8) : (findL T b).map i64c = (findN T b T.length).map fun (x : Nat) => Value.int .i64 (x : Int) := by
  unfold findL
  rw [List.map_map]
  rfl
theorem find_len (T : List Nd) (b : List UInt8) : (findL T b).length = (findN T b T.length).length := by unfold findL; rw [List.length_map]
set_option maxRecDepth 100000 in
set_option maxHeartbeats 4000000 in
theorem tFind_any (A B D : Option Addr) (n c m e0 q0 f : Nat) (T : List Nd) (b : List UInt8) (w : World) (hT : RTb w A n c T) (hn : n ≤ 1000) (hb : Bs w D q0 f b) (hq : q0 ≤ 20000) :
    Calls Tryz.prog 30 #[tv A n c B m e0, .slice D q0 f] w (RetIs w (findL T b)) := by
  have hcp := hb.cap; have hmx := hb.max
  have hbl : b.length = q0 := hb.len
  have hTl : T.length = n := hT.1
  have hcT := hT.cap; have hmT := hT.max
  have HTT := Lib.hid hT; have HB := Lib.hid hb
  have HBL := Lib.hid hbl; have HTL := Lib.hid hTl
  unfold tv
  show Calls _ _ #[.agg #[.bool false, .slice none 0 0, .int .i64 0, .slice A n c, .slice B m e0], _] _ _
  clear hT hb hbl hTl
  obtain ⟨W, hW⟩ : ∃ W, W = tw1 w A n c B m e0 := ⟨_, rfl⟩
  have HX := Lib.hid (tw1_a w A n c B m e0); have HG := Lib.hid (tw1_g w A n c B m e0)
  rw [← hW] at HX HG
  unfold tw1 at hW
  have HW := Lib.hid hW
  clear hW
  go_enter Tryz.func30, Tryz.ntmps30
  go_upto_region 1 with fail
  rw [← HW.out]
  obtain ⟨h, hh⟩ : ∃ h, h = w.heap.size := ⟨_, rfl⟩
  rw [← hh] at HX ⊢
  clear hh HW
  go_wp2_with fail
  go_loopw [5, 6] (fun v i wr => ∃ k : Nat, k ≤ n ∧ i = .int .i64 ((k : Int) + 1) ∧ Own W wr 3 1 v (findN T b k).length ((findN T b k).map fun (x : Nat) => Value.int .i64 (x : Int))) (fun _ i _ => n + 1 - (Go.RowKit.intOf i).toNat)
  case atStart => exact ⟨0, Nat.zero_le _, rfl, Own.nil _ _ _⟩
  case round =>
    obtain ⟨wo, rfl⟩ : ∃ wo : World, wo = wr := ⟨_, rfl⟩
    obtain ⟨k, hk, rfl, hown⟩ := hrel
    have HO := Lib.hid hown; clear hown
    have HGW : Hid (Gr W wo) := HO.out.below
    have c0 : wo.cell? ⟨h, 0, none⟩ = some (.bool false) := (HGW.out.blk HX.out).cell 0
    have c3 : wo.cell? ⟨h, 3, none⟩ = some (.slice A n c) := (HGW.out.blk HX.out).cell 3
    by_cases hlt : k < n
    · have t0 : decide ((k : Int) + 1 ≤ (n : Int)) = true := decide_eq_true (by omega)
      have HFL : Hid ((findN T b k).length ≤ 1000) := Nat.le_trans (findN_len T b k) (by omega)
      have HKD := Lib.hid (fun W' (g : Gr wo W') => refKind_any A n c T ((k : Int) + 1) W' (HTT.out.mono (HG.out.trans (HGW.out.trans g))))
      have HHD : Hid (∀ W', Calls Tryz.prog 16 #[.int .i64 ((k : Int) + 1)] W' (RetBs W' (handleL (k + 1)))) := fun W' => by
        have := refHandle_any (k + 1) W' (by omega)
        rwa [show ((k + 1 : Nat) : Int) = (k : Int) + 1 by omega] at this
      have HC3 : Hid (∀ wq, Gr wo wq → wq.cell? ⟨h, 3, none⟩ = some (.slice A n c)) := fun wq g => (g.blk (HGW.out.blk HX.out)).cell 3
      have HIF : Hid (isF T b (k + 1) = (decide (kindOf T ((k : Int) + 1) ≠ 2) && occ b (k + 1) (q0 - 15))) := by
        show _ = _
        unfold isF
        rw [HBL.out, show ((k + 1 : Nat) : Int) = (k : Int) + 1 by omega]
      obtain ⟨kd, hkd⟩ : ∃ kd, kd = kindOf T ((k : Int) + 1) := ⟨_, rfl⟩
      rw [← hkd] at HKD HIF
      clear hkd
      go_wp2_with fail
      go_loopw [7, 8] (fun s j wi => ∃ (i : Nat) (v : Bool), i ≤ q0 - 15 ∧ j = .int .i64 (i : Int) ∧ s = .bool v ∧ v = (decide (kd ≠ 2) && occ b (k + 1) i) ∧ Gr wo wi) (fun _ j _ => q0 - (Go.RowKit.intOf j).toNat)
      case atStart => exact ⟨0, false, Nat.zero_le _, rfl, rfl, by unfold occ; simp, Gr.refl _⟩
      case round =>
        obtain ⟨i, v, hi, rfl, rfl, hv, hgi⟩ := hrel
        have HV := Lib.hid hv; have HGI := Lib.hid hgi
        clear hv hgi
        by_cases hlt2 : i < q0 - 15
        · have t2 : decide ((i : Int) + 16 ≤ (q0 : Int)) = true := decide_eq_true (by omega)
          have hw16 : IntKind.i64.wrap ((i : Int) + 16) = (i : Int) + 16 := IntWalk.i64_in _ (by omega)
          have HS : Hid ((decide (kd ≠ 2) && occ b (k + 1) (i + 1)) = (v || (decide (kd ≠ 2) && ((b.drop i).take 16 == (handleL (k + 1)).take 16)))) := by
            show _ = _
            rw [HV.out, occ_succ, Bool.and_or_distrib_left]
          cases v with
          | true =>
            have HS2 : Hid (true = (decide (kd ≠ 2) && occ b (k + 1) (i + 1))) := by show _ = _; rw [HS.out]; rfl
            go_upto_region 9 with fail
            refine wp_region_grow (by kernel_rfl) [0, 1, 3, 7, 3, 31, 63, 127, 255, 255, 255, 1279, 4095, 255, 8447, 24831, 65535, 131071, 262143, 524287] [.p 0, .p 1, .p 2, .p 4, .q 3, .c 5, .p 6, .p 7, .p 8, .p 9, .p 10, .p 11, .p 12, .p 13, .c 14, .p 15, .c 16, .p 17, .p 18, .p 19] (by kernel_rfl) (trivial) ?_
            refine wpG_pe rfl rfl ?_
            apply Exists.intro
            refine ⟨fun wq => ?_, ?_⟩
            · unfold plainAt
              go_simp
              first | exact rfl | exact ⟨rfl, rfl⟩
            go_simp
            refine wpG_pe rfl rfl ?_
            apply Exists.intro
            refine ⟨fun wq => ?_, ?_⟩
            · unfold plainAt
              go_simp
              first | exact rfl | exact ⟨rfl, rfl⟩
            go_simp
            first | refine wpG_skip_p rfl rfl ?_ | refine wpG_skip_q rfl rfl ?_ | refine wpG_skip_c rfl rfl ?_
            go_simp
            first | refine wpG_skip_p rfl rfl ?_ | refine wpG_skip_q rfl rfl ?_ | refine wpG_skip_c rfl rfl ?_
            go_simp
            first | refine wpG_skip_p rfl rfl ?_ | refine wpG_skip_q rfl rfl ?_ | refine wpG_skip_c rfl rfl ?_
            go_simp
            first | refine wpG_skip_p rfl rfl ?_ | refine wpG_skip_q rfl rfl ?_ | refine wpG_skip_c rfl rfl ?_
            go_simp
            first | refine wpG_skip_p rfl rfl ?_ | refine wpG_skip_q rfl rfl ?_ | refine wpG_skip_c rfl rfl ?_
            go_simp
            first | refine wpG_skip_p rfl rfl ?_ | refine wpG_skip_q rfl rfl ?_ | refine wpG_skip_c rfl rfl ?_
            go_simp
            first | refine wpG_skip_p rfl rfl ?_ | refine wpG_skip_q rfl rfl ?_ | refine wpG_skip_c rfl rfl ?_
            go_simp
            first | refine wpG_skip_p rfl rfl ?_ | refine wpG_skip_q rfl rfl ?_ | refine wpG_skip_c rfl rfl ?_
            go_simp
            first | refine wpG_skip_p rfl rfl ?_ | refine wpG_skip_q rfl rfl ?_ | refine wpG_skip_c rfl rfl ?_
            go_simp
            first | refine wpG_skip_p rfl rfl ?_ | refine wpG_skip_q rfl rfl ?_ | refine wpG_skip_c rfl rfl ?_
            go_simp
            first | refine wpG_skip_p rfl rfl ?_ | refine wpG_skip_q rfl rfl ?_ | refine wpG_skip_c rfl rfl ?_
            go_simp
            first | refine wpG_skip_p rfl rfl ?_ | refine wpG_skip_q rfl rfl ?_ | refine wpG_skip_c rfl rfl ?_
            go_simp
            first | refine wpG_skip_p rfl rfl ?_ | refine wpG_skip_q rfl rfl ?_ | refine wpG_skip_c rfl rfl ?_
            go_simp
            first | refine wpG_skip_p rfl rfl ?_ | refine wpG_skip_q rfl rfl ?_ | refine wpG_skip_c rfl rfl ?_
            go_simp
            first | refine wpG_skip_p rfl rfl ?_ | refine wpG_skip_q rfl rfl ?_ | refine wpG_skip_c rfl rfl ?_
            go_simp
            first | refine wpG_skip_p rfl rfl ?_ | refine wpG_skip_q rfl rfl ?_ | refine wpG_skip_c rfl rfl ?_
            go_simp
            refine wpG_pe rfl rfl ?_
            apply Exists.intro
            refine ⟨fun wq => ?_, ?_⟩
            · unfold plainAt
              go_simp
              first | exact rfl | exact ⟨rfl, rfl⟩
            go_simp
            refine wpG_pe rfl rfl ?_
            apply Exists.intro
            refine ⟨fun wq => ?_, ?_⟩
            · unfold plainAt
              go_simp
              first | exact rfl | exact ⟨rfl, rfl⟩
            go_simp
            refine wpG_nil ?_
            intro w9 g9
            have G9 : Hid (Gr wo w9) := HGI.out.trans ((Gr.drew _).trans g9)
            clear g9
            have hgx : Gr wo w9 := G9.out
            go_wp2_with fail
            go_roundw
            case rel => exact ⟨i + 1, _, by omega, by go_num, rfl, HS2.out, hgx⟩
            case measure => simp [Go.RowKit.intOf]; omega
          | false =>
            obtain ⟨bb, oo, rfl, hcc⟩ := HB.out.addr (by omega)
            clear hcc
            by_cases h2 : kd = 2
            · have t3 : ((kd : Int) != 2) = false := by rw [bne_eq_false_iff_eq]; omega
              have HS2 : Hid (false = (decide (kd ≠ 2) && occ b (k + 1) (i + 1))) := by show _ = _; rw [HS.out, h2]; rfl
              have H2 := Lib.hid h2
              clear h2
              go_upto_region 9 with fail
              refine wp_region_grow (by kernel_rfl) [0, 1, 3, 7, 3, 31, 63, 127, 255, 255, 255, 1279, 4095, 255, 8447, 24831, 65535, 131071, 262143, 524287] [.p 0, .p 1, .p 2, .p 4, .q 3, .c 5, .p 6, .p 7, .p 8, .p 9, .p 10, .p 11, .p 12, .p 13, .c 14, .p 15, .c 16, .p 17, .p 18, .p 19] (by kernel_rfl) (trivial) ?_
              refine wpG_pe rfl rfl ?_
              apply Exists.intro
              refine ⟨fun wq => ?_, ?_⟩
              · unfold plainAt
                go_simp
                first | exact rfl | exact ⟨rfl, rfl⟩
              go_simp
              refine wpG_pe rfl rfl ?_
              apply Exists.intro
              refine ⟨fun wq => ?_, ?_⟩
              · unfold plainAt
                go_simp
                first | exact rfl | exact ⟨rfl, rfl⟩
              go_simp
              refine wpG_pe rfl rfl ?_
              apply Exists.intro
              refine ⟨fun wq => ?_, ?_⟩
              · unfold plainAt
                go_simp
                first | exact rfl | exact ⟨rfl, rfl⟩
              go_simp
              refine wpG_pe rfl rfl ?_
              apply Exists.intro
              refine ⟨fun wq => ?_, ?_⟩
              · unfold plainAt
                go_simp
                first | exact rfl | exact ⟨rfl, rfl⟩
              go_simp
              refine wpG_qe rfl rfl ?_
              apply Exists.intro
              refine ⟨fun wq hq => ?_, ?_⟩
              · have z3 := HC3.out wq (HGI.out.trans ((Gr.drew _).trans hq))
                unfold plainAt
                go_simp
                first | exact rfl | exact ⟨rfl, rfl⟩
              go_simp
              refine wpG_c rfl rfl ?_
              intro w5 g5 K hK
              go_simp
              go_at_call 71
              refine (HKD.out w5 (HGI.out.trans ((Gr.drew _).trans g5))).mono ?_
              rintro e wn ⟨rfl, rfl⟩
              refine hK _ _ (Gr.refl _) ?_; clear hK; have G5 : Hid (Gr wo wn) := HGI.out.trans ((Gr.drew _).trans g5); clear g5
              go_simp
              refine wpG_pe rfl rfl ?_
              apply Exists.intro
              refine ⟨fun wq => ?_, ?_⟩
              · unfold plainAt
                go_simp
                first | exact rfl | exact ⟨rfl, rfl⟩
              go_simp
              refine wpG_pe rfl rfl ?_
              apply Exists.intro
              refine ⟨fun wq => ?_, ?_⟩
              · unfold plainAt
                go_simp
                first | exact rfl | exact ⟨rfl, rfl⟩
              go_simp
              first | refine wpG_skip_p rfl rfl ?_ | refine wpG_skip_q rfl rfl ?_ | refine wpG_skip_c rfl rfl ?_
              go_simp
              first | refine wpG_skip_p rfl rfl ?_ | refine wpG_skip_q rfl rfl ?_ | refine wpG_skip_c rfl rfl ?_
              go_simp
              first | refine wpG_skip_p rfl rfl ?_ | refine wpG_skip_q rfl rfl ?_ | refine wpG_skip_c rfl rfl ?_
              go_simp
              first | refine wpG_skip_p rfl rfl ?_ | refine wpG_skip_q rfl rfl ?_ | refine wpG_skip_c rfl rfl ?_
              go_simp
              first | refine wpG_skip_p rfl rfl ?_ | refine wpG_skip_q rfl rfl ?_ | refine wpG_skip_c rfl rfl ?_
              go_simp
              first | refine wpG_skip_p rfl rfl ?_ | refine wpG_skip_q rfl rfl ?_ | refine wpG_skip_c rfl rfl ?_
              go_simp
              first | refine wpG_skip_p rfl rfl ?_ | refine wpG_skip_q rfl rfl ?_ | refine wpG_skip_c rfl rfl ?_
              go_simp
              first | refine wpG_skip_p rfl rfl ?_ | refine wpG_skip_q rfl rfl ?_ | refine wpG_skip_c rfl rfl ?_
              go_simp
              first | refine wpG_skip_p rfl rfl ?_ | refine wpG_skip_q rfl rfl ?_ | refine wpG_skip_c rfl rfl ?_
              go_simp
              refine wpG_pe rfl rfl ?_
              apply Exists.intro
              refine ⟨fun wq => ?_, ?_⟩
              · unfold plainAt
                go_simp
                first | exact rfl | exact ⟨rfl, rfl⟩
              go_simp
              refine wpG_pe rfl rfl ?_
              apply Exists.intro
              refine ⟨fun wq => ?_, ?_⟩
              · unfold plainAt
                go_simp
                first | exact rfl | exact ⟨rfl, rfl⟩
              go_simp
              refine wpG_pe rfl rfl ?_
              apply Exists.intro
              refine ⟨fun wq => ?_, ?_⟩
              · unfold plainAt
                go_simp
                first | exact rfl | exact ⟨rfl, rfl⟩
              go_simp
              refine wpG_nil ?_
              intro w9 g9
              have G9 : Hid (Gr wo w9) := G5.out.trans g9
              clear g9
              have hgx : Gr wo w9 := G9.out
              go_wp2_with fail
              go_roundw
              case rel => exact ⟨i + 1, _, by omega, by go_num, rfl, HS2.out, hgx⟩
              case measure => simp [Go.RowKit.intOf]; omega
            · have t3 : ((kd : Int) != 2) = true := by rw [bne_iff_ne]; omega
              have hsub : Bs w (some ⟨bb, oo + i, none⟩) 16 (f - i) ((b.drop i).take 16) := by
                have h1 := HB.out.from (A' := some ⟨bb, oo + i, none⟩) (k := i) (by omega) (fun _ b' o' e => by injection e with e; injection e with e1 e2; subst e1 e2; rfl)
                have h2 := h1.upto (k := 16) (by omega)
                rwa [← List.map_drop, ← List.map_take] at h2
              have HSB := Lib.hid hsub
              have s1 : (0 : Int) ≤ (i : Int) + 16 := by omega
              have s2 : (i : Int) + 16 ≤ (f : Int) := by omega
              have s3 : ((i : Int) + 16).toNat = i + 16 := by omega
              have s6 : ¬ (f = i) := by omega
              obtain ⟨vv, hvv⟩ : ∃ vv, vv = ((b.drop i).take 16 == (handleL (k + 1)).take 16) := ⟨_, rfl⟩
              have HS2 : Hid (vv = (decide (kd ≠ 2) && occ b (k + 1) (i + 1))) := by show _ = _; rw [HS.out, hvv, decide_eq_true h2]; rfl
              have HVV := Lib.hid hvv
              clear hvv h2 hsub
              go_upto_region 9 with fail
              refine wp_region_grow (by kernel_rfl) [0, 1, 3, 7, 3, 31, 63, 127, 255, 255, 255, 1279, 4095, 255, 8447, 24831, 65535, 131071, 262143, 524287] [.p 0, .p 1, .p 2, .p 4, .q 3, .c 5, .p 6, .p 7, .p 8, .p 9, .p 10, .p 11, .p 12, .p 13, .c 14, .p 15, .c 16, .p 17, .p 18, .p 19] (by kernel_rfl) (trivial) ?_
              refine wpG_pe rfl rfl ?_
              apply Exists.intro
              refine ⟨fun wq => ?_, ?_⟩
              · unfold plainAt
                go_simp
                first | exact rfl | exact ⟨rfl, rfl⟩
              go_simp
              refine wpG_pe rfl rfl ?_
              apply Exists.intro
              refine ⟨fun wq => ?_, ?_⟩
              · unfold plainAt
                go_simp
                first | exact rfl | exact ⟨rfl, rfl⟩
              go_simp
              refine wpG_pe rfl rfl ?_
              apply Exists.intro
              refine ⟨fun wq => ?_, ?_⟩
              · unfold plainAt
                go_simp
                first | exact rfl | exact ⟨rfl, rfl⟩
              go_simp
              refine wpG_pe rfl rfl ?_
              apply Exists.intro
              refine ⟨fun wq => ?_, ?_⟩
              · unfold plainAt
                go_simp
                first | exact rfl | exact ⟨rfl, rfl⟩
              go_simp
              refine wpG_qe rfl rfl ?_
              apply Exists.intro
              refine ⟨fun wq hq => ?_, ?_⟩
              · have z3 := HC3.out wq (HGI.out.trans ((Gr.drew _).trans hq))
                unfold plainAt
                go_simp
                first | exact rfl | exact ⟨rfl, rfl⟩
              go_simp
              refine wpG_c rfl rfl ?_
              intro w5 g5 K hK
              go_simp
              go_at_call 71
              refine (HKD.out w5 (HGI.out.trans ((Gr.drew _).trans g5))).mono ?_
              rintro e wn ⟨rfl, rfl⟩
              refine hK _ _ (Gr.refl _) ?_; clear hK; have G5 : Hid (Gr wo wn) := HGI.out.trans ((Gr.drew _).trans g5); clear g5
              go_simp
              refine wpG_pe rfl rfl ?_
              apply Exists.intro
              refine ⟨fun wq => ?_, ?_⟩
              · unfold plainAt
                go_simp
                first | exact rfl | exact ⟨rfl, rfl⟩
              go_simp
              refine wpG_pe rfl rfl ?_
              apply Exists.intro
              refine ⟨fun wq => ?_, ?_⟩
              · unfold plainAt
                go_simp
                first | exact rfl | exact ⟨rfl, rfl⟩
              go_simp
              refine wpG_pe rfl rfl ?_
              apply Exists.intro
              refine ⟨fun wq => ?_, ?_⟩
              · unfold plainAt
                go_simp
                first | exact rfl | exact ⟨rfl, rfl⟩
              go_simp
              refine wpG_pe rfl rfl ?_
              apply Exists.intro
              refine ⟨fun wq => ?_, ?_⟩
              · unfold plainAt
                go_simp
                first | exact rfl | exact ⟨rfl, rfl⟩
              go_simp
              refine wpG_pe rfl rfl ?_
              apply Exists.intro
              refine ⟨fun wq => ?_, ?_⟩
              · unfold plainAt
                go_simp
                first | exact rfl | exact ⟨rfl, rfl⟩
              go_simp
              refine wpG_pe rfl rfl ?_
              apply Exists.intro
              refine ⟨fun wq => ?_, ?_⟩
              · unfold plainAt
                go_simp
                first | exact rfl | exact ⟨rfl, rfl⟩
              go_simp
              refine wpG_pe rfl rfl ?_
              apply Exists.intro
              refine ⟨fun wq => ?_, ?_⟩
              · unfold plainAt
                go_simp
                first | exact rfl | exact ⟨rfl, rfl⟩
              go_simp
              refine wpG_pe rfl rfl ?_
              apply Exists.intro
              refine ⟨fun wq => ?_, ?_⟩
              · unfold plainAt
                go_simp
                first | exact rfl | exact ⟨rfl, rfl⟩
              go_simp
              refine wpG_c rfl rfl ?_
              intro w6 g6 K hK
              go_simp
              go_at_call 16
              refine (HHD.out w6).mono ?_
              rintro e wn ⟨v6, rfl, o6⟩
              rw [handleL_len] at o6; obtain ⟨A6, c6, rfl, s6⟩ := o6.slice; have hc6 := s6.cap; have hm6 := s6.max; have hc16 : (16 : Int) ≤ (c6 : Int) := (by omega); have S6' : Bs wn A6 16 c6 ((handleL (k + 1)).take 16) := (by have h7 := Sl.upto (k := 16) s6 (by omega); rwa [← List.map_take] at h7); have S6 := Lib.hid S6'; have G6 : Hid (Gr wo wn) := G5.out.trans (g6.trans o6.below); refine hK _ _ o6.below ?_; clear hK o6 g6 s6 S6'
              go_simp
              refine wpG_pe rfl rfl ?_
              apply Exists.intro
              refine ⟨fun wq => ?_, ?_⟩
              · unfold plainAt
                go_simp
                first | exact rfl | exact ⟨rfl, rfl⟩
              go_simp
              refine wpG_c rfl rfl ?_
              intro w7 g7 K hK
              go_simp
              go_at_call 15
              refine (refSame_any (some ⟨bb, oo + i, none⟩) A6 16 16 (f - i) c6 ((b.drop i).take 16) ((handleL (k + 1)).take 16) w7 (HSB.out.mono (HG.out.trans (HGW.out.trans (G6.out.trans g7)))) (S6.out.mono g7)).mono ?_
              rintro e wn ⟨rfl, k7, rfl⟩
              rw [← HVV.out]; refine hK _ _ (belowN (Gr.refl _) k7) ?_; clear hK; have G7 : Hid (Gr wo (w7.drewN k7)) := belowN (G6.out.trans g7) k7; clear g7
              go_simp
              refine wpG_pe rfl rfl ?_
              apply Exists.intro
              refine ⟨fun wq => ?_, ?_⟩
              · unfold plainAt
                go_simp
                first | exact rfl | exact ⟨rfl, rfl⟩
              go_simp
              refine wpG_pe rfl rfl ?_
              apply Exists.intro
              refine ⟨fun wq => ?_, ?_⟩
              · unfold plainAt
                go_simp
                first | exact rfl | exact ⟨rfl, rfl⟩
              go_simp
              refine wpG_pe rfl rfl ?_
              apply Exists.intro
              refine ⟨fun wq => ?_, ?_⟩
              · unfold plainAt
                go_simp
                first | exact rfl | exact ⟨rfl, rfl⟩
              go_simp
              refine wpG_nil ?_
              intro w9 g9
              have G9 : Hid (Gr wo w9) := G7.out.trans g9
              clear g9
              have hgx : Gr wo w9 := G9.out
              go_wp2_with fail
              go_roundw
              case rel => exact ⟨i + 1, _, by omega, by go_num, rfl, HS2.out, hgx⟩
              case measure => simp [Go.RowKit.intOf]; omega
        · obtain rfl : i = q0 - 15 := by omega
          have t2 : decide (((q0 - 15 : Nat) : Int) + 16 ≤ (q0 : Int)) = false := decide_eq_false (by omega)
          have HI2 : Hid (isF T b (k + 1) = v) := by show _ = _; rw [HIF.out, HV.out]
          have HO2 := Lib.hid (HO.out.mono HGI.out)
          generalize hqq : q0 - 15 = qq at *
          have hw16 : IntKind.i64.wrap ((qq : Int) + 16) = (qq : Int) + 16 := IntWalk.i64_in _ (by omega)
          have hlf := HFL.out
          cases v with
          | true =>
            go_wp2_with (at_builtin; refine wpList_push rfl _ _ 50 rfl tNums rfl HO2.out #[_] rfl rfl (one_int _ _) (by omega) ?_; intro v1 w1 own1)
            have HW1 : Hid (Own W w1 3 1 v1 (findN T b (k + 1)).length ((findN T b (k + 1)).map fun (x : Nat) => Value.int .i64 (x : Int))) := by
              show Own _ _ _ _ _ _ _
              rw [findN_succ, if_pos HI2.out, List.length_append, List.map_append]
              exact own1
            clear own1
            go_roundw
            case rel => exact ⟨k + 1, by omega, by go_num, HW1.out⟩
            case measure => simp [Go.RowKit.intOf]; omega
          | false =>
            go_wp2_with fail
            go_roundw
            case rel => exact ⟨k + 1, by omega, by go_num, by rw [findN_succ, if_neg (by rw [HI2.out]; decide), List.append_nil]; exact HO2.out⟩
            case measure => simp [Go.RowKit.intOf]; omega
    · obtain rfl : k = n := by omega
      have t0 : decide ((k : Int) + 1 ≤ (k : Int)) = false := decide_eq_false (by omega)
      go_wp2_with fail
      go_ret
      exact ⟨_, rfl, by rw [find_cells, find_len, HTL.out]; exact HO.out.base HG.out⟩
end Go.Proofs.YtcfbbgbjlgonpaaGreatDoor
